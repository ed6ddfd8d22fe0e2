/-
  What ParseInt returns in base 16 where every byte is a digit of that base.
-/
import Derived.Test.YtllnfiidmpopkaaDoorHex
namespace Go.Proofs.YtllnfiidmpopkaaDoor
open Go Go.RowKit

set_option maxHeartbeats 4000000 in
set_option maxRecDepth 100000 in
theorem f61_16 (t : ByteArray) (hne : t.size ≠ 0) (hmax : t.size ≤ 1000000) (hok : ∀ c ∈ bts t, hexOk c = true) (w : World) :
    Calls Tryd.prog 61 #[.string t, .int .i64 16, .int .i64 64] w fun e w' => ((hexV (bts t) < 9223372036854775808 ∧ ∃ a : Int, a = (hexV (bts t) : Nat) ∧ e = .returned (.tuple #[.int .i64 a, .nilIface])) ∨
      (9223372036854775808 ≤ hexV (bts t) ∧ e = .returned (.tuple #[.int .i64 9223372036854775807, .iface 95 (.int .i64 1)]))) ∧ Below w.heap.size w w' := by
  have hemp := isEmpty_no (Nat.pos_of_ne_zero hne)
  have hpos : 0 < t.size := Nat.pos_of_ne_zero hne
  obtain ⟨c, hc⟩ : ∃ c, (t[0]'hpos).toNat = c := ⟨_, rfl⟩
  have hcok : hexOk c = true := hok c (by rw [← hc, ← bts_get t 0 hpos]; exact List.getElem_mem _)
  have d43 : ((c : Int) == 43) = false := beq_eq_false_iff_ne.2 (fun h => by have : c = 43 := (by omega); subst this; revert hcok; decide)
  have d45 : ((c : Int) == 45) = false := beq_eq_false_iff_ne.2 (fun h => by have : c = 45 := (by omega); subst this; revert hcok; decide)
  have call := f72_16 t hne hmax hok
  by_cases h63 : hexV (bts t) < 9223372036854775808
  · have call2 : ∀ w, Calls Tryd.prog 72 #[.string t, .int .i64 16, .int .i64 64] w fun e w' => (∃ a : Int, a = (hexV (bts t) : Nat) ∧ 0 ≤ a ∧ a < 9223372036854775808 ∧ e = .returned (.tuple #[.int .u64 a, .nilIface])) ∧ Below w.heap.size w w' := by
      intro w
      refine (call w).mono ?_
      rintro e w' ⟨⟨h, a, ha, rfl⟩ | ⟨h, _⟩, hb⟩
      · exact ⟨⟨a, ha, by omega, by omega, rfl⟩, hb⟩
      · omega
    have HC : Hid _ := Lib.hid call2
    have H63 : Hid _ := Lib.hid h63
    clear call call2 h63 hok hcok
    go_enter Tryd.func61, Tryd.ntmps61
    go_wp2_with (go_at_call 72; refine (HC.out _).mono ?_; rintro e w1 ⟨⟨a, ha, a0, a1, rfl⟩, hb1⟩; have HA : Hid _ := Lib.hid ha; clear ha)
    go_ret2
    exact ⟨.inl ⟨H63.out, a, HA.out, rfl⟩, hb1⟩
  · have call2 : ∀ w, Calls Tryd.prog 72 #[.string t, .int .i64 16, .int .i64 64] w fun e w' => (∃ (a : Int) (ev : Value), 9223372036854775808 ≤ a ∧ (ev = .nilIface ∨ ev = .iface 95 (.int .i64 1)) ∧ e = .returned (.tuple #[.int .u64 a, ev])) ∧ Below w.heap.size w w' := by
      intro w
      refine (call w).mono ?_
      rintro e w' ⟨⟨h, a, ha, rfl⟩ | ⟨h, rfl⟩, hb⟩
      · exact ⟨⟨a, _, by omega, .inl rfl, rfl⟩, hb⟩
      · exact ⟨⟨_, _, by omega, .inr rfl, rfl⟩, hb⟩
    have HC : Hid _ := Lib.hid call2
    have H63 : Hid _ := Lib.hid h63
    clear call call2 h63 hok hcok
    have hq : ∀ W, (binOp .neq 50 (.iface 95 (.int .i64 1)) (.iface 95 (.int .i64 1))).run Tryd.prog W = .ok (.bool false) W := fun W => Lib.run_neq_iface_int W 1 1 Tryd.underlying50 (by kernel_rfl) Tryd.underlying95
    go_enter Tryd.func61, Tryd.ntmps61
    go_wp2_with (go_at_call 72; refine (HC.out _).mono ?_; rintro e w1 ⟨⟨a, ev, a0, rfl | rfl, rfl⟩, hb1⟩)
    all_goals go_ret2
    all_goals exact ⟨.inr ⟨by have := H63.out; omega, rfl⟩, hb1⟩
end Go.Proofs.YtllnfiidmpopkaaDoor
