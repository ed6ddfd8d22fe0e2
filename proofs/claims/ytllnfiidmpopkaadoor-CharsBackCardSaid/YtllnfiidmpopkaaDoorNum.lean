/-
  What ParseInt returns in base 10 and in base 16 where every byte is a digit of the base.
-/
import Derived.Test.YtllnfiidmpopkaaDoorHex2
namespace Go.Proofs.YtllnfiidmpopkaaDoor
open Go Go.RowKit

/-- A digit of base 10. -/
def decOk (c : Nat) : Bool := decide (48 ≤ c ∧ c ≤ 57)
/-- The value of a row of digits of base 10. -/
def decV (l : List Nat) : Nat := l.foldl (fun a c => a * 10 + (c - 48)) 0
theorem dec_grows (l : List Nat) (a : Nat) : a ≤ l.foldl (fun a c => a * 10 + (c - 48)) a := by
  induction l generalizing a with
  | nil => exact Nat.le_refl _
  | cons c l ih => rw [List.foldl_cons]; have := ih (a * 10 + (c - 48)); omega
theorem parseUintM_dec (l : List UInt8) (h : ∀ c ∈ l, decOk c.toNat = true) : ∀ acc : Nat, acc < 18446744073709551616 →
    Lib.parseUintM (2 ^ 64 - 1) acc l = if (l.map UInt8.toNat).foldl (fun a c => a * 10 + (c - 48)) acc < 18446744073709551616 then .ok ((l.map UInt8.toNat).foldl (fun a c => a * 10 + (c - 48)) acc) else .range := by
  induction l with
  | nil => intro acc ha; rw [List.map_nil, List.foldl_nil, if_pos ha]; rfl
  | cons c l ih =>
    intro acc ha
    have hc := h c (by simp)
    simp [decOk] at hc
    have hg := dec_grows (l.map UInt8.toNat) (acc * 10 + (c.toNat - 48))
    rw [List.map_cons, List.foldl_cons]
    unfold Lib.parseUintM
    rw [if_pos hc]
    by_cases h1 : 1844674407370955162 ≤ acc
    · rw [if_pos h1, if_neg (by omega)]
    · rw [if_neg h1]
      by_cases h2 : 2 ^ 64 - 1 < acc * 10 + (c.toNat - 48)
      · rw [if_pos h2, if_neg (by omega)]
      · rw [if_neg h2]
        exact ih (fun d hd => h d (by simp [hd])) _ (by omega)

theorem parseIntB_dec (t : ByteArray) (hne : t.size ≠ 0) (hok : ∀ c ∈ bts t, decOk c = true) : Lib.parseIntB 64 t.data.toList = if decV (bts t) < 9223372036854775808 then .ok ((decV (bts t) : Nat) : Int) else .range := by
  have hl : ∀ c ∈ t.data.toList, decOk c.toNat = true := fun c hc => hok _ (by simp only [bts]; exact List.mem_map.2 ⟨c, hc, rfl⟩)
  have hb : bts t = t.data.toList.map UInt8.toNat := rfl
  have hn : t.data.toList ≠ [] := fun h => hne (by have : t.size = t.data.toList.length := rfl; rw [this, h]; rfl)
  rw [decV, hb]
  cases hd : t.data.toList with
  | nil => exact absurd hd hn
  | cons c r =>
    rw [hd] at hl
    have hc := hl c (by simp)
    simp [decOk] at hc
    have h43 : ¬ (c.toNat = 43 ∨ c.toNat = 45) := by omega
    have h45 : ¬ c.toNat = 45 := by omega
    have hM := parseUintM_dec (c :: r) hl 0 (by omega)
    rw [Lib.parseIntB, if_neg h43, Lib.parseUintB, if_neg (by simp), hM]
    by_cases h64 : ((c :: r).map UInt8.toNat).foldl (fun a c => a * 10 + (c - 48)) 0 < 18446744073709551616
    · rw [if_pos h64]
      simp only [h45, false_and, if_false, not_false_eq_true, true_and]
      by_cases h63 : ((c :: r).map UInt8.toNat).foldl (fun a c => a * 10 + (c - 48)) 0 < 9223372036854775808
      · rw [if_pos h63, if_neg (by omega)]
      · rw [if_neg h63, if_pos (by omega)]
    · rw [if_neg h64, if_neg (by omega)]

/-- The library's variable for 'out of range' holds an error, or none. -/
def ErrVar (w : World) : Prop := ∃ ev, w.cell? ⟨5, 0, none⟩ = some ev ∧ (ev = .nilIface ∨ ∃ te pe, ev = .iface te pe)
theorem ErrVar.lt {w : World} (h : ErrVar w) : 5 < w.heap.size := by
  obtain ⟨ev, h, _⟩ := h
  rcases Nat.lt_or_ge 5 w.heap.size with h' | h'
  · exact h'
  · rw [World.cell?, Array.getElem?_eq_none h'] at h; cases h
theorem ErrVar.next {w w' : World} (h : ErrVar w) {B : Nat} (hb : Below B w w') (hB : 5 < B) : ErrVar w' := by
  obtain ⟨ev, h1, h2⟩ := h
  exact ⟨ev, by rw [World.cell?, hb.block 5 hB]; exact h1, h2⟩
/-- A pair of a number and an error. -/
def Fails (e : Ending) : Prop := ∃ (n : Int) (te : TypeId) (pe : Value), e = .returned (.tuple #[.int .i64 n, .iface te pe])

theorem f52_10 (t : ByteArray) (hne : t.size ≠ 0) (hmax : t.size ≤ 1000000) (hok : ∀ c ∈ bts t, decOk c = true) (w : World) (hE : ErrVar w) :
    Calls Tryd.prog 52 #[.string t, .int .i64 10, .int .i64 64] w fun e w' => ((decV (bts t) < 9223372036854775808 ∧ ∃ a : Int, a = (decV (bts t) : Nat) ∧ e = .returned (.tuple #[.int .i64 a, .nilIface])) ∨ (9223372036854775808 ≤ decV (bts t) ∧ Fails e)) ∧ Below w.heap.size w w' := by
  have hp := parseIntB_dec t hne hok
  by_cases h63 : decV (bts t) < 9223372036854775808
  · rw [if_pos h63] at hp
    refine (Tryd.strconv_ParseInt_10_at64_ok t (by omega) _ hp w).mono ?_
    rintro e w' ⟨rfl, hw⟩
    refine ⟨.inl ⟨h63, _, rfl, rfl⟩, ?_⟩
    rcases hw with rfl | ⟨t', rfl⟩
    · exact Below.refl _ _
    · exact ⟨rfl, rfl, rfl, by rw [Lib.bytesWorld_size]; omega, fun k hk => Lib.bytesWorld_at_old w 5 t' k hk⟩
  · rw [if_neg h63] at hp
    obtain ⟨ev, h1, h2⟩ := hE
    refine (Tryd.strconv_ParseInt_10_at64_range t (by omega) hp ev w h1 h2).mono ?_
    rintro e w' ⟨N, rfl, _, _, hb⟩
    exact ⟨.inr ⟨by omega, _, _, _, rfl⟩, hb⟩

set_option maxHeartbeats 4000000 in
set_option maxRecDepth 100000 in
theorem f52_16 (t : ByteArray) (hne : t.size ≠ 0) (hmax : t.size ≤ 1000000) (hok : ∀ c ∈ bts t, hexOk c = true) (w : World) (hE : ErrVar w) :
    Calls Tryd.prog 52 #[.string t, .int .i64 16, .int .i64 64] w fun e w' => ((hexV (bts t) < 9223372036854775808 ∧ ∃ a : Int, a = (hexV (bts t) : Nat) ∧ e = .returned (.tuple #[.int .i64 a, .nilIface])) ∨ (9223372036854775808 ≤ hexV (bts t) ∧ Fails e)) ∧ Below w.heap.size w w' := by
  have call := f61_16 t hne hmax hok
  have h5 := hE.lt
  by_cases h63 : hexV (bts t) < 9223372036854775808
  · have call2 : ∀ w, Calls Tryd.prog 61 #[.string t, .int .i64 16, .int .i64 64] w fun e w' => (∃ a : Int, a = (hexV (bts t) : Nat) ∧ e = .returned (.tuple #[.int .i64 a, .nilIface])) ∧ Below w.heap.size w w' := by
      intro w
      refine (call w).mono ?_
      rintro e w' ⟨⟨h, a, ha, rfl⟩ | ⟨h, _⟩, hb⟩
      · exact ⟨⟨a, ha, rfl⟩, hb⟩
      · omega
    have HC : Hid _ := Lib.hid call2
    have H63 : Hid _ := Lib.hid h63
    clear call call2 h63 hok
    go_enter Tryd.func52, Tryd.ntmps52
    go_wp2_with (go_at_call 61; refine (HC.out _).mono ?_; rintro e w1 ⟨⟨a, ha, rfl⟩, hb1⟩; have HA : Hid _ := Lib.hid ha; clear ha)
    go_ret2
    exact ⟨.inl ⟨H63.out, a, HA.out, rfl⟩, hb1⟩
  · have call2 : ∀ w, Calls Tryd.prog 61 #[.string t, .int .i64 16, .int .i64 64] w fun e w' => (∃ n : Int, e = .returned (.tuple #[.int .i64 n, .iface 95 (.int .i64 1)])) ∧ Below w.heap.size w w' := by
      intro w
      refine (call w).mono ?_
      rintro e w' ⟨⟨h, a, ha, rfl⟩ | ⟨h, rfl⟩, hb⟩
      · omega
      · exact ⟨⟨_, rfl⟩, hb⟩
    have HC : Hid _ := Lib.hid call2
    have H63 : Hid _ := Lib.hid h63
    clear call call2 h63 hok
    go_enter Tryd.func52, Tryd.ntmps52
    go_wp2_with (first
      | (go_at_call 61; refine (HC.out _).mono ?_; rintro e w1 ⟨⟨n, rfl⟩, hb1⟩; obtain ⟨ev, hv, hev⟩ := hE.next hb1 h5)
      | (go_at_call 62; refine (Tryd.strconv_toError_range _ t _ _ ev _ (by omega) hv hev).mono ?_; rintro e w2 ⟨N, rfl, hN, hcells, hb2⟩; clear hcells))
    go_ret2
    exact ⟨.inr ⟨by have := H63.out; omega, _, _, _, rfl⟩, hb1.trans (hb2.mono hb1.size)⟩
end Go.Proofs.YtllnfiidmpopkaaDoor
