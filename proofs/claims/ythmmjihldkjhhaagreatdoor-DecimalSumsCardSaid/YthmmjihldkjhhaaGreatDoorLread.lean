/-
  What the law's 'read' and 'text' return. Condition: 'text' of a result without an error.
-/
import Derived.Test.YthmmjihldkjhhaaGreatDoorPtext
import Derived.Test.YthmmjihldkjhhaaGreatDoorRread
namespace Go.Proofs.YthmmjihldkjhhaaGreatDoor
open Go Go.RowKit

set_option maxRecDepth 100000 in
set_option maxHeartbeats 4000000 in
theorem lread_is (s : ByteArray) (hs : s.size ≤ 400) (r : Res) (hr : readR (bts s) = r) (w : World) : Calls Tryz.prog 35 #[.string s] w fun e w' => e = .returned (.agg #[.bool r.n, .string r.s, .int .i64 r.S]) ∧ Below w.heap.size w w' := by
  have C : Hid _ := Lib.hid (rread_is s hs r hr)
  clear hr
  obtain ⟨n, t, S, k⟩ := r
  simp only at C ⊢
  go_enter Tryz.func35, Tryz.ntmps35
  go_wp2_with (first
    | (have _t := hs; refine wl_allocA rfl zero_dec rfl (fun W2 b2 hb => ?_); have hB := hb; clear hb hs _t)
    | (go_at_call 10; refine (C.out _).mono ?_; rintro e W3 ⟨rfl, hb⟩; have l3 := b2.lt; replace hB := below_step hB hb; replace b2 := b2.keep hb; clear hb)
    | (refine wl_allocA rfl zero_dec rfl (fun W4 b4 hb => ?_); have l4 := b2.lt; have l44 := hB.size; replace hB := below_step hB hb; replace b2 := b2.keep hb; clear hb)
    | (refine wl_storeA b4 rfl _ _ rfl rfl rfl (by kernel_rfl) rfl rfl rfl (fun W5 b5 hg => ?_); replace b2 := b2.far hg (by omega); replace hB := below_far hB hB.size (by omega) hg; clear hg)
    | (refine wl_loadA (ty := 23) b5 rfl (by kernel_rfl) _ rfl rfl ?_)
    | (refine wl_storeA b2 rfl _ _ rfl rfl rfl (by kernel_rfl) rfl rfl rfl (fun W6 b6 hg => ?_); replace hB := below_far hB hB.size (by omega) hg; clear hg))
  exact bodyPost_ret (res_cell rfl b6 (by kernel_rfl) rfl) rfl ⟨rfl, hB⟩
set_option maxRecDepth 100000 in
set_option maxHeartbeats 4000000 in
theorem ltext_ok (n : Bool) (s : ByteArray) (S : Int) (hs : s.size ≤ 1000000) (t : ByteArray) (k : Int) (hr : textR n s S = (t, k)) (w : World) : Calls Tryz.prog 36 #[.agg #[.bool n, .string s, .int .i64 S], .int .i64 0] w fun e w' => e = .returned (.string t) ∧ Below w.heap.size w w' := by
  have C : Hid _ := Lib.hid (ptext_is n s S hs t k hr)
  clear hr
  go_enter Tryz.func36, Tryz.ntmps36
  go_wp2_with (first
    | (refine wl_boxA rfl (.tmp 0) rfl rfl (fun W2 b2 hb2 => ?_); have hB := hb2; clear hb2)
    | (refine wl_loadA (ty := 23) b2 rfl (by kernel_rfl) _ rfl rfl ?_)
    | (go_at_call 11; refine (C.out _).mono ?_; rintro e W3 ⟨rfl, hb⟩; replace hB := below_step hB hb; clear hb))
  go_ret
  go_light
  exact ⟨rfl, hB⟩
end Go.Proofs.YthmmjihldkjhhaaGreatDoor
