/-
  Numbers of 24 elements: what 'plus', 'minus' return.
-/
import Derived.Test.YthmmjihldkjhhaaGreatDoorPcarry
namespace Go.Proofs.YthmmjihldkjhhaaGreatDoor
open Go Go.RowKit

set_option maxRecDepth 100000 in
set_option maxHeartbeats 2000000 in
theorem pplus_any (a b : List Nat) (ha : Num a) (hb : Num b) (w : World) : Calls Tryz.prog 55 #[.agg (numV a), .agg (numV b)] w fun e w' => (∃ O : List Nat, e = .returned (.agg (numV O)) ∧ Num O ∧ Dc.valB O = (Dc.valB a + Dc.valB b) % top) ∧ Below w.heap.size w w' := by
  obtain ⟨r1, r2, r3, b0⟩ := rows3 w a b ha.len hb.len
  have C : Hid _ := Lib.hid (pcarried_plus a b ha hb)
  clear ha hb
  go_enter Tryz.func55, Tryz.ntmps55
  go_wp2_with (first
    | (refine wp_loadN r1 rfl _ rfl rfl ?_)
    | (refine wp_loadN r2 rfl _ rfl rfl ?_)
    | (go_at_call 82; refine (C.out _).mono ?_; rintro e w1 ⟨⟨O, rfl, hO⟩, hb1⟩; have HO : Hid _ := Lib.hid hO; have r4 := r3.keep hb1; have hl := hO.1.len; have R5 : Hid _ := Lib.hid (r4.set hl); clear hO)
    | (refine wp_storeN r4 hl rfl _ _ rfl rfl rfl ?_))
  (try simp only [Exit.inBlock, Exit.then]); refine bodyPost_ret (R5.out.result rfl rfl) rfl ?_
  exact ⟨⟨O, rfl, HO.out⟩, below_setRow (b0.trans (hb1.mono b0.size)) (by omega) _⟩
set_option maxRecDepth 100000 in
set_option maxHeartbeats 2000000 in
theorem pminus_any (a b : List Nat) (ha : Num a) (hb : Num b) (hle : Dc.valB b ≤ Dc.valB a) (w : World) : Calls Tryz.prog 78 #[.agg (numV a), .agg (numV b)] w fun e w' => (∃ O : List Nat, e = .returned (.agg (numV O)) ∧ Num O ∧ Dc.valB O = Dc.valB a - Dc.valB b) ∧ Below w.heap.size w w' := by
  obtain ⟨r1, r2, r3, b0⟩ := rows3 w a b ha.len hb.len
  have C : Hid _ := Lib.hid (pcarried_minus a b ha hb (Lib.hid hle))
  clear ha hb hle
  go_enter Tryz.func78, Tryz.ntmps78
  go_wp2_with (first
    | (refine wp_loadN r1 rfl _ rfl rfl ?_)
    | (refine wp_loadN r2 rfl _ rfl rfl ?_)
    | (go_at_call 82; refine (C.out _).mono ?_; rintro e w1 ⟨⟨O, rfl, hO⟩, hb1⟩; have HO : Hid _ := Lib.hid hO; have r4 := r3.keep hb1; have hl := hO.1.len; have R5 : Hid _ := Lib.hid (r4.set hl); clear hO)
    | (refine wp_storeN r4 hl rfl _ _ rfl rfl rfl ?_))
  (try simp only [Exit.inBlock, Exit.then]); refine bodyPost_ret (R5.out.result rfl rfl) rfl ?_
  exact ⟨⟨O, rfl, HO.out⟩, below_setRow (b0.trans (hb1.mono b0.size)) (by omega) _⟩
end Go.Proofs.YthmmjihldkjhhaaGreatDoor
