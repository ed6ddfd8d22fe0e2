/-
  What the law's 'shown' returns: true. Condition: the variables that the program's text lays.
-/
import Derived.Test.YthmmjihldkjhhaaGreatDoorLread
import Derived.Test.YthmmjihldkjhhaaGreatDoorPround
import Derived.Test.YthmmjihldkjhhaaGreatDoorPdiv
import Derived.Test.YthmmjihldkjhhaaGreatDoorPofn
namespace Go.Proofs.YthmmjihldkjhhaaGreatDoor
open Go Go.RowKit

set_option maxRecDepth 100000 in
set_option maxHeartbeats 16000000 in
theorem shown_true (w : World) (hG : Good w) : Calls Tryz.prog 8 #[] w fun e w' => e = .returned (.bool true) ∧ Below w.heap.size w w' := by
  have c0 : Hid (∀ w : World, Good w → Calls Tryz.prog 9 #[.string ⟨#[46]⟩] w fun e w' => e = .returned (.tuple #[.agg #[.bool false, .string ⟨#[]⟩, .int .i64 0], .int .i64 6]) ∧ Below w.heap.size w w') := Lib.hid (fun w => pread_is ⟨#[46]⟩ (by decide) ⟨false, ⟨#[]⟩, 0, 6⟩ (by kernel_rfl) w)
  have c1 : Hid (∀ w : World, Calls Tryz.prog 35 #[.string ⟨#[49]⟩] w fun e w' => e = .returned (.agg #[.bool false, .string ⟨#[49]⟩, .int .i64 0]) ∧ Below w.heap.size w w') := Lib.hid (fun w => lread_is ⟨#[49]⟩ (by decide) ⟨false, ⟨#[49]⟩, 0, 0⟩ (by kernel_rfl) w)
  have c2 : Hid (∀ w : World, Calls Tryz.prog 35 #[.string ⟨#[48]⟩] w fun e w' => e = .returned (.agg #[.bool false, .string ⟨#[48]⟩, .int .i64 0]) ∧ Below w.heap.size w w') := Lib.hid (fun w => lread_is ⟨#[48]⟩ (by decide) ⟨false, ⟨#[48]⟩, 0, 0⟩ (by kernel_rfl) w)
  have c3 : Hid (∀ w : World, Calls Tryz.prog 35 #[.string ⟨#[45, 49]⟩] w fun e w' => e = .returned (.agg #[.bool true, .string ⟨#[49]⟩, .int .i64 0]) ∧ Below w.heap.size w w') := Lib.hid (fun w => lread_is ⟨#[45, 49]⟩ (by decide) ⟨true, ⟨#[49]⟩, 0, 0⟩ (by kernel_rfl) w)
  have c4 : Hid (∀ w : World, Calls Tryz.prog 35 #[.string ⟨#[48, 46, 53]⟩] w fun e w' => e = .returned (.agg #[.bool false, .string ⟨#[53]⟩, .int .i64 1]) ∧ Below w.heap.size w w') := Lib.hid (fun w => lread_is ⟨#[48, 46, 53]⟩ (by decide) ⟨false, ⟨#[53]⟩, 1, 0⟩ (by kernel_rfl) w)
  have c5 : Hid (∀ w : World, Calls Tryz.prog 35 #[.string ⟨#[48, 46, 48, 48, 49]⟩] w fun e w' => e = .returned (.agg #[.bool false, .string ⟨#[49]⟩, .int .i64 3]) ∧ Below w.heap.size w w') := Lib.hid (fun w => lread_is ⟨#[48, 46, 48, 48, 49]⟩ (by decide) ⟨false, ⟨#[49]⟩, 3, 0⟩ (by kernel_rfl) w)
  have c6 : Hid (∀ w : World, Calls Tryz.prog 35 #[.string ⟨#[48, 46, 49]⟩] w fun e w' => e = .returned (.agg #[.bool false, .string ⟨#[49]⟩, .int .i64 1]) ∧ Below w.heap.size w w') := Lib.hid (fun w => lread_is ⟨#[48, 46, 49]⟩ (by decide) ⟨false, ⟨#[49]⟩, 1, 0⟩ (by kernel_rfl) w)
  have c7 : Hid (∀ w : World, Calls Tryz.prog 35 #[.string ⟨#[48, 46, 50]⟩] w fun e w' => e = .returned (.agg #[.bool false, .string ⟨#[50]⟩, .int .i64 1]) ∧ Below w.heap.size w w') := Lib.hid (fun w => lread_is ⟨#[48, 46, 50]⟩ (by decide) ⟨false, ⟨#[50]⟩, 1, 0⟩ (by kernel_rfl) w)
  have c8 : Hid (∀ w : World, Calls Tryz.prog 35 #[.string ⟨#[45, 49, 46, 53]⟩] w fun e w' => e = .returned (.agg #[.bool true, .string ⟨#[49, 53]⟩, .int .i64 1]) ∧ Below w.heap.size w w') := Lib.hid (fun w => lread_is ⟨#[45, 49, 46, 53]⟩ (by decide) ⟨true, ⟨#[49, 53]⟩, 1, 0⟩ (by kernel_rfl) w)
  have c9 : Hid (∀ w : World, Calls Tryz.prog 35 #[.string ⟨#[50]⟩] w fun e w' => e = .returned (.agg #[.bool false, .string ⟨#[50]⟩, .int .i64 0]) ∧ Below w.heap.size w w') := Lib.hid (fun w => lread_is ⟨#[50]⟩ (by decide) ⟨false, ⟨#[50]⟩, 0, 0⟩ (by kernel_rfl) w)
  have c10 : Hid (∀ w : World, Calls Tryz.prog 35 #[.string ⟨#[51]⟩] w fun e w' => e = .returned (.agg #[.bool false, .string ⟨#[51]⟩, .int .i64 0]) ∧ Below w.heap.size w w') := Lib.hid (fun w => lread_is ⟨#[51]⟩ (by decide) ⟨false, ⟨#[51]⟩, 0, 0⟩ (by kernel_rfl) w)
  have c11 : Hid (∀ w : World, Calls Tryz.prog 35 #[.string ⟨#[50, 46, 53]⟩] w fun e w' => e = .returned (.agg #[.bool false, .string ⟨#[50, 53]⟩, .int .i64 1]) ∧ Below w.heap.size w w') := Lib.hid (fun w => lread_is ⟨#[50, 46, 53]⟩ (by decide) ⟨false, ⟨#[50, 53]⟩, 1, 0⟩ (by kernel_rfl) w)
  have c12 : Hid (∀ w : World, Calls Tryz.prog 35 #[.string ⟨#[51, 46, 53]⟩] w fun e w' => e = .returned (.agg #[.bool false, .string ⟨#[51, 53]⟩, .int .i64 1]) ∧ Below w.heap.size w w') := Lib.hid (fun w => lread_is ⟨#[51, 46, 53]⟩ (by decide) ⟨false, ⟨#[51, 53]⟩, 1, 0⟩ (by kernel_rfl) w)
  have c13 : Hid (∀ w : World, Calls Tryz.prog 35 #[.string ⟨#[45, 49, 50]⟩] w fun e w' => e = .returned (.agg #[.bool true, .string ⟨#[49, 50]⟩, .int .i64 0]) ∧ Below w.heap.size w w') := Lib.hid (fun w => lread_is ⟨#[45, 49, 50]⟩ (by decide) ⟨true, ⟨#[49, 50]⟩, 0, 0⟩ (by kernel_rfl) w)
  have c14 : Hid (∀ w : World, Pow w → Calls Tryz.prog 17 #[.agg #[.bool false, .string ⟨#[49]⟩, .int .i64 0], .agg #[.bool false, .string ⟨#[48]⟩, .int .i64 0], .int .i64 2] w fun e w' => e = .returned (.tuple #[.agg #[.bool false, .string ⟨#[]⟩, .int .i64 0], .int .i64 2]) ∧ Below w.heap.size w w') := Lib.hid (fun w => pdiv_is false ⟨#[49]⟩ 0 false ⟨#[48]⟩ 0 2 (by decide) (by decide) ⟨false, ⟨#[]⟩, 0, 2⟩ (by kernel_rfl) w)
  have c15 : Hid (∀ w : World, Calls Tryz.prog 26 #[.agg #[.bool true, .string ⟨#[49]⟩, .int .i64 0], .agg #[.bool false, .string ⟨#[53]⟩, .int .i64 1]] w fun e w' => e = .returned (.tuple #[.int .i64 (-1), .int .i64 0]) ∧ Below w.heap.size w w') := Lib.hid (fun w => pcmp_is true ⟨#[49]⟩ 0 false ⟨#[53]⟩ 1 (by decide) (by decide) (-1) 0 (by kernel_rfl) w)
  have c16 : Hid (∀ w : World, Calls Tryz.prog 21 #[.agg #[.bool false, .string ⟨#[49]⟩, .int .i64 3]] w fun e w' => e = .returned (.tuple #[.int .i64 3, .int .i64 3, .int .i64 0]) ∧ Below w.heap.size w w') := Lib.hid (fun w => pdigits_is false ⟨#[49]⟩ 3 (by decide) 3 3 0 (by kernel_rfl) w)
  have c17 : Hid (∀ w : World, Good w → Calls Tryz.prog 9 #[.string ⟨#[43, 48, 48, 55, 46, 53, 48]⟩] w fun e w' => e = .returned (.tuple #[.agg #[.bool false, .string ⟨#[55, 53]⟩, .int .i64 1], .int .i64 0]) ∧ Below w.heap.size w w') := Lib.hid (fun w => pread_is ⟨#[43, 48, 48, 55, 46, 53, 48]⟩ (by decide) ⟨false, ⟨#[55, 53]⟩, 1, 0⟩ (by kernel_rfl) w)
  have c18 : Hid (∀ w : World, Calls Tryz.prog 36 #[.agg #[.bool false, .string ⟨#[55, 53]⟩, .int .i64 1], .int .i64 0] w fun e w' => e = .returned (.string ⟨#[55, 46, 53]⟩) ∧ Below w.heap.size w w') := Lib.hid (fun w => ltext_ok false ⟨#[55, 53]⟩ 1 (by decide) ⟨#[55, 46, 53]⟩ 0 (by kernel_rfl) w)
  have c19 : Hid (∀ w : World, Good w → Calls Tryz.prog 9 #[.string ⟨#[45, 46, 48]⟩] w fun e w' => e = .returned (.tuple #[.agg #[.bool false, .string ⟨#[48]⟩, .int .i64 0], .int .i64 0]) ∧ Below w.heap.size w w') := Lib.hid (fun w => pread_is ⟨#[45, 46, 48]⟩ (by decide) ⟨false, ⟨#[48]⟩, 0, 0⟩ (by kernel_rfl) w)
  have c20 : Hid (∀ w : World, Calls Tryz.prog 36 #[.agg #[.bool false, .string ⟨#[48]⟩, .int .i64 0], .int .i64 0] w fun e w' => e = .returned (.string ⟨#[48]⟩) ∧ Below w.heap.size w w') := Lib.hid (fun w => ltext_ok false ⟨#[48]⟩ 0 (by decide) ⟨#[48]⟩ 0 (by kernel_rfl) w)
  have c21 : Hid (∀ w : World, Pow w → Calls Tryz.prog 23 #[.agg #[.bool false, .string ⟨#[49]⟩, .int .i64 1], .agg #[.bool false, .string ⟨#[50]⟩, .int .i64 1]] w fun e w' => e = .returned (.tuple #[.agg #[.bool false, .string ⟨#[51]⟩, .int .i64 1], .int .i64 0]) ∧ Below w.heap.size w w') := Lib.hid (fun w => padd_is false ⟨#[49]⟩ 1 false ⟨#[50]⟩ 1 (by decide) (by decide) ⟨false, ⟨#[51]⟩, 1, 0⟩ (by kernel_rfl) w)
  have c22 : Hid (∀ w : World, Calls Tryz.prog 36 #[.agg #[.bool false, .string ⟨#[51]⟩, .int .i64 1], .int .i64 0] w fun e w' => e = .returned (.string ⟨#[48, 46, 51]⟩) ∧ Below w.heap.size w w') := Lib.hid (fun w => ltext_ok false ⟨#[51]⟩ 1 (by decide) ⟨#[48, 46, 51]⟩ 0 (by kernel_rfl) w)
  have c23 : Hid (∀ w : World, Pow w → Calls Tryz.prog 24 #[.agg #[.bool true, .string ⟨#[49, 53]⟩, .int .i64 1], .agg #[.bool false, .string ⟨#[50]⟩, .int .i64 1]] w fun e w' => e = .returned (.tuple #[.agg #[.bool true, .string ⟨#[51]⟩, .int .i64 1], .int .i64 0]) ∧ Below w.heap.size w w') := Lib.hid (fun w => pmul_is true ⟨#[49, 53]⟩ 1 false ⟨#[50]⟩ 1 (by decide) (by decide) ⟨true, ⟨#[51]⟩, 1, 0⟩ (by kernel_rfl) w)
  have c24 : Hid (∀ w : World, Calls Tryz.prog 36 #[.agg #[.bool true, .string ⟨#[51]⟩, .int .i64 1], .int .i64 0] w fun e w' => e = .returned (.string ⟨#[45, 48, 46, 51]⟩) ∧ Below w.heap.size w w') := Lib.hid (fun w => ltext_ok true ⟨#[51]⟩ 1 (by decide) ⟨#[45, 48, 46, 51]⟩ 0 (by kernel_rfl) w)
  have c25 : Hid (∀ w : World, Pow w → Calls Tryz.prog 17 #[.agg #[.bool false, .string ⟨#[50]⟩, .int .i64 0], .agg #[.bool false, .string ⟨#[51]⟩, .int .i64 0], .int .i64 4] w fun e w' => e = .returned (.tuple #[.agg #[.bool false, .string ⟨#[54, 54, 54, 54]⟩, .int .i64 4], .int .i64 0]) ∧ Below w.heap.size w w') := Lib.hid (fun w => pdiv_is false ⟨#[50]⟩ 0 false ⟨#[51]⟩ 0 4 (by decide) (by decide) ⟨false, ⟨#[54, 54, 54, 54]⟩, 4, 0⟩ (by kernel_rfl) w)
  have c26 : Hid (∀ w : World, Calls Tryz.prog 36 #[.agg #[.bool false, .string ⟨#[54, 54, 54, 54]⟩, .int .i64 4], .int .i64 0] w fun e w' => e = .returned (.string ⟨#[48, 46, 54, 54, 54, 54]⟩) ∧ Below w.heap.size w w') := Lib.hid (fun w => ltext_ok false ⟨#[54, 54, 54, 54]⟩ 4 (by decide) ⟨#[48, 46, 54, 54, 54, 54]⟩ 0 (by kernel_rfl) w)
  have c27 : Hid (∀ w : World, Pow w → Calls Tryz.prog 19 #[.agg #[.bool false, .string ⟨#[50, 53]⟩, .int .i64 1], .int .i64 0] w fun e w' => e = .returned (.tuple #[.agg #[.bool false, .string ⟨#[50]⟩, .int .i64 0], .int .i64 0]) ∧ Below w.heap.size w w') := Lib.hid (fun w => pround_is false ⟨#[50, 53]⟩ 1 0 (by decide) ⟨false, ⟨#[50]⟩, 0, 0⟩ (by kernel_rfl) w)
  have c28 : Hid (∀ w : World, Calls Tryz.prog 36 #[.agg #[.bool false, .string ⟨#[50]⟩, .int .i64 0], .int .i64 0] w fun e w' => e = .returned (.string ⟨#[50]⟩) ∧ Below w.heap.size w w') := Lib.hid (fun w => ltext_ok false ⟨#[50]⟩ 0 (by decide) ⟨#[50]⟩ 0 (by kernel_rfl) w)
  have c29 : Hid (∀ w : World, Pow w → Calls Tryz.prog 19 #[.agg #[.bool false, .string ⟨#[51, 53]⟩, .int .i64 1], .int .i64 0] w fun e w' => e = .returned (.tuple #[.agg #[.bool false, .string ⟨#[52]⟩, .int .i64 0], .int .i64 0]) ∧ Below w.heap.size w w') := Lib.hid (fun w => pround_is false ⟨#[51, 53]⟩ 1 0 (by decide) ⟨false, ⟨#[52]⟩, 0, 0⟩ (by kernel_rfl) w)
  have c30 : Hid (∀ w : World, Calls Tryz.prog 36 #[.agg #[.bool false, .string ⟨#[52]⟩, .int .i64 0], .int .i64 0] w fun e w' => e = .returned (.string ⟨#[52]⟩) ∧ Below w.heap.size w w') := Lib.hid (fun w => ltext_ok false ⟨#[52]⟩ 0 (by decide) ⟨#[52]⟩ 0 (by kernel_rfl) w)
  have c31 : Hid (∀ w : World, Pow w → Calls Tryz.prog 15 #[.int .i64 (-12)] w fun e w' => e = .returned (.agg #[.bool true, .string ⟨#[49, 50]⟩, .int .i64 0]) ∧ Below w.heap.size w w') := Lib.hid (fun w hP => (pOf_any (-12) (by decide) (by decide) w hP).mono (fun e w1 h => ⟨h.1.trans (by kernel_rfl), h.2⟩))
  have HG := Lib.hid hG
  have hB := Below.refl w.heap.size w
  clear hG
  go_enter Tryz.func8, Tryz.ntmps8
  go_wp2_with (first
    | (go_at_call 9; with_reducible refine (c0.out _ (HG.out.next hB)).mono ?_; rintro e W3 ⟨rfl, hb⟩; replace hB := below_step hB hb; clear hb)
    | (go_at_call 35; with_reducible refine (c1.out _).mono ?_; rintro e W3 ⟨rfl, hb⟩; replace hB := below_step hB hb; clear hb)
    | (go_at_call 35; with_reducible refine (c2.out _).mono ?_; rintro e W3 ⟨rfl, hb⟩; replace hB := below_step hB hb; clear hb)
    | (go_at_call 35; with_reducible refine (c3.out _).mono ?_; rintro e W3 ⟨rfl, hb⟩; replace hB := below_step hB hb; clear hb)
    | (go_at_call 35; with_reducible refine (c4.out _).mono ?_; rintro e W3 ⟨rfl, hb⟩; replace hB := below_step hB hb; clear hb)
    | (go_at_call 35; with_reducible refine (c5.out _).mono ?_; rintro e W3 ⟨rfl, hb⟩; replace hB := below_step hB hb; clear hb)
    | (go_at_call 35; with_reducible refine (c6.out _).mono ?_; rintro e W3 ⟨rfl, hb⟩; replace hB := below_step hB hb; clear hb)
    | (go_at_call 35; with_reducible refine (c7.out _).mono ?_; rintro e W3 ⟨rfl, hb⟩; replace hB := below_step hB hb; clear hb)
    | (go_at_call 35; with_reducible refine (c8.out _).mono ?_; rintro e W3 ⟨rfl, hb⟩; replace hB := below_step hB hb; clear hb)
    | (go_at_call 35; with_reducible refine (c9.out _).mono ?_; rintro e W3 ⟨rfl, hb⟩; replace hB := below_step hB hb; clear hb)
    | (go_at_call 35; with_reducible refine (c10.out _).mono ?_; rintro e W3 ⟨rfl, hb⟩; replace hB := below_step hB hb; clear hb)
    | (go_at_call 35; with_reducible refine (c11.out _).mono ?_; rintro e W3 ⟨rfl, hb⟩; replace hB := below_step hB hb; clear hb)
    | (go_at_call 35; with_reducible refine (c12.out _).mono ?_; rintro e W3 ⟨rfl, hb⟩; replace hB := below_step hB hb; clear hb)
    | (go_at_call 35; with_reducible refine (c13.out _).mono ?_; rintro e W3 ⟨rfl, hb⟩; replace hB := below_step hB hb; clear hb)
    | (go_at_call 17; with_reducible refine (c14.out _ (HG.out.next hB).pow).mono ?_; rintro e W3 ⟨rfl, hb⟩; replace hB := below_step hB hb; clear hb)
    | (go_at_call 26; with_reducible refine (c15.out _).mono ?_; rintro e W3 ⟨rfl, hb⟩; replace hB := below_step hB hb; clear hb)
    | (go_at_call 21; with_reducible refine (c16.out _).mono ?_; rintro e W3 ⟨rfl, hb⟩; replace hB := below_step hB hb; clear hb)
    | (go_at_call 9; with_reducible refine (c17.out _ (HG.out.next hB)).mono ?_; rintro e W3 ⟨rfl, hb⟩; replace hB := below_step hB hb; clear hb)
    | (go_at_call 36; with_reducible refine (c18.out _).mono ?_; rintro e W3 ⟨rfl, hb⟩; replace hB := below_step hB hb; clear hb)
    | (go_at_call 9; with_reducible refine (c19.out _ (HG.out.next hB)).mono ?_; rintro e W3 ⟨rfl, hb⟩; replace hB := below_step hB hb; clear hb)
    | (go_at_call 36; with_reducible refine (c20.out _).mono ?_; rintro e W3 ⟨rfl, hb⟩; replace hB := below_step hB hb; clear hb)
    | (go_at_call 23; with_reducible refine (c21.out _ (HG.out.next hB).pow).mono ?_; rintro e W3 ⟨rfl, hb⟩; replace hB := below_step hB hb; clear hb)
    | (go_at_call 36; with_reducible refine (c22.out _).mono ?_; rintro e W3 ⟨rfl, hb⟩; replace hB := below_step hB hb; clear hb)
    | (go_at_call 24; with_reducible refine (c23.out _ (HG.out.next hB).pow).mono ?_; rintro e W3 ⟨rfl, hb⟩; replace hB := below_step hB hb; clear hb)
    | (go_at_call 36; with_reducible refine (c24.out _).mono ?_; rintro e W3 ⟨rfl, hb⟩; replace hB := below_step hB hb; clear hb)
    | (go_at_call 17; with_reducible refine (c25.out _ (HG.out.next hB).pow).mono ?_; rintro e W3 ⟨rfl, hb⟩; replace hB := below_step hB hb; clear hb)
    | (go_at_call 36; with_reducible refine (c26.out _).mono ?_; rintro e W3 ⟨rfl, hb⟩; replace hB := below_step hB hb; clear hb)
    | (go_at_call 19; with_reducible refine (c27.out _ (HG.out.next hB).pow).mono ?_; rintro e W3 ⟨rfl, hb⟩; replace hB := below_step hB hb; clear hb)
    | (go_at_call 36; with_reducible refine (c28.out _).mono ?_; rintro e W3 ⟨rfl, hb⟩; replace hB := below_step hB hb; clear hb)
    | (go_at_call 19; with_reducible refine (c29.out _ (HG.out.next hB).pow).mono ?_; rintro e W3 ⟨rfl, hb⟩; replace hB := below_step hB hb; clear hb)
    | (go_at_call 36; with_reducible refine (c30.out _).mono ?_; rintro e W3 ⟨rfl, hb⟩; replace hB := below_step hB hb; clear hb)
    | (go_at_call 15; with_reducible refine (c31.out _ (HG.out.next hB).pow).mono ?_; rintro e W3 ⟨rfl, hb⟩; replace hB := below_step hB hb; clear hb)
    | (refine wl_allocA rfl zero_dec rfl (fun W4 b hb => ?_); have l := hB.size; replace hB := below_step hB hb; clear hb)
    | (refine wl_storeA b rfl _ _ rfl rfl rfl (by kernel_rfl) rfl rfl rfl (fun W5 b5 hg => ?_); replace hB := below_far hB hB.size (by omega) hg; clear hg b b5))
  go_ret
  go_light
  exact ⟨rfl, hB⟩
end Go.Proofs.YthmmjihldkjhhaaGreatDoor
