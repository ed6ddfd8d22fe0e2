/-
  The kinds of characters: what Valid, Blank, First and Inner of the program and of the reference return. Condition: the program's table of ranges holds what its text lays.
-/
import Derived.Test.YtllnfiidmpopkaaDoorProg
import Derived.Test.YtllnfiidmpopkaaDoorPlain
import Derived.WalkKit
import Derived.WalkLawsBesides
import Derived.WalkSpells
import Derived.LoopTactic
import Derived.Outline
import Derived.LoopN
import Derived.Deep.Light
import Derived.Lib.Hide
import Derived.Laws.Rows
namespace Go.Proofs.YtllnfiidmpopkaaDoor
open Go Go.RowKit

theorem ret_bool {a b : Bool} (h : a = b) : Ending.returned (.bool a) = .returned (.bool b) := by rw [h]

theorem f9_any (c : Int) (w : World) : Calls Tryd.prog 9 #[.int .i32 c] w fun e w' => e = .returned (.bool (Ch.valid c)) ∧ w = w' := by
  go_enter Tryd.func9, Tryd.ntmps9
  go_wp2
  all_goals go_ret
  all_goals exact ⟨ret_bool (by rw [Bool.eq_iff_iff]; simp [Ch.valid] <;> omega), rfl⟩

theorem f10_any (c : Int) (w : World) : Calls Tryd.prog 10 #[.int .i32 c] w fun e w' => e = .returned (.bool (Ch.blank c)) ∧ w = w' := by
  go_enter Tryd.func10, Tryd.ntmps10
  go_wp2
  all_goals go_ret
  all_goals exact ⟨ret_bool (by rw [Bool.eq_iff_iff]; simp [Ch.blank] <;> omega), rfl⟩

theorem f11_any (c : Int) (w : World) : Calls Tryd.prog 11 #[.int .i32 c] w fun e w' => e = .returned (.bool (Ch.blank c)) ∧ w = w' := by
  go_enter Tryd.func11, Tryd.ntmps11
  go_wp2
  all_goals go_ret
  all_goals exact ⟨ret_bool (by rw [Bool.eq_iff_iff]; simp [Ch.blank] <;> omega), rfl⟩
def rngCells : Array Value := #[.int .i32 9, .int .i32 9, .int .i32 10, .int .i32 10, .int .i32 13, .int .i32 13, .int .i32 32, .int .i32 55295, .int .i32 57344, .int .i32 65533, .int .i32 65536, .int .i32 1114111]
theorem rng0 (w : World) : (Instr.index 40 (.agg rngCells) (.int .i64 0)).run Tryd.prog w = .ok (.agg #[.int .i32 9, .int .i32 9]) w := by kernel_rfl
theorem rng1 (w : World) : (Instr.index 40 (.agg rngCells) (.int .i64 1)).run Tryd.prog w = .ok (.agg #[.int .i32 10, .int .i32 10]) w := by kernel_rfl
theorem rng2 (w : World) : (Instr.index 40 (.agg rngCells) (.int .i64 2)).run Tryd.prog w = .ok (.agg #[.int .i32 13, .int .i32 13]) w := by kernel_rfl
theorem rng3 (w : World) : (Instr.index 40 (.agg rngCells) (.int .i64 3)).run Tryd.prog w = .ok (.agg #[.int .i32 32, .int .i32 55295]) w := by kernel_rfl
theorem rng4 (w : World) : (Instr.index 40 (.agg rngCells) (.int .i64 4)).run Tryd.prog w = .ok (.agg #[.int .i32 57344, .int .i32 65533]) w := by kernel_rfl
theorem rng5 (w : World) : (Instr.index 40 (.agg rngCells) (.int .i64 5)).run Tryd.prog w = .ok (.agg #[.int .i32 65536, .int .i32 1114111]) w := by kernel_rfl

/-- The program's table of ranges holds what its text lays. -/
def Rng (w : World) : Prop := ∃ T fr, w.heap[0]? = some (.cells rngCells T fr)
theorem Rng.below {B : Nat} {w w' : World} (h : Rng w) (hb : Below B w w') (hB : 0 < B) : Rng w' := by
  obtain ⟨T, fr, hR⟩ := h
  exact ⟨T, fr, (hb.block 0 hB).trans hR⟩
theorem Rng.pos {w : World} (h : Rng w) : 0 < w.heap.size := by
  obtain ⟨T, fr, hR⟩ := h
  exact (Array.getElem?_eq_some_iff.1 hR).1
theorem Rng.next {w w' : World} (h : Rng w) (hb : Below w.heap.size w w') : Rng w' := h.below hb h.pos

set_option maxRecDepth 100000 in
set_option maxHeartbeats 1000000 in
theorem f8_any (c : Int) (w : World) (hG : Rng w) : Calls Tryd.prog 8 #[.int .i32 c] w fun e w' => e = .returned (.bool (Ch.valid c)) ∧ Below w.heap.size w w' := by
  obtain ⟨T, fr, hR⟩ := hG
  go_enter Tryd.func8, Tryd.ntmps8
  go_wp2_with (refine wpList_load_row rfl 40 _ rfl 0 rfl T _ fr _ hR Tryd.underlying40 rfl (by kernel_rfl) ?_)
  clear hR
  have i0 := rng0
  have i1 := rng1
  have i2 := rng2
  have i3 := rng3
  have i4 := rng4
  have i5 := rng5
  refine wp_loop_rounds 7 ?_
  rw [rounds_succ]
  go_wp2
  iterate 6 all_goals (try (rw [rounds_succ]; go_wp2))
  all_goals go_ret
  all_goals exact ⟨ret_bool (by rw [Bool.eq_iff_iff]; simp [Ch.valid] <;> omega), by repeat (first | exact Below.refl _ _ | refine Below.alloc ?_ (by simp <;> omega) _ | refine Below.setCell ?_ (by simp <;> omega) _)⟩

theorem f12_any (c : Int) (w : World) (hG : Rng w) : Calls Tryd.prog 12 #[.int .i32 c] w fun e w' => e = .returned (.bool (Ch.first c)) ∧ Below w.heap.size w w' := by
  go_enter Tryd.func12, Tryd.ntmps12
  go_wp2_with (go_at_call 8; refine (f8_any _ _ hG).mono ?_; rintro e w1 ⟨rfl, hb⟩)
  all_goals (go_ret; go_light)
  all_goals (try simp only [beq_iff_eq, beq_eq_false_iff_ne, ne_eq] at *)
  all_goals exact ⟨ret_bool (by cases hv : Ch.valid c <;> (rw [Bool.eq_iff_iff]; simp [Ch.first, hv] <;> omega)), by first | assumption | exact Below.refl _ _⟩

theorem f13_any (c : Int) (w : World) : Calls Tryd.prog 13 #[.int .i32 c] w fun e w' => e = .returned (.bool (Ch.first c)) ∧ w = w' := by
  go_enter Tryd.func13, Tryd.ntmps13
  go_wp2_with (go_at_call 9; refine (f9_any _ _).mono ?_; rintro e w1 ⟨rfl, rfl⟩)
  all_goals go_ret
  all_goals exact ⟨ret_bool (by cases hv : Ch.valid c <;> (rw [Bool.eq_iff_iff]; simp [Ch.first, hv] <;> omega)), rfl⟩

theorem f14_any (c : Int) (w : World) (hG : Rng w) : Calls Tryd.prog 14 #[.int .i32 c] w fun e w' => e = .returned (.bool (Ch.inner c)) ∧ Below w.heap.size w w' := by
  go_enter Tryd.func14, Tryd.ntmps14
  cases hf : Ch.first c
  all_goals
    have H : Hid _ := Lib.hid hf
    clear hf
    go_wp2_with (go_at_call 12; refine (f12_any _ _ hG).mono ?_; rintro e w1 ⟨rfl, hb⟩; rw [H.out])
    all_goals go_ret
    all_goals exact ⟨ret_bool (by have hf := H.out; rw [Bool.eq_iff_iff]; simp [Ch.inner, hf] <;> omega), by first | assumption | exact Below.refl _ _⟩

theorem f15_any (c : Int) (w : World) : Calls Tryd.prog 15 #[.int .i32 c] w fun e w' => e = .returned (.bool (Ch.inner c)) ∧ w = w' := by
  go_enter Tryd.func15, Tryd.ntmps15
  cases hf : Ch.first c
  all_goals
    have H : Hid _ := Lib.hid hf
    clear hf
    go_wp2_with (go_at_call 13; refine (f13_any _ _).mono ?_; rintro e w1 ⟨rfl, rfl⟩; rw [H.out])
    all_goals go_ret
    all_goals exact ⟨ret_bool (by have hf := H.out; rw [Bool.eq_iff_iff]; simp [Ch.inner, hf] <;> omega), rfl⟩
end Go.Proofs.YtllnfiidmpopkaaDoor
