/-
  Part 19 of the proof: what functions return, and plain facts (Cplain Cplain2 Ckinds Cput Cstr Cmore Cnext Cfirst). Conditions: each theorem names its own.
-/
import Derived.WalkKit
import Derived.WalkLawsBesides
import Derived.WalkSpells
import Derived.LoopTactic
import Derived.Outline
import Derived.LoopN
import Derived.Deep.Light
import Derived.Lib.Hide
import Derived.Laws.Rows
import Derived.Test.YthoojcdjjecogaaGreatDoorG04
import Derived.Laws.AppendOwn
import Derived.OwnWalk
import Derived.Laws.BitsLemmas
import Derived.Laws.Shifts
import Derived.Deep.DeepMust
import Derived.Laws.BytesString
import Derived.Laws.Cells
import Derived.Deep.QuietTactic
import Derived.BigQuiet
import Derived.WalkSmall
set_option maxRecDepth 1000000
set_option maxHeartbeats 16000000
namespace Go.Proofs.YthoojcdjjecogaaGreatDoor.Ch

def valid (c : Int) : Bool := decide (c = 9) || decide (c = 10) || decide (c = 13) || (decide (32 <= c) && decide (c <= 55295)) || (decide (57344 <= c) && decide (c <= 65533)) || (decide (65536 <= c) && decide (c <= 1114111))
def blank (c : Int) : Bool := decide (c = 9) || decide (c = 10) || decide (c = 13) || decide (c = 32)
def first (c : Int) : Bool := (decide (97 <= c) && decide (c <= 122)) || (decide (65 <= c) && decide (c <= 90)) || decide (c = 95) || (decide (192 <= c) && !decide (c = 215) && !decide (c = 247) && valid c)
def encN (n : Nat) : List Nat :=
 if n < 128 then [n]
 else if n < 2048 then [192 + n / 64, 128 + n % 64]
 else if n < 65536 then [224 + n / 4096, 128 + n / 64 % 64, 128 + n % 64]
 else [240 + n / 262144, 128 + n / 4096 % 64, 128 + n / 64 % 64, 128 + n % 64]
def lenN (n : Nat) : Nat := if n < 128 then 1 else if n < 2048 then 2 else if n < 65536 then 3 else 4
def raw (l : List Nat) : Option (Nat × Nat) :=
 if l.length = 0 then none
 else if l.getD 0 0 < 128 then some (l.getD 0 0, 1)
 else if l.getD 0 0 < 192 then none
 else if l.getD 0 0 < 224 then
  (if 2 <= l.length /\ 128 <= l.getD 1 0 /\ l.getD 1 0 < 192 then some ((l.getD 0 0 - 192) * 64 + (l.getD 1 0 - 128), 2) else none)
 else if l.getD 0 0 < 240 then
  (if 3 <= l.length /\ 128 <= l.getD 1 0 /\ l.getD 1 0 < 192 /\ 128 <= l.getD 2 0 /\ l.getD 2 0 < 192 then
   some (((l.getD 0 0 - 224) * 64 + (l.getD 1 0 - 128)) * 64 + (l.getD 2 0 - 128), 3) else none)
 else if l.getD 0 0 < 248 then
  (if 4 <= l.length /\ 128 <= l.getD 1 0 /\ l.getD 1 0 < 192 /\ 128 <= l.getD 2 0 /\ l.getD 2 0 < 192 /\ 128 <= l.getD 3 0 /\ l.getD 3 0 < 192 then
   some ((((l.getD 0 0 - 240) * 64 + (l.getD 1 0 - 128)) * 64 + (l.getD 2 0 - 128)) * 64 + (l.getD 3 0 - 128), 4) else none)
 else none

def good (c n : Nat) : Bool := valid (c : Int) && decide (lenN c = n)
def dec (l : List Nat) : Option (Nat × Nat) :=
 match raw l with
 | none => none
 | some (c, n) => if good c n then some (c, n) else none

theorem raw_le {l : List Nat} {c n : Nat} (h : raw l = some (c, n)) : 1 <= n /\ n <= 4 /\ n <= l.length := by
 unfold raw at h
 by_cases h0 : l.length = 0
 ·rw [if_pos h0] at h; cases h
 rw [if_neg h0] at h
 by_cases h1 : l.getD 0 0 < 128
 ·rw [if_pos h1] at h; simp only [Option.some.injEq, Prod.mk.injEq] at h; omega
 rw [if_neg h1] at h
 by_cases h2 : l.getD 0 0 < 192
 ·rw [if_pos h2] at h; cases h
 rw [if_neg h2] at h
 by_cases h3 : l.getD 0 0 < 224
 ·rw [if_pos h3] at h; split at h
  ·simp only [Option.some.injEq, Prod.mk.injEq] at h; omega
  ·cases h
 rw [if_neg h3] at h
 by_cases h4 : l.getD 0 0 < 240
 ·rw [if_pos h4] at h; split at h
  ·simp only [Option.some.injEq, Prod.mk.injEq] at h; omega
  ·cases h
 rw [if_neg h4] at h
 by_cases h5 : l.getD 0 0 < 248
 ·rw [if_pos h5] at h; split at h
  ·simp only [Option.some.injEq, Prod.mk.injEq] at h; omega
  ·cases h
 rw [if_neg h5] at h; cases h

theorem dec_some {l : List Nat} {c n : Nat} (h : dec l = some (c, n)) : raw l = some (c, n) /\ valid (c : Int) = true /\ lenN c = n := by
 unfold dec at h
 split at h
 ·cases h
 ·rename_i c' n' hr
  split at h
  ·rename_i hv
   simp only [Option.some.injEq, Prod.mk.injEq] at h
   obtain ⟨rfl, rfl⟩ := h
   simp only [good, Bool.and_eq_true, decide_eq_true_eq] at hv
   exact ⟨hr, hv.1, hv.2⟩
  ·cases h
theorem dec_le {l : List Nat} {c n : Nat} (h : dec l = some (c, n)) : 1 <= n /\ n <= 4 /\ n <= l.length := raw_le (dec_some h).1

def items : Nat -> List Nat -> Nat -> List (Nat × Int)
 | 0, _, _ => []
 | f + 1, l, i =>
  if l = [] then [] else
  match dec l with
  | none => [(i, -1)]
  | some (c, n) => (i, (c : Int)) :: items f (l.drop n) (i + n)

end Go.Proofs.YthoojcdjjecogaaGreatDoor.Ch
namespace Go.Proofs.YthoojcdjjecogaaGreatDoor.Ch

theorem valid_le {c : Int} (h : valid c = true) : 0 <= c /\ c <= 1114111 := by
 simp [valid] at h; omega
theorem lenN_pos (n : Nat) : 1 <= lenN n /\ lenN n <= 4 := by
 unfold lenN; split
 ·omega
 ·split
  ·omega
  ·split <;> omega

theorem raw_cases {l : List Nat} {c n : Nat} (h : raw l = some (c, n)) :
  (∃ b r, l = b :: r /\ b < 128 /\ c = b /\ n = 1) \/
  (∃ b b1 r, l = b :: b1 :: r /\ 192 <= b /\ b < 224 /\ 128 <= b1 /\ b1 < 192 /\ c = (b - 192) * 64 + (b1 - 128) /\ n = 2) \/
  (∃ b b1 b2 r, l = b :: b1 :: b2 :: r /\ 224 <= b /\ b < 240 /\ 128 <= b1 /\ b1 < 192 /\ 128 <= b2 /\ b2 < 192 /\ c = ((b - 224) * 64 + (b1 - 128)) * 64 + (b2 - 128) /\ n = 3) \/
  (∃ b b1 b2 b3 r, l = b :: b1 :: b2 :: b3 :: r /\ 240 <= b /\ b < 248 /\ 128 <= b1 /\ b1 < 192 /\ 128 <= b2 /\ b2 < 192 /\ 128 <= b3 /\ b3 < 192 /\ c = (((b - 240) * 64 + (b1 - 128)) * 64 + (b2 - 128)) * 64 + (b3 - 128) /\ n = 4) := by
 unfold raw at h
 by_cases h0 : l.length = 0
 ·rw [if_pos h0] at h; cases h
 rw [if_neg h0] at h
 obtain ⟨b, r, rfl⟩ : ∃ b r, l = b :: r := by cases l with | nil => simp at h0 | cons b r => exact ⟨b, r, rfl⟩
 simp only [List.getD_cons_zero, List.length_cons] at h
 by_cases h1 : b < 128
 ·rw [if_pos h1] at h; simp only [Option.some.injEq, Prod.mk.injEq] at h
  exact .inl ⟨b, r, rfl, h1, by omega, by omega⟩
 rw [if_neg h1] at h
 by_cases h2 : b < 192
 ·rw [if_pos h2] at h; cases h
 rw [if_neg h2] at h
 by_cases h3 : b < 224
 ·rw [if_pos h3] at h; split at h
  ·rename_i hc
   obtain ⟨b1, r, rfl⟩ : ∃ b1 r', r = b1 :: r' := by cases r with | nil => simp at hc | cons b r => exact ⟨b, r, rfl⟩
   simp only [Option.some.injEq, Prod.mk.injEq, List.getD_cons_succ, List.getD_cons_zero] at h hc
   exact .inr (.inl ⟨b, b1, r, rfl, by omega, by omega, by omega, by omega, by omega, by omega⟩)
  ·cases h
 rw [if_neg h3] at h
 by_cases h4 : b < 240
 ·rw [if_pos h4] at h; split at h
  ·rename_i hc
   obtain ⟨b1, r, rfl⟩ : ∃ b1 r', r = b1 :: r' := by cases r with | nil => simp at hc | cons b r => exact ⟨b, r, rfl⟩
   obtain ⟨b2, r, rfl⟩ : ∃ b1 r', r = b1 :: r' := by cases r with | nil => simp at hc | cons b r => exact ⟨b, r, rfl⟩
   simp only [Option.some.injEq, Prod.mk.injEq, List.getD_cons_succ, List.getD_cons_zero] at h hc
   exact .inr (.inr (.inl ⟨b, b1, b2, r, rfl, by omega, by omega, by omega, by omega, by omega, by omega, by omega, by omega⟩))
  ·cases h
 rw [if_neg h4] at h
 by_cases h5 : b < 248
 ·rw [if_pos h5] at h; split at h
  ·rename_i hc
   obtain ⟨b1, r, rfl⟩ : ∃ b1 r', r = b1 :: r' := by cases r with | nil => simp at hc | cons b r => exact ⟨b, r, rfl⟩
   obtain ⟨b2, r, rfl⟩ : ∃ b1 r', r = b1 :: r' := by cases r with | nil => simp at hc | cons b r => exact ⟨b, r, rfl⟩
   obtain ⟨b3, r, rfl⟩ : ∃ b1 r', r = b1 :: r' := by cases r with | nil => simp at hc | cons b r => exact ⟨b, r, rfl⟩
   simp only [Option.some.injEq, Prod.mk.injEq, List.getD_cons_succ, List.getD_cons_zero] at h hc
   exact .inr (.inr (.inr ⟨b, b1, b2, b3, r, rfl, by omega, by omega, by omega, by omega, by omega, by omega, by omega, by omega, by omega, by omega⟩))
  ·cases h
 rw [if_neg h5] at h; cases h

theorem raw_1 {l : List Nat} {c : Nat} (h : raw l = some (c, 1)) : 1 <= l.length /\ l.getD 0 0 < 128 /\ c = l.getD 0 0 := by
 rcases raw_cases h with ⟨b, r, rfl, h1, hc, en⟩ | ⟨b, b1, r, rfl, h1, h2, h3, h4, hc, en⟩ | ⟨b, b1, b2, r, rfl, h1, h2, h3, h4, h5, h6, hc, en⟩ | ⟨b, b1, b2, b3, r, rfl, h1, h2, h3, h4, h5, h6, h7, h8, hc, en⟩ <;> simp at en ⊢ <;> omega
theorem raw_2 {l : List Nat} {c : Nat} (h : raw l = some (c, 2)) : 2 <= l.length /\ 192 <= l.getD 0 0 /\ l.getD 0 0 < 224 /\ (128 <= l.getD 1 0 /\ l.getD 1 0 < 192) /\ c = (l.getD 0 0 - 192) * 64 + (l.getD 1 0 - 128) := by
 rcases raw_cases h with ⟨b, r, rfl, h1, hc, en⟩ | ⟨b, b1, r, rfl, h1, h2, h3, h4, hc, en⟩ | ⟨b, b1, b2, r, rfl, h1, h2, h3, h4, h5, h6, hc, en⟩ | ⟨b, b1, b2, b3, r, rfl, h1, h2, h3, h4, h5, h6, h7, h8, hc, en⟩ <;> simp at en ⊢ <;> omega
theorem raw_3 {l : List Nat} {c : Nat} (h : raw l = some (c, 3)) : 3 <= l.length /\ 224 <= l.getD 0 0 /\ l.getD 0 0 < 240 /\ (128 <= l.getD 1 0 /\ l.getD 1 0 < 192 /\ 128 <= l.getD 2 0 /\ l.getD 2 0 < 192) /\ c = ((l.getD 0 0 - 224) * 64 + (l.getD 1 0 - 128)) * 64 + (l.getD 2 0 - 128) := by
 rcases raw_cases h with ⟨b, r, rfl, h1, hc, en⟩ | ⟨b, b1, r, rfl, h1, h2, h3, h4, hc, en⟩ | ⟨b, b1, b2, r, rfl, h1, h2, h3, h4, h5, h6, hc, en⟩ | ⟨b, b1, b2, b3, r, rfl, h1, h2, h3, h4, h5, h6, h7, h8, hc, en⟩ <;> simp at en ⊢ <;> omega
theorem raw_4 {l : List Nat} {c : Nat} (h : raw l = some (c, 4)) : 4 <= l.length /\ 240 <= l.getD 0 0 /\ l.getD 0 0 < 248 /\ (128 <= l.getD 1 0 /\ l.getD 1 0 < 192 /\ 128 <= l.getD 2 0 /\ l.getD 2 0 < 192 /\ 128 <= l.getD 3 0 /\ l.getD 3 0 < 192) /\ c = (((l.getD 0 0 - 240) * 64 + (l.getD 1 0 - 128)) * 64 + (l.getD 2 0 - 128)) * 64 + (l.getD 3 0 - 128) := by
 rcases raw_cases h with ⟨b, r, rfl, h1, hc, en⟩ | ⟨b, b1, r, rfl, h1, h2, h3, h4, hc, en⟩ | ⟨b, b1, b2, r, rfl, h1, h2, h3, h4, h5, h6, hc, en⟩ | ⟨b, b1, b2, b3, r, rfl, h1, h2, h3, h4, h5, h6, h7, h8, hc, en⟩ <;> simp at en ⊢ <;> omega
theorem raw_none {l : List Nat} (h : raw l = none) : l.length = 0 \/ (1 <= l.length /\ (
  (128 <= l.getD 0 0 /\ l.getD 0 0 < 192) \/ 248 <= l.getD 0 0 \/
  (192 <= l.getD 0 0 /\ l.getD 0 0 < 224 /\ ¬ (2 <= l.length /\ 128 <= l.getD 1 0 /\ l.getD 1 0 < 192)) \/
  (224 <= l.getD 0 0 /\ l.getD 0 0 < 240 /\ ¬ (3 <= l.length /\ 128 <= l.getD 1 0 /\ l.getD 1 0 < 192 /\ 128 <= l.getD 2 0 /\ l.getD 2 0 < 192)) \/
  (240 <= l.getD 0 0 /\ l.getD 0 0 < 248 /\ ¬ (4 <= l.length /\ 128 <= l.getD 1 0 /\ l.getD 1 0 < 192 /\ 128 <= l.getD 2 0 /\ l.getD 2 0 < 192 /\ 128 <= l.getD 3 0 /\ l.getD 3 0 < 192)))) := by
 unfold raw at h
 by_cases h0 : l.length = 0
 ·exact .inl h0
 refine .inr ⟨by omega, ?_⟩
 rw [if_neg h0] at h
 by_cases h1 : l.getD 0 0 < 128
 ·rw [if_pos h1] at h; cases h
 rw [if_neg h1] at h
 by_cases h2 : l.getD 0 0 < 192
 ·exact .inl ⟨by omega, h2⟩
 rw [if_neg h2] at h
 by_cases h3 : l.getD 0 0 < 224
 ·rw [if_pos h3] at h
  exact .inr (.inr (.inl ⟨by omega, h3, fun hc => by rw [if_pos hc] at h; cases h⟩))
 rw [if_neg h3] at h
 by_cases h4 : l.getD 0 0 < 240
 ·rw [if_pos h4] at h
  exact .inr (.inr (.inr (.inl ⟨by omega, h4, fun hc => by rw [if_pos hc] at h; cases h⟩)))
 rw [if_neg h4] at h
 by_cases h5 : l.getD 0 0 < 248
 ·rw [if_pos h5] at h
  exact .inr (.inr (.inr (.inr ⟨by omega, h5, fun hc => by rw [if_pos hc] at h; cases h⟩)))
 exact .inr (.inl (by omega))
end Go.Proofs.YthoojcdjjecogaaGreatDoor.Ch
namespace Go.Proofs.YthoojcdjjecogaaGreatDoor
open Go Go.RowKit
theorem f9_any (c : Int) (w : World) : Calls Tryz.prog 97 #[.int .i32 c] w fun e w' => e = .returned (.bool (Ch.valid c)) /\ w = w' := by
 go_enter Tryz.func97, Tryz.ntmps97
 go_wp2
 all_goals go_ret
 all_goals exact ⟨ret_bool (by rw [Bool.eq_iff_iff]; simp [Ch.valid] <;> omega), rfl⟩

theorem f10_any (c : Int) (w : World) : Calls Tryz.prog 49 #[.int .i32 c] w fun e w' => e = .returned (.bool (Ch.blank c)) /\ w = w' := by
 go_enter Tryz.func49, Tryz.ntmps49
 go_wp2
 all_goals go_ret
 all_goals exact ⟨ret_bool (by rw [Bool.eq_iff_iff]; simp [Ch.blank] <;> omega), rfl⟩

def rngCells : Array Value := #[.int .i32 9, .int .i32 9, .int .i32 10, .int .i32 10, .int .i32 13, .int .i32 13, .int .i32 32, .int .i32 55295, .int .i32 57344, .int .i32 65533, .int .i32 65536, .int .i32 1114111]
theorem rng0 (w : World) : (Instr.index 165 (.agg rngCells) (.int .i64 0)).run Tryz.prog w = .ok (.agg #[.int .i32 9, .int .i32 9]) w := by kernel_rfl
theorem rng1 (w : World) : (Instr.index 165 (.agg rngCells) (.int .i64 1)).run Tryz.prog w = .ok (.agg #[.int .i32 10, .int .i32 10]) w := by kernel_rfl
theorem rng2 (w : World) : (Instr.index 165 (.agg rngCells) (.int .i64 2)).run Tryz.prog w = .ok (.agg #[.int .i32 13, .int .i32 13]) w := by kernel_rfl
theorem rng3 (w : World) : (Instr.index 165 (.agg rngCells) (.int .i64 3)).run Tryz.prog w = .ok (.agg #[.int .i32 32, .int .i32 55295]) w := by kernel_rfl
theorem rng4 (w : World) : (Instr.index 165 (.agg rngCells) (.int .i64 4)).run Tryz.prog w = .ok (.agg #[.int .i32 57344, .int .i32 65533]) w := by kernel_rfl
theorem rng5 (w : World) : (Instr.index 165 (.agg rngCells) (.int .i64 5)).run Tryz.prog w = .ok (.agg #[.int .i32 65536, .int .i32 1114111]) w := by kernel_rfl

def Rng (w : World) : Prop := ∃ T fr, w.heap[1]? = some (.cells rngCells T fr)
theorem Rng.below {B : Nat} {w w' : World} (h : Rng w) (hb : Below B w w') (hB : 1 < B) : Rng w' := by
 obtain ⟨T, fr, hR⟩ := h
 exact ⟨T, fr, (hb.block 1 hB).trans hR⟩
theorem Rng.pos {w : World} (h : Rng w) : 1 < w.heap.size := by
 obtain ⟨T, fr, hR⟩ := h
 exact (Array.getElem?_eq_some_iff.1 hR).1
theorem Rng.next {w w' : World} (h : Rng w) (hb : Below w.heap.size w w') : Rng w' := h.below hb h.pos

theorem f8_any (c : Int) (w : World) (hG : Rng w) : Calls Tryz.prog 115 #[.int .i32 c] w fun e w' => e = .returned (.bool (Ch.valid c)) /\ Below w.heap.size w w' := by
 obtain ⟨T, fr, hR⟩ := hG
 go_enter Tryz.func115, Tryz.ntmps115
 go_wp2_with (refine wpList_load_row rfl 165 _ rfl 1 rfl T _ fr _ hR Tryz.underlying165 rfl (by kernel_rfl) ?_)
 clear hR
 have i0 := rng0
 have i1 := rng1
 have i2 := rng2
 have i3 := rng3
 have i4 := rng4
 have i5 := rng5
 refine wp_loop_rounds 7 ?_
 rw [rounds_succ]
 go_wp2
 iterate 6 all_goals (try (rw [rounds_succ]; go_wp2))
 all_goals go_ret
 all_goals exact ⟨ret_bool (by rw [Bool.eq_iff_iff]; simp [Ch.valid] <;> omega), by repeat (first | exact Below.refl _ _ | refine Below.alloc ?_ (by simp <;> omega) _ | refine Below.setCell ?_ (by simp <;> omega) _)⟩

theorem i32_and63 (x : Int) (h0 : 0 <= x) (h1 : x < 2147483648) : bits .and .i32 x 63 = x % 64 := bits_mask .i32 31 (by decide) wraps_i32 6 (by decide) x h0 h1
theorem i32_or_128 (y : Int) (h0 : 0 <= y) (h1 : y < 64) : bits .or .i32 128 y = 128 + y := bits_join .i32 31 (by decide) wraps_i32 6 128 y (by decide) (by decide) (by decide) h0 h1 (by omega)

theorem i32_or_224 (y : Int) (h0 : 0 <= y) (h1 : y < 16) : bits .or .i32 224 y = 224 + y := bits_join .i32 31 (by decide) wraps_i32 4 224 y (by decide) (by decide) (by decide) h0 h1 (by omega)
theorem i32_or_240 (y : Int) (h0 : 0 <= y) (h1 : y < 8) : bits .or .i32 240 y = 240 + y := bits_join .i32 31 (by decide) wraps_i32 3 240 y (by decide) (by decide) (by decide) h0 h1 (by omega)

theorem f45_1 (c : Int) (v : Value) (xs : List Value) (B : Nat) (w : World) (hB : B <= w.heap.size) (hown : w.ownsRow B 5 1 v xs.length xs) (hn : xs.length <= 1000000) (h1 : 0 <= c) (h2 : c < 128) :
  Calls Tryz.prog 116 #[v, .int .i32 c] w fun e w' => ∃ v', e = .returned v' /\ w'.ownsRow B 5 1 v' (xs.length + 1) (xs ++ u8i [c]) /\ w.grownBy w' v.ownBlock := by
 obtain ⟨i0, hi, hz0, hz1, hz2⟩ := info_parts Tryz.info5
 go_enter Tryz.func116, Tryz.ntmps116
 go_wp2_with (at_builtin; go_must (refine wpList_append_own _ rfl _ _ 79 rfl B 5 i0 (.int .u8 0) 1 1 Tryz.underlying79 hi hz0 hz1 hz2 rfl (by decide) v xs.length xs rfl (hown.alloc _) ⟨w.heap.size, 0, none⟩ 1 1 _ rfl rfl (cells_new _ _ _) (by simp [Value.oneCell']) (by unfold maxLen; omega) (by omega) (by simp; omega) ?_); intro v' w1 hown' hgrow _)
 go_ret
 go_light
 exact ⟨v', rfl, hown', grownBy_alloc hgrow⟩
theorem f45_2 (c : Int) (v : Value) (xs : List Value) (B : Nat) (w : World) (hB : B <= w.heap.size) (hown : w.ownsRow B 5 1 v xs.length xs) (hn : xs.length <= 1000000) (h1 : 128 <= c) (h2 : c < 2048) :
  Calls Tryz.prog 116 #[v, .int .i32 c] w fun e w' => ∃ v', e = .returned v' /\ w'.ownsRow B 5 1 v' (xs.length + 2) (xs ++ u8i [192 + c / 64, 128 + c % 64]) /\ w.grownBy w' v.ownBlock := by
 obtain ⟨i0, hi, hz0, hz1, hz2⟩ := info_parts Tryz.info5
 have e1 := i32_and63 (c) (by omega) (by omega)
 have e2 := i32_or_128 (c % 64) (by omega) (by omega)
 go_enter Tryz.func116, Tryz.ntmps116
 go_wp2_with (at_builtin; go_must (refine wpList_append_own _ rfl _ _ 79 rfl B 5 i0 (.int .u8 0) 1 1 Tryz.underlying79 hi hz0 hz1 hz2 rfl (by decide) v xs.length xs rfl (hown.alloc _) ⟨w.heap.size, 0, none⟩ 2 2 _ rfl rfl (cells_new _ _ _) (by simp [Value.oneCell']) (by unfold maxLen; omega) (by omega) (by simp; omega) ?_); intro v' w1 hown' hgrow _)
 go_ret
 go_light
 exact ⟨v', rfl, hown', grownBy_alloc hgrow⟩
theorem f45_3 (c : Int) (v : Value) (xs : List Value) (B : Nat) (w : World) (hB : B <= w.heap.size) (hown : w.ownsRow B 5 1 v xs.length xs) (hn : xs.length <= 1000000) (h1 : 2048 <= c) (h2 : c < 65536) :
  Calls Tryz.prog 116 #[v, .int .i32 c] w fun e w' => ∃ v', e = .returned v' /\ w'.ownsRow B 5 1 v' (xs.length + 3) (xs ++ u8i [224 + c / 4096, 128 + c / 64 % 64, 128 + c % 64]) /\ w.grownBy w' v.ownBlock := by
 obtain ⟨i0, hi, hz0, hz1, hz2⟩ := info_parts Tryz.info5
 have e1 := i32_and63 (c) (by omega) (by omega)
 have e2 := i32_or_128 (c % 64) (by omega) (by omega)
 have e3 := i32_and63 (c / 64) (by omega) (by omega)
 have e4 := i32_or_128 (c / 64 % 64) (by omega) (by omega)
 have e7 := i32_or_224 (c / 4096) (by omega) (by omega)
 go_enter Tryz.func116, Tryz.ntmps116
 go_wp2_with (at_builtin; go_must (refine wpList_append_own _ rfl _ _ 79 rfl B 5 i0 (.int .u8 0) 1 1 Tryz.underlying79 hi hz0 hz1 hz2 rfl (by decide) v xs.length xs rfl (hown.alloc _) ⟨w.heap.size, 0, none⟩ 3 3 _ rfl rfl (cells_new _ _ _) (by simp [Value.oneCell']) (by unfold maxLen; omega) (by omega) (by simp; omega) ?_); intro v' w1 hown' hgrow _)
 go_ret
 go_light
 exact ⟨v', rfl, hown', grownBy_alloc hgrow⟩
theorem f45_4 (c : Int) (v : Value) (xs : List Value) (B : Nat) (w : World) (hB : B <= w.heap.size) (hown : w.ownsRow B 5 1 v xs.length xs) (hn : xs.length <= 1000000) (h1 : 65536 <= c) (h2 : c <= 1114111) :
  Calls Tryz.prog 116 #[v, .int .i32 c] w fun e w' => ∃ v', e = .returned v' /\ w'.ownsRow B 5 1 v' (xs.length + 4) (xs ++ u8i [240 + c / 262144, 128 + c / 4096 % 64, 128 + c / 64 % 64, 128 + c % 64]) /\ w.grownBy w' v.ownBlock := by
 obtain ⟨i0, hi, hz0, hz1, hz2⟩ := info_parts Tryz.info5
 have e1 := i32_and63 (c) (by omega) (by omega)
 have e2 := i32_or_128 (c % 64) (by omega) (by omega)
 have e3 := i32_and63 (c / 64) (by omega) (by omega)
 have e4 := i32_or_128 (c / 64 % 64) (by omega) (by omega)
 have e5 := i32_and63 (c / 4096) (by omega) (by omega)
 have e6 := i32_or_128 (c / 4096 % 64) (by omega) (by omega)
 have e7 := i32_or_240 (c / 262144) (by omega) (by omega)
 go_enter Tryz.func116, Tryz.ntmps116
 go_wp2_with (at_builtin; go_must (refine wpList_append_own _ rfl _ _ 79 rfl B 5 i0 (.int .u8 0) 1 1 Tryz.underlying79 hi hz0 hz1 hz2 rfl (by decide) v xs.length xs rfl (hown.alloc _) ⟨w.heap.size, 0, none⟩ 4 4 _ rfl rfl (cells_new _ _ _) (by simp [Value.oneCell']) (by unfold maxLen; omega) (by omega) (by simp; omega) ?_); intro v' w1 hown' hgrow _)
 go_ret
 go_light
 exact ⟨v', rfl, hown', grownBy_alloc hgrow⟩

def encI (c : Int) : List Int := if c < 128 then [c] else if c < 2048 then [192 + c / 64, 128 + c % 64] else if c < 65536 then [224 + c / 4096, 128 + c / 64 % 64, 128 + c % 64] else [240 + c / 262144, 128 + c / 4096 % 64, 128 + c / 64 % 64, 128 + c % 64]
theorem encI_nat (n : Nat) : encI (n : Int) = (Ch.encN n).map fun k : Nat => (k : Int) := by
 unfold encI Ch.encN
 by_cases h1 : n < 128
 ·rw [if_pos h1, if_pos (by omega)]; rfl
 ·rw [if_neg h1, if_neg (by omega)]
  by_cases h2 : n < 2048
  ·rw [if_pos h2, if_pos (by omega)]; rfl
  ·rw [if_neg h2, if_neg (by omega)]
   by_cases h3 : n < 65536
   ·rw [if_pos h3, if_pos (by omega)]; rfl
   ·rw [if_neg h3, if_neg (by omega)]; rfl

theorem f45_any (n : Nat) (hc : n <= 1114111) (v : Value) (xs : List Value) (B : Nat) (w : World) (hB : B <= w.heap.size) (hown : w.ownsRow B 5 1 v xs.length xs) (hn : xs.length <= 1000000) :
  Calls Tryz.prog 116 #[v, .int .i32 (n : Int)] w fun e w' => ∃ v', e = .returned v' /\ w'.ownsRow B 5 1 v' (xs.length + Ch.lenN n) (xs ++ u8s (Ch.encN n)) /\ w.grownBy w' v.ownBlock := by
 rw [<- u8i_nat, <- encI_nat]
 by_cases h1 : n < 128
 ·rw [show encI (n : Int) = [(n : Int)] by unfold encI; rw [if_pos (by omega)], show Ch.lenN n = 1 by unfold Ch.lenN; rw [if_pos h1]]
  exact f45_1 _ v xs B w hB hown hn (by omega) (by omega)
 ·by_cases h2 : n < 2048
  ·rw [show encI (n : Int) = [192 + (n : Int) / 64, 128 + (n : Int) % 64] by unfold encI; rw [if_neg (by omega), if_pos (by omega)], show Ch.lenN n = 2 by unfold Ch.lenN; rw [if_neg h1, if_pos h2]]
   exact f45_2 _ v xs B w hB hown hn (by omega) (by omega)
  ·by_cases h3 : n < 65536
   ·rw [show encI (n : Int) = [224 + (n : Int) / 4096, 128 + (n : Int) / 64 % 64, 128 + (n : Int) % 64] by unfold encI; rw [if_neg (by omega), if_neg (by omega), if_pos (by omega)], show Ch.lenN n = 3 by unfold Ch.lenN; rw [if_neg h1, if_neg h2, if_pos h3]]
    exact f45_3 _ v xs B w hB hown hn (by omega) (by omega)
   ·rw [show encI (n : Int) = [240 + (n : Int) / 262144, 128 + (n : Int) / 4096 % 64, 128 + (n : Int) / 64 % 64, 128 + (n : Int) % 64] by unfold encI; rw [if_neg (by omega), if_neg (by omega), if_neg (by omega)], show Ch.lenN n = 4 by unfold Ch.lenN; rw [if_neg h1, if_neg h2, if_neg h3]]
    exact f45_4 _ v xs B w hB hown hn (by omega) (by omega)
theorem valid_nat {c : Nat} (h : Ch.valid c = true) : c <= 1114111 := by have := (Ch.valid_le h).2; omega
theorem f45_nil (c : Nat) (hc : c <= 1114111) (w : World) :
  Calls Tryz.prog 116 #[.slice none 0 0, .int .i32 c] w fun e w' => (∃ g cap, e = .returned (.slice (some ⟨g, 0, none⟩) (Ch.lenN c) cap) /\ w'.ownsRow w.heap.size 5 1 (.slice (some ⟨g, 0, none⟩) (Ch.lenN c) cap) (Ch.lenN c) (u8s (Ch.encN c))) /\ Below w.heap.size w w' := by
 refine (f45_any c hc (.slice none 0 0) [] w.heap.size w (Nat.le_refl _) ⟨rfl, .inl ⟨rfl, rfl⟩⟩ (by simp)).mono ?_
 rintro e w' ⟨v', rfl, hown, hg⟩
 simp only [List.length_nil, Nat.zero_add, List.nil_append] at hown
 refine ⟨?_, below_of_grown hg⟩
 have hp := Ch.lenN_pos c
 obtain ⟨hl, ⟨rfl, h0⟩ | ⟨g, cap, cur, rfl, h⟩⟩ := hown
 ·omega
 ·exact ⟨g, cap, rfl, hl, .inr ⟨g, cap, cur, rfl, h⟩⟩

theorem Rng.drewN {w : World} (h : Rng w) (n : Nat) : Rng (w.drewN n) := by
 obtain ⟨T, fr, h⟩ := h
 exact ⟨T, fr, h⟩
theorem u8_and192 (b : Nat) (h : b < 256) : bits .and .u8 (b : Int) 192 = (b : Int) / 64 * 64 := by
 have e : bits .and .u8 (b : Int) ((192 : Nat) : Int) = ((b &&& 192 : Nat) : Int) := u8_and_nat b 192 h (by decide)
 have e2 : b &&& 192 = b / 64 * 64 := by
  have : ∀ b : Fin 256, b.val &&& 192 = b.val / 64 * 64 := by decide +kernel
  exact this ⟨b, h⟩
 rw [show (192 : Int) = ((192 : Nat) : Int) from rfl, e, e2]; omega
theorem i32_and31 (x : Int) (h0 : 0 <= x) (h1 : x < 2147483648) : bits .and .i32 x 31 = x % 32 := bits_mask .i32 31 (by decide) wraps_i32 5 (by decide) x h0 h1
theorem i32_and15 (x : Int) (h0 : 0 <= x) (h1 : x < 2147483648) : bits .and .i32 x 15 = x % 16 := bits_mask .i32 31 (by decide) wraps_i32 4 (by decide) x h0 h1
theorem i32_and7 (x : Int) (h0 : 0 <= x) (h1 : x < 2147483648) : bits .and .i32 x 7 = x % 8 := bits_mask .i32 31 (by decide) wraps_i32 3 (by decide) x h0 h1

theorem f47_1_yes (s : ByteArray) (w : World) (hG : Rng w) (hs : s.size <= maxLen) (c : Nat) (hr : Ch.raw (bts s) = some (c, 1)) (hv : Ch.valid c = true) (hk : Ch.lenN c = 1) :
  Calls Tryz.prog 92 #[.string s] w fun e w' => e = .returned (.tuple #[.int .i32 c, .int .i64 1]) /\ Below w.heap.size w w' := by
 have hcm := valid_nat hv
 obtain ⟨hlen, h1, hc⟩ := Ch.raw_1 hr
 rw [bts_length] at hlen
 have h1' : gb s 0 < 128 := h1
 have hc' : c = gb s 0 := hc
 have hl0 : 0 < s.size := by omega
 have e0 := byte_eq hl0
 have u0 : (s[0]'hl0).toNat < 128 := by omega
 obtain rfl : c = (s[0]'hl0).toNat := by omega
 clear h1 h1' hc e0 hc' hlen
 have Hv : Hid _ := Lib.hid hv
 have HK : ((Ch.lenN (s[0]'hl0).toNat : Int) != 1) = false := by rw [hk]; rfl
 clear hk
 clear hv hr
 unfold maxLen at hs
 go_enter Tryz.func92, Tryz.ntmps92
 go_wp2
 go_quiet (fail)
 go_wp2
 refine wp_loop_rounds 1 ?_
 iterate 1 (rw [rounds_succ]; go_wp2_with (first | (go_at_call 115; refine (f8_any _ _ (hG.drewN _)).mono ?_; rintro e w1 ⟨rfl, hb⟩; rw [Hv.out]) | (go_at_call 116; refine (f45_nil _ hcm _).mono ?_; rintro e w2 ⟨⟨g, cap, rfl, hown⟩, hb2⟩)))
 go_ret2
 go_light
 exact ⟨rfl, (below_of_drewN hb).trans (hb2.mono (below_of_drewN hb).size)⟩

theorem f47_1_not (s : ByteArray) (w : World) (hG : Rng w) (hs : s.size <= maxLen) (c : Nat) (hr : Ch.raw (bts s) = some (c, 1)) (hv : Ch.valid c = false) :
  Calls Tryz.prog 92 #[.string s] w fun e w' => e = .returned (.tuple #[.int .i32 0, .int .i64 0]) /\ Below w.heap.size w w' := by
 obtain ⟨hlen, h1, hc⟩ := Ch.raw_1 hr
 rw [bts_length] at hlen
 have h1' : gb s 0 < 128 := h1
 have hc' : c = gb s 0 := hc
 have hl0 : 0 < s.size := by omega
 have e0 := byte_eq hl0
 have u0 : (s[0]'hl0).toNat < 128 := by omega
 obtain rfl : c = (s[0]'hl0).toNat := by omega
 clear h1 h1' hc e0 hc' hlen
 have Hv : Hid _ := Lib.hid hv
 clear hv hr
 unfold maxLen at hs
 go_enter Tryz.func92, Tryz.ntmps92
 go_wp2
 go_quiet (fail)
 go_wp2
 refine wp_loop_rounds 1 ?_
 iterate 1 (rw [rounds_succ]; go_wp2_with (first | (go_at_call 115; refine (f8_any _ _ (hG.drewN _)).mono ?_; rintro e w1 ⟨rfl, hb⟩; rw [Hv.out])))
 go_ret2
 go_light
 exact ⟨rfl, below_of_drewN hb⟩

theorem f47_2_yes (s : ByteArray) (w : World) (hG : Rng w) (hs : s.size <= maxLen) (c : Nat) (hr : Ch.raw (bts s) = some (c, 2)) (hv : Ch.valid c = true) (hk : Ch.lenN c = 2) :
  Calls Tryz.prog 92 #[.string s] w fun e w' => e = .returned (.tuple #[.int .i32 c, .int .i64 2]) /\ Below w.heap.size w w' := by
 have hcm := valid_nat hv
 obtain ⟨hlen, h1, h2, ht', hc⟩ := Ch.raw_2 hr
 rw [bts_length] at hlen
 have h1' : 192 <= gb s 0 := h1
 have h2' : gb s 0 < 224 := h2
 have ht : 128 <= gb s 1 /\ gb s 1 < 192 := ht'
 have hc' : c = (gb s 0 - 192) * 64 + (gb s 1 - 128) := hc
 have hl0 : 0 < s.size := by omega
 have e0 := byte_eq hl0
 have t0 : 192 <= (s[0]'hl0).toNat := by omega
 have u0 : (s[0]'hl0).toNat < 224 := by omega
 have m0 := i32_and31 ((s[0]'hl0).toNat : Int) (by omega) (by omega)
 have hl1 : 1 < s.size := by omega
 have b1 : (s[1]'hl1).toNat < 256 := (s[1]'hl1).toNat_lt
 have m1 := u8_and63 ((s[1]'hl1).toNat : Int) (by omega) (by omega)
 have a1 : bits .and .u8 ((s[1]'hl1).toNat : Int) 192 = 128 := by rw [u8_and192 _ b1]; have := byte_eq hl1; omega
 have o1 := i32_or6 ((((s[0]'hl0).toNat : Int) % (32 : Int)) * 64) (((s[1]'hl1).toNat : Int) % 64) (by omega) (by omega) (by omega) (by omega) (by omega)
 have hc'' : ((((s[0]'hl0).toNat : Int) % (32 : Int)) * (64 : Int) + ((s[1]'hl1).toNat : Int) % (64 : Int) : Int) = (c : Int) := by have := byte_eq hl1; omega
 have C0 : Hid _ := Lib.hid hc''
 clear e0 hc hc' hc'' h1 h2 ht' h1' h2' ht
 have Hv : Hid _ := Lib.hid hv
 have HK : ((Ch.lenN c : Int) != 2) = false := by rw [hk]; rfl
 clear hk
 clear hv hr
 unfold maxLen at hs
 go_enter Tryz.func92, Tryz.ntmps92
 go_wp2
 go_quiet (fail)
 go_wp2
 refine wp_loop_rounds 2 ?_
 iterate 2 (rw [rounds_succ]; go_wp2_with (first | (go_at_call 115; refine (f8_any _ _ (hG.drewN _)).mono ?_; rintro e w1 ⟨rfl, hb⟩; rw [C0.out, Hv.out]) | (go_at_call 116; refine (f45_nil _ hcm _).mono ?_; rintro e w2 ⟨⟨g, cap, rfl, hown⟩, hb2⟩)))
 go_ret2
 go_light
 exact ⟨rfl, (below_of_drewN hb).trans (hb2.mono (below_of_drewN hb).size)⟩

theorem f47_2_long (s : ByteArray) (w : World) (hG : Rng w) (hs : s.size <= maxLen) (c : Nat) (hr : Ch.raw (bts s) = some (c, 2)) (hv : Ch.valid c = true) (hk : Ch.lenN c ≠ 2) :
  Calls Tryz.prog 92 #[.string s] w fun e w' => e = .returned (.tuple #[.int .i32 0, .int .i64 0]) /\ Below w.heap.size w w' := by
 have hcm := valid_nat hv
 obtain ⟨hlen, h1, h2, ht', hc⟩ := Ch.raw_2 hr
 rw [bts_length] at hlen
 have h1' : 192 <= gb s 0 := h1
 have h2' : gb s 0 < 224 := h2
 have ht : 128 <= gb s 1 /\ gb s 1 < 192 := ht'
 have hc' : c = (gb s 0 - 192) * 64 + (gb s 1 - 128) := hc
 have hl0 : 0 < s.size := by omega
 have e0 := byte_eq hl0
 have t0 : 192 <= (s[0]'hl0).toNat := by omega
 have u0 : (s[0]'hl0).toNat < 224 := by omega
 have m0 := i32_and31 ((s[0]'hl0).toNat : Int) (by omega) (by omega)
 have hl1 : 1 < s.size := by omega
 have b1 : (s[1]'hl1).toNat < 256 := (s[1]'hl1).toNat_lt
 have m1 := u8_and63 ((s[1]'hl1).toNat : Int) (by omega) (by omega)
 have a1 : bits .and .u8 ((s[1]'hl1).toNat : Int) 192 = 128 := by rw [u8_and192 _ b1]; have := byte_eq hl1; omega
 have o1 := i32_or6 ((((s[0]'hl0).toNat : Int) % (32 : Int)) * 64) (((s[1]'hl1).toNat : Int) % 64) (by omega) (by omega) (by omega) (by omega) (by omega)
 have hc'' : ((((s[0]'hl0).toNat : Int) % (32 : Int)) * (64 : Int) + ((s[1]'hl1).toNat : Int) % (64 : Int) : Int) = (c : Int) := by have := byte_eq hl1; omega
 have C0 : Hid _ := Lib.hid hc''
 clear e0 hc hc' hc'' h1 h2 ht' h1' h2' ht
 have Hv : Hid _ := Lib.hid hv
 have HK : ((Ch.lenN c : Int) != 2) = true := by rw [bne_iff_ne]; omega
 clear hk
 clear hv hr
 unfold maxLen at hs
 go_enter Tryz.func92, Tryz.ntmps92
 go_wp2
 go_quiet (fail)
 go_wp2
 refine wp_loop_rounds 2 ?_
 iterate 2 (rw [rounds_succ]; go_wp2_with (first | (go_at_call 115; refine (f8_any _ _ (hG.drewN _)).mono ?_; rintro e w1 ⟨rfl, hb⟩; rw [C0.out, Hv.out]) | (go_at_call 116; refine (f45_nil _ hcm _).mono ?_; rintro e w2 ⟨⟨g, cap, rfl, hown⟩, hb2⟩)))
 go_ret2
 go_light
 exact ⟨rfl, (below_of_drewN hb).trans (hb2.mono (below_of_drewN hb).size)⟩

theorem f47_2_not (s : ByteArray) (w : World) (hG : Rng w) (hs : s.size <= maxLen) (c : Nat) (hr : Ch.raw (bts s) = some (c, 2)) (hv : Ch.valid c = false) :
  Calls Tryz.prog 92 #[.string s] w fun e w' => e = .returned (.tuple #[.int .i32 0, .int .i64 0]) /\ Below w.heap.size w w' := by
 obtain ⟨hlen, h1, h2, ht', hc⟩ := Ch.raw_2 hr
 rw [bts_length] at hlen
 have h1' : 192 <= gb s 0 := h1
 have h2' : gb s 0 < 224 := h2
 have ht : 128 <= gb s 1 /\ gb s 1 < 192 := ht'
 have hc' : c = (gb s 0 - 192) * 64 + (gb s 1 - 128) := hc
 have hl0 : 0 < s.size := by omega
 have e0 := byte_eq hl0
 have t0 : 192 <= (s[0]'hl0).toNat := by omega
 have u0 : (s[0]'hl0).toNat < 224 := by omega
 have m0 := i32_and31 ((s[0]'hl0).toNat : Int) (by omega) (by omega)
 have hl1 : 1 < s.size := by omega
 have b1 : (s[1]'hl1).toNat < 256 := (s[1]'hl1).toNat_lt
 have m1 := u8_and63 ((s[1]'hl1).toNat : Int) (by omega) (by omega)
 have a1 : bits .and .u8 ((s[1]'hl1).toNat : Int) 192 = 128 := by rw [u8_and192 _ b1]; have := byte_eq hl1; omega
 have o1 := i32_or6 ((((s[0]'hl0).toNat : Int) % (32 : Int)) * 64) (((s[1]'hl1).toNat : Int) % 64) (by omega) (by omega) (by omega) (by omega) (by omega)
 have hc'' : ((((s[0]'hl0).toNat : Int) % (32 : Int)) * (64 : Int) + ((s[1]'hl1).toNat : Int) % (64 : Int) : Int) = (c : Int) := by have := byte_eq hl1; omega
 have C0 : Hid _ := Lib.hid hc''
 clear e0 hc hc' hc'' h1 h2 ht' h1' h2' ht
 have Hv : Hid _ := Lib.hid hv
 clear hv hr
 unfold maxLen at hs
 go_enter Tryz.func92, Tryz.ntmps92
 go_wp2
 go_quiet (fail)
 go_wp2
 refine wp_loop_rounds 2 ?_
 iterate 2 (rw [rounds_succ]; go_wp2_with (first | (go_at_call 115; refine (f8_any _ _ (hG.drewN _)).mono ?_; rintro e w1 ⟨rfl, hb⟩; rw [C0.out, Hv.out])))
 go_ret2
 go_light
 exact ⟨rfl, below_of_drewN hb⟩

theorem f47_3_yes (s : ByteArray) (w : World) (hG : Rng w) (hs : s.size <= maxLen) (c : Nat) (hr : Ch.raw (bts s) = some (c, 3)) (hv : Ch.valid c = true) (hk : Ch.lenN c = 3) :
  Calls Tryz.prog 92 #[.string s] w fun e w' => e = .returned (.tuple #[.int .i32 c, .int .i64 3]) /\ Below w.heap.size w w' := by
 have hcm := valid_nat hv
 obtain ⟨hlen, h1, h2, ht', hc⟩ := Ch.raw_3 hr
 rw [bts_length] at hlen
 have h1' : 224 <= gb s 0 := h1
 have h2' : gb s 0 < 240 := h2
 have ht : 128 <= gb s 1 /\ gb s 1 < 192 /\ 128 <= gb s 2 /\ gb s 2 < 192 := ht'
 have hc' : c = ((gb s 0 - 224) * 64 + (gb s 1 - 128)) * 64 + (gb s 2 - 128) := hc
 have hl0 : 0 < s.size := by omega
 have e0 := byte_eq hl0
 have t0 : 224 <= (s[0]'hl0).toNat := by omega
 have u0 : (s[0]'hl0).toNat < 240 := by omega
 have m0 := i32_and15 ((s[0]'hl0).toNat : Int) (by omega) (by omega)
 have hl1 : 1 < s.size := by omega
 have b1 : (s[1]'hl1).toNat < 256 := (s[1]'hl1).toNat_lt
 have m1 := u8_and63 ((s[1]'hl1).toNat : Int) (by omega) (by omega)
 have a1 : bits .and .u8 ((s[1]'hl1).toNat : Int) 192 = 128 := by rw [u8_and192 _ b1]; have := byte_eq hl1; omega
 have o1 := i32_or6 ((((s[0]'hl0).toNat : Int) % (16 : Int)) * 64) (((s[1]'hl1).toNat : Int) % 64) (by omega) (by omega) (by omega) (by omega) (by omega)
 have hl2 : 2 < s.size := by omega
 have b2 : (s[2]'hl2).toNat < 256 := (s[2]'hl2).toNat_lt
 have m2 := u8_and63 ((s[2]'hl2).toNat : Int) (by omega) (by omega)
 have a2 : bits .and .u8 ((s[2]'hl2).toNat : Int) 192 = 128 := by rw [u8_and192 _ b2]; have := byte_eq hl2; omega
 have o2 := i32_or6 (((((s[0]'hl0).toNat : Int) % (16 : Int)) * (64 : Int) + ((s[1]'hl1).toNat : Int) % (64 : Int)) * 64) (((s[2]'hl2).toNat : Int) % 64) (by omega) (by omega) (by omega) (by omega) (by omega)
 have hc'' : (((((s[0]'hl0).toNat : Int) % (16 : Int)) * (64 : Int) + ((s[1]'hl1).toNat : Int) % (64 : Int)) * (64 : Int) + ((s[2]'hl2).toNat : Int) % (64 : Int) : Int) = (c : Int) := by have := byte_eq hl1; have := byte_eq hl2; omega
 have C0 : Hid _ := Lib.hid hc''
 clear e0 hc hc' hc'' h1 h2 ht' h1' h2' ht
 have Hv : Hid _ := Lib.hid hv
 have HK : ((Ch.lenN c : Int) != 3) = false := by rw [hk]; rfl
 clear hk
 clear hv hr
 unfold maxLen at hs
 go_enter Tryz.func92, Tryz.ntmps92
 go_wp2
 go_quiet (fail)
 go_wp2
 refine wp_loop_rounds 3 ?_
 iterate 3 (rw [rounds_succ]; go_wp2_with (first | (go_at_call 115; refine (f8_any _ _ (hG.drewN _)).mono ?_; rintro e w1 ⟨rfl, hb⟩; rw [C0.out, Hv.out]) | (go_at_call 116; refine (f45_nil _ hcm _).mono ?_; rintro e w2 ⟨⟨g, cap, rfl, hown⟩, hb2⟩)))
 go_ret2
 go_light
 exact ⟨rfl, (below_of_drewN hb).trans (hb2.mono (below_of_drewN hb).size)⟩

theorem f47_3_long (s : ByteArray) (w : World) (hG : Rng w) (hs : s.size <= maxLen) (c : Nat) (hr : Ch.raw (bts s) = some (c, 3)) (hv : Ch.valid c = true) (hk : Ch.lenN c ≠ 3) :
  Calls Tryz.prog 92 #[.string s] w fun e w' => e = .returned (.tuple #[.int .i32 0, .int .i64 0]) /\ Below w.heap.size w w' := by
 have hcm := valid_nat hv
 obtain ⟨hlen, h1, h2, ht', hc⟩ := Ch.raw_3 hr
 rw [bts_length] at hlen
 have h1' : 224 <= gb s 0 := h1
 have h2' : gb s 0 < 240 := h2
 have ht : 128 <= gb s 1 /\ gb s 1 < 192 /\ 128 <= gb s 2 /\ gb s 2 < 192 := ht'
 have hc' : c = ((gb s 0 - 224) * 64 + (gb s 1 - 128)) * 64 + (gb s 2 - 128) := hc
 have hl0 : 0 < s.size := by omega
 have e0 := byte_eq hl0
 have t0 : 224 <= (s[0]'hl0).toNat := by omega
 have u0 : (s[0]'hl0).toNat < 240 := by omega
 have m0 := i32_and15 ((s[0]'hl0).toNat : Int) (by omega) (by omega)
 have hl1 : 1 < s.size := by omega
 have b1 : (s[1]'hl1).toNat < 256 := (s[1]'hl1).toNat_lt
 have m1 := u8_and63 ((s[1]'hl1).toNat : Int) (by omega) (by omega)
 have a1 : bits .and .u8 ((s[1]'hl1).toNat : Int) 192 = 128 := by rw [u8_and192 _ b1]; have := byte_eq hl1; omega
 have o1 := i32_or6 ((((s[0]'hl0).toNat : Int) % (16 : Int)) * 64) (((s[1]'hl1).toNat : Int) % 64) (by omega) (by omega) (by omega) (by omega) (by omega)
 have hl2 : 2 < s.size := by omega
 have b2 : (s[2]'hl2).toNat < 256 := (s[2]'hl2).toNat_lt
 have m2 := u8_and63 ((s[2]'hl2).toNat : Int) (by omega) (by omega)
 have a2 : bits .and .u8 ((s[2]'hl2).toNat : Int) 192 = 128 := by rw [u8_and192 _ b2]; have := byte_eq hl2; omega
 have o2 := i32_or6 (((((s[0]'hl0).toNat : Int) % (16 : Int)) * (64 : Int) + ((s[1]'hl1).toNat : Int) % (64 : Int)) * 64) (((s[2]'hl2).toNat : Int) % 64) (by omega) (by omega) (by omega) (by omega) (by omega)
 have hc'' : (((((s[0]'hl0).toNat : Int) % (16 : Int)) * (64 : Int) + ((s[1]'hl1).toNat : Int) % (64 : Int)) * (64 : Int) + ((s[2]'hl2).toNat : Int) % (64 : Int) : Int) = (c : Int) := by have := byte_eq hl1; have := byte_eq hl2; omega
 have C0 : Hid _ := Lib.hid hc''
 clear e0 hc hc' hc'' h1 h2 ht' h1' h2' ht
 have Hv : Hid _ := Lib.hid hv
 have HK : ((Ch.lenN c : Int) != 3) = true := by rw [bne_iff_ne]; omega
 clear hk
 clear hv hr
 unfold maxLen at hs
 go_enter Tryz.func92, Tryz.ntmps92
 go_wp2
 go_quiet (fail)
 go_wp2
 refine wp_loop_rounds 3 ?_
 iterate 3 (rw [rounds_succ]; go_wp2_with (first | (go_at_call 115; refine (f8_any _ _ (hG.drewN _)).mono ?_; rintro e w1 ⟨rfl, hb⟩; rw [C0.out, Hv.out]) | (go_at_call 116; refine (f45_nil _ hcm _).mono ?_; rintro e w2 ⟨⟨g, cap, rfl, hown⟩, hb2⟩)))
 go_ret2
 go_light
 exact ⟨rfl, (below_of_drewN hb).trans (hb2.mono (below_of_drewN hb).size)⟩

theorem f47_3_not (s : ByteArray) (w : World) (hG : Rng w) (hs : s.size <= maxLen) (c : Nat) (hr : Ch.raw (bts s) = some (c, 3)) (hv : Ch.valid c = false) :
  Calls Tryz.prog 92 #[.string s] w fun e w' => e = .returned (.tuple #[.int .i32 0, .int .i64 0]) /\ Below w.heap.size w w' := by
 obtain ⟨hlen, h1, h2, ht', hc⟩ := Ch.raw_3 hr
 rw [bts_length] at hlen
 have h1' : 224 <= gb s 0 := h1
 have h2' : gb s 0 < 240 := h2
 have ht : 128 <= gb s 1 /\ gb s 1 < 192 /\ 128 <= gb s 2 /\ gb s 2 < 192 := ht'
 have hc' : c = ((gb s 0 - 224) * 64 + (gb s 1 - 128)) * 64 + (gb s 2 - 128) := hc
 have hl0 : 0 < s.size := by omega
 have e0 := byte_eq hl0
 have t0 : 224 <= (s[0]'hl0).toNat := by omega
 have u0 : (s[0]'hl0).toNat < 240 := by omega
 have m0 := i32_and15 ((s[0]'hl0).toNat : Int) (by omega) (by omega)
 have hl1 : 1 < s.size := by omega
 have b1 : (s[1]'hl1).toNat < 256 := (s[1]'hl1).toNat_lt
 have m1 := u8_and63 ((s[1]'hl1).toNat : Int) (by omega) (by omega)
 have a1 : bits .and .u8 ((s[1]'hl1).toNat : Int) 192 = 128 := by rw [u8_and192 _ b1]; have := byte_eq hl1; omega
 have o1 := i32_or6 ((((s[0]'hl0).toNat : Int) % (16 : Int)) * 64) (((s[1]'hl1).toNat : Int) % 64) (by omega) (by omega) (by omega) (by omega) (by omega)
 have hl2 : 2 < s.size := by omega
 have b2 : (s[2]'hl2).toNat < 256 := (s[2]'hl2).toNat_lt
 have m2 := u8_and63 ((s[2]'hl2).toNat : Int) (by omega) (by omega)
 have a2 : bits .and .u8 ((s[2]'hl2).toNat : Int) 192 = 128 := by rw [u8_and192 _ b2]; have := byte_eq hl2; omega
 have o2 := i32_or6 (((((s[0]'hl0).toNat : Int) % (16 : Int)) * (64 : Int) + ((s[1]'hl1).toNat : Int) % (64 : Int)) * 64) (((s[2]'hl2).toNat : Int) % 64) (by omega) (by omega) (by omega) (by omega) (by omega)
 have hc'' : (((((s[0]'hl0).toNat : Int) % (16 : Int)) * (64 : Int) + ((s[1]'hl1).toNat : Int) % (64 : Int)) * (64 : Int) + ((s[2]'hl2).toNat : Int) % (64 : Int) : Int) = (c : Int) := by have := byte_eq hl1; have := byte_eq hl2; omega
 have C0 : Hid _ := Lib.hid hc''
 clear e0 hc hc' hc'' h1 h2 ht' h1' h2' ht
 have Hv : Hid _ := Lib.hid hv
 clear hv hr
 unfold maxLen at hs
 go_enter Tryz.func92, Tryz.ntmps92
 go_wp2
 go_quiet (fail)
 go_wp2
 refine wp_loop_rounds 3 ?_
 iterate 3 (rw [rounds_succ]; go_wp2_with (first | (go_at_call 115; refine (f8_any _ _ (hG.drewN _)).mono ?_; rintro e w1 ⟨rfl, hb⟩; rw [C0.out, Hv.out])))
 go_ret2
 go_light
 exact ⟨rfl, below_of_drewN hb⟩

theorem f47_4_yes (s : ByteArray) (w : World) (hG : Rng w) (hs : s.size <= maxLen) (c : Nat) (hr : Ch.raw (bts s) = some (c, 4)) (hv : Ch.valid c = true) (hk : Ch.lenN c = 4) :
  Calls Tryz.prog 92 #[.string s] w fun e w' => e = .returned (.tuple #[.int .i32 c, .int .i64 4]) /\ Below w.heap.size w w' := by
 have hcm := valid_nat hv
 obtain ⟨hlen, h1, h2, ht', hc⟩ := Ch.raw_4 hr
 rw [bts_length] at hlen
 have h1' : 240 <= gb s 0 := h1
 have h2' : gb s 0 < 248 := h2
 have ht : 128 <= gb s 1 /\ gb s 1 < 192 /\ 128 <= gb s 2 /\ gb s 2 < 192 /\ 128 <= gb s 3 /\ gb s 3 < 192 := ht'
 have hc' : c = (((gb s 0 - 240) * 64 + (gb s 1 - 128)) * 64 + (gb s 2 - 128)) * 64 + (gb s 3 - 128) := hc
 have hl0 : 0 < s.size := by omega
 have e0 := byte_eq hl0
 have t0 : 240 <= (s[0]'hl0).toNat := by omega
 have u0 : (s[0]'hl0).toNat < 248 := by omega
 have m0 := i32_and7 ((s[0]'hl0).toNat : Int) (by omega) (by omega)
 have hl1 : 1 < s.size := by omega
 have b1 : (s[1]'hl1).toNat < 256 := (s[1]'hl1).toNat_lt
 have m1 := u8_and63 ((s[1]'hl1).toNat : Int) (by omega) (by omega)
 have a1 : bits .and .u8 ((s[1]'hl1).toNat : Int) 192 = 128 := by rw [u8_and192 _ b1]; have := byte_eq hl1; omega
 have o1 := i32_or6 ((((s[0]'hl0).toNat : Int) % (8 : Int)) * 64) (((s[1]'hl1).toNat : Int) % 64) (by omega) (by omega) (by omega) (by omega) (by omega)
 have hl2 : 2 < s.size := by omega
 have b2 : (s[2]'hl2).toNat < 256 := (s[2]'hl2).toNat_lt
 have m2 := u8_and63 ((s[2]'hl2).toNat : Int) (by omega) (by omega)
 have a2 : bits .and .u8 ((s[2]'hl2).toNat : Int) 192 = 128 := by rw [u8_and192 _ b2]; have := byte_eq hl2; omega
 have o2 := i32_or6 (((((s[0]'hl0).toNat : Int) % (8 : Int)) * (64 : Int) + ((s[1]'hl1).toNat : Int) % (64 : Int)) * 64) (((s[2]'hl2).toNat : Int) % 64) (by omega) (by omega) (by omega) (by omega) (by omega)
 have hl3 : 3 < s.size := by omega
 have b3 : (s[3]'hl3).toNat < 256 := (s[3]'hl3).toNat_lt
 have m3 := u8_and63 ((s[3]'hl3).toNat : Int) (by omega) (by omega)
 have a3 : bits .and .u8 ((s[3]'hl3).toNat : Int) 192 = 128 := by rw [u8_and192 _ b3]; have := byte_eq hl3; omega
 have o3 := i32_or6 ((((((s[0]'hl0).toNat : Int) % (8 : Int)) * (64 : Int) + ((s[1]'hl1).toNat : Int) % (64 : Int)) * (64 : Int) + ((s[2]'hl2).toNat : Int) % (64 : Int)) * 64) (((s[3]'hl3).toNat : Int) % 64) (by omega) (by omega) (by omega) (by omega) (by omega)
 have hc'' : ((((((s[0]'hl0).toNat : Int) % (8 : Int)) * (64 : Int) + ((s[1]'hl1).toNat : Int) % (64 : Int)) * (64 : Int) + ((s[2]'hl2).toNat : Int) % (64 : Int)) * (64 : Int) + ((s[3]'hl3).toNat : Int) % (64 : Int) : Int) = (c : Int) := by have := byte_eq hl1; have := byte_eq hl2; have := byte_eq hl3; omega
 have C0 : Hid _ := Lib.hid hc''
 clear e0 hc hc' hc'' h1 h2 ht' h1' h2' ht
 have Hv : Hid _ := Lib.hid hv
 have HK : ((Ch.lenN c : Int) != 4) = false := by rw [hk]; rfl
 clear hk
 clear hv hr
 unfold maxLen at hs
 go_enter Tryz.func92, Tryz.ntmps92
 go_wp2
 go_quiet (fail)
 go_wp2
 refine wp_loop_rounds 4 ?_
 iterate 4 (rw [rounds_succ]; go_wp2_with (first | (go_at_call 115; refine (f8_any _ _ (hG.drewN _)).mono ?_; rintro e w1 ⟨rfl, hb⟩; rw [C0.out, Hv.out]) | (go_at_call 116; refine (f45_nil _ hcm _).mono ?_; rintro e w2 ⟨⟨g, cap, rfl, hown⟩, hb2⟩)))
 go_ret2
 go_light
 exact ⟨rfl, (below_of_drewN hb).trans (hb2.mono (below_of_drewN hb).size)⟩

theorem f47_4_long (s : ByteArray) (w : World) (hG : Rng w) (hs : s.size <= maxLen) (c : Nat) (hr : Ch.raw (bts s) = some (c, 4)) (hv : Ch.valid c = true) (hk : Ch.lenN c ≠ 4) :
  Calls Tryz.prog 92 #[.string s] w fun e w' => e = .returned (.tuple #[.int .i32 0, .int .i64 0]) /\ Below w.heap.size w w' := by
 have hcm := valid_nat hv
 obtain ⟨hlen, h1, h2, ht', hc⟩ := Ch.raw_4 hr
 rw [bts_length] at hlen
 have h1' : 240 <= gb s 0 := h1
 have h2' : gb s 0 < 248 := h2
 have ht : 128 <= gb s 1 /\ gb s 1 < 192 /\ 128 <= gb s 2 /\ gb s 2 < 192 /\ 128 <= gb s 3 /\ gb s 3 < 192 := ht'
 have hc' : c = (((gb s 0 - 240) * 64 + (gb s 1 - 128)) * 64 + (gb s 2 - 128)) * 64 + (gb s 3 - 128) := hc
 have hl0 : 0 < s.size := by omega
 have e0 := byte_eq hl0
 have t0 : 240 <= (s[0]'hl0).toNat := by omega
 have u0 : (s[0]'hl0).toNat < 248 := by omega
 have m0 := i32_and7 ((s[0]'hl0).toNat : Int) (by omega) (by omega)
 have hl1 : 1 < s.size := by omega
 have b1 : (s[1]'hl1).toNat < 256 := (s[1]'hl1).toNat_lt
 have m1 := u8_and63 ((s[1]'hl1).toNat : Int) (by omega) (by omega)
 have a1 : bits .and .u8 ((s[1]'hl1).toNat : Int) 192 = 128 := by rw [u8_and192 _ b1]; have := byte_eq hl1; omega
 have o1 := i32_or6 ((((s[0]'hl0).toNat : Int) % (8 : Int)) * 64) (((s[1]'hl1).toNat : Int) % 64) (by omega) (by omega) (by omega) (by omega) (by omega)
 have hl2 : 2 < s.size := by omega
 have b2 : (s[2]'hl2).toNat < 256 := (s[2]'hl2).toNat_lt
 have m2 := u8_and63 ((s[2]'hl2).toNat : Int) (by omega) (by omega)
 have a2 : bits .and .u8 ((s[2]'hl2).toNat : Int) 192 = 128 := by rw [u8_and192 _ b2]; have := byte_eq hl2; omega
 have o2 := i32_or6 (((((s[0]'hl0).toNat : Int) % (8 : Int)) * (64 : Int) + ((s[1]'hl1).toNat : Int) % (64 : Int)) * 64) (((s[2]'hl2).toNat : Int) % 64) (by omega) (by omega) (by omega) (by omega) (by omega)
 have hl3 : 3 < s.size := by omega
 have b3 : (s[3]'hl3).toNat < 256 := (s[3]'hl3).toNat_lt
 have m3 := u8_and63 ((s[3]'hl3).toNat : Int) (by omega) (by omega)
 have a3 : bits .and .u8 ((s[3]'hl3).toNat : Int) 192 = 128 := by rw [u8_and192 _ b3]; have := byte_eq hl3; omega
 have o3 := i32_or6 ((((((s[0]'hl0).toNat : Int) % (8 : Int)) * (64 : Int) + ((s[1]'hl1).toNat : Int) % (64 : Int)) * (64 : Int) + ((s[2]'hl2).toNat : Int) % (64 : Int)) * 64) (((s[3]'hl3).toNat : Int) % 64) (by omega) (by omega) (by omega) (by omega) (by omega)
 have hc'' : ((((((s[0]'hl0).toNat : Int) % (8 : Int)) * (64 : Int) + ((s[1]'hl1).toNat : Int) % (64 : Int)) * (64 : Int) + ((s[2]'hl2).toNat : Int) % (64 : Int)) * (64 : Int) + ((s[3]'hl3).toNat : Int) % (64 : Int) : Int) = (c : Int) := by have := byte_eq hl1; have := byte_eq hl2; have := byte_eq hl3; omega
 have C0 : Hid _ := Lib.hid hc''
 clear e0 hc hc' hc'' h1 h2 ht' h1' h2' ht
 have Hv : Hid _ := Lib.hid hv
 have HK : ((Ch.lenN c : Int) != 4) = true := by rw [bne_iff_ne]; omega
 clear hk
 clear hv hr
 unfold maxLen at hs
 go_enter Tryz.func92, Tryz.ntmps92
 go_wp2
 go_quiet (fail)
 go_wp2
 refine wp_loop_rounds 4 ?_
 iterate 4 (rw [rounds_succ]; go_wp2_with (first | (go_at_call 115; refine (f8_any _ _ (hG.drewN _)).mono ?_; rintro e w1 ⟨rfl, hb⟩; rw [C0.out, Hv.out]) | (go_at_call 116; refine (f45_nil _ hcm _).mono ?_; rintro e w2 ⟨⟨g, cap, rfl, hown⟩, hb2⟩)))
 go_ret2
 go_light
 exact ⟨rfl, (below_of_drewN hb).trans (hb2.mono (below_of_drewN hb).size)⟩

theorem f47_4_not (s : ByteArray) (w : World) (hG : Rng w) (hs : s.size <= maxLen) (c : Nat) (hr : Ch.raw (bts s) = some (c, 4)) (hv : Ch.valid c = false) :
  Calls Tryz.prog 92 #[.string s] w fun e w' => e = .returned (.tuple #[.int .i32 0, .int .i64 0]) /\ Below w.heap.size w w' := by
 obtain ⟨hlen, h1, h2, ht', hc⟩ := Ch.raw_4 hr
 rw [bts_length] at hlen
 have h1' : 240 <= gb s 0 := h1
 have h2' : gb s 0 < 248 := h2
 have ht : 128 <= gb s 1 /\ gb s 1 < 192 /\ 128 <= gb s 2 /\ gb s 2 < 192 /\ 128 <= gb s 3 /\ gb s 3 < 192 := ht'
 have hc' : c = (((gb s 0 - 240) * 64 + (gb s 1 - 128)) * 64 + (gb s 2 - 128)) * 64 + (gb s 3 - 128) := hc
 have hl0 : 0 < s.size := by omega
 have e0 := byte_eq hl0
 have t0 : 240 <= (s[0]'hl0).toNat := by omega
 have u0 : (s[0]'hl0).toNat < 248 := by omega
 have m0 := i32_and7 ((s[0]'hl0).toNat : Int) (by omega) (by omega)
 have hl1 : 1 < s.size := by omega
 have b1 : (s[1]'hl1).toNat < 256 := (s[1]'hl1).toNat_lt
 have m1 := u8_and63 ((s[1]'hl1).toNat : Int) (by omega) (by omega)
 have a1 : bits .and .u8 ((s[1]'hl1).toNat : Int) 192 = 128 := by rw [u8_and192 _ b1]; have := byte_eq hl1; omega
 have o1 := i32_or6 ((((s[0]'hl0).toNat : Int) % (8 : Int)) * 64) (((s[1]'hl1).toNat : Int) % 64) (by omega) (by omega) (by omega) (by omega) (by omega)
 have hl2 : 2 < s.size := by omega
 have b2 : (s[2]'hl2).toNat < 256 := (s[2]'hl2).toNat_lt
 have m2 := u8_and63 ((s[2]'hl2).toNat : Int) (by omega) (by omega)
 have a2 : bits .and .u8 ((s[2]'hl2).toNat : Int) 192 = 128 := by rw [u8_and192 _ b2]; have := byte_eq hl2; omega
 have o2 := i32_or6 (((((s[0]'hl0).toNat : Int) % (8 : Int)) * (64 : Int) + ((s[1]'hl1).toNat : Int) % (64 : Int)) * 64) (((s[2]'hl2).toNat : Int) % 64) (by omega) (by omega) (by omega) (by omega) (by omega)
 have hl3 : 3 < s.size := by omega
 have b3 : (s[3]'hl3).toNat < 256 := (s[3]'hl3).toNat_lt
 have m3 := u8_and63 ((s[3]'hl3).toNat : Int) (by omega) (by omega)
 have a3 : bits .and .u8 ((s[3]'hl3).toNat : Int) 192 = 128 := by rw [u8_and192 _ b3]; have := byte_eq hl3; omega
 have o3 := i32_or6 ((((((s[0]'hl0).toNat : Int) % (8 : Int)) * (64 : Int) + ((s[1]'hl1).toNat : Int) % (64 : Int)) * (64 : Int) + ((s[2]'hl2).toNat : Int) % (64 : Int)) * 64) (((s[3]'hl3).toNat : Int) % 64) (by omega) (by omega) (by omega) (by omega) (by omega)
 have hc'' : ((((((s[0]'hl0).toNat : Int) % (8 : Int)) * (64 : Int) + ((s[1]'hl1).toNat : Int) % (64 : Int)) * (64 : Int) + ((s[2]'hl2).toNat : Int) % (64 : Int)) * (64 : Int) + ((s[3]'hl3).toNat : Int) % (64 : Int) : Int) = (c : Int) := by have := byte_eq hl1; have := byte_eq hl2; have := byte_eq hl3; omega
 have C0 : Hid _ := Lib.hid hc''
 clear e0 hc hc' hc'' h1 h2 ht' h1' h2' ht
 have Hv : Hid _ := Lib.hid hv
 clear hv hr
 unfold maxLen at hs
 go_enter Tryz.func92, Tryz.ntmps92
 go_wp2
 go_quiet (fail)
 go_wp2
 refine wp_loop_rounds 4 ?_
 iterate 4 (rw [rounds_succ]; go_wp2_with (first | (go_at_call 115; refine (f8_any _ _ (hG.drewN _)).mono ?_; rintro e w1 ⟨rfl, hb⟩; rw [C0.out, Hv.out])))
 go_ret2
 go_light
 exact ⟨rfl, below_of_drewN hb⟩

theorem f47_low (s : ByteArray) (w : World) (hl0 : 0 < s.size) (h1 : 128 <= gb s 0) (h2 : gb s 0 < 192) :
  Calls Tryz.prog 92 #[.string s] w fun e w' => e = .returned (.tuple #[.int .i32 0, .int .i64 0]) /\ Below w.heap.size w w' := by
 have e0 := byte_eq hl0
 have t0 : 128 <= (s[0]'hl0).toNat := by omega
 have u0 : (s[0]'hl0).toNat < 192 := by omega
 clear h2
 clear e0 h1
 go_enter Tryz.func92, Tryz.ntmps92
 go_wp2
 go_quiet (fail)
 go_wp2
 go_ret2
 go_light
 exact ⟨rfl, below_drewN (Below.refl _ _) _⟩

theorem f47_high (s : ByteArray) (w : World) (hl0 : 0 < s.size) (h1 : 248 <= gb s 0) :
  Calls Tryz.prog 92 #[.string s] w fun e w' => e = .returned (.tuple #[.int .i32 0, .int .i64 0]) /\ Below w.heap.size w w' := by
 have e0 := byte_eq hl0
 have t0 : 248 <= (s[0]'hl0).toNat := by omega
 have u0 : (s[0]'hl0).toNat < 256 := (s[0]'hl0).toNat_lt
 clear e0 h1
 go_enter Tryz.func92, Tryz.ntmps92
 go_wp2
 go_quiet (fail)
 go_wp2
 go_ret2
 go_light
 exact ⟨rfl, below_drewN (Below.refl _ _) _⟩

theorem f47_2_no (s : ByteArray) (w : World) (hs : s.size <= maxLen) (hl0 : 0 < s.size) (h1 : 192 <= gb s 0) (h2 : gb s 0 < 224) (hno : ¬ (2 <= s.size /\ 128 <= gb s 1 /\ gb s 1 < 192)) :
  Calls Tryz.prog 92 #[.string s] w fun e w' => e = .returned (.tuple #[.int .i32 0, .int .i64 0]) /\ Below w.heap.size w w' := by
 have e0 := byte_eq hl0
 have t0 : 192 <= (s[0]'hl0).toNat := by omega
 have u0 : (s[0]'hl0).toNat < 224 := by omega
 have HN : Hid _ := Lib.hid hno
 clear e0 h1 h2 hno
 unfold maxLen at hs
 by_cases hlen : 2 <= s.size
 ·have hno := HN.out
  have m0 := i32_and31 ((s[0]'hl0).toNat : Int) (by omega) (by omega)
  have hl1 : 1 < s.size := by omega
  have b1 : (s[1]'hl1).toNat < 256 := (s[1]'hl1).toNat_lt
  have m1 := u8_and63 ((s[1]'hl1).toNat : Int) (by omega) (by omega)
  have a1 := u8_and192 _ b1
  have x1 : (((s[1]'hl1).toNat : Int) / 64 * 64 != 128) = true := by rw [bne_iff_ne]; have := byte_eq hl1; omega
  clear hno 
  go_enter Tryz.func92, Tryz.ntmps92
  go_wp2
  go_quiet (fail)
  go_wp2
  refine wp_loop_rounds 2 ?_
  iterate 1 (rw [rounds_succ]; go_wp2)
  go_ret2
  go_light
  exact ⟨rfl, below_drewN (Below.refl _ _) _⟩
 ·go_enter Tryz.func92, Tryz.ntmps92
  go_wp2
  go_quiet (fail)
  go_wp2
  go_ret2
  go_light
  exact ⟨rfl, below_drewN (Below.refl _ _) _⟩

theorem f47_3_no (s : ByteArray) (w : World) (hs : s.size <= maxLen) (hl0 : 0 < s.size) (h1 : 224 <= gb s 0) (h2 : gb s 0 < 240) (hno : ¬ (3 <= s.size /\ 128 <= gb s 1 /\ gb s 1 < 192 /\ 128 <= gb s 2 /\ gb s 2 < 192)) :
  Calls Tryz.prog 92 #[.string s] w fun e w' => e = .returned (.tuple #[.int .i32 0, .int .i64 0]) /\ Below w.heap.size w w' := by
 have e0 := byte_eq hl0
 have t0 : 224 <= (s[0]'hl0).toNat := by omega
 have u0 : (s[0]'hl0).toNat < 240 := by omega
 have HN : Hid _ := Lib.hid hno
 clear e0 h1 h2 hno
 unfold maxLen at hs
 by_cases hlen : 3 <= s.size
 ·have hno := HN.out
  have m0 := i32_and15 ((s[0]'hl0).toNat : Int) (by omega) (by omega)
  have hl1 : 1 < s.size := by omega
  have b1 : (s[1]'hl1).toNat < 256 := (s[1]'hl1).toNat_lt
  have m1 := u8_and63 ((s[1]'hl1).toNat : Int) (by omega) (by omega)
  have a1 := u8_and192 _ b1
  have o1 := i32_or6 ((((s[0]'hl0).toNat : Int) % (16 : Int)) * 64) (((s[1]'hl1).toNat : Int) % 64) (by omega) (by omega) (by omega) (by omega) (by omega)
  have hl2 : 2 < s.size := by omega
  have b2 : (s[2]'hl2).toNat < 256 := (s[2]'hl2).toNat_lt
  have m2 := u8_and63 ((s[2]'hl2).toNat : Int) (by omega) (by omega)
  have a2 := u8_and192 _ b2
  by_cases q1 : 128 <= gb s 1 /\ gb s 1 < 192
  ·have x1 : (((s[1]'hl1).toNat : Int) / 64 * 64 != 128) = false := by rw [bne_eq_false_iff_eq]; have := byte_eq hl1; omega
   have x2 : (((s[2]'hl2).toNat : Int) / 64 * 64 != 128) = true := by rw [bne_iff_ne]; have := byte_eq hl2; omega
   clear hno q1
   go_enter Tryz.func92, Tryz.ntmps92
   go_wp2
   go_quiet (fail)
   go_wp2
   refine wp_loop_rounds 3 ?_
   iterate 2 (rw [rounds_succ]; go_wp2)
   go_ret2
   go_light
   exact ⟨rfl, below_drewN (Below.refl _ _) _⟩
  ·have x1 : (((s[1]'hl1).toNat : Int) / 64 * 64 != 128) = true := by rw [bne_iff_ne]; have := byte_eq hl1; omega
   clear hno q1
   go_enter Tryz.func92, Tryz.ntmps92
   go_wp2
   go_quiet (fail)
   go_wp2
   refine wp_loop_rounds 3 ?_
   iterate 1 (rw [rounds_succ]; go_wp2)
   go_ret2
   go_light
   exact ⟨rfl, below_drewN (Below.refl _ _) _⟩
 ·go_enter Tryz.func92, Tryz.ntmps92
  go_wp2
  go_quiet (fail)
  go_wp2
  go_ret2
  go_light
  exact ⟨rfl, below_drewN (Below.refl _ _) _⟩

theorem f47_4_no (s : ByteArray) (w : World) (hs : s.size <= maxLen) (hl0 : 0 < s.size) (h1 : 240 <= gb s 0) (h2 : gb s 0 < 248) (hno : ¬ (4 <= s.size /\ 128 <= gb s 1 /\ gb s 1 < 192 /\ 128 <= gb s 2 /\ gb s 2 < 192 /\ 128 <= gb s 3 /\ gb s 3 < 192)) :
  Calls Tryz.prog 92 #[.string s] w fun e w' => e = .returned (.tuple #[.int .i32 0, .int .i64 0]) /\ Below w.heap.size w w' := by
 have e0 := byte_eq hl0
 have t0 : 240 <= (s[0]'hl0).toNat := by omega
 have u0 : (s[0]'hl0).toNat < 248 := by omega
 have HN : Hid _ := Lib.hid hno
 clear e0 h1 h2 hno
 unfold maxLen at hs
 by_cases hlen : 4 <= s.size
 ·have hno := HN.out
  have m0 := i32_and7 ((s[0]'hl0).toNat : Int) (by omega) (by omega)
  have hl1 : 1 < s.size := by omega
  have b1 : (s[1]'hl1).toNat < 256 := (s[1]'hl1).toNat_lt
  have m1 := u8_and63 ((s[1]'hl1).toNat : Int) (by omega) (by omega)
  have a1 := u8_and192 _ b1
  have o1 := i32_or6 ((((s[0]'hl0).toNat : Int) % (8 : Int)) * 64) (((s[1]'hl1).toNat : Int) % 64) (by omega) (by omega) (by omega) (by omega) (by omega)
  have hl2 : 2 < s.size := by omega
  have b2 : (s[2]'hl2).toNat < 256 := (s[2]'hl2).toNat_lt
  have m2 := u8_and63 ((s[2]'hl2).toNat : Int) (by omega) (by omega)
  have a2 := u8_and192 _ b2
  have o2 := i32_or6 (((((s[0]'hl0).toNat : Int) % (8 : Int)) * (64 : Int) + ((s[1]'hl1).toNat : Int) % (64 : Int)) * 64) (((s[2]'hl2).toNat : Int) % 64) (by omega) (by omega) (by omega) (by omega) (by omega)
  have hl3 : 3 < s.size := by omega
  have b3 : (s[3]'hl3).toNat < 256 := (s[3]'hl3).toNat_lt
  have m3 := u8_and63 ((s[3]'hl3).toNat : Int) (by omega) (by omega)
  have a3 := u8_and192 _ b3
  by_cases q1 : 128 <= gb s 1 /\ gb s 1 < 192
  ·have x1 : (((s[1]'hl1).toNat : Int) / 64 * 64 != 128) = false := by rw [bne_eq_false_iff_eq]; have := byte_eq hl1; omega
   by_cases q2 : 128 <= gb s 2 /\ gb s 2 < 192
   ·have x2 : (((s[2]'hl2).toNat : Int) / 64 * 64 != 128) = false := by rw [bne_eq_false_iff_eq]; have := byte_eq hl2; omega
    have x3 : (((s[3]'hl3).toNat : Int) / 64 * 64 != 128) = true := by rw [bne_iff_ne]; have := byte_eq hl3; omega
    clear hno q1 q2
    go_enter Tryz.func92, Tryz.ntmps92
    go_wp2
    go_quiet (fail)
    go_wp2
    refine wp_loop_rounds 4 ?_
    iterate 3 (rw [rounds_succ]; go_wp2)
    go_ret2
    go_light
    exact ⟨rfl, below_drewN (Below.refl _ _) _⟩
   ·have x2 : (((s[2]'hl2).toNat : Int) / 64 * 64 != 128) = true := by rw [bne_iff_ne]; have := byte_eq hl2; omega
    clear hno q2
    go_enter Tryz.func92, Tryz.ntmps92
    go_wp2
    go_quiet (fail)
    go_wp2
    refine wp_loop_rounds 4 ?_
    iterate 2 (rw [rounds_succ]; go_wp2)
    go_ret2
    go_light
    exact ⟨rfl, below_drewN (Below.refl _ _) _⟩
  ·have x1 : (((s[1]'hl1).toNat : Int) / 64 * 64 != 128) = true := by rw [bne_iff_ne]; have := byte_eq hl1; omega
   clear hno q1
   go_enter Tryz.func92, Tryz.ntmps92
   go_wp2
   go_quiet (fail)
   go_wp2
   refine wp_loop_rounds 4 ?_
   iterate 1 (rw [rounds_succ]; go_wp2)
   go_ret2
   go_light
   exact ⟨rfl, below_drewN (Below.refl _ _) _⟩
 ·go_enter Tryz.func92, Tryz.ntmps92
  go_wp2
  go_quiet (fail)
  go_wp2
  go_ret2
  go_light
  exact ⟨rfl, below_drewN (Below.refl _ _) _⟩

theorem f47_some (s : ByteArray) (w : World) (hG : Rng w) (hs : s.size <= maxLen) (c n : Nat) (hd : Ch.dec (bts s) = some (c, n)) :
  Calls Tryz.prog 92 #[.string s] w fun e w' => e = .returned (.tuple #[.int .i32 c, .int .i64 n]) /\ Below w.heap.size w w' := by
 obtain ⟨hr, hv, hn⟩ := Ch.dec_some hd
 obtain ⟨h1, h4, _⟩ := Ch.raw_le hr
 obtain rfl | rfl | rfl | rfl : n = 1 \/ n = 2 \/ n = 3 \/ n = 4 := by omega
 ·exact f47_1_yes s w hG hs c hr hv hn
 ·exact f47_2_yes s w hG hs c hr hv hn
 ·exact f47_3_yes s w hG hs c hr hv hn
 ·exact f47_4_yes s w hG hs c hr hv hn
theorem f47_none (s : ByteArray) (w : World) (hG : Rng w) (hs : s.size <= maxLen) (hl0 : 0 < s.size) (hd : Ch.dec (bts s) = none) :
  Calls Tryz.prog 92 #[.string s] w fun e w' => e = .returned (.tuple #[.int .i32 0, .int .i64 0]) /\ Below w.heap.size w w' := by
 cases hr : Ch.raw (bts s) with
 | none =>
  rcases Ch.raw_none hr with h0 | ⟨hl, ⟨h1, h2⟩ | h1 | ⟨h1, h2, h3⟩ | ⟨h1, h2, h3⟩ | ⟨h1, h2, h3⟩⟩
  ·rw [bts_length] at h0; omega
  ·exact f47_low s w hl0 h1 h2
  ·exact f47_high s w hl0 h1
  all_goals rw [bts_length] at h3
  ·exact f47_2_no s w hs hl0 h1 h2 h3
  ·exact f47_3_no s w hs hl0 h1 h2 h3
  ·exact f47_4_no s w hs hl0 h1 h2 h3
 | some p =>
  obtain ⟨c, n⟩ := p
  have hg : Ch.good c n = false := by
   cases hg : Ch.good c n
   ·rfl
   ·unfold Ch.dec at hd; rw [hr] at hd; simp only [hg, if_true] at hd; cases hd
  obtain ⟨h1, h4, _⟩ := Ch.raw_le hr
  cases hv : Ch.valid c
  ·obtain rfl | rfl | rfl | rfl : n = 1 \/ n = 2 \/ n = 3 \/ n = 4 := by omega
   ·exact f47_1_not s w hG hs c hr hv
   ·exact f47_2_not s w hG hs c hr hv
   ·exact f47_3_not s w hG hs c hr hv
   ·exact f47_4_not s w hG hs c hr hv
  ·have hk : Ch.lenN c ≠ n := by
    intro e; rw [Ch.good, hv, Bool.true_and, decide_eq_true e] at hg; cases hg
   obtain rfl | rfl | rfl | rfl : n = 1 \/ n = 2 \/ n = 3 \/ n = 4 := by omega
   ·exfalso
    obtain ⟨_, hc, e⟩ := Ch.raw_1 hr
    apply hk; unfold Ch.lenN; rw [if_pos (by omega)]
   ·exact f47_2_long s w hG hs c hr hv hk
   ·exact f47_3_long s w hG hs c hr hv hk
   ·exact f47_4_long s w hG hs c hr hv hk
end Go.Proofs.YthoojcdjjecogaaGreatDoor
