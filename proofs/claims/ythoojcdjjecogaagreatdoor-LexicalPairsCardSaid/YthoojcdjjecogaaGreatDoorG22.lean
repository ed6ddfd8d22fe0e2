/-
  Part 22 of the proof: what functions return, and plain facts (Cplain Cplain2 Ckinds Cput Cstr Cmore Cnext). Conditions: each theorem names its own.
-/
import Derived.WalkKit
import Derived.WalkLawsBesides
import Derived.WalkSpells
import Derived.LoopTactic
import Derived.Outline
import Derived.LoopN
import Derived.Deep.Light
import Derived.Lib.Hide
import Derived.Laws.Rows
import Derived.Test.YthoojcdjjecogaaGreatDoorG03
import Derived.Laws.AppendOwn
import Derived.OwnWalk
import Derived.Laws.BitsLemmas
import Derived.Laws.Shifts
import Derived.Deep.DeepMust
import Derived.Laws.BytesString
import Derived.Laws.Cells
import Derived.Deep.QuietTactic
import Derived.BigQuiet
import Derived.WalkSmall
set_option maxRecDepth 1000000
set_option maxHeartbeats 16000000
namespace Go.Proofs.YthoojcdjjecogaaGreatDoor.Ch

def valid (c : Int) : Bool := decide (c = 9) || decide (c = 10) || decide (c = 13) || (decide (32 <= c) && decide (c <= 55295)) || (decide (57344 <= c) && decide (c <= 65533)) || (decide (65536 <= c) && decide (c <= 1114111))
def blank (c : Int) : Bool := decide (c = 9) || decide (c = 10) || decide (c = 13) || decide (c = 32)
def first (c : Int) : Bool := (decide (97 <= c) && decide (c <= 122)) || (decide (65 <= c) && decide (c <= 90)) || decide (c = 95) || (decide (192 <= c) && !decide (c = 215) && !decide (c = 247) && valid c)
def encN (n : Nat) : List Nat :=
 if n < 128 then [n]
 else if n < 2048 then [192 + n / 64, 128 + n % 64]
 else if n < 65536 then [224 + n / 4096, 128 + n / 64 % 64, 128 + n % 64]
 else [240 + n / 262144, 128 + n / 4096 % 64, 128 + n / 64 % 64, 128 + n % 64]
def lenN (n : Nat) : Nat := if n < 128 then 1 else if n < 2048 then 2 else if n < 65536 then 3 else 4
theorem encN_length (n : Nat) : (encN n).length = lenN n := by
 unfold encN lenN; split
 ·rfl
 ·split
  ·rfl
  ·split <;> rfl

def raw (l : List Nat) : Option (Nat × Nat) :=
 if l.length = 0 then none
 else if l.getD 0 0 < 128 then some (l.getD 0 0, 1)
 else if l.getD 0 0 < 192 then none
 else if l.getD 0 0 < 224 then
  (if 2 <= l.length /\ 128 <= l.getD 1 0 /\ l.getD 1 0 < 192 then some ((l.getD 0 0 - 192) * 64 + (l.getD 1 0 - 128), 2) else none)
 else if l.getD 0 0 < 240 then
  (if 3 <= l.length /\ 128 <= l.getD 1 0 /\ l.getD 1 0 < 192 /\ 128 <= l.getD 2 0 /\ l.getD 2 0 < 192 then
   some (((l.getD 0 0 - 224) * 64 + (l.getD 1 0 - 128)) * 64 + (l.getD 2 0 - 128), 3) else none)
 else if l.getD 0 0 < 248 then
  (if 4 <= l.length /\ 128 <= l.getD 1 0 /\ l.getD 1 0 < 192 /\ 128 <= l.getD 2 0 /\ l.getD 2 0 < 192 /\ 128 <= l.getD 3 0 /\ l.getD 3 0 < 192 then
   some ((((l.getD 0 0 - 240) * 64 + (l.getD 1 0 - 128)) * 64 + (l.getD 2 0 - 128)) * 64 + (l.getD 3 0 - 128), 4) else none)
 else none

def good (c n : Nat) : Bool := valid (c : Int) && decide (lenN c = n)
def dec (l : List Nat) : Option (Nat × Nat) :=
 match raw l with
 | none => none
 | some (c, n) => if good c n then some (c, n) else none

theorem raw_le {l : List Nat} {c n : Nat} (h : raw l = some (c, n)) : 1 <= n /\ n <= 4 /\ n <= l.length := by
 unfold raw at h
 by_cases h0 : l.length = 0
 ·rw [if_pos h0] at h; cases h
 rw [if_neg h0] at h
 by_cases h1 : l.getD 0 0 < 128
 ·rw [if_pos h1] at h; simp only [Option.some.injEq, Prod.mk.injEq] at h; omega
 rw [if_neg h1] at h
 by_cases h2 : l.getD 0 0 < 192
 ·rw [if_pos h2] at h; cases h
 rw [if_neg h2] at h
 by_cases h3 : l.getD 0 0 < 224
 ·rw [if_pos h3] at h; split at h
  ·simp only [Option.some.injEq, Prod.mk.injEq] at h; omega
  ·cases h
 rw [if_neg h3] at h
 by_cases h4 : l.getD 0 0 < 240
 ·rw [if_pos h4] at h; split at h
  ·simp only [Option.some.injEq, Prod.mk.injEq] at h; omega
  ·cases h
 rw [if_neg h4] at h
 by_cases h5 : l.getD 0 0 < 248
 ·rw [if_pos h5] at h; split at h
  ·simp only [Option.some.injEq, Prod.mk.injEq] at h; omega
  ·cases h
 rw [if_neg h5] at h; cases h

theorem dec_some {l : List Nat} {c n : Nat} (h : dec l = some (c, n)) : raw l = some (c, n) /\ valid (c : Int) = true /\ lenN c = n := by
 unfold dec at h
 split at h
 ·cases h
 ·rename_i c' n' hr
  split at h
  ·rename_i hv
   simp only [Option.some.injEq, Prod.mk.injEq] at h
   obtain ⟨rfl, rfl⟩ := h
   simp only [good, Bool.and_eq_true, decide_eq_true_eq] at hv
   exact ⟨hr, hv.1, hv.2⟩
  ·cases h
theorem dec_le {l : List Nat} {c n : Nat} (h : dec l = some (c, n)) : 1 <= n /\ n <= 4 /\ n <= l.length := raw_le (dec_some h).1

def items : Nat -> List Nat -> Nat -> List (Nat × Int)
 | 0, _, _ => []
 | f + 1, l, i =>
  if l = [] then [] else
  match dec l with
  | none => [(i, -1)]
  | some (c, n) => (i, (c : Int)) :: items f (l.drop n) (i + n)

end Go.Proofs.YthoojcdjjecogaaGreatDoor.Ch
namespace Go.Proofs.YthoojcdjjecogaaGreatDoor.Ch

theorem valid_le {c : Int} (h : valid c = true) : 0 <= c /\ c <= 1114111 := by
 simp [valid] at h; omega
theorem lenN_pos (n : Nat) : 1 <= lenN n /\ lenN n <= 4 := by
 unfold lenN; split
 ·omega
 ·split
  ·omega
  ·split <;> omega

theorem raw_cases {l : List Nat} {c n : Nat} (h : raw l = some (c, n)) :
  (∃ b r, l = b :: r /\ b < 128 /\ c = b /\ n = 1) \/
  (∃ b b1 r, l = b :: b1 :: r /\ 192 <= b /\ b < 224 /\ 128 <= b1 /\ b1 < 192 /\ c = (b - 192) * 64 + (b1 - 128) /\ n = 2) \/
  (∃ b b1 b2 r, l = b :: b1 :: b2 :: r /\ 224 <= b /\ b < 240 /\ 128 <= b1 /\ b1 < 192 /\ 128 <= b2 /\ b2 < 192 /\ c = ((b - 224) * 64 + (b1 - 128)) * 64 + (b2 - 128) /\ n = 3) \/
  (∃ b b1 b2 b3 r, l = b :: b1 :: b2 :: b3 :: r /\ 240 <= b /\ b < 248 /\ 128 <= b1 /\ b1 < 192 /\ 128 <= b2 /\ b2 < 192 /\ 128 <= b3 /\ b3 < 192 /\ c = (((b - 240) * 64 + (b1 - 128)) * 64 + (b2 - 128)) * 64 + (b3 - 128) /\ n = 4) := by
 unfold raw at h
 by_cases h0 : l.length = 0
 ·rw [if_pos h0] at h; cases h
 rw [if_neg h0] at h
 obtain ⟨b, r, rfl⟩ : ∃ b r, l = b :: r := by cases l with | nil => simp at h0 | cons b r => exact ⟨b, r, rfl⟩
 simp only [List.getD_cons_zero, List.length_cons] at h
 by_cases h1 : b < 128
 ·rw [if_pos h1] at h; simp only [Option.some.injEq, Prod.mk.injEq] at h
  exact .inl ⟨b, r, rfl, h1, by omega, by omega⟩
 rw [if_neg h1] at h
 by_cases h2 : b < 192
 ·rw [if_pos h2] at h; cases h
 rw [if_neg h2] at h
 by_cases h3 : b < 224
 ·rw [if_pos h3] at h; split at h
  ·rename_i hc
   obtain ⟨b1, r, rfl⟩ : ∃ b1 r', r = b1 :: r' := by cases r with | nil => simp at hc | cons b r => exact ⟨b, r, rfl⟩
   simp only [Option.some.injEq, Prod.mk.injEq, List.getD_cons_succ, List.getD_cons_zero] at h hc
   exact .inr (.inl ⟨b, b1, r, rfl, by omega, by omega, by omega, by omega, by omega, by omega⟩)
  ·cases h
 rw [if_neg h3] at h
 by_cases h4 : b < 240
 ·rw [if_pos h4] at h; split at h
  ·rename_i hc
   obtain ⟨b1, r, rfl⟩ : ∃ b1 r', r = b1 :: r' := by cases r with | nil => simp at hc | cons b r => exact ⟨b, r, rfl⟩
   obtain ⟨b2, r, rfl⟩ : ∃ b1 r', r = b1 :: r' := by cases r with | nil => simp at hc | cons b r => exact ⟨b, r, rfl⟩
   simp only [Option.some.injEq, Prod.mk.injEq, List.getD_cons_succ, List.getD_cons_zero] at h hc
   exact .inr (.inr (.inl ⟨b, b1, b2, r, rfl, by omega, by omega, by omega, by omega, by omega, by omega, by omega, by omega⟩))
  ·cases h
 rw [if_neg h4] at h
 by_cases h5 : b < 248
 ·rw [if_pos h5] at h; split at h
  ·rename_i hc
   obtain ⟨b1, r, rfl⟩ : ∃ b1 r', r = b1 :: r' := by cases r with | nil => simp at hc | cons b r => exact ⟨b, r, rfl⟩
   obtain ⟨b2, r, rfl⟩ : ∃ b1 r', r = b1 :: r' := by cases r with | nil => simp at hc | cons b r => exact ⟨b, r, rfl⟩
   obtain ⟨b3, r, rfl⟩ : ∃ b1 r', r = b1 :: r' := by cases r with | nil => simp at hc | cons b r => exact ⟨b, r, rfl⟩
   simp only [Option.some.injEq, Prod.mk.injEq, List.getD_cons_succ, List.getD_cons_zero] at h hc
   exact .inr (.inr (.inr ⟨b, b1, b2, b3, r, rfl, by omega, by omega, by omega, by omega, by omega, by omega, by omega, by omega, by omega, by omega⟩))
  ·cases h
 rw [if_neg h5] at h; cases h

theorem lenN_lt {c k : Nat} : lenN c = k -> (k = 1 -> c < 128) /\ (k = 2 -> 128 <= c /\ c < 2048) /\ (k = 3 -> 2048 <= c /\ c < 65536) /\ (k = 4 -> 65536 <= c) := by
 rintro rfl
 unfold lenN
 by_cases h1 : c < 128
 ·rw [if_pos h1]; omega
 ·rw [if_neg h1]
  by_cases h2 : c < 2048
  ·rw [if_pos h2]; omega
  ·rw [if_neg h2]
   by_cases h3 : c < 65536
   ·rw [if_pos h3]; omega
   ·rw [if_neg h3]; omega

theorem take_enc {l : List Nat} {c n : Nat} (h : raw l = some (c, n)) (hn : lenN c = n) : l.take n = encN c := by
 have hl := lenN_lt hn
 rcases raw_cases h with ⟨b, r, rfl, h1, hc, en⟩ | ⟨b, b1, r, rfl, h1, h2, h3, h4, hc, en⟩ | ⟨b, b1, b2, r, rfl, h1, h2, h3, h4, h5, h6, hc, en⟩ | ⟨b, b1, b2, b3, r, rfl, h1, h2, h3, h4, h5, h6, h7, h8, hc, en⟩
 ·rw [en]; unfold encN; rw [if_pos (by omega), hc]; rfl
 ·rw [en]; unfold encN; rw [if_neg (by omega), if_pos (by omega)]
  simp only [List.take_succ_cons, List.take_zero, List.cons.injEq, and_true]; omega
 ·rw [en]; unfold encN; rw [if_neg (by omega), if_neg (by omega), if_pos (by omega)]
  simp only [List.take_succ_cons, List.take_zero, List.cons.injEq, and_true]; omega
 ·rw [en]; unfold encN; rw [if_neg (by omega), if_neg (by omega), if_neg (by omega)]
  simp only [List.take_succ_cons, List.take_zero, List.cons.injEq, and_true]; omega

theorem take_not_enc {l : List Nat} {c n : Nat} (h : raw l = some (c, n)) (hn : lenN c ≠ n) : lenN c <= l.length /\ l.take (lenN c) ≠ encN c := by
 obtain ⟨k, hk⟩ : ∃ k, lenN c = k := ⟨_, rfl⟩
 have hl := lenN_lt hk
 have hp := lenN_pos c
 have hr := raw_le h
 have he : (encN c).head? = (l.take (lenN c)).head? -> False := by
  obtain ⟨x, y, hx⟩ : ∃ x y, lenN c = x + 1 /\ y = x := ⟨lenN c - 1, _, by omega, rfl⟩
  rcases raw_cases h with ⟨b, r, rfl, h1, hc, en⟩ | ⟨b, b1, r, rfl, h1, h2, h3, h4, hc, en⟩ | ⟨b, b1, b2, r, rfl, h1, h2, h3, h4, h5, h6, hc, en⟩ | ⟨b, b1, b2, b3, r, rfl, h1, h2, h3, h4, h5, h6, h7, h8, hc, en⟩
  all_goals
   rw [hx.1, List.take_succ_cons]
   unfold encN
   intro hh
   split at hh
   ·simp only [List.head?_cons, Option.some.injEq] at hh; omega
   ·split at hh
    ·simp only [List.head?_cons, Option.some.injEq] at hh; omega
    ·split at hh
     ·simp only [List.head?_cons, Option.some.injEq] at hh; omega
     ·simp only [List.head?_cons, Option.some.injEq] at hh; omega
 refine ⟨?_, fun e => he (by rw [e])⟩
 rcases raw_cases h with ⟨b, r, rfl, h1, hc, en⟩ | ⟨b, b1, r, rfl, h1, h2, h3, h4, hc, en⟩ | ⟨b, b1, b2, r, rfl, h1, h2, h3, h4, h5, h6, hc, en⟩ | ⟨b, b1, b2, b3, r, rfl, h1, h2, h3, h4, h5, h6, h7, h8, hc, en⟩
 all_goals
  simp only [List.length_cons]
  omega

theorem raw_1 {l : List Nat} {c : Nat} (h : raw l = some (c, 1)) : 1 <= l.length /\ l.getD 0 0 < 128 /\ c = l.getD 0 0 := by
 rcases raw_cases h with ⟨b, r, rfl, h1, hc, en⟩ | ⟨b, b1, r, rfl, h1, h2, h3, h4, hc, en⟩ | ⟨b, b1, b2, r, rfl, h1, h2, h3, h4, h5, h6, hc, en⟩ | ⟨b, b1, b2, b3, r, rfl, h1, h2, h3, h4, h5, h6, h7, h8, hc, en⟩ <;> simp at en ⊢ <;> omega
theorem raw_2 {l : List Nat} {c : Nat} (h : raw l = some (c, 2)) : 2 <= l.length /\ 192 <= l.getD 0 0 /\ l.getD 0 0 < 224 /\ (128 <= l.getD 1 0 /\ l.getD 1 0 < 192) /\ c = (l.getD 0 0 - 192) * 64 + (l.getD 1 0 - 128) := by
 rcases raw_cases h with ⟨b, r, rfl, h1, hc, en⟩ | ⟨b, b1, r, rfl, h1, h2, h3, h4, hc, en⟩ | ⟨b, b1, b2, r, rfl, h1, h2, h3, h4, h5, h6, hc, en⟩ | ⟨b, b1, b2, b3, r, rfl, h1, h2, h3, h4, h5, h6, h7, h8, hc, en⟩ <;> simp at en ⊢ <;> omega
theorem raw_3 {l : List Nat} {c : Nat} (h : raw l = some (c, 3)) : 3 <= l.length /\ 224 <= l.getD 0 0 /\ l.getD 0 0 < 240 /\ (128 <= l.getD 1 0 /\ l.getD 1 0 < 192 /\ 128 <= l.getD 2 0 /\ l.getD 2 0 < 192) /\ c = ((l.getD 0 0 - 224) * 64 + (l.getD 1 0 - 128)) * 64 + (l.getD 2 0 - 128) := by
 rcases raw_cases h with ⟨b, r, rfl, h1, hc, en⟩ | ⟨b, b1, r, rfl, h1, h2, h3, h4, hc, en⟩ | ⟨b, b1, b2, r, rfl, h1, h2, h3, h4, h5, h6, hc, en⟩ | ⟨b, b1, b2, b3, r, rfl, h1, h2, h3, h4, h5, h6, h7, h8, hc, en⟩ <;> simp at en ⊢ <;> omega
theorem raw_4 {l : List Nat} {c : Nat} (h : raw l = some (c, 4)) : 4 <= l.length /\ 240 <= l.getD 0 0 /\ l.getD 0 0 < 248 /\ (128 <= l.getD 1 0 /\ l.getD 1 0 < 192 /\ 128 <= l.getD 2 0 /\ l.getD 2 0 < 192 /\ 128 <= l.getD 3 0 /\ l.getD 3 0 < 192) /\ c = (((l.getD 0 0 - 240) * 64 + (l.getD 1 0 - 128)) * 64 + (l.getD 2 0 - 128)) * 64 + (l.getD 3 0 - 128) := by
 rcases raw_cases h with ⟨b, r, rfl, h1, hc, en⟩ | ⟨b, b1, r, rfl, h1, h2, h3, h4, hc, en⟩ | ⟨b, b1, b2, r, rfl, h1, h2, h3, h4, h5, h6, hc, en⟩ | ⟨b, b1, b2, b3, r, rfl, h1, h2, h3, h4, h5, h6, h7, h8, hc, en⟩ <;> simp at en ⊢ <;> omega
theorem raw_none {l : List Nat} (h : raw l = none) : l.length = 0 \/ (1 <= l.length /\ (
  (128 <= l.getD 0 0 /\ l.getD 0 0 < 192) \/ 248 <= l.getD 0 0 \/
  (192 <= l.getD 0 0 /\ l.getD 0 0 < 224 /\ ¬ (2 <= l.length /\ 128 <= l.getD 1 0 /\ l.getD 1 0 < 192)) \/
  (224 <= l.getD 0 0 /\ l.getD 0 0 < 240 /\ ¬ (3 <= l.length /\ 128 <= l.getD 1 0 /\ l.getD 1 0 < 192 /\ 128 <= l.getD 2 0 /\ l.getD 2 0 < 192)) \/
  (240 <= l.getD 0 0 /\ l.getD 0 0 < 248 /\ ¬ (4 <= l.length /\ 128 <= l.getD 1 0 /\ l.getD 1 0 < 192 /\ 128 <= l.getD 2 0 /\ l.getD 2 0 < 192 /\ 128 <= l.getD 3 0 /\ l.getD 3 0 < 192)))) := by
 unfold raw at h
 by_cases h0 : l.length = 0
 ·exact .inl h0
 refine .inr ⟨by omega, ?_⟩
 rw [if_neg h0] at h
 by_cases h1 : l.getD 0 0 < 128
 ·rw [if_pos h1] at h; cases h
 rw [if_neg h1] at h
 by_cases h2 : l.getD 0 0 < 192
 ·exact .inl ⟨by omega, h2⟩
 rw [if_neg h2] at h
 by_cases h3 : l.getD 0 0 < 224
 ·rw [if_pos h3] at h
  exact .inr (.inr (.inl ⟨by omega, h3, fun hc => by rw [if_pos hc] at h; cases h⟩))
 rw [if_neg h3] at h
 by_cases h4 : l.getD 0 0 < 240
 ·rw [if_pos h4] at h
  exact .inr (.inr (.inr (.inl ⟨by omega, h4, fun hc => by rw [if_pos hc] at h; cases h⟩)))
 rw [if_neg h4] at h
 by_cases h5 : l.getD 0 0 < 248
 ·rw [if_pos h5] at h
  exact .inr (.inr (.inr (.inr ⟨by omega, h5, fun hc => by rw [if_pos hc] at h; cases h⟩)))
 exact .inr (.inl (by omega))
theorem encN_lt {c : Nat} (h : c <= 1114111) : ∀ b ∈ encN c, b < 256 := by
 unfold encN; split
 ·simp; omega
 ·split
  ·simp; omega
  ·split
   ·simp; omega
   ·simp; omega
end Go.Proofs.YthoojcdjjecogaaGreatDoor.Ch
namespace Go.Proofs.YthoojcdjjecogaaGreatDoor
open Go Go.RowKit
theorem f9_any (c : Int) (w : World) : Calls Tryz.prog 97 #[.int .i32 c] w fun e w' => e = .returned (.bool (Ch.valid c)) /\ w = w' := by
 go_enter Tryz.func97, Tryz.ntmps97
 go_wp2
 all_goals go_ret
 all_goals exact ⟨ret_bool (by rw [Bool.eq_iff_iff]; simp [Ch.valid] <;> omega), rfl⟩

theorem f10_any (c : Int) (w : World) : Calls Tryz.prog 49 #[.int .i32 c] w fun e w' => e = .returned (.bool (Ch.blank c)) /\ w = w' := by
 go_enter Tryz.func49, Tryz.ntmps49
 go_wp2
 all_goals go_ret
 all_goals exact ⟨ret_bool (by rw [Bool.eq_iff_iff]; simp [Ch.blank] <;> omega), rfl⟩

def rngCells : Array Value := #[.int .i32 9, .int .i32 9, .int .i32 10, .int .i32 10, .int .i32 13, .int .i32 13, .int .i32 32, .int .i32 55295, .int .i32 57344, .int .i32 65533, .int .i32 65536, .int .i32 1114111]
theorem rng0 (w : World) : (Instr.index 165 (.agg rngCells) (.int .i64 0)).run Tryz.prog w = .ok (.agg #[.int .i32 9, .int .i32 9]) w := by kernel_rfl
theorem rng1 (w : World) : (Instr.index 165 (.agg rngCells) (.int .i64 1)).run Tryz.prog w = .ok (.agg #[.int .i32 10, .int .i32 10]) w := by kernel_rfl
theorem rng2 (w : World) : (Instr.index 165 (.agg rngCells) (.int .i64 2)).run Tryz.prog w = .ok (.agg #[.int .i32 13, .int .i32 13]) w := by kernel_rfl
theorem rng3 (w : World) : (Instr.index 165 (.agg rngCells) (.int .i64 3)).run Tryz.prog w = .ok (.agg #[.int .i32 32, .int .i32 55295]) w := by kernel_rfl
theorem rng4 (w : World) : (Instr.index 165 (.agg rngCells) (.int .i64 4)).run Tryz.prog w = .ok (.agg #[.int .i32 57344, .int .i32 65533]) w := by kernel_rfl
theorem rng5 (w : World) : (Instr.index 165 (.agg rngCells) (.int .i64 5)).run Tryz.prog w = .ok (.agg #[.int .i32 65536, .int .i32 1114111]) w := by kernel_rfl

def Rng (w : World) : Prop := ∃ T fr, w.heap[1]? = some (.cells rngCells T fr)
theorem Rng.below {B : Nat} {w w' : World} (h : Rng w) (hb : Below B w w') (hB : 1 < B) : Rng w' := by
 obtain ⟨T, fr, hR⟩ := h
 exact ⟨T, fr, (hb.block 1 hB).trans hR⟩
theorem Rng.pos {w : World} (h : Rng w) : 1 < w.heap.size := by
 obtain ⟨T, fr, hR⟩ := h
 exact (Array.getElem?_eq_some_iff.1 hR).1
theorem Rng.next {w w' : World} (h : Rng w) (hb : Below w.heap.size w w') : Rng w' := h.below hb h.pos

theorem f8_any (c : Int) (w : World) (hG : Rng w) : Calls Tryz.prog 115 #[.int .i32 c] w fun e w' => e = .returned (.bool (Ch.valid c)) /\ Below w.heap.size w w' := by
 obtain ⟨T, fr, hR⟩ := hG
 go_enter Tryz.func115, Tryz.ntmps115
 go_wp2_with (refine wpList_load_row rfl 165 _ rfl 1 rfl T _ fr _ hR Tryz.underlying165 rfl (by kernel_rfl) ?_)
 clear hR
 have i0 := rng0
 have i1 := rng1
 have i2 := rng2
 have i3 := rng3
 have i4 := rng4
 have i5 := rng5
 refine wp_loop_rounds 7 ?_
 rw [rounds_succ]
 go_wp2
 iterate 6 all_goals (try (rw [rounds_succ]; go_wp2))
 all_goals go_ret
 all_goals exact ⟨ret_bool (by rw [Bool.eq_iff_iff]; simp [Ch.valid] <;> omega), by repeat (first | exact Below.refl _ _ | refine Below.alloc ?_ (by simp <;> omega) _ | refine Below.setCell ?_ (by simp <;> omega) _)⟩

theorem i32_and63 (x : Int) (h0 : 0 <= x) (h1 : x < 2147483648) : bits .and .i32 x 63 = x % 64 := bits_mask .i32 31 (by decide) wraps_i32 6 (by decide) x h0 h1
theorem i32_or_128 (y : Int) (h0 : 0 <= y) (h1 : y < 64) : bits .or .i32 128 y = 128 + y := bits_join .i32 31 (by decide) wraps_i32 6 128 y (by decide) (by decide) (by decide) h0 h1 (by omega)

theorem i32_or_224 (y : Int) (h0 : 0 <= y) (h1 : y < 16) : bits .or .i32 224 y = 224 + y := bits_join .i32 31 (by decide) wraps_i32 4 224 y (by decide) (by decide) (by decide) h0 h1 (by omega)
theorem i32_or_240 (y : Int) (h0 : 0 <= y) (h1 : y < 8) : bits .or .i32 240 y = 240 + y := bits_join .i32 31 (by decide) wraps_i32 3 240 y (by decide) (by decide) (by decide) h0 h1 (by omega)

theorem f45_1 (c : Int) (v : Value) (xs : List Value) (B : Nat) (w : World) (hB : B <= w.heap.size) (hown : w.ownsRow B 5 1 v xs.length xs) (hn : xs.length <= 1000000) (h1 : 0 <= c) (h2 : c < 128) :
  Calls Tryz.prog 116 #[v, .int .i32 c] w fun e w' => ∃ v', e = .returned v' /\ w'.ownsRow B 5 1 v' (xs.length + 1) (xs ++ u8i [c]) /\ w.grownBy w' v.ownBlock := by
 obtain ⟨i0, hi, hz0, hz1, hz2⟩ := info_parts Tryz.info5
 go_enter Tryz.func116, Tryz.ntmps116
 go_wp2_with (at_builtin; go_must (refine wpList_append_own _ rfl _ _ 79 rfl B 5 i0 (.int .u8 0) 1 1 Tryz.underlying79 hi hz0 hz1 hz2 rfl (by decide) v xs.length xs rfl (hown.alloc _) ⟨w.heap.size, 0, none⟩ 1 1 _ rfl rfl (cells_new _ _ _) (by simp [Value.oneCell']) (by unfold maxLen; omega) (by omega) (by simp; omega) ?_); intro v' w1 hown' hgrow _)
 go_ret
 go_light
 exact ⟨v', rfl, hown', grownBy_alloc hgrow⟩
theorem f45_2 (c : Int) (v : Value) (xs : List Value) (B : Nat) (w : World) (hB : B <= w.heap.size) (hown : w.ownsRow B 5 1 v xs.length xs) (hn : xs.length <= 1000000) (h1 : 128 <= c) (h2 : c < 2048) :
  Calls Tryz.prog 116 #[v, .int .i32 c] w fun e w' => ∃ v', e = .returned v' /\ w'.ownsRow B 5 1 v' (xs.length + 2) (xs ++ u8i [192 + c / 64, 128 + c % 64]) /\ w.grownBy w' v.ownBlock := by
 obtain ⟨i0, hi, hz0, hz1, hz2⟩ := info_parts Tryz.info5
 have e1 := i32_and63 (c) (by omega) (by omega)
 have e2 := i32_or_128 (c % 64) (by omega) (by omega)
 go_enter Tryz.func116, Tryz.ntmps116
 go_wp2_with (at_builtin; go_must (refine wpList_append_own _ rfl _ _ 79 rfl B 5 i0 (.int .u8 0) 1 1 Tryz.underlying79 hi hz0 hz1 hz2 rfl (by decide) v xs.length xs rfl (hown.alloc _) ⟨w.heap.size, 0, none⟩ 2 2 _ rfl rfl (cells_new _ _ _) (by simp [Value.oneCell']) (by unfold maxLen; omega) (by omega) (by simp; omega) ?_); intro v' w1 hown' hgrow _)
 go_ret
 go_light
 exact ⟨v', rfl, hown', grownBy_alloc hgrow⟩
theorem f45_3 (c : Int) (v : Value) (xs : List Value) (B : Nat) (w : World) (hB : B <= w.heap.size) (hown : w.ownsRow B 5 1 v xs.length xs) (hn : xs.length <= 1000000) (h1 : 2048 <= c) (h2 : c < 65536) :
  Calls Tryz.prog 116 #[v, .int .i32 c] w fun e w' => ∃ v', e = .returned v' /\ w'.ownsRow B 5 1 v' (xs.length + 3) (xs ++ u8i [224 + c / 4096, 128 + c / 64 % 64, 128 + c % 64]) /\ w.grownBy w' v.ownBlock := by
 obtain ⟨i0, hi, hz0, hz1, hz2⟩ := info_parts Tryz.info5
 have e1 := i32_and63 (c) (by omega) (by omega)
 have e2 := i32_or_128 (c % 64) (by omega) (by omega)
 have e3 := i32_and63 (c / 64) (by omega) (by omega)
 have e4 := i32_or_128 (c / 64 % 64) (by omega) (by omega)
 have e7 := i32_or_224 (c / 4096) (by omega) (by omega)
 go_enter Tryz.func116, Tryz.ntmps116
 go_wp2_with (at_builtin; go_must (refine wpList_append_own _ rfl _ _ 79 rfl B 5 i0 (.int .u8 0) 1 1 Tryz.underlying79 hi hz0 hz1 hz2 rfl (by decide) v xs.length xs rfl (hown.alloc _) ⟨w.heap.size, 0, none⟩ 3 3 _ rfl rfl (cells_new _ _ _) (by simp [Value.oneCell']) (by unfold maxLen; omega) (by omega) (by simp; omega) ?_); intro v' w1 hown' hgrow _)
 go_ret
 go_light
 exact ⟨v', rfl, hown', grownBy_alloc hgrow⟩
theorem f45_4 (c : Int) (v : Value) (xs : List Value) (B : Nat) (w : World) (hB : B <= w.heap.size) (hown : w.ownsRow B 5 1 v xs.length xs) (hn : xs.length <= 1000000) (h1 : 65536 <= c) (h2 : c <= 1114111) :
  Calls Tryz.prog 116 #[v, .int .i32 c] w fun e w' => ∃ v', e = .returned v' /\ w'.ownsRow B 5 1 v' (xs.length + 4) (xs ++ u8i [240 + c / 262144, 128 + c / 4096 % 64, 128 + c / 64 % 64, 128 + c % 64]) /\ w.grownBy w' v.ownBlock := by
 obtain ⟨i0, hi, hz0, hz1, hz2⟩ := info_parts Tryz.info5
 have e1 := i32_and63 (c) (by omega) (by omega)
 have e2 := i32_or_128 (c % 64) (by omega) (by omega)
 have e3 := i32_and63 (c / 64) (by omega) (by omega)
 have e4 := i32_or_128 (c / 64 % 64) (by omega) (by omega)
 have e5 := i32_and63 (c / 4096) (by omega) (by omega)
 have e6 := i32_or_128 (c / 4096 % 64) (by omega) (by omega)
 have e7 := i32_or_240 (c / 262144) (by omega) (by omega)
 go_enter Tryz.func116, Tryz.ntmps116
 go_wp2_with (at_builtin; go_must (refine wpList_append_own _ rfl _ _ 79 rfl B 5 i0 (.int .u8 0) 1 1 Tryz.underlying79 hi hz0 hz1 hz2 rfl (by decide) v xs.length xs rfl (hown.alloc _) ⟨w.heap.size, 0, none⟩ 4 4 _ rfl rfl (cells_new _ _ _) (by simp [Value.oneCell']) (by unfold maxLen; omega) (by omega) (by simp; omega) ?_); intro v' w1 hown' hgrow _)
 go_ret
 go_light
 exact ⟨v', rfl, hown', grownBy_alloc hgrow⟩

def encI (c : Int) : List Int := if c < 128 then [c] else if c < 2048 then [192 + c / 64, 128 + c % 64] else if c < 65536 then [224 + c / 4096, 128 + c / 64 % 64, 128 + c % 64] else [240 + c / 262144, 128 + c / 4096 % 64, 128 + c / 64 % 64, 128 + c % 64]
theorem encI_nat (n : Nat) : encI (n : Int) = (Ch.encN n).map fun k : Nat => (k : Int) := by
 unfold encI Ch.encN
 by_cases h1 : n < 128
 ·rw [if_pos h1, if_pos (by omega)]; rfl
 ·rw [if_neg h1, if_neg (by omega)]
  by_cases h2 : n < 2048
  ·rw [if_pos h2, if_pos (by omega)]; rfl
  ·rw [if_neg h2, if_neg (by omega)]
   by_cases h3 : n < 65536
   ·rw [if_pos h3, if_pos (by omega)]; rfl
   ·rw [if_neg h3, if_neg (by omega)]; rfl

theorem f45_any (n : Nat) (hc : n <= 1114111) (v : Value) (xs : List Value) (B : Nat) (w : World) (hB : B <= w.heap.size) (hown : w.ownsRow B 5 1 v xs.length xs) (hn : xs.length <= 1000000) :
  Calls Tryz.prog 116 #[v, .int .i32 (n : Int)] w fun e w' => ∃ v', e = .returned v' /\ w'.ownsRow B 5 1 v' (xs.length + Ch.lenN n) (xs ++ u8s (Ch.encN n)) /\ w.grownBy w' v.ownBlock := by
 rw [<- u8i_nat, <- encI_nat]
 by_cases h1 : n < 128
 ·rw [show encI (n : Int) = [(n : Int)] by unfold encI; rw [if_pos (by omega)], show Ch.lenN n = 1 by unfold Ch.lenN; rw [if_pos h1]]
  exact f45_1 _ v xs B w hB hown hn (by omega) (by omega)
 ·by_cases h2 : n < 2048
  ·rw [show encI (n : Int) = [192 + (n : Int) / 64, 128 + (n : Int) % 64] by unfold encI; rw [if_neg (by omega), if_pos (by omega)], show Ch.lenN n = 2 by unfold Ch.lenN; rw [if_neg h1, if_pos h2]]
   exact f45_2 _ v xs B w hB hown hn (by omega) (by omega)
  ·by_cases h3 : n < 65536
   ·rw [show encI (n : Int) = [224 + (n : Int) / 4096, 128 + (n : Int) / 64 % 64, 128 + (n : Int) % 64] by unfold encI; rw [if_neg (by omega), if_neg (by omega), if_pos (by omega)], show Ch.lenN n = 3 by unfold Ch.lenN; rw [if_neg h1, if_neg h2, if_pos h3]]
    exact f45_3 _ v xs B w hB hown hn (by omega) (by omega)
   ·rw [show encI (n : Int) = [240 + (n : Int) / 262144, 128 + (n : Int) / 4096 % 64, 128 + (n : Int) / 64 % 64, 128 + (n : Int) % 64] by unfold encI; rw [if_neg (by omega), if_neg (by omega), if_neg (by omega)], show Ch.lenN n = 4 by unfold Ch.lenN; rw [if_neg h1, if_neg h2, if_neg h3]]
    exact f45_4 _ v xs B w hB hown hn (by omega) (by omega)
theorem f41_1 (c : Int) (w : World) (h1 : 0 <= c) (h2 : c < 128) :
  Calls Tryz.prog 53 #[.int .i32 c] w fun e w' => e = .returned (.string (strI [c])) /\ Below w.heap.size w w' := by
 have es : (convert 79 9 (.slice (some ⟨w.heap.size, 0, none⟩) 1 1)).run Tryz.prog (w.alloc (.cells #[.int .u8 (c)] 5)) = .ok (.string (strI [c])) (w.alloc (.cells #[.int .u8 (c)] 5)) := run_str_new w [c] 1
 go_enter Tryz.func53, Tryz.ntmps53
 go_wp2
 go_ret
 exact ⟨rfl, (Below.refl _ _).alloc (Nat.le_refl _) _⟩
theorem f41_2 (c : Int) (w : World) (h1 : 128 <= c) (h2 : c < 2048) :
  Calls Tryz.prog 53 #[.int .i32 c] w fun e w' => e = .returned (.string (strI [192 + c / 64, 128 + c % 64])) /\ Below w.heap.size w w' := by
 have es : (convert 79 9 (.slice (some ⟨w.heap.size, 0, none⟩) 2 2)).run Tryz.prog (w.alloc (.cells #[.int .u8 (192 + c / 64), .int .u8 (128 + c % 64)] 5)) = .ok (.string (strI [192 + c / 64, 128 + c % 64])) (w.alloc (.cells #[.int .u8 (192 + c / 64), .int .u8 (128 + c % 64)] 5)) := run_str_new w [192 + c / 64, 128 + c % 64] 2
 go_enter Tryz.func53, Tryz.ntmps53
 go_wp2
 go_ret
 exact ⟨rfl, (Below.refl _ _).alloc (Nat.le_refl _) _⟩
theorem f41_3 (c : Int) (w : World) (h1 : 2048 <= c) (h2 : c < 65536) :
  Calls Tryz.prog 53 #[.int .i32 c] w fun e w' => e = .returned (.string (strI [224 + c / 4096, 128 + c / 64 % 64, 128 + c % 64])) /\ Below w.heap.size w w' := by
 have es : (convert 79 9 (.slice (some ⟨w.heap.size, 0, none⟩) 3 3)).run Tryz.prog (w.alloc (.cells #[.int .u8 (224 + c / 4096), .int .u8 (128 + c / 64 % 64), .int .u8 (128 + c % 64)] 5)) = .ok (.string (strI [224 + c / 4096, 128 + c / 64 % 64, 128 + c % 64])) (w.alloc (.cells #[.int .u8 (224 + c / 4096), .int .u8 (128 + c / 64 % 64), .int .u8 (128 + c % 64)] 5)) := run_str_new w [224 + c / 4096, 128 + c / 64 % 64, 128 + c % 64] 3
 go_enter Tryz.func53, Tryz.ntmps53
 go_wp2
 go_ret
 exact ⟨rfl, (Below.refl _ _).alloc (Nat.le_refl _) _⟩
theorem f41_4 (c : Int) (w : World) (h1 : 65536 <= c) (h2 : c <= 1114111) :
  Calls Tryz.prog 53 #[.int .i32 c] w fun e w' => e = .returned (.string (strI [240 + c / 262144, 128 + c / 4096 % 64, 128 + c / 64 % 64, 128 + c % 64])) /\ Below w.heap.size w w' := by
 have es : (convert 79 9 (.slice (some ⟨w.heap.size, 0, none⟩) 4 4)).run Tryz.prog (w.alloc (.cells #[.int .u8 (240 + c / 262144), .int .u8 (128 + c / 4096 % 64), .int .u8 (128 + c / 64 % 64), .int .u8 (128 + c % 64)] 5)) = .ok (.string (strI [240 + c / 262144, 128 + c / 4096 % 64, 128 + c / 64 % 64, 128 + c % 64])) (w.alloc (.cells #[.int .u8 (240 + c / 262144), .int .u8 (128 + c / 4096 % 64), .int .u8 (128 + c / 64 % 64), .int .u8 (128 + c % 64)] 5)) := run_str_new w [240 + c / 262144, 128 + c / 4096 % 64, 128 + c / 64 % 64, 128 + c % 64] 4
 go_enter Tryz.func53, Tryz.ntmps53
 go_wp2
 go_ret
 exact ⟨rfl, (Below.refl _ _).alloc (Nat.le_refl _) _⟩

theorem f41_any (n : Nat) (hc : n <= 1114111) (w : World) :
  Calls Tryz.prog 53 #[.int .i32 (n : Int)] w fun e w' => e = .returned (.string (str (Ch.encN n))) /\ Below w.heap.size w w' := by
 rw [<- strI_nat, <- encI_nat]
 by_cases h1 : n < 128
 ·rw [show encI (n : Int) = [(n : Int)] by unfold encI; rw [if_pos (by omega)]]
  exact f41_1 _ w (by omega) (by omega)
 ·by_cases h2 : n < 2048
  ·rw [show encI (n : Int) = [192 + (n : Int) / 64, 128 + (n : Int) % 64] by unfold encI; rw [if_neg (by omega), if_pos (by omega)]]
   exact f41_2 _ w (by omega) (by omega)
  ·by_cases h3 : n < 65536
   ·rw [show encI (n : Int) = [224 + (n : Int) / 4096, 128 + (n : Int) / 64 % 64, 128 + (n : Int) % 64] by unfold encI; rw [if_neg (by omega), if_neg (by omega), if_pos (by omega)]]
    exact f41_3 _ w (by omega) (by omega)
   ·rw [show encI (n : Int) = [240 + (n : Int) / 262144, 128 + (n : Int) / 4096 % 64, 128 + (n : Int) / 64 % 64, 128 + (n : Int) % 64] by unfold encI; rw [if_neg (by omega), if_neg (by omega), if_neg (by omega)]]
    exact f41_4 _ w (by omega) (by omega)
theorem ret_ib {k : IntKind} {a a' : Int} {b b' : Bool} (h : a = a') (hb : b = b') : Ending.returned (.tuple #[.int k a, .bool b]) = .returned (.tuple #[.int k a', .bool b']) := by rw [h, hb]
theorem f56_1_ok (n : Int) (s : ByteArray) (w : World) (c : Int) (h0 : 0 <= n) (h1 : n <= 31) (hs : s.size <= maxLen) (hlen : 2 <= s.size) (ht : 128 <= gb s 1 /\ gb s 1 < 192) (hc : c = (n) * 64 + ((gb s 1 : Nat) - 128 : Int)) :
  Calls Tryz.prog 96 #[.int .i32 n, .string s, .int .i64 1] w fun e w' => e = .returned (.tuple #[.int .i32 c, .bool true]) /\ w = w' := by
 unfold maxLen at hs
 have H : Hid _ := Lib.hid hc
 clear hc
 have hl1 : 1 < s.size := by omega
 have t1 : 128 <= (s[1]'hl1).toNat := by rw [byte_eq]; omega
 have u1 : (s[1]'hl1).toNat < 192 := by rw [byte_eq]; omega
 go_enter Tryz.func96, Tryz.ntmps96
 go_wp2
 refine wp_loop_rounds 2 ?_
 rw [rounds_succ]
 go_wp2
 iterate 1 all_goals (try (rw [rounds_succ]; go_wp2))
 all_goals go_ret2
 all_goals go_light
 all_goals exact ⟨ret_ib (by rw [H.out]; simp only [byte_eq]) rfl, rfl⟩
theorem f56_1_no (n : Int) (s : ByteArray) (w : World) (h0 : 0 <= n) (h1 : n <= 31) (hs : s.size <= maxLen) (hno : ¬ (2 <= s.size /\ 128 <= gb s 1 /\ gb s 1 < 192)) :
  Calls Tryz.prog 96 #[.int .i32 n, .string s, .int .i64 1] w fun e w' => e = .returned (.tuple #[.int .i32 0, .bool false]) /\ w = w' := by
 unfold maxLen at hs
 have H : Hid _ := Lib.hid hno
 clear hno
 by_cases hlen : 2 <= s.size
 ·go_enter Tryz.func96, Tryz.ntmps96
  go_wp2
  refine wp_loop_rounds 2 ?_
  rw [rounds_succ]
  go_wp2
  iterate 1 all_goals (try (rw [rounds_succ]; go_wp2))
  all_goals go_ret2
  all_goals go_light
  all_goals first | exact ⟨rfl, rfl⟩ | (exfalso; have hno := H.out; simp only [byte_eq] at *; omega)
 ·go_enter Tryz.func96, Tryz.ntmps96
  go_wp2
  go_ret2
  exact ⟨rfl, rfl⟩

theorem f56_2_ok (n : Int) (s : ByteArray) (w : World) (c : Int) (h0 : 0 <= n) (h1 : n <= 31) (hs : s.size <= maxLen) (hlen : 3 <= s.size) (ht : 128 <= gb s 1 /\ gb s 1 < 192 /\ 128 <= gb s 2 /\ gb s 2 < 192) (hc : c = ((n) * 64 + ((gb s 1 : Nat) - 128 : Int)) * 64 + ((gb s 2 : Nat) - 128 : Int)) :
  Calls Tryz.prog 96 #[.int .i32 n, .string s, .int .i64 2] w fun e w' => e = .returned (.tuple #[.int .i32 c, .bool true]) /\ w = w' := by
 unfold maxLen at hs
 have H : Hid _ := Lib.hid hc
 clear hc
 have hl1 : 1 < s.size := by omega
 have t1 : 128 <= (s[1]'hl1).toNat := by rw [byte_eq]; omega
 have u1 : (s[1]'hl1).toNat < 192 := by rw [byte_eq]; omega
 have hl2 : 2 < s.size := by omega
 have t2 : 128 <= (s[2]'hl2).toNat := by rw [byte_eq]; omega
 have u2 : (s[2]'hl2).toNat < 192 := by rw [byte_eq]; omega
 go_enter Tryz.func96, Tryz.ntmps96
 go_wp2
 refine wp_loop_rounds 3 ?_
 rw [rounds_succ]
 go_wp2
 iterate 2 all_goals (try (rw [rounds_succ]; go_wp2))
 all_goals go_ret2
 all_goals go_light
 all_goals exact ⟨ret_ib (by rw [H.out]; simp only [byte_eq]) rfl, rfl⟩
theorem f56_2_no (n : Int) (s : ByteArray) (w : World) (h0 : 0 <= n) (h1 : n <= 31) (hs : s.size <= maxLen) (hno : ¬ (3 <= s.size /\ 128 <= gb s 1 /\ gb s 1 < 192 /\ 128 <= gb s 2 /\ gb s 2 < 192)) :
  Calls Tryz.prog 96 #[.int .i32 n, .string s, .int .i64 2] w fun e w' => e = .returned (.tuple #[.int .i32 0, .bool false]) /\ w = w' := by
 unfold maxLen at hs
 have H : Hid _ := Lib.hid hno
 clear hno
 by_cases hlen : 3 <= s.size
 ·go_enter Tryz.func96, Tryz.ntmps96
  go_wp2
  refine wp_loop_rounds 3 ?_
  rw [rounds_succ]
  go_wp2
  iterate 2 all_goals (try (rw [rounds_succ]; go_wp2))
  all_goals go_ret2
  all_goals go_light
  all_goals first | exact ⟨rfl, rfl⟩ | (exfalso; have hno := H.out; simp only [byte_eq] at *; omega)
 ·go_enter Tryz.func96, Tryz.ntmps96
  go_wp2
  go_ret2
  exact ⟨rfl, rfl⟩

theorem f56_3_ok (n : Int) (s : ByteArray) (w : World) (c : Int) (h0 : 0 <= n) (h1 : n <= 31) (hs : s.size <= maxLen) (hlen : 4 <= s.size) (ht : 128 <= gb s 1 /\ gb s 1 < 192 /\ 128 <= gb s 2 /\ gb s 2 < 192 /\ 128 <= gb s 3 /\ gb s 3 < 192) (hc : c = (((n) * 64 + ((gb s 1 : Nat) - 128 : Int)) * 64 + ((gb s 2 : Nat) - 128 : Int)) * 64 + ((gb s 3 : Nat) - 128 : Int)) :
  Calls Tryz.prog 96 #[.int .i32 n, .string s, .int .i64 3] w fun e w' => e = .returned (.tuple #[.int .i32 c, .bool true]) /\ w = w' := by
 unfold maxLen at hs
 have H : Hid _ := Lib.hid hc
 clear hc
 have hl1 : 1 < s.size := by omega
 have t1 : 128 <= (s[1]'hl1).toNat := by rw [byte_eq]; omega
 have u1 : (s[1]'hl1).toNat < 192 := by rw [byte_eq]; omega
 have hl2 : 2 < s.size := by omega
 have t2 : 128 <= (s[2]'hl2).toNat := by rw [byte_eq]; omega
 have u2 : (s[2]'hl2).toNat < 192 := by rw [byte_eq]; omega
 have hl3 : 3 < s.size := by omega
 have t3 : 128 <= (s[3]'hl3).toNat := by rw [byte_eq]; omega
 have u3 : (s[3]'hl3).toNat < 192 := by rw [byte_eq]; omega
 go_enter Tryz.func96, Tryz.ntmps96
 go_wp2
 refine wp_loop_rounds 4 ?_
 rw [rounds_succ]
 go_wp2
 iterate 3 all_goals (try (rw [rounds_succ]; go_wp2))
 all_goals go_ret2
 all_goals go_light
 all_goals exact ⟨ret_ib (by rw [H.out]; simp only [byte_eq]) rfl, rfl⟩
theorem f56_3_no (n : Int) (s : ByteArray) (w : World) (h0 : 0 <= n) (h1 : n <= 31) (hs : s.size <= maxLen) (hno : ¬ (4 <= s.size /\ 128 <= gb s 1 /\ gb s 1 < 192 /\ 128 <= gb s 2 /\ gb s 2 < 192 /\ 128 <= gb s 3 /\ gb s 3 < 192)) :
  Calls Tryz.prog 96 #[.int .i32 n, .string s, .int .i64 3] w fun e w' => e = .returned (.tuple #[.int .i32 0, .bool false]) /\ w = w' := by
 unfold maxLen at hs
 have H : Hid _ := Lib.hid hno
 clear hno
 by_cases hlen : 4 <= s.size
 ·go_enter Tryz.func96, Tryz.ntmps96
  go_wp2
  refine wp_loop_rounds 4 ?_
  rw [rounds_succ]
  go_wp2
  iterate 3 all_goals (try (rw [rounds_succ]; go_wp2))
  all_goals go_ret2
  all_goals go_light
  all_goals first | exact ⟨rfl, rfl⟩ | (exfalso; have hno := H.out; simp only [byte_eq] at *; omega)
 ·go_enter Tryz.func96, Tryz.ntmps96
  go_wp2
  go_ret2
  exact ⟨rfl, rfl⟩
theorem f41_nat (c : Nat) (hc : c <= 1114111) (w : World) :
  Calls Tryz.prog 53 #[.int .i32 c] w fun e w' => (∃ bs : ByteArray, e = .returned (.string bs) /\ bs = str (Ch.encN c)) /\ Below w.heap.size w w' :=
 (f41_any c hc w).mono fun _ _ ⟨he, hb⟩ => ⟨⟨_, he, rfl⟩, hb⟩
theorem valid_nat {c : Nat} (h : Ch.valid c = true) : c <= 1114111 := by have := (Ch.valid_le h).2; omega
theorem cmp_enc (s : ByteArray) (c k : Nat) (hr : Ch.raw (bts s) = some (c, k)) (hv : Ch.valid c = true) : ((s.extract 0 (str (Ch.encN c)).size).toList == (str (Ch.encN c)).toList) = Ch.good c k := by
 rw [toList_beq, bts_extract, bts_str _ (Ch.encN_lt (valid_nat hv)), str_size, Ch.encN_length, List.drop_zero, Ch.good, hv, Bool.true_and]
 by_cases hk : Ch.lenN c = k
 ·have := Ch.take_enc hr hk
  rw [decide_eq_true hk, hk, decide_eq_true this]
 ·have := (Ch.take_not_enc hr hk).2
  rw [decide_eq_false hk, decide_eq_false this]
theorem le_enc (s : ByteArray) (c k : Nat) (hr : Ch.raw (bts s) = some (c, k)) : (str (Ch.encN c)).size <= s.size := by
 rw [str_size, Ch.encN_length, <- bts_length s]
 by_cases hk : Ch.lenN c = k
 ·rw [hk]; exact (Ch.raw_le hr).2.2
 ·exact (Ch.take_not_enc hr hk).1

theorem f44_1 (s : ByteArray) (w : World) (hs : s.size <= maxLen) (c : Nat) (hr : Ch.raw (bts s) = some (c, 1)) (hv : Ch.valid c = true) :
  Calls Tryz.prog 52 #[.string s] w fun e w' => e = .returned (.tuple #[.int .i32 c, .bool (Ch.good c 1)]) /\ Below w.heap.size w w' := by
 have hle := le_enc s c 1 hr
 have hcmp := cmp_enc s c 1 hr hv
 have hcm := valid_nat hv
 have hs' := hs
 obtain ⟨hlen, h1, hc⟩ := Ch.raw_1 hr
 rw [bts_length] at hlen
 have h1' : gb s 0 < 128 := h1
 have hc' : c = gb s 0 := hc
 have hl0 : 0 < s.size := by omega
 have e0 := byte_eq hl0
 have u0 : (s[0]'hl0).toNat < 128 := by omega
 obtain rfl : c = (s[0]'hl0).toNat := by omega
 clear h1 h1' hc e0 hc' hlen
 have Hv : Hid _ := Lib.hid hv
 have HC : Hid _ := Lib.hid hcmp
 clear hv hcmp hr
 unfold maxLen at hs
 have hne := isEmpty_no hl0
 go_enter Tryz.func52, Tryz.ntmps52
 go_wp2_with (first | (go_at_call 97; refine (f9_any _ _).mono ?_; rintro e w1 ⟨rfl, rfl⟩; rw [Hv.out]) | (go_at_call 53; refine (f41_nat _ hcm _).mono ?_; rintro e w1 ⟨⟨bs, rfl, hbs⟩, hb⟩; rw [<- hbs] at hle; have HB : Hid _ := Lib.hid hbs; clear hbs))
 have d1 : decide ((bs.size : Int) <= s.size) = true := by simpa using hle
 go_quiet (fail)
 go_wp2
 go_ret2
 go_light
 exact ⟨ret_ib rfl (by rw [HB.out]; exact HC.out), below_drewN hb _⟩
theorem f44_1_not (s : ByteArray) (w : World) (hs : s.size <= maxLen) (c : Nat) (hr : Ch.raw (bts s) = some (c, 1)) (hv : Ch.valid c = false) :
  Calls Tryz.prog 52 #[.string s] w fun e w' => e = .returned (.tuple #[.int .i32 0, .bool false]) /\ Below w.heap.size w w' := by
 have hs' := hs
 obtain ⟨hlen, h1, hc⟩ := Ch.raw_1 hr
 rw [bts_length] at hlen
 have h1' : gb s 0 < 128 := h1
 have hc' : c = gb s 0 := hc
 have hl0 : 0 < s.size := by omega
 have e0 := byte_eq hl0
 have u0 : (s[0]'hl0).toNat < 128 := by omega
 obtain rfl : c = (s[0]'hl0).toNat := by omega
 clear h1 h1' hc e0 hc' hlen
 have Hv : Hid _ := Lib.hid hv
 clear hv hr
 unfold maxLen at hs
 have hne := isEmpty_no hl0
 go_enter Tryz.func52, Tryz.ntmps52
 go_wp2_with (first | (go_at_call 97; refine (f9_any _ _).mono ?_; rintro e w1 ⟨rfl, rfl⟩; rw [Hv.out]))
 go_ret2
 go_light
 exact ⟨rfl, Below.refl _ _⟩

theorem f44_2 (s : ByteArray) (w : World) (hs : s.size <= maxLen) (c : Nat) (hr : Ch.raw (bts s) = some (c, 2)) (hv : Ch.valid c = true) :
  Calls Tryz.prog 52 #[.string s] w fun e w' => e = .returned (.tuple #[.int .i32 c, .bool (Ch.good c 2)]) /\ Below w.heap.size w w' := by
 have hle := le_enc s c 2 hr
 have hcmp := cmp_enc s c 2 hr hv
 have hcm := valid_nat hv
 have hs' := hs
 obtain ⟨hlen, h1, h2, ht', hc⟩ := Ch.raw_2 hr
 rw [bts_length] at hlen
 have h1' : 192 <= gb s 0 := h1
 have h2' : gb s 0 < 224 := h2
 have ht : 128 <= gb s 1 /\ gb s 1 < 192 := ht'
 have hc' : c = (gb s 0 - 192) * 64 + (gb s 1 - 128) := hc
 have hl0 : 0 < s.size := by omega
 have e0 := byte_eq hl0
 have t0 : 192 <= (s[0]'hl0).toNat := by omega
 have u0 : (s[0]'hl0).toNat < 224 := by omega
 have hc'' : (c : Int) = (((s[0]'hl0).toNat : Int) - 192) * 64 + ((gb s 1 : Nat) - 128 : Int) := by omega
 have C0 : Hid _ := Lib.hid hc''
 clear e0 hc hc' hc'' h1 h2 ht' h1' h2'
 have Hv : Hid _ := Lib.hid hv
 have HC : Hid _ := Lib.hid hcmp
 clear hv hcmp hr
 unfold maxLen at hs
 have hne := isEmpty_no hl0
 go_enter Tryz.func52, Tryz.ntmps52
 go_wp2_with (first | (go_at_call 96; refine (f56_1_ok _ _ _ (c : Int) (by omega) (by omega) hs' (by omega) ht C0.out).mono ?_; rintro e w1 ⟨rfl, rfl⟩) | (go_at_call 97; refine (f9_any _ _).mono ?_; rintro e w1 ⟨rfl, rfl⟩; rw [Hv.out]) | (go_at_call 53; refine (f41_nat _ hcm _).mono ?_; rintro e w1 ⟨⟨bs, rfl, hbs⟩, hb⟩; rw [<- hbs] at hle; have HB : Hid _ := Lib.hid hbs; clear hbs))
 have d1 : decide ((bs.size : Int) <= s.size) = true := by simpa using hle
 go_quiet (fail)
 go_wp2
 go_ret2
 go_light
 exact ⟨ret_ib rfl (by rw [HB.out]; exact HC.out), below_drewN hb _⟩
theorem f44_2_not (s : ByteArray) (w : World) (hs : s.size <= maxLen) (c : Nat) (hr : Ch.raw (bts s) = some (c, 2)) (hv : Ch.valid c = false) :
  Calls Tryz.prog 52 #[.string s] w fun e w' => e = .returned (.tuple #[.int .i32 0, .bool false]) /\ Below w.heap.size w w' := by
 have hs' := hs
 obtain ⟨hlen, h1, h2, ht', hc⟩ := Ch.raw_2 hr
 rw [bts_length] at hlen
 have h1' : 192 <= gb s 0 := h1
 have h2' : gb s 0 < 224 := h2
 have ht : 128 <= gb s 1 /\ gb s 1 < 192 := ht'
 have hc' : c = (gb s 0 - 192) * 64 + (gb s 1 - 128) := hc
 have hl0 : 0 < s.size := by omega
 have e0 := byte_eq hl0
 have t0 : 192 <= (s[0]'hl0).toNat := by omega
 have u0 : (s[0]'hl0).toNat < 224 := by omega
 have hc'' : (c : Int) = (((s[0]'hl0).toNat : Int) - 192) * 64 + ((gb s 1 : Nat) - 128 : Int) := by omega
 have C0 : Hid _ := Lib.hid hc''
 clear e0 hc hc' hc'' h1 h2 ht' h1' h2'
 have Hv : Hid _ := Lib.hid hv
 clear hv hr
 unfold maxLen at hs
 have hne := isEmpty_no hl0
 go_enter Tryz.func52, Tryz.ntmps52
 go_wp2_with (first | (go_at_call 96; refine (f56_1_ok _ _ _ (c : Int) (by omega) (by omega) hs' (by omega) ht C0.out).mono ?_; rintro e w1 ⟨rfl, rfl⟩) | (go_at_call 97; refine (f9_any _ _).mono ?_; rintro e w1 ⟨rfl, rfl⟩; rw [Hv.out]))
 go_ret2
 go_light
 exact ⟨rfl, Below.refl _ _⟩

theorem f44_3 (s : ByteArray) (w : World) (hs : s.size <= maxLen) (c : Nat) (hr : Ch.raw (bts s) = some (c, 3)) (hv : Ch.valid c = true) :
  Calls Tryz.prog 52 #[.string s] w fun e w' => e = .returned (.tuple #[.int .i32 c, .bool (Ch.good c 3)]) /\ Below w.heap.size w w' := by
 have hle := le_enc s c 3 hr
 have hcmp := cmp_enc s c 3 hr hv
 have hcm := valid_nat hv
 have hs' := hs
 obtain ⟨hlen, h1, h2, ht', hc⟩ := Ch.raw_3 hr
 rw [bts_length] at hlen
 have h1' : 224 <= gb s 0 := h1
 have h2' : gb s 0 < 240 := h2
 have ht : 128 <= gb s 1 /\ gb s 1 < 192 /\ 128 <= gb s 2 /\ gb s 2 < 192 := ht'
 have hc' : c = ((gb s 0 - 224) * 64 + (gb s 1 - 128)) * 64 + (gb s 2 - 128) := hc
 have hl0 : 0 < s.size := by omega
 have e0 := byte_eq hl0
 have t0 : 224 <= (s[0]'hl0).toNat := by omega
 have u0 : (s[0]'hl0).toNat < 240 := by omega
 have hc'' : (c : Int) = ((((s[0]'hl0).toNat : Int) - 224) * 64 + ((gb s 1 : Nat) - 128 : Int)) * 64 + ((gb s 2 : Nat) - 128 : Int) := by omega
 have C0 : Hid _ := Lib.hid hc''
 clear e0 hc hc' hc'' h1 h2 ht' h1' h2'
 have Hv : Hid _ := Lib.hid hv
 have HC : Hid _ := Lib.hid hcmp
 clear hv hcmp hr
 unfold maxLen at hs
 have hne := isEmpty_no hl0
 go_enter Tryz.func52, Tryz.ntmps52
 go_wp2_with (first | (go_at_call 96; refine (f56_2_ok _ _ _ (c : Int) (by omega) (by omega) hs' (by omega) ht C0.out).mono ?_; rintro e w1 ⟨rfl, rfl⟩) | (go_at_call 97; refine (f9_any _ _).mono ?_; rintro e w1 ⟨rfl, rfl⟩; rw [Hv.out]) | (go_at_call 53; refine (f41_nat _ hcm _).mono ?_; rintro e w1 ⟨⟨bs, rfl, hbs⟩, hb⟩; rw [<- hbs] at hle; have HB : Hid _ := Lib.hid hbs; clear hbs))
 have d1 : decide ((bs.size : Int) <= s.size) = true := by simpa using hle
 go_quiet (fail)
 go_wp2
 go_ret2
 go_light
 exact ⟨ret_ib rfl (by rw [HB.out]; exact HC.out), below_drewN hb _⟩
theorem f44_3_not (s : ByteArray) (w : World) (hs : s.size <= maxLen) (c : Nat) (hr : Ch.raw (bts s) = some (c, 3)) (hv : Ch.valid c = false) :
  Calls Tryz.prog 52 #[.string s] w fun e w' => e = .returned (.tuple #[.int .i32 0, .bool false]) /\ Below w.heap.size w w' := by
 have hs' := hs
 obtain ⟨hlen, h1, h2, ht', hc⟩ := Ch.raw_3 hr
 rw [bts_length] at hlen
 have h1' : 224 <= gb s 0 := h1
 have h2' : gb s 0 < 240 := h2
 have ht : 128 <= gb s 1 /\ gb s 1 < 192 /\ 128 <= gb s 2 /\ gb s 2 < 192 := ht'
 have hc' : c = ((gb s 0 - 224) * 64 + (gb s 1 - 128)) * 64 + (gb s 2 - 128) := hc
 have hl0 : 0 < s.size := by omega
 have e0 := byte_eq hl0
 have t0 : 224 <= (s[0]'hl0).toNat := by omega
 have u0 : (s[0]'hl0).toNat < 240 := by omega
 have hc'' : (c : Int) = ((((s[0]'hl0).toNat : Int) - 224) * 64 + ((gb s 1 : Nat) - 128 : Int)) * 64 + ((gb s 2 : Nat) - 128 : Int) := by omega
 have C0 : Hid _ := Lib.hid hc''
 clear e0 hc hc' hc'' h1 h2 ht' h1' h2'
 have Hv : Hid _ := Lib.hid hv
 clear hv hr
 unfold maxLen at hs
 have hne := isEmpty_no hl0
 go_enter Tryz.func52, Tryz.ntmps52
 go_wp2_with (first | (go_at_call 96; refine (f56_2_ok _ _ _ (c : Int) (by omega) (by omega) hs' (by omega) ht C0.out).mono ?_; rintro e w1 ⟨rfl, rfl⟩) | (go_at_call 97; refine (f9_any _ _).mono ?_; rintro e w1 ⟨rfl, rfl⟩; rw [Hv.out]))
 go_ret2
 go_light
 exact ⟨rfl, Below.refl _ _⟩

theorem f44_4 (s : ByteArray) (w : World) (hs : s.size <= maxLen) (c : Nat) (hr : Ch.raw (bts s) = some (c, 4)) (hv : Ch.valid c = true) :
  Calls Tryz.prog 52 #[.string s] w fun e w' => e = .returned (.tuple #[.int .i32 c, .bool (Ch.good c 4)]) /\ Below w.heap.size w w' := by
 have hle := le_enc s c 4 hr
 have hcmp := cmp_enc s c 4 hr hv
 have hcm := valid_nat hv
 have hs' := hs
 obtain ⟨hlen, h1, h2, ht', hc⟩ := Ch.raw_4 hr
 rw [bts_length] at hlen
 have h1' : 240 <= gb s 0 := h1
 have h2' : gb s 0 < 248 := h2
 have ht : 128 <= gb s 1 /\ gb s 1 < 192 /\ 128 <= gb s 2 /\ gb s 2 < 192 /\ 128 <= gb s 3 /\ gb s 3 < 192 := ht'
 have hc' : c = (((gb s 0 - 240) * 64 + (gb s 1 - 128)) * 64 + (gb s 2 - 128)) * 64 + (gb s 3 - 128) := hc
 have hl0 : 0 < s.size := by omega
 have e0 := byte_eq hl0
 have t0 : 240 <= (s[0]'hl0).toNat := by omega
 have u0 : (s[0]'hl0).toNat < 248 := by omega
 have hc'' : (c : Int) = (((((s[0]'hl0).toNat : Int) - 240) * 64 + ((gb s 1 : Nat) - 128 : Int)) * 64 + ((gb s 2 : Nat) - 128 : Int)) * 64 + ((gb s 3 : Nat) - 128 : Int) := by omega
 have C0 : Hid _ := Lib.hid hc''
 clear e0 hc hc' hc'' h1 h2 ht' h1' h2'
 have Hv : Hid _ := Lib.hid hv
 have HC : Hid _ := Lib.hid hcmp
 clear hv hcmp hr
 unfold maxLen at hs
 have hne := isEmpty_no hl0
 go_enter Tryz.func52, Tryz.ntmps52
 go_wp2_with (first | (go_at_call 96; refine (f56_3_ok _ _ _ (c : Int) (by omega) (by omega) hs' (by omega) ht C0.out).mono ?_; rintro e w1 ⟨rfl, rfl⟩) | (go_at_call 97; refine (f9_any _ _).mono ?_; rintro e w1 ⟨rfl, rfl⟩; rw [Hv.out]) | (go_at_call 53; refine (f41_nat _ hcm _).mono ?_; rintro e w1 ⟨⟨bs, rfl, hbs⟩, hb⟩; rw [<- hbs] at hle; have HB : Hid _ := Lib.hid hbs; clear hbs))
 have d1 : decide ((bs.size : Int) <= s.size) = true := by simpa using hle
 go_quiet (fail)
 go_wp2
 go_ret2
 go_light
 exact ⟨ret_ib rfl (by rw [HB.out]; exact HC.out), below_drewN hb _⟩
theorem f44_4_not (s : ByteArray) (w : World) (hs : s.size <= maxLen) (c : Nat) (hr : Ch.raw (bts s) = some (c, 4)) (hv : Ch.valid c = false) :
  Calls Tryz.prog 52 #[.string s] w fun e w' => e = .returned (.tuple #[.int .i32 0, .bool false]) /\ Below w.heap.size w w' := by
 have hs' := hs
 obtain ⟨hlen, h1, h2, ht', hc⟩ := Ch.raw_4 hr
 rw [bts_length] at hlen
 have h1' : 240 <= gb s 0 := h1
 have h2' : gb s 0 < 248 := h2
 have ht : 128 <= gb s 1 /\ gb s 1 < 192 /\ 128 <= gb s 2 /\ gb s 2 < 192 /\ 128 <= gb s 3 /\ gb s 3 < 192 := ht'
 have hc' : c = (((gb s 0 - 240) * 64 + (gb s 1 - 128)) * 64 + (gb s 2 - 128)) * 64 + (gb s 3 - 128) := hc
 have hl0 : 0 < s.size := by omega
 have e0 := byte_eq hl0
 have t0 : 240 <= (s[0]'hl0).toNat := by omega
 have u0 : (s[0]'hl0).toNat < 248 := by omega
 have hc'' : (c : Int) = (((((s[0]'hl0).toNat : Int) - 240) * 64 + ((gb s 1 : Nat) - 128 : Int)) * 64 + ((gb s 2 : Nat) - 128 : Int)) * 64 + ((gb s 3 : Nat) - 128 : Int) := by omega
 have C0 : Hid _ := Lib.hid hc''
 clear e0 hc hc' hc'' h1 h2 ht' h1' h2'
 have Hv : Hid _ := Lib.hid hv
 clear hv hr
 unfold maxLen at hs
 have hne := isEmpty_no hl0
 go_enter Tryz.func52, Tryz.ntmps52
 go_wp2_with (first | (go_at_call 96; refine (f56_3_ok _ _ _ (c : Int) (by omega) (by omega) hs' (by omega) ht C0.out).mono ?_; rintro e w1 ⟨rfl, rfl⟩) | (go_at_call 97; refine (f9_any _ _).mono ?_; rintro e w1 ⟨rfl, rfl⟩; rw [Hv.out]))
 go_ret2
 go_light
 exact ⟨rfl, Below.refl _ _⟩

theorem f44_zero (s : ByteArray) (w : World) (h0 : s.size = 0) :
  Calls Tryz.prog 52 #[.string s] w fun e w' => e = .returned (.tuple #[.int .i32 0, .bool false]) /\ Below w.heap.size w w' := by
 have hne := isEmpty_yes h0
 go_enter Tryz.func52, Tryz.ntmps52
 go_wp2
 go_ret2
 exact ⟨rfl, Below.refl _ _⟩
theorem f44_low (s : ByteArray) (w : World) (hl0 : 0 < s.size) (h1 : 128 <= gb s 0) (h2 : gb s 0 < 192) :
  Calls Tryz.prog 52 #[.string s] w fun e w' => e = .returned (.tuple #[.int .i32 0, .bool false]) /\ Below w.heap.size w w' := by
 have e0 := byte_eq hl0
 have t0 : 128 <= (s[0]'hl0).toNat := by omega
 have u0 : (s[0]'hl0).toNat < 192 := by omega
 clear e0 h1
 have hne := isEmpty_no hl0
 go_enter Tryz.func52, Tryz.ntmps52
 go_wp2
 go_ret2
 exact ⟨rfl, Below.refl _ _⟩
theorem f44_high (s : ByteArray) (w : World) (hl0 : 0 < s.size) (h1 : 248 <= gb s 0) :
  Calls Tryz.prog 52 #[.string s] w fun e w' => e = .returned (.tuple #[.int .i32 0, .bool false]) /\ Below w.heap.size w w' := by
 have e0 := byte_eq hl0
 have t0 : 248 <= (s[0]'hl0).toNat := by omega
 clear e0 h1
 have hne := isEmpty_no hl0
 go_enter Tryz.func52, Tryz.ntmps52
 go_wp2
 go_ret2
 exact ⟨rfl, Below.refl _ _⟩
theorem f44_2_no (s : ByteArray) (w : World) (hs : s.size <= maxLen) (hl0 : 0 < s.size) (h1 : 192 <= gb s 0) (h2 : gb s 0 < 224) (hno : ¬ (2 <= s.size /\ 128 <= gb s 1 /\ gb s 1 < 192)) :
  Calls Tryz.prog 52 #[.string s] w fun e w' => e = .returned (.tuple #[.int .i32 0, .bool false]) /\ Below w.heap.size w w' := by
 have e0 := byte_eq hl0
 have hs' := hs
 have t0 : 192 <= (s[0]'hl0).toNat := by omega
 have u0 : (s[0]'hl0).toNat < 224 := by omega
 have HN : Hid _ := Lib.hid hno
 clear e0 h1 h2 hno
 unfold maxLen at hs
 have hne := isEmpty_no hl0
 go_enter Tryz.func52, Tryz.ntmps52
 go_wp2_with (go_at_call 96; refine (f56_1_no _ _ _ (by omega) (by omega) hs' HN.out).mono ?_; rintro e w1 ⟨rfl, rfl⟩)
 go_ret2
 exact ⟨rfl, Below.refl _ _⟩
theorem f44_3_no (s : ByteArray) (w : World) (hs : s.size <= maxLen) (hl0 : 0 < s.size) (h1 : 224 <= gb s 0) (h2 : gb s 0 < 240) (hno : ¬ (3 <= s.size /\ 128 <= gb s 1 /\ gb s 1 < 192 /\ 128 <= gb s 2 /\ gb s 2 < 192)) :
  Calls Tryz.prog 52 #[.string s] w fun e w' => e = .returned (.tuple #[.int .i32 0, .bool false]) /\ Below w.heap.size w w' := by
 have e0 := byte_eq hl0
 have hs' := hs
 have t0 : 224 <= (s[0]'hl0).toNat := by omega
 have u0 : (s[0]'hl0).toNat < 240 := by omega
 have HN : Hid _ := Lib.hid hno
 clear e0 h1 h2 hno
 unfold maxLen at hs
 have hne := isEmpty_no hl0
 go_enter Tryz.func52, Tryz.ntmps52
 go_wp2_with (go_at_call 96; refine (f56_2_no _ _ _ (by omega) (by omega) hs' HN.out).mono ?_; rintro e w1 ⟨rfl, rfl⟩)
 go_ret2
 exact ⟨rfl, Below.refl _ _⟩
theorem f44_4_no (s : ByteArray) (w : World) (hs : s.size <= maxLen) (hl0 : 0 < s.size) (h1 : 240 <= gb s 0) (h2 : gb s 0 < 248) (hno : ¬ (4 <= s.size /\ 128 <= gb s 1 /\ gb s 1 < 192 /\ 128 <= gb s 2 /\ gb s 2 < 192 /\ 128 <= gb s 3 /\ gb s 3 < 192)) :
  Calls Tryz.prog 52 #[.string s] w fun e w' => e = .returned (.tuple #[.int .i32 0, .bool false]) /\ Below w.heap.size w w' := by
 have e0 := byte_eq hl0
 have hs' := hs
 have t0 : 240 <= (s[0]'hl0).toNat := by omega
 have u0 : (s[0]'hl0).toNat < 248 := by omega
 have HN : Hid _ := Lib.hid hno
 clear e0 h1 h2 hno
 unfold maxLen at hs
 have hne := isEmpty_no hl0
 go_enter Tryz.func52, Tryz.ntmps52
 go_wp2_with (go_at_call 96; refine (f56_3_no _ _ _ (by omega) (by omega) hs' HN.out).mono ?_; rintro e w1 ⟨rfl, rfl⟩)
 go_ret2
 exact ⟨rfl, Below.refl _ _⟩

theorem f44_some (s : ByteArray) (w : World) (hs : s.size <= maxLen) (c n : Nat) (hd : Ch.dec (bts s) = some (c, n)) :
  Calls Tryz.prog 52 #[.string s] w fun e w' => e = .returned (.tuple #[.int .i32 c, .bool true]) /\ Below w.heap.size w w' := by
 obtain ⟨hr, hv, hn⟩ := Ch.dec_some hd
 have hg : Ch.good c n = true := by rw [Ch.good, hv, Bool.true_and, decide_eq_true hn]
 obtain ⟨h1, h4, _⟩ := Ch.raw_le hr
 obtain rfl | rfl | rfl | rfl : n = 1 \/ n = 2 \/ n = 3 \/ n = 4 := by omega
 ·have := f44_1 s w hs c hr hv; rwa [hg] at this
 ·have := f44_2 s w hs c hr hv; rwa [hg] at this
 ·have := f44_3 s w hs c hr hv; rwa [hg] at this
 ·have := f44_4 s w hs c hr hv; rwa [hg] at this
theorem f44_none (s : ByteArray) (w : World) (hs : s.size <= maxLen) (hd : Ch.dec (bts s) = none) :
  Calls Tryz.prog 52 #[.string s] w fun e w' => (∃ x : Int, e = .returned (.tuple #[.int .i32 x, .bool false])) /\ Below w.heap.size w w' := by
 have fin : ∀ x : Int, Calls Tryz.prog 52 #[.string s] w (fun e w' => e = .returned (.tuple #[.int .i32 x, .bool false]) /\ Below w.heap.size w w') -> Calls Tryz.prog 52 #[.string s] w fun e w' => (∃ x : Int, e = .returned (.tuple #[.int .i32 x, .bool false])) /\ Below w.heap.size w w' :=
  fun x h => h.mono fun _ _ ⟨he, hb⟩ => ⟨⟨x, he⟩, hb⟩
 cases hr : Ch.raw (bts s) with
 | none =>
  refine fin 0 ?_
  rcases Ch.raw_none hr with h0 | ⟨hl, ⟨h1, h2⟩ | h1 | ⟨h1, h2, h3⟩ | ⟨h1, h2, h3⟩ | ⟨h1, h2, h3⟩⟩
  ·exact f44_zero s w (by rw [<- bts_length]; exact h0)
  all_goals rw [bts_length] at hl
  ·exact f44_low s w (by omega) h1 h2
  ·exact f44_high s w (by omega) h1
  all_goals rw [bts_length] at h3
  ·exact f44_2_no s w hs (by omega) h1 h2 h3
  ·exact f44_3_no s w hs (by omega) h1 h2 h3
  ·exact f44_4_no s w hs (by omega) h1 h2 h3
 | some p =>
  obtain ⟨c, n⟩ := p
  have hg : Ch.good c n = false := by
   cases hg : Ch.good c n
   ·rfl
   ·unfold Ch.dec at hd; rw [hr] at hd; simp only [hg, if_true] at hd; cases hd
  obtain ⟨h1, h4, _⟩ := Ch.raw_le hr
  cases hv : Ch.valid c
  ·refine fin 0 ?_
   obtain rfl | rfl | rfl | rfl : n = 1 \/ n = 2 \/ n = 3 \/ n = 4 := by omega
   ·exact f44_1_not s w hs c hr hv
   ·exact f44_2_not s w hs c hr hv
   ·exact f44_3_not s w hs c hr hv
   ·exact f44_4_not s w hs c hr hv
  ·refine fin c ?_
   obtain rfl | rfl | rfl | rfl : n = 1 \/ n = 2 \/ n = 3 \/ n = 4 := by omega
   ·have := f44_1 s w hs c hr hv; rwa [hg] at this
   ·have := f44_2 s w hs c hr hv; rwa [hg] at this
   ·have := f44_3 s w hs c hr hv; rwa [hg] at this
   ·have := f44_4 s w hs c hr hv; rwa [hg] at this
end Go.Proofs.YthoojcdjjecogaaGreatDoor
