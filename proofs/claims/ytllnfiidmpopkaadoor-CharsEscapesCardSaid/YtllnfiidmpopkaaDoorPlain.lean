/-
  Plain functions and laws about characters and their bytes: what the contracts of package chars and of its reference say. Nothing of the program stands here. No condition.
-/
namespace Go.Proofs.YtllnfiidmpopkaaDoor.Ch

/-- A character. -/
def valid (c : Int) : Bool := decide (c = 9) || decide (c = 10) || decide (c = 13) || (decide (32 ≤ c) && decide (c ≤ 55295)) || (decide (57344 ≤ c) && decide (c ≤ 65533)) || (decide (65536 ≤ c) && decide (c ≤ 1114111))
def blank (c : Int) : Bool := decide (c = 9) || decide (c = 10) || decide (c = 13) || decide (c = 32)
def first (c : Int) : Bool := (decide (97 ≤ c) && decide (c ≤ 122)) || (decide (65 ≤ c) && decide (c ≤ 90)) || decide (c = 95) || (decide (192 ≤ c) && !decide (c = 215) && !decide (c = 247) && valid c)
def inner (c : Int) : Bool := first c || (decide (48 ≤ c) && decide (c ≤ 57)) || decide (c = 45) || decide (c = 46) || decide (c = 183)

/-- The bytes of a character, as numbers. -/
def encN (n : Nat) : List Nat :=
  if n < 128 then [n]
  else if n < 2048 then [192 + n / 64, 128 + n % 64]
  else if n < 65536 then [224 + n / 4096, 128 + n / 64 % 64, 128 + n % 64]
  else [240 + n / 262144, 128 + n / 4096 % 64, 128 + n / 64 % 64, 128 + n % 64]
/-- How many bytes a character has. -/
def lenN (n : Nat) : Nat := if n < 128 then 1 else if n < 2048 then 2 else if n < 65536 then 3 else 4
theorem encN_length (n : Nat) : (encN n).length = lenN n := by
  unfold encN lenN; split
  · rfl
  · split
    · rfl
    · split <;> rfl

/-- The number that the bytes at the beginning of a list write, and how many they are; none: they write none (whether it is a character, and has no shorter bytes, is not asked). -/
def raw (l : List Nat) : Option (Nat × Nat) :=
  if l.length = 0 then none
  else if l.getD 0 0 < 128 then some (l.getD 0 0, 1)
  else if l.getD 0 0 < 192 then none
  else if l.getD 0 0 < 224 then
    (if 2 ≤ l.length ∧ 128 ≤ l.getD 1 0 ∧ l.getD 1 0 < 192 then some ((l.getD 0 0 - 192) * 64 + (l.getD 1 0 - 128), 2) else none)
  else if l.getD 0 0 < 240 then
    (if 3 ≤ l.length ∧ 128 ≤ l.getD 1 0 ∧ l.getD 1 0 < 192 ∧ 128 ≤ l.getD 2 0 ∧ l.getD 2 0 < 192 then
      some (((l.getD 0 0 - 224) * 64 + (l.getD 1 0 - 128)) * 64 + (l.getD 2 0 - 128), 3) else none)
  else if l.getD 0 0 < 248 then
    (if 4 ≤ l.length ∧ 128 ≤ l.getD 1 0 ∧ l.getD 1 0 < 192 ∧ 128 ≤ l.getD 2 0 ∧ l.getD 2 0 < 192 ∧ 128 ≤ l.getD 3 0 ∧ l.getD 3 0 < 192 then
      some ((((l.getD 0 0 - 240) * 64 + (l.getD 1 0 - 128)) * 64 + (l.getD 2 0 - 128)) * 64 + (l.getD 3 0 - 128), 4) else none)
  else none

/-- What 'raw' has found is a character in its shortest form. -/
def good (c n : Nat) : Bool := valid (c : Int) && decide (lenN c = n)
/-- The character at the beginning of a list of bytes, and how many bytes it has. -/
def dec (l : List Nat) : Option (Nat × Nat) :=
  match raw l with
  | none => none
  | some (c, n) => if good c n then some (c, n) else none

theorem raw_le {l : List Nat} {c n : Nat} (h : raw l = some (c, n)) : 1 ≤ n ∧ n ≤ 4 ∧ n ≤ l.length := by
  unfold raw at h
  by_cases h0 : l.length = 0
  · rw [if_pos h0] at h; cases h
  rw [if_neg h0] at h
  by_cases h1 : l.getD 0 0 < 128
  · rw [if_pos h1] at h; simp only [Option.some.injEq, Prod.mk.injEq] at h; omega
  rw [if_neg h1] at h
  by_cases h2 : l.getD 0 0 < 192
  · rw [if_pos h2] at h; cases h
  rw [if_neg h2] at h
  by_cases h3 : l.getD 0 0 < 224
  · rw [if_pos h3] at h; split at h
    · simp only [Option.some.injEq, Prod.mk.injEq] at h; omega
    · cases h
  rw [if_neg h3] at h
  by_cases h4 : l.getD 0 0 < 240
  · rw [if_pos h4] at h; split at h
    · simp only [Option.some.injEq, Prod.mk.injEq] at h; omega
    · cases h
  rw [if_neg h4] at h
  by_cases h5 : l.getD 0 0 < 248
  · rw [if_pos h5] at h; split at h
    · simp only [Option.some.injEq, Prod.mk.injEq] at h; omega
    · cases h
  rw [if_neg h5] at h; cases h

theorem dec_some {l : List Nat} {c n : Nat} (h : dec l = some (c, n)) : raw l = some (c, n) ∧ valid (c : Int) = true ∧ lenN c = n := by
  unfold dec at h
  split at h
  · cases h
  · rename_i c' n' hr
    split at h
    · rename_i hv
      simp only [Option.some.injEq, Prod.mk.injEq] at h
      obtain ⟨rfl, rfl⟩ := h
      simp only [good, Bool.and_eq_true, decide_eq_true_eq] at hv
      exact ⟨hr, hv.1, hv.2⟩
    · cases h
theorem dec_le {l : List Nat} {c n : Nat} (h : dec l = some (c, n)) : 1 ≤ n ∧ n ≤ 4 ∧ n ≤ l.length := raw_le (dec_some h).1

/-- What a range over the characters of a list of bytes gives: the places and characters; where there is none: -1, and nothing more. -/
def items : Nat → List Nat → Nat → List (Nat × Int)
  | 0, _, _ => []
  | f + 1, l, i =>
    if l = [] then [] else
    match dec l with
    | none => [(i, -1)]
    | some (c, n) => (i, (c : Int)) :: items f (l.drop n) (i + n)

end Go.Proofs.YtllnfiidmpopkaaDoor.Ch
