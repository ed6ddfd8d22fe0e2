/-
  The text of a decimal, and how it is read. Plain laws; no condition.
-/
import Derived.Test.YthmmjihldkjhhaaGreatDoorDbig
namespace Go.Proofs.YthmmjihldkjhhaaGreatDoor.Dc

/-- The digits of a decimal with zeros in front, so that one stands before the point. -/
def wide (l : List Nat) (S : Nat) : List Nat := List.replicate (S + 1 - l.length) 48 ++ l
/-- .. with the point. -/
def dotted (l : List Nat) (S : Nat) : List Nat := if S = 0 then wide l S else (wide l S).take ((wide l S).length - S) ++ 46 :: (wide l S).drop ((wide l S).length - S)
/-- The text of a decimal. -/
def txt (neg : Bool) (l : List Nat) (S : Nat) : List Nat := if neg then 45 :: dotted l S else dotted l S
theorem wide_length (l : List Nat) (S : Nat) : (wide l S).length = max (S + 1) l.length := by
  rw [wide, List.length_append, List.length_replicate]; omega
theorem wide_dig {l : List Nat} (S : Nat) (h : l.all dig = true) : (wide l S).all dig = true := by rw [wide, List.all_append, zeros_dig, h]; rfl
theorem val_wide (l : List Nat) (S : Nat) : val (wide l S) = val l := val_zeros_front _ _
/-- The sign taken away. -/
def unsign : List Nat → Bool × List Nat
  | c :: r => if c = 45 then (true, r) else if c = 43 then (false, r) else (false, c :: r)
  | [] => (false, [])
/-- What stands before the first point, and behind it. -/
def whole (l : List Nat) : List Nat := l.takeWhile fun c => decide (c ≠ 46)
def part (l : List Nat) : List Nat := (l.dropWhile fun c => decide (c ≠ 46)).drop 1
/-- What Read gives: none: it is no decimal's text; some none: out of range. -/
def readD (l : List Nat) : Option (Option (Bool × Nat × Nat)) :=
  if (whole (unsign l).2 ++ part (unsign l).2).all dig = true ∧ whole (unsign l).2 ++ part (unsign l).2 ≠ [] then some (can (unsign l).1 (val (whole (unsign l).2 ++ part (unsign l).2)) (part (unsign l).2).length) else none
theorem dig_ne46 {l : List Nat} (h : l.all dig = true) : ∀ c ∈ l, (decide (c ≠ 46)) = true := by
  intro c hc
  have := dig_iff.1 (List.all_eq_true.1 h c hc)
  rw [decide_eq_true_eq]; omega
theorem whole_digits {l : List Nat} (h : l.all dig = true) : whole l = l ∧ part l = [] := by
  constructor
  · have := List.takeWhile_append_of_pos (l₂ := []) (dig_ne46 h)
    simpa [whole] using this
  · have := List.dropWhile_append_of_pos (l₂ := []) (dig_ne46 h)
    unfold part
    rw [List.append_nil] at this
    rw [this]; rfl
theorem whole_dot {l m : List Nat} (h : l.all dig = true) : whole (l ++ 46 :: m) = l ∧ part (l ++ 46 :: m) = m := by
  constructor
  · unfold whole
    rw [List.takeWhile_append_of_pos (dig_ne46 h)]; simp
  · unfold part
    rw [List.dropWhile_append_of_pos (dig_ne46 h)]; simp
theorem unsign_digit {c : Nat} {r : List Nat} (h : dig c = true) : unsign (c :: r) = (false, c :: r) := by
  have := dig_iff.1 h
  show (if c = 45 then (true, r) else if c = 43 then (false, r) else (false, c :: r)) = _
  rw [if_neg (by omega), if_neg (by omega)]
theorem dotted_cons (l : List Nat) (S : Nat) (h : l.all dig = true) : ∃ c r, dotted l S = c :: r ∧ dig c = true := by
  have hd := wide_dig S h
  have hlen := wide_length l S
  cases hw : wide l S with
  | nil => rw [hw] at hlen; simp at hlen; omega
  | cons c r =>
    rw [hw] at hd
    simp only [List.all_cons, Bool.and_eq_true] at hd
    unfold dotted
    by_cases hS : S = 0
    · rw [if_pos hS, hw]; exact ⟨c, r, rfl, hd.1⟩
    · rw [if_neg hS]
      rw [hw] at hlen ⊢
      obtain ⟨k, hk⟩ : ∃ k, (c :: r).length - S = k + 1 := ⟨(c :: r).length - S - 1, by omega⟩
      rw [hk, List.take_succ_cons, List.cons_append]
      exact ⟨c, _, rfl, hd.1⟩
theorem read_dotted (l : List Nat) (S : Nat) (h : l.all dig = true) : whole (dotted l S) ++ part (dotted l S) = wide l S ∧ (part (dotted l S)).length = S := by
  have hd := wide_dig S h
  have hlen := wide_length l S
  unfold dotted
  by_cases hS : S = 0
  · rw [if_pos hS]
    obtain ⟨h1, h2⟩ := whole_digits hd
    rw [h1, h2]; simp [hS]
  · rw [if_neg hS]
    have h3 : ((wide l S).take ((wide l S).length - S)).all dig = true := by
      rw [List.all_eq_true] at hd ⊢
      exact fun c hc => hd c (List.mem_of_mem_take hc)
    obtain ⟨h1, h2⟩ := whole_dot (m := (wide l S).drop ((wide l S).length - S)) h3
    rw [h1, h2, List.take_append_drop, List.length_drop]
    exact ⟨rfl, by omega⟩
/-- Read of the text is the decimal. -/
theorem read_txt (neg : Bool) (v S : Nat) : readD (txt neg (digs v) S) = some (can neg v S) := by
  have hu : unsign (txt neg (digs v) S) = (neg, dotted (digs v) S) := by
    unfold txt
    cases neg with
    | true => simp [unsign]
    | false =>
      obtain ⟨c, r, h1, h2⟩ := dotted_cons (digs v) S (digs_dig v)
      rw [if_neg (by decide), h1, unsign_digit h2]
  obtain ⟨h1, h2⟩ := read_dotted (digs v) S (digs_dig v)
  unfold readD
  rw [hu]
  simp only
  rw [h1, h2, val_wide, val_digs, if_pos]
  refine ⟨wide_dig S (digs_dig v), fun h => ?_⟩
  have := wide_length (digs v) S
  rw [h] at this; simp at this; omega
end Go.Proofs.YthmmjihldkjhhaaGreatDoor.Dc
