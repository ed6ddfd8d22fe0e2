/-
  What Unescape answers, as a plain function of the text's bytes, and its steps. No condition.
-/
import Derived.Test.YtllnfiidmpopkaaDoorDigit
namespace Go.Proofs.YtllnfiidmpopkaaDoor
open Go Go.RowKit

/-- The place of the first semicolon, or the length. -/
def find59 (r : List Nat) : Nat := r.findIdx (fun c => decide (c = 59))
/-- Unescape of the rest: the place that is wrong, or the bytes. -/
def unF : Nat → List Nat → Nat → List Nat → Sum Nat (List Nat)
  | 0, _, _, out => .inr out
  | _ + 1, [], _, out => .inr out
  | f + 1, c :: r, p, out =>
    if c ≠ 38 then unF f r (p + 1) (out ++ [c])
    else if find59 r = r.length then .inl p
    else match charM (r.take (find59 r)) with
      | none => .inl p
      | some n => unF f (r.drop (find59 r + 1)) (p + find59 r + 2) (out ++ Ch.encN n)
theorem find59_le (r : List Nat) : find59 r ≤ r.length := List.findIdx_le_length
theorem find59_get {r : List Nat} (h : find59 r < r.length) : r.getD (find59 r) 0 = 59 := by
  have := List.findIdx_getElem (w := h)
  simp only [decide_eq_true_eq] at this
  rw [List.getD_eq_getElem?_getD, List.getElem?_eq_getElem h]; exact this
theorem find59_lt {r : List Nat} {j : Nat} (h : j < find59 r) : r.getD j 0 ≠ 59 := by
  have hl : j < r.length := Nat.lt_of_lt_of_le h (find59_le r)
  have := List.not_of_lt_findIdx h
  rw [List.getD_eq_getElem?_getD, List.getElem?_eq_getElem hl]
  simpa using this
theorem find59_eq {r : List Nat} {j : Nat} (hj : j < r.length) (h1 : ∀ i < j, r.getD i 0 ≠ 59) (h2 : r.getD j 0 = 59) : find59 r = j := by
  rcases Nat.lt_trichotomy (find59 r) j with h | h | h
  · exact absurd (find59_get (Nat.lt_trans h hj)) (h1 _ h)
  · exact h
  · exact absurd h2 (find59_lt h)
theorem find59_len {r : List Nat} (h1 : ∀ i < r.length, r.getD i 0 ≠ 59) : find59 r = r.length := by
  rcases Nat.lt_or_ge (find59 r) r.length with h | h
  · exact absurd (find59_get h) (h1 _ h)
  · exact Nat.le_antisymm (find59_le r) h
theorem drop_getD (l : List Nat) (p : Nat) (h : p < l.length) : l.drop p = l.getD p 0 :: l.drop (p + 1) := by
  rw [List.drop_eq_getElem_cons h]; simp [List.getD_eq_getElem?_getD, h]
theorem unF_end (f p : Nat) (l out : List Nat) (h : l.length ≤ p) : unF f (l.drop p) p out = .inr out := by
  rw [List.drop_eq_nil_of_le h]
  cases f <;> rfl
theorem unF_char (f p : Nat) (l out : List Nat) (h : p < l.length) (hc : l.getD p 0 ≠ 38) : unF (f + 1) (l.drop p) p out = unF f (l.drop (p + 1)) (p + 1) (out ++ [l.getD p 0]) := by
  rw [drop_getD l p h, unF, if_pos hc]
theorem unF_open (f p : Nat) (l out : List Nat) (h : p < l.length) (hc : l.getD p 0 = 38) (hq : find59 (l.drop (p + 1)) = (l.drop (p + 1)).length) : unF (f + 1) (l.drop p) p out = .inl p := by
  rw [drop_getD l p h, unF, if_neg (by simpa using hc), if_pos hq]
theorem unF_bad (f p : Nat) (l out : List Nat) (h : p < l.length) (hc : l.getD p 0 = 38) (hq : charM ((l.drop (p + 1)).take (find59 (l.drop (p + 1)))) = none) : unF (f + 1) (l.drop p) p out = .inl p := by
  rw [drop_getD l p h, unF, if_neg (by simpa using hc)]
  split
  · rfl
  · rw [hq]
theorem unF_ref (f p n : Nat) (l out : List Nat) (h : p < l.length) (hc : l.getD p 0 = 38) (hl : find59 (l.drop (p + 1)) < (l.drop (p + 1)).length) (hq : charM ((l.drop (p + 1)).take (find59 (l.drop (p + 1)))) = some n) :
    unF (f + 1) (l.drop p) p out = unF f (l.drop (p + find59 (l.drop (p + 1)) + 2)) (p + find59 (l.drop (p + 1)) + 2) (out ++ Ch.encN n) := by
  rw [drop_getD l p h, unF, if_neg (by simpa using hc), if_neg (by omega), hq]
  simp only [List.drop_drop]
  rw [show p + 1 + (find59 (l.drop (p + 1)) + 1) = p + find59 (l.drop (p + 1)) + 2 by omega]
/-- Unescape of a text. -/
def unT (s : ByteArray) : Sum Nat (List Nat) := unF (s.size + 1) (bts s) 0 []
/-- What Unescape returns. -/
def unEnd (s : ByteArray) : Ending :=
  if 0 ≤ wrongI s then .returned (.tuple #[.string ⟨#[]⟩, .int .i64 (wrongI s), .int .i64 6])
  else match unT s with
    | .inl p => .returned (.tuple #[.string ⟨#[]⟩, .int .i64 (p : Int), .int .i64 6])
    | .inr out => .returned (.tuple #[.string (str out), .int .i64 0, .int .i64 0])
theorem unEnd_wrong {s : ByteArray} (h : 0 ≤ wrongI s) : Ending.returned (.tuple #[.string ⟨#[]⟩, .int .i64 (wrongI s), .int .i64 6]) = unEnd s := by rw [unEnd, if_pos h]
theorem unEnd_bad {s : ByteArray} {p : Nat} (h : wrongI s = -1) (hp : unT s = .inl p) : Ending.returned (.tuple #[.string ⟨#[]⟩, .int .i64 (p : Int), .int .i64 6]) = unEnd s := by rw [unEnd, if_neg (by omega), hp]
theorem unEnd_good {s bs : ByteArray} {out : List Nat} (h : wrongI s = -1) (hp : unT s = .inr out) (hb : bs = str out) : Ending.returned (.tuple #[.string bs, .int .i64 0, .int .i64 0]) = unEnd s := by rw [unEnd, if_neg (by omega), hp, hb]
theorem charM_le {l : List Nat} {n : Nat} (h : charM l = some n) : n ≤ 1114111 := by
  have hch : ∀ {V : Nat}, chM V = some n → n ≤ 1114111 := by
    intro V hV
    unfold chM at hV
    split at hV
    · cases hV; omega
    · cases hV
  unfold charM at h
  repeat' (first | (split at h) | (cases h; omega))
  rotate_right
  · cases h
  · unfold digM at h
    split at h
    · cases h
    · simp only [if_true] at h
      split at h
      · exact hch h
      · cases h
  · unfold digM at h
    split at h
    · cases h
    · simp only [Bool.false_eq_true, if_false] at h
      split at h
      · exact hch h
      · cases h
/-- The byte's first place in a string, as the library says it. -/
theorem indexByte_59 (l : List UInt8) : Lib.indexByte l 59 = if find59 (l.map UInt8.toNat) = l.length then -1 else (find59 (l.map UInt8.toNat) : Int) := by
  induction l with
  | nil => rfl
  | cons c l ih =>
    have e : (c = 59) ↔ c.toNat = 59 := by rw [← UInt8.toNat_inj]; rfl
    rw [Lib.indexByte, ih]
    simp only [find59, List.map_cons, List.findIdx_cons, List.length_cons]
    by_cases h : c = 59
    · rw [if_pos (by simp [h])]; simp [e.1 h]
    · have h2 : ¬ c.toNat = 59 := fun x => h (e.2 x)
      rw [if_neg (by simp [h])]
      simp only [h2, decide_false, cond_false]
      have key : ∀ m L : Nat, (if ((if m = L then (-1 : Int) else (m : Int)) == -1) = true then (-1 : Int) else (if m = L then (-1 : Int) else (m : Int)) + 1) = if m + 1 = L + 1 then (-1 : Int) else ((m + 1 : Nat) : Int) := by
        intro m L
        by_cases hm : m = L
        · simp [hm]
        · rw [if_neg hm, if_neg (by simp <;> omega), if_neg (by omega)]; rfl
      exact key _ _
end Go.Proofs.YtllnfiidmpopkaaDoor
