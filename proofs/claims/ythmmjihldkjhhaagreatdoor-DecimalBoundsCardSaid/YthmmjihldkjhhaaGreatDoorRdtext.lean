/-
  How the text of a decimal is taken apart: what both readers share. No condition.
-/
import Derived.Test.YthmmjihldkjhhaaGreatDoorRes
namespace Go.Proofs.YthmmjihldkjhhaaGreatDoor
open Go Go.RowKit

namespace Dc
theorem whole_part (l : List Nat) : (l = whole l ∧ part l = []) ∨ l = whole l ++ 46 :: part l := by
  unfold whole part
  have h := List.takeWhile_append_dropWhile (p := fun c => decide (c ≠ 46)) (l := l)
  cases hd : l.dropWhile (fun c => decide (c ≠ 46)) with
  | nil => rw [hd, List.append_nil] at h; exact .inl ⟨h.symm, rfl⟩
  | cons c r =>
    have hc : c = 46 := by
      have := List.head?_dropWhile_not (fun c => decide (c ≠ 46)) l
      rw [hd] at this
      simpa using this
    rw [hd, hc] at h
    exact .inr h.symm
theorem takeWhile_all {p : Nat → Bool} : ∀ {l : List Nat} {c : Nat}, c ∈ l.takeWhile p → p c = true
  | [], _, h => by simp at h
  | x :: l, c, h => by
    rw [List.takeWhile_cons] at h
    split at h
    · rename_i hp
      rcases List.mem_cons.1 h with rfl | h
      · exact hp
      · exact takeWhile_all h
    · cases h
theorem whole_ne (l : List Nat) : ∀ c ∈ whole l, c ≠ 46 := fun c hc => by
  have := takeWhile_all (l := l) hc
  simpa using this
theorem whole_part_length (l : List Nat) : (whole l ++ part l).length ≤ l.length := by
  rcases whole_part l with ⟨h1, h2⟩ | h
  · rw [← h1, h2, List.append_nil]; exact Nat.le_refl _
  · have := congrArg List.length h
    rw [List.length_append, List.length_cons] at this
    rw [List.length_append]; omega
theorem whole_length (l : List Nat) : (whole l).length ≤ l.length := by
  have := whole_part_length l
  rw [List.length_append] at this; omega
theorem whole_at {l : List Nat} (h : (whole l).length < l.length) : l.getD (whole l).length 0 = 46 ∧ l.take (whole l).length = whole l ∧ l.drop ((whole l).length + 1) = part l ∧ l.length = (whole l).length + 1 + (part l).length := by
  rcases whole_part l with ⟨h1, _⟩ | h1
  · rw [← h1] at h; omega
  · generalize whole l = W at *
    generalize part l = Q at *
    subst h1
    refine ⟨?_, ?_, ?_, ?_⟩
    · rw [List.getD_eq_getElem?_getD, List.getElem?_append_right (Nat.le_refl _)]; simp
    · rw [List.take_left']; rfl
    · rw [← List.drop_drop, List.drop_left']; rfl; rfl
    · rw [List.length_append, List.length_cons]; omega
theorem whole_lt {l : List Nat} {k : Nat} (h : k < (whole l).length) : l.getD k 0 ≠ 46 := by
  have h1 : l.getD k 0 = (whole l).getD k 0 := by
    rcases whole_part l with ⟨h1, _⟩ | h1
    · rw [← h1]
    · rw [List.getD_eq_getElem?_getD, List.getD_eq_getElem?_getD]
      conv => lhs; rw [h1]
      rw [List.getElem?_append_left h]
  rw [h1, List.getD_eq_getElem?_getD, List.getElem?_eq_getElem h]
  exact whole_ne l _ (List.getElem_mem h)
theorem whole_all {l : List Nat} (h : (whole l).length = l.length) : whole l = l ∧ part l = [] := by
  rcases whole_part l with ⟨h1, h2⟩ | h1
  · exact ⟨h1.symm, h2⟩
  · have := congrArg List.length h1
    rw [List.length_append, List.length_cons] at this; omega
end Dc
/-- Does a list consist of digits? -/
def onlyL (l : List Nat) : Bool := l.all Dc.dig && decide (l.length ≠ 0)
theorem onlyB_L (s : ByteArray) : onlyB s = onlyL (bts s) := by unfold onlyB onlyL; rw [bts_length]
theorem onlyL_digs {s : ByteArray} (h : onlyL (bts s) = true) : Digs s := by
  unfold onlyL at h
  rw [Bool.and_eq_true, decide_eq_true_eq] at h
  exact ⟨h.1, fun he => h.2 (by rw [he]; rfl)⟩
/-- What a text without its sign stands for. -/
def allL (m : List Nat) : List Nat := Dc.whole m ++ Dc.part m
theorem readR_yes {l m : List Nat} {neg : Bool} (hu : Dc.unsign l = (neg, m)) (ho : onlyL (allL m) = true) : readR l = resOf (Dc.can neg (Dc.val (allL m)) (Dc.part m).length) := by
  unfold onlyL at ho
  rw [Bool.and_eq_true, decide_eq_true_eq] at ho
  unfold readR Dc.readD
  rw [hu]
  simp only
  rw [if_pos ⟨ho.1, fun he => ho.2 (by unfold allL; rw [he]; rfl)⟩]
  rfl
theorem readR_no {l m : List Nat} {neg : Bool} (hu : Dc.unsign l = (neg, m)) (ho : onlyL (allL m) = false) : readR l = formR := by
  unfold readR Dc.readD
  rw [hu]
  simp only
  rw [if_neg]
  rintro ⟨h1, h2⟩
  have : onlyL (allL m) = true := by
    unfold onlyL
    rw [Bool.and_eq_true, decide_eq_true_eq]
    exact ⟨h1, fun he => h2 (List.length_eq_zero_iff.1 he)⟩
  rw [this] at ho; cases ho
theorem unsign_minus {s : ByteArray} (h : (bts s).head? = some 45) : Dc.unsign (bts s) = (true, bts (s.extract 1 s.size)) := by
  rw [bts_tail]
  cases hb : bts s with
  | nil => rw [hb] at h; cases h
  | cons c r => rw [hb] at h; obtain rfl : c = 45 := Option.some.inj h; rfl
theorem unsign_plus {s : ByteArray} (h : (bts s).head? = some 43) : Dc.unsign (bts s) = (false, bts (s.extract 1 s.size)) := by
  rw [bts_tail]
  cases hb : bts s with
  | nil => rw [hb] at h; cases h
  | cons c r => rw [hb] at h; obtain rfl : c = 43 := Option.some.inj h; rfl
theorem unsign_none {s : ByteArray} (h1 : (bts s).head? ≠ some 45) (h2 : (bts s).head? ≠ some 43) : Dc.unsign (bts s) = (false, bts s) := by
  cases hb : bts s with
  | nil => rfl
  | cons c r =>
    rw [hb] at h1 h2
    show (if c = 45 then (true, r) else if c = 43 then (false, r) else (false, c :: r)) = _
    rw [if_neg (fun e => h1 (by rw [e]; rfl)), if_neg (fun e => h2 (by rw [e]; rfl))]
end Go.Proofs.YthmmjihldkjhhaaGreatDoor
