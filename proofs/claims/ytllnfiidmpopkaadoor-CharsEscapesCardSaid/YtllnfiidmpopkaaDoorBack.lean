/-
  Unescape of Escape is the text. Plain laws; no condition.
-/
import Derived.Test.YtllnfiidmpopkaaDoorUnesc
import Derived.Test.YtllnfiidmpopkaaDoorTexts
import Derived.Test.YtllnfiidmpopkaaDoorSqueeze2
namespace Go.Proofs.YtllnfiidmpopkaaDoor
open Go Go.RowKit

theorem un_char (f p c : Nat) (r out : List Nat) (h : c ≠ 38) : unF (f + 1) (c :: r) p out = unF f r (p + 1) (out ++ [c]) := by rw [unF, if_pos h]
theorem find59_at (e r : List Nat) (h : 59 ∉ e) : find59 (e ++ 59 :: r) = e.length := by
  refine find59_eq (by simp) (fun i hi => ?_) ?_
  · rw [List.getD_eq_getElem?_getD, List.getElem?_append_left hi, List.getElem?_eq_getElem hi]
    exact fun h2 => h (h2 ▸ List.getElem_mem hi)
  · rw [List.getD_eq_getElem?_getD, List.getElem?_append_right (Nat.le_refl _)]; simp
theorem un_esc (f p n : Nat) (e r out : List Nat) (h : 59 ∉ e) (hc : charM e = some n) : unF (f + 1) (38 :: (e ++ 59 :: r)) p out = unF f r (p + e.length + 2) (out ++ Ch.encN n) := by
  rw [unF, if_neg (by decide), find59_at e r h, if_neg (by simp), List.take_left, hc]
  simp only [List.drop_append, Nat.add_sub_cancel_left]
  congr 1
  rw [List.drop_eq_nil_of_le (by omega)]
  simp
/-- One step undoes what one byte became. -/
theorem un_escL (f p c : Nat) (r out : List Nat) (a : Bool) : ∃ q, unF (f + 1) (escL c a ++ r) p out = unF f r q (out ++ [c]) := by
  unfold escL
  by_cases h60 : c = 60
  · subst h60; rw [if_pos rfl]; exact ⟨_, un_esc f p 60 [108, 116] r out (by decide) (by decide +kernel)⟩
  rw [if_neg h60]
  by_cases h62 : c = 62
  · subst h62; rw [if_pos rfl]; exact ⟨_, un_esc f p 62 [103, 116] r out (by decide) (by decide +kernel)⟩
  rw [if_neg h62]
  by_cases h38 : c = 38
  · subst h38; rw [if_pos rfl]; exact ⟨_, un_esc f p 38 [97, 109, 112] r out (by decide) (by decide +kernel)⟩
  rw [if_neg h38]
  by_cases h13 : c = 13
  · subst h13; rw [if_pos rfl]; exact ⟨_, un_esc f p 13 [35, 49, 51] r out (by decide) (by decide +kernel)⟩
  rw [if_neg h13]
  have last : ∃ q, unF (f + 1) ([c] ++ r) p out = unF f r q (out ++ [c]) := ⟨_, un_char f p c r out h38⟩
  cases a with
  | false => simpa using last
  | true =>
    simp only [Bool.true_and, decide_eq_true_eq]
    by_cases h34 : c = 34
    · subst h34; rw [if_pos rfl]; exact ⟨_, un_esc f p 34 [113, 117, 111, 116] r out (by decide) (by decide +kernel)⟩
    rw [if_neg h34]
    by_cases h9 : c = 9
    · subst h9; rw [if_pos rfl]; exact ⟨_, un_esc f p 9 [35, 57] r out (by decide) (by decide +kernel)⟩
    rw [if_neg h9]
    by_cases h10 : c = 10
    · subst h10; rw [if_pos rfl]; exact ⟨_, un_esc f p 10 [35, 49, 48] r out (by decide) (by decide +kernel)⟩
    rw [if_neg h10]
    exact last
theorem escL_pos (c : Nat) (a : Bool) : 1 ≤ (escL c a).length := by
  unfold escL
  repeat' split
  all_goals simp
theorem un_all (l : List Nat) (a : Bool) : ∀ f p out, (escAll l a).length < f → unF f (escAll l a) p out = .inr (out ++ l) := by
  induction l with
  | nil =>
    intro f p out hf
    cases f with
    | zero => omega
    | succ f => simp [escAll, unF]
  | cons c l ih =>
    intro f p out hf
    cases f with
    | zero => omega
    | succ f =>
      have e : escAll (c :: l) a = escL c a ++ escAll l a := rfl
      rw [e] at hf ⊢
      rw [List.length_append] at hf
      have h1 := escL_pos c a
      obtain ⟨q, hq⟩ := un_escL f p c (escAll l a) out a
      rw [hq, ih f q _ (by omega)]
      simp
theorem escAll_bytes (s : ByteArray) (a : Bool) : ∀ b ∈ escAll (bts s) a, b < 256 := by
  intro b hb
  obtain ⟨c, hc, hbc⟩ := List.mem_flatMap.1 hb
  exact escL_lt c a (bts_lt s c hc) b hbc
/-- Unescape of Escape is the text. -/
theorem back_escape {s : ByteArray} (a : Bool) (h : wrongI s = -1) : wrongI (str (escAll (bts s) a)) = -1 ∧ unEnd (str (escAll (bts s) a)) = .returned (.tuple #[.string s, .int .i64 0, .int .i64 0]) := by
  have hb : bts (str (escAll (bts s) a)) = escAll (bts s) a := bts_str _ (escAll_bytes s a)
  have hw : wrongI (str (escAll (bts s) a)) = -1 := text_is (by rw [hb]; exact isText_esc a ((text_iff s).1 h))
  refine ⟨hw, (unEnd_good hw ?_ (str_bts s).symm).symm⟩
  unfold unT
  rw [hb, un_all _ a _ _ _ (by rw [str_size]; omega)]
  rfl
end Go.Proofs.YtllnfiidmpopkaaDoor
