/-
  The words of a text, drawn together: one list law, no program in it.
-/
import Derived.Test.YtllnfiidmpopkaaDoorSqueezeRef2
import Derived.Lib.SplitLaws
import Derived.Lib.Join
namespace Go.Proofs.YtllnfiidmpopkaaDoor
open Go Go.RowKit

theorem split_nil (c : UInt8) : Lib.split [] [c] = [[]] := by
  unfold Lib.split
  rw [Lib.count_one]; rfl
theorem split_eq (c : UInt8) (l : List UInt8) : Lib.split (c :: l) [c] = [] :: Lib.split l [c] := by
  have hix : Lib.index (c :: l) [c] = 0 := by rw [Lib.index]; simp [List.isPrefixOf]
  unfold Lib.split
  rw [Lib.count_cons_eq, Nat.add_comm, Lib.splitK, hix]
  simp
theorem split_ne (b c : UInt8) (l : List UInt8) (h : b ≠ c) (w0 : List UInt8) (rest : List (List UInt8)) (hs : Lib.split l [c] = w0 :: rest) : Lib.split (b :: l) [c] = (b :: w0) :: rest := by
  have hp : ([c] : List UInt8).isPrefixOf (b :: l) = false := by simp [List.isPrefixOf, Ne.symm h]
  have hix : Lib.index (b :: l) [c] = if Lib.index l [c] == -1 then -1 else Lib.index l [c] + 1 := by rw [Lib.index, hp]; simp
  by_cases hm : Lib.index l [c] = -1
  · unfold Lib.split at hs ⊢
    rw [Lib.count_cons_ne b c l h]
    rw [Lib.count_miss hm] at hs ⊢
    simp only [Lib.splitK, List.cons.injEq] at hs ⊢
    exact ⟨⟨trivial, hs.1⟩, hs.2⟩
  · have hge := Lib.index_ge l [c]
    obtain ⟨j, hj⟩ : ∃ j : Nat, Lib.index l [c] = j := ⟨(Lib.index l [c]).toNat, by omega⟩
    have hix' : Lib.index (b :: l) [c] = ((j + 1 : Nat) : Int) := by rw [hix, if_neg (fun e => hm (beq_iff_eq.1 e)), hj]; omega
    unfold Lib.split at hs ⊢
    rw [Lib.count_cons_ne b c l h]
    rw [Lib.count_hit (by simp) hj, Nat.add_comm, Lib.splitK, if_neg (by rw [hj]; simp), hj] at hs
    rw [Lib.count_hit (by simp) hj, Nat.add_comm, Lib.splitK, if_neg (by rw [hix']; simp; omega), hix']
    simp only [List.cons.injEq] at hs
    obtain ⟨h1, h2⟩ := hs
    simp only [Int.toNat_natCast, Nat.add_zero, List.length_cons, List.length_nil, Nat.zero_add] at h1 h2 ⊢
    rw [List.take_succ_cons, List.drop_succ_cons, h1, h2]

/-- The bytes that stay, one space where some stood. -/
def sqF : Bool → List UInt8 → List UInt8
  | _, [] => []
  | true, c :: l => if c = 32 then sqF true l else c :: sqF false l
  | false, c :: l => if c = 32 then c :: sqF true l else c :: sqF false l
/-- No space at the end. -/
def trail (l : List UInt8) : List UInt8 := if l.getLast? = some 32 then l.dropLast else l
/-- The words that are not empty. -/
def full (ws : List (List UInt8)) : List (List UInt8) := ws.filter fun w => !w.isEmpty

theorem trail_cons (c : UInt8) (l : List UInt8) (h : c ≠ 32 ∨ l ≠ []) : trail (c :: l) = c :: trail l := by
  unfold trail
  cases l with
  | nil =>
    have : c ≠ 32 := h.elim id (fun h => absurd rfl h)
    simp [this]
  | cons d l =>
    rw [List.getLast?_cons_cons]
    split
    · rw [List.dropLast_cons_cons]
    · rfl
theorem sqF_words (l : List UInt8) : trail (sqF true l) = Lib.join (full (Lib.split l [32])) [32] ∧ (sqF true l = [] ↔ full (Lib.split l [32]) = []) ∧
    ∃ w0 rest, Lib.split l [32] = w0 :: rest ∧ trail (sqF false l) = w0 ++ Lib.joinTail [32] (full rest) := by
  induction l with
  | nil => exact ⟨by rw [split_nil]; rfl, by rw [split_nil]; exact ⟨fun _ => rfl, fun _ => rfl⟩, [], [], split_nil 32, rfl⟩
  | cons c l ih =>
    obtain ⟨iT, i0, w0, rest, hs, iF⟩ := ih
    by_cases hc : c = 32
    · subst hc
      have e1 : full (Lib.split (32 :: l) [32]) = full (Lib.split l [32]) := by rw [split_eq]; rfl
      refine ⟨by rw [e1]; simpa [sqF] using iT, by rw [e1]; simpa [sqF] using i0, [], Lib.split l [32], split_eq 32 l, ?_⟩
      have e2 : sqF false (32 :: l) = 32 :: sqF true l := by simp [sqF]
      rw [e2, List.nil_append]
      by_cases hn : sqF true l = []
      · rw [hn, i0.1 hn]; rfl
      · rw [trail_cons _ _ (.inr hn), iT]
        cases hf : full (Lib.split l [32]) with
        | nil => exact absurd (i0.2 hf) hn
        | cons x r => rw [Lib.join_cons]; simp [Lib.joinTail]
    · have hs2 := split_ne c 32 l hc w0 rest hs
      have e1 : full ((c :: w0) :: rest) = (c :: w0) :: full rest := rfl
      have e2 : ∀ b, sqF b (c :: l) = c :: sqF false l := fun b => by cases b <;> simp [sqF, hc]
      refine ⟨?_, ?_, c :: w0, rest, hs2, ?_⟩
      · rw [e2, hs2, e1, Lib.join_cons, trail_cons _ _ (.inl hc), iF]; rfl
      · rw [e2, hs2, e1]; simp
      · rw [e2, trail_cons _ _ (.inl hc), iF]; rfl

/-- The reference's way is the same. -/
theorem sqRow_eq (l : List Nat) (hl : ∀ c ∈ l, c < 256) : ∀ out : List Nat, (∀ c ∈ out, c < 256) →
    (l.foldl sqStep out).map UInt8.ofNat = out.map UInt8.ofNat ++ sqF (decide (out = [] ∨ out.getLast? = some 32)) ((l.map sqB).map UInt8.ofNat) := by
  induction l with
  | nil => intro out _; simp [sqF]
  | cons c l ih =>
    intro out ho
    have hc := hl c (by simp)
    have hb := sqB_lt hc
    have ih' := ih (fun d hd => hl d (by simp [hd]))
    have h32 : UInt8.ofNat (sqB c) = 32 ↔ sqB c = 32 := by
      constructor
      · intro h
        have := congrArg UInt8.toNat h
        simpa [Nat.mod_eq_of_lt hb] using this
      · intro h; rw [h]; rfl
    rw [List.foldl_cons, List.map_cons, List.map_cons]
    by_cases hx : sqB c = 32
    · by_cases hf : out = [] ∨ out.getLast? = some 32
      · have e : sqStep out c = out := by rw [sqStep, if_pos ⟨hx, hf⟩]
        rw [e, ih' out ho, decide_eq_true hf, sqF, if_pos (h32.2 hx)]
      · have e : sqStep out c = out ++ [sqB c] := by rw [sqStep, if_neg (fun h => hf h.2)]
        have hf2 : (out ++ [sqB c] = [] ∨ (out ++ [sqB c]).getLast? = some 32) := .inr (by simp [hx])
        rw [e, ih' _ (by simpa using fun d hd => hd.elim (ho d) (fun h => h ▸ hb)), decide_eq_true hf2, decide_eq_false hf, sqF, if_pos (h32.2 hx)]
        simp
    · have e : sqStep out c = out ++ [sqB c] := by rw [sqStep, if_neg (fun h => hx h.1)]
      have hf2 : ¬ (out ++ [sqB c] = [] ∨ (out ++ [sqB c]).getLast? = some 32) := by simp [hx]
      rw [e, ih' _ (by simpa using fun d hd => hd.elim (ho d) (fun h => h ▸ hb)), decide_eq_false hf2]
      cases decide (out = [] ∨ out.getLast? = some 32) <;> simp [sqF, h32, hx]
theorem sqRow_lt (l : List Nat) (hl : ∀ c ∈ l, c < 256) : ∀ c ∈ sqRow l, c < 256 := by
  have : ∀ (l : List Nat), (∀ c ∈ l, c < 256) → ∀ out : List Nat, (∀ c ∈ out, c < 256) → ∀ c ∈ l.foldl sqStep out, c < 256 := by
    intro l
    induction l with
    | nil => intro _ out ho; exact ho
    | cons d l ih =>
      intro hl out ho
      refine ih (fun c hc => hl c (by simp [hc])) _ ?_
      unfold sqStep
      split
      · exact ho
      · intro c hc
        rcases List.mem_append.1 hc with h | h
        · exact ho c h
        · rw [List.mem_singleton.1 h]; exact sqB_lt (hl d (by simp))
  exact this l hl [] (by simp)
theorem sqTwo_eq (l : List Nat) (hl : ∀ c ∈ l, c < 256) : (sqTwo l).map UInt8.ofNat = Lib.join (full (Lib.split ((l.map sqB).map UInt8.ofNat) [32])) [32] := by
  rw [← (sqF_words _).1]
  have h := sqRow_eq l hl [] (by simp)
  simp only [List.map_nil, List.nil_append, true_or, decide_true] at h
  rw [← h]
  have hlt := sqRow_lt l hl
  unfold sqTwo trail
  have e : ((List.foldl sqStep [] l).map UInt8.ofNat).getLast? = some 32 ↔ (sqRow l).getLast? = some 32 := by
    rw [List.getLast?_map]
    show Option.map UInt8.ofNat (sqRow l).getLast? = some 32 ↔ _
    cases hg : (sqRow l).getLast? with
    | none => simp
    | some c =>
      have hc := hlt c (List.mem_of_getLast? hg)
      simp only [Option.map_some, Option.some.injEq]
      constructor
      · intro h
        have := congrArg UInt8.toNat h
        simpa [Nat.mod_eq_of_lt hc] using this
      · intro h; rw [h]; rfl
  by_cases hg : (sqRow l).getLast? = some 32
  · rw [if_pos hg, if_pos (e.2 hg), List.map_dropLast]; rfl
  · rw [if_neg hg, if_neg (fun h => hg (e.1 h))]; rfl
end Go.Proofs.YtllnfiidmpopkaaDoor
