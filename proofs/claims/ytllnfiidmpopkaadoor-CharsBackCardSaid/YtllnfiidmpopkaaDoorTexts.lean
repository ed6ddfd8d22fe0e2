/-
  Texts as rows of characters: their bytes give the characters back, escapes are undone, squeezing twice is squeezing once. Plain laws; no condition.
-/
import Derived.Test.YtllnfiidmpopkaaDoorWords
import Derived.Test.YtllnfiidmpopkaaDoorEscapeRef
namespace Go.Proofs.YtllnfiidmpopkaaDoor
open Go Go.RowKit

/-- The bytes of characters. -/
def encs (zs : List Nat) : List Nat := zs.flatMap Ch.encN
theorem encs_cons (z : Nat) (zs : List Nat) : encs (z :: zs) = Ch.encN z ++ encs zs := rfl
theorem encs_append (a b : List Nat) : encs (a ++ b) = encs a ++ encs b := List.flatMap_append
theorem encs_one {z : Nat} (h : z < 128) : encs [z] = [z] := by simp [encs, Ch.encN, h]
theorem raw_enc (c : Nat) (h : c ≤ 1114111) (r : List Nat) : Ch.raw (Ch.encN c ++ r) = some (c, Ch.lenN c) := by
  unfold Ch.encN Ch.lenN Ch.raw
  by_cases h1 : c < 128
  · simp [h1]
  by_cases h2 : c < 2048
  · simp only [if_neg h1, if_pos h2, List.cons_append, List.nil_append, List.length_cons, List.getD_cons_zero, List.getD_cons_succ]
    rw [if_neg (by omega), if_neg (by omega), if_neg (by omega), if_pos (by omega), if_pos (by omega)]
    simp only [Option.some.injEq, Prod.mk.injEq, and_true]; omega
  by_cases h3 : c < 65536
  · simp only [if_neg h1, if_neg h2, if_pos h3, List.cons_append, List.nil_append, List.length_cons, List.getD_cons_zero, List.getD_cons_succ]
    rw [if_neg (by omega), if_neg (by omega), if_neg (by omega), if_neg (by omega), if_pos (by omega), if_pos (by omega)]
    simp only [Option.some.injEq, Prod.mk.injEq, and_true]; omega
  · simp only [if_neg h1, if_neg h2, if_neg h3, List.cons_append, List.nil_append, List.length_cons, List.getD_cons_zero, List.getD_cons_succ]
    rw [if_neg (by omega), if_neg (by omega), if_neg (by omega), if_neg (by omega), if_neg (by omega), if_pos (by omega), if_pos (by omega)]
    simp only [Option.some.injEq, Prod.mk.injEq, and_true]; omega
theorem dec_enc {c : Nat} (h : Ch.valid (c : Int) = true) (r : List Nat) : Ch.dec (Ch.encN c ++ r) = some (c, Ch.lenN c) := by
  unfold Ch.dec
  rw [raw_enc c (valid_nat h) r]
  simp [Ch.good, h]
theorem enc_ne (c : Nat) (r : List Nat) : Ch.encN c ++ r ≠ [] := by
  intro h
  have h2 := Ch.encN_length c
  have := (Ch.lenN_pos c).1
  rw [List.append_eq_nil_iff] at h
  rw [h.1, List.length_nil] at h2
  omega
theorem items_enc (zs : List Nat) (hv : ∀ z ∈ zs, Ch.valid (z : Int) = true) : ∀ f p, (encs zs).length < f → (Ch.items f (encs zs) p).map (·.2) = zs.map fun z : Nat => (z : Int) := by
  induction zs with
  | nil =>
    intro f p hf
    cases f with
    | zero => rfl
    | succ f => rfl
  | cons z zs ih =>
    intro f p hf
    cases f with
    | zero => omega
    | succ f =>
      have hz := hv z (List.mem_cons_self ..)
      have hl := Ch.encN_length z
      have hp := Ch.lenN_pos z
      rw [encs_cons] at hf ⊢
      rw [List.length_append] at hf
      rw [Ch.items, if_neg (enc_ne z _), dec_enc hz]
      simp only [List.map_cons, List.cons.injEq, true_and]
      have hd : (Ch.encN z ++ encs zs).drop (Ch.lenN z) = encs zs := by rw [← hl, List.drop_left]
      rw [hd]
      exact ih (fun y hy => hv y (List.mem_cons_of_mem _ hy)) f _ (by omega)
theorem enc_items (f : Nat) : ∀ (l : List Nat) (p : Nat), l.length < f → (∀ y ∈ Ch.items f l p, 0 ≤ y.2) → ∃ zs : List Nat, (∀ z ∈ zs, Ch.valid (z : Int) = true) ∧ l = encs zs ∧ (Ch.items f l p).map (·.2) = zs.map fun z : Nat => (z : Int) := by
  induction f with
  | zero => intro l p hf; omega
  | succ f ih =>
    intro l p hf hall
    by_cases hl : l = []
    · subst hl; exact ⟨[], by simp, rfl, rfl⟩
    · rw [Ch.items, if_neg hl] at hall ⊢
      cases hd : Ch.dec l with
      | none =>
        rw [hd] at hall
        have := hall (p, -1) (by simp)
        simp at this
      | some q =>
        obtain ⟨c, n⟩ := q
        rw [hd] at hall
        simp only at hall ⊢
        obtain ⟨hr, hv, hn⟩ := Ch.dec_some hd
        have hle := Ch.dec_le hd
        obtain ⟨zs, h1, h2, h3⟩ := ih (l.drop n) (p + n) (by rw [List.length_drop]; omega) (fun y hy => hall y (List.mem_cons_of_mem _ hy))
        refine ⟨c :: zs, ?_, ?_, ?_⟩
        · intro z hz
          rcases List.mem_cons.1 hz with rfl | hz
          · exact hv
          · exact h1 z hz
        · rw [encs_cons, ← h2, ← Ch.take_enc hr hn, List.take_append_drop]
        · simp only [List.map_cons, h3]
/-- A text of characters. -/
def IsText (l : List Nat) : Prop := ∃ zs : List Nat, (∀ z ∈ zs, Ch.valid (z : Int) = true) ∧ l = encs zs
theorem text_of {s : ByteArray} (h : wrongI s = -1) : ∃ zs : List Nat, (∀ z ∈ zs, Ch.valid (z : Int) = true) ∧ bts s = encs zs ∧ seconds (items s) = zs.map fun z : Nat => (z : Int) :=
  enc_items (s.size + 1) (bts s) 0 (by rw [bts_length]; omega) ((wrongI_iff s).1 h)
theorem text_is {s : ByteArray} (h : IsText (bts s)) : wrongI s = -1 := by
  obtain ⟨zs, hv, hl⟩ := h
  rw [wrongI_iff]
  intro y hy
  have h2 : seconds (items s) = zs.map fun z : Nat => (z : Int) := by
    unfold items seconds
    rw [hl]
    exact items_enc zs hv _ _ (by rw [← hl, bts_length]; omega)
  have hm : y.2 ∈ seconds (items s) := List.mem_map_of_mem hy
  rw [h2] at hm
  obtain ⟨z, _, hz⟩ := List.mem_map.1 hm
  omega
theorem text_seconds {s : ByteArray} {zs : List Nat} (hv : ∀ z ∈ zs, Ch.valid (z : Int) = true) (hl : bts s = encs zs) : seconds (items s) = zs.map fun z : Nat => (z : Int) := by
  unfold items seconds
  rw [hl]
  exact items_enc zs hv _ _ (by rw [← hl, bts_length]; omega)
theorem text_iff (s : ByteArray) : wrongI s = -1 ↔ IsText (bts s) := ⟨fun h => let ⟨zs, a, b, _⟩ := text_of h; ⟨zs, a, b⟩, text_is⟩
theorem encAll_nat (zs : List Nat) : encAll (zs.map fun z : Nat => (z : Int)) = encs zs := by
  simp [encAll, encs, List.flatMap_map]
theorem encs_lt {zs : List Nat} (hv : ∀ z ∈ zs, Ch.valid (z : Int) = true) : ∀ b ∈ encs zs, b < 256 := by
  intro b hb
  obtain ⟨z, hz, hb⟩ := List.mem_flatMap.1 hb
  exact Ch.encN_lt (valid_nat (hv z hz)) b hb
theorem nat_of_valid {zs : List Int} (h : zs.all Ch.valid = true) : ∃ ns : List Nat, zs = ns.map (fun z : Nat => (z : Int)) ∧ ∀ z ∈ ns, Ch.valid (z : Int) = true := by
  refine ⟨zs.map Int.toNat, ?_, ?_⟩
  · rw [List.map_map]
    symm
    refine (List.map_congr_left (g := id) (fun z hz => ?_)).trans (List.map_id zs)
    have := (Ch.valid_le (List.all_eq_true.1 h z hz)).1
    show ((z.toNat : Nat) : Int) = z
    omega
  · intro z hz
    obtain ⟨y, hy, rfl⟩ := List.mem_map.1 hz
    have hv := List.all_eq_true.1 h y hy
    have := (Ch.valid_le hv).1
    rw [show ((y.toNat : Nat) : Int) = y by omega]
    exact hv
/-- Encode of Decode is the text. -/
theorem back_text {s : ByteArray} (h : wrongI s = -1) : (seconds (items s)).all Ch.valid = true ∧ str (encAll (seconds (items s))) = s := by
  obtain ⟨zs, hv, hl, hs⟩ := text_of h
  rw [hs, encAll_nat, ← hl, str_bts]
  refine ⟨List.all_eq_true.2 (fun y hy => ?_), rfl⟩
  obtain ⟨z, hz, rfl⟩ := List.mem_map.1 hy
  exact hv z hz
/-- Decode of Encode are the characters. -/
theorem back_chars {zs : List Int} (h : zs.all Ch.valid = true) : wrongI (str (encAll zs)) = -1 ∧ seconds (items (str (encAll zs))) = zs := by
  obtain ⟨ns, rfl, hv⟩ := nat_of_valid h
  rw [encAll_nat]
  have hb : bts (str (encs ns)) = encs ns := bts_str _ (encs_lt hv)
  exact ⟨text_is ⟨ns, hv, hb⟩, text_seconds hv hb⟩

/-- Bytes from 128 on are no blank and need no escape. -/
theorem enc_high {z : Nat} (h : 128 ≤ z) : ∀ b ∈ Ch.encN z, 128 ≤ b := by
  intro b hb
  unfold Ch.encN at hb
  rw [if_neg (by omega)] at hb
  split at hb
  · simp at hb; omega
  · split at hb
    · simp at hb; omega
    · simp at hb; omega
theorem escL_high {b : Nat} (a : Bool) (h : 128 ≤ b) : escL b a = [b] := by
  unfold escL
  rw [if_neg (by omega), if_neg (by omega), if_neg (by omega), if_neg (by omega), decide_eq_false (by omega : ¬ b = 34), decide_eq_false (by omega : ¬ b = 9), decide_eq_false (by omega : ¬ b = 10)]
  simp
theorem escAll_append (l m : List Nat) (a : Bool) : escAll (l ++ m) a = escAll l a ++ escAll m a := List.flatMap_append
theorem escAll_high {l : List Nat} (a : Bool) (h : ∀ b ∈ l, 128 ≤ b) : escAll l a = l := by
  induction l with
  | nil => rfl
  | cons b l ih =>
    have e : escAll (b :: l) a = escL b a ++ escAll l a := rfl
    rw [e, escL_high a (h b (List.mem_cons_self ..)), ih (fun c hc => h c (List.mem_cons_of_mem _ hc))]; rfl
theorem isText_nil : IsText [] := ⟨[], by simp, rfl⟩
theorem isText_append {l m : List Nat} (hl : IsText l) (hm : IsText m) : IsText (l ++ m) := by
  obtain ⟨a, ha, rfl⟩ := hl
  obtain ⟨b, hb, rfl⟩ := hm
  exact ⟨a ++ b, fun z hz => (List.mem_append.1 hz).elim (ha z) (hb z), (encs_append a b).symm⟩
theorem isText_one {z : Nat} (h : Ch.valid (z : Int) = true) (hz : z < 128) : IsText [z] := ⟨[z], fun y hy => by rw [List.mem_singleton.1 hy]; exact h, (encs_one hz).symm⟩
theorem isText_enc {z : Nat} (h : Ch.valid (z : Int) = true) : IsText (Ch.encN z) := ⟨[z], fun y hy => by rw [List.mem_singleton.1 hy]; exact h, by simp [encs]⟩
theorem isText_escL {z : Nat} (a : Bool) (h : Ch.valid (z : Int) = true) (hz : z < 128) : IsText (escL z a) := by
  have low : ∀ l : List Nat, (l.all fun y => Ch.valid (y : Int) && decide (y < 128)) = true → IsText l := by
    intro l
    induction l with
    | nil => intro _; exact isText_nil
    | cons y l ih =>
      intro hl
      simp only [List.all_cons, Bool.and_eq_true, decide_eq_true_eq] at hl
      exact isText_append (isText_one hl.1.1 hl.1.2) (ih hl.2)
  unfold escL
  split
  · exact low _ (by decide)
  split
  · exact low _ (by decide)
  split
  · exact low _ (by decide)
  split
  · exact low _ (by decide)
  split
  · exact low _ (by decide)
  split
  · exact low _ (by decide)
  split
  · exact low _ (by decide)
  · exact isText_one h hz
/-- A text with escapes is a text. -/
theorem isText_esc {l : List Nat} (a : Bool) (h : IsText l) : IsText (escAll l a) := by
  obtain ⟨zs, hv, rfl⟩ := h
  induction zs with
  | nil => exact isText_nil
  | cons z zs ih =>
    rw [encs_cons, escAll_append]
    refine isText_append ?_ (ih (fun y hy => hv y (List.mem_cons_of_mem _ hy)))
    have hz := hv z (List.mem_cons_self ..)
    by_cases h128 : z < 128
    · rw [show Ch.encN z = [z] by simp [Ch.encN, h128]]
      have e : escAll [z] a = escL z a := by simp [escAll]
      rw [e]; exact isText_escL a hz h128
    · rw [escAll_high a (enc_high (by omega))]; exact isText_enc hz
/-- A text whose blanks are spaces is a text. -/
theorem sqB_high {b : Nat} (h : 128 ≤ b) : sqB b = b := by
  unfold sqB Ch.blank
  rw [if_neg]
  simp; omega
theorem sqB_sqB (b : Nat) : sqB (sqB b) = sqB b := by
  unfold sqB
  by_cases h : Ch.blank (b : Int) = true
  · rw [if_pos h]; decide
  · rw [if_neg h, if_neg h]
theorem valid_sqB {z : Nat} (h : Ch.valid (z : Int) = true) : Ch.valid (sqB z : Int) = true := by
  unfold sqB
  split
  · decide
  · exact h
theorem sqB_low {z : Nat} (h : z < 128) : sqB z < 128 := by unfold sqB; split <;> omega
theorem isText_sqB {l : List Nat} (h : IsText l) : IsText (l.map sqB) := by
  obtain ⟨zs, hv, rfl⟩ := h
  induction zs with
  | nil => exact isText_nil
  | cons z zs ih =>
    rw [encs_cons, List.map_append]
    refine isText_append ?_ (ih (fun y hy => hv y (List.mem_cons_of_mem _ hy)))
    have hz := hv z (List.mem_cons_self ..)
    by_cases h128 : z < 128
    · rw [show Ch.encN z = [z] by simp [Ch.encN, h128]]
      exact isText_one (valid_sqB hz) (sqB_low h128)
    · have e : (Ch.encN z).map sqB = Ch.encN z := (List.map_congr_left (g := id) (fun b hb => sqB_high (enc_high (by omega) b hb))).trans (List.map_id _)
      rw [e]; exact isText_enc hz
theorem sqStep_high {out : List Nat} {b : Nat} (h : 128 ≤ b) : sqStep out b = out ++ [b] := by
  unfold sqStep
  rw [sqB_high h, if_neg (by omega)]
theorem foldl_high {l : List Nat} (h : ∀ b ∈ l, 128 ≤ b) : ∀ out, l.foldl sqStep out = out ++ l := by
  induction l with
  | nil => intro out; simp
  | cons b l ih =>
    intro out
    rw [List.foldl_cons, sqStep_high (h b (List.mem_cons_self ..)), ih (fun c hc => h c (List.mem_cons_of_mem _ hc))]
    simp
theorem isText_step {out : List Nat} {z : Nat} (ho : IsText out) (hv : Ch.valid (z : Int) = true) (hz : z < 128) : IsText (sqStep out z) := by
  unfold sqStep
  split
  · exact ho
  · exact isText_append ho (isText_one (valid_sqB hv) (sqB_low hz))
theorem isText_row {l : List Nat} (h : IsText l) : IsText (sqRow l) := by
  obtain ⟨zs, hv, rfl⟩ := h
  have : ∀ (zs : List Nat), (∀ z ∈ zs, Ch.valid (z : Int) = true) → ∀ out, IsText out → IsText ((encs zs).foldl sqStep out) := by
    intro zs
    induction zs with
    | nil => intro _ out ho; exact ho
    | cons z zs ih =>
      intro hv out ho
      rw [encs_cons, List.foldl_append]
      refine ih (fun y hy => hv y (List.mem_cons_of_mem _ hy)) _ ?_
      have hz := hv z (List.mem_cons_self ..)
      by_cases h128 : z < 128
      · rw [show Ch.encN z = [z] by simp [Ch.encN, h128]]
        exact isText_step ho hz h128
      · rw [foldl_high (enc_high (by omega))]
        exact isText_append ho (isText_enc hz)
  exact this zs hv [] isText_nil
theorem isText_dropLast {l : List Nat} (h : IsText l) (hl : l.getLast? = some 32) : IsText l.dropLast := by
  obtain ⟨zs, hv, rfl⟩ := h
  rcases List.eq_nil_or_concat zs with rfl | ⟨ys, z, rfl⟩
  · cases hl
  · rw [List.concat_eq_append] at hv hl ⊢
    rw [encs_append] at hl ⊢
    have e : encs [z] = Ch.encN z := by simp [encs]
    rw [e] at hl ⊢
    have hn : Ch.encN z ≠ [] := fun h => enc_ne z [] (by rw [h]; rfl)
    by_cases h128 : z < 128
    · have e1 : Ch.encN z = [z] := by simp [Ch.encN, h128]
      rw [e1, List.dropLast_concat]
      exact ⟨ys, fun y hy => hv y (by simp [hy]), rfl⟩
    · obtain ⟨init, x, hx⟩ : ∃ init x, Ch.encN z = init ++ [x] := by
        rcases List.eq_nil_or_concat (Ch.encN z) with h0 | ⟨i, x, hx⟩
        · exact absurd h0 hn
        · exact ⟨i, x, by rw [hx, List.concat_eq_append]⟩
      have := enc_high (z := z) (by omega) x (by rw [hx]; simp)
      rw [hx, ← List.append_assoc, List.getLast?_concat] at hl
      have h32 := Option.some.inj hl
      omega
/-- A squeezed text is a text. -/
theorem isText_two {l : List Nat} (h : IsText l) : IsText (sqTwo l) := by
  unfold sqTwo
  split
  · rename_i hl; exact isText_dropLast (isText_row h) hl
  · exact isText_row h
theorem sqStep_sqB (out : List Nat) (c : Nat) : sqStep out (sqB c) = sqStep out c := by unfold sqStep; rw [sqB_sqB]
theorem sqRow_map (l : List Nat) : sqRow (l.map sqB) = sqRow l := by
  unfold sqRow
  rw [List.foldl_map]
  congr 1
  funext out c
  exact sqStep_sqB out c
theorem sqTwo_map (l : List Nat) : sqTwo (l.map sqB) = sqTwo l := by unfold sqTwo; rw [sqRow_map]
theorem sqRow_snoc (l : List Nat) (c : Nat) : sqRow (l ++ [c]) = sqStep (sqRow l) c := by simp [sqRow]
theorem sqRow_again (l : List Nat) : sqRow (sqRow l) = sqRow l := by
  have : ∀ (l out : List Nat), sqRow out = out → sqRow (l.foldl sqStep out) = l.foldl sqStep out := by
    intro l
    induction l with
    | nil => intro out h; exact h
    | cons c l ih =>
      intro out h
      refine ih _ ?_
      unfold sqStep
      split
      · exact h
      · rename_i hn
        rw [sqRow_snoc, h, sqStep_sqB]
        unfold sqStep
        rw [if_neg hn]
  exact this l [] rfl
theorem sqTwo_again (l : List Nat) : sqTwo (sqTwo l) = sqTwo l := by
  by_cases h : (sqRow l).getLast? = some 32
  · have e1 : sqTwo l = (sqRow l).dropLast := by unfold sqTwo; rw [if_pos h]
    obtain ⟨out, ho⟩ : ∃ out, sqRow l = out ++ [32] := by
      rcases List.eq_nil_or_concat (sqRow l) with h0 | ⟨ys, z, hy⟩
      · rw [h0] at h; cases h
      · rw [hy] at h; simp at h; subst h; exact ⟨ys, by simpa using hy⟩
    have e2 : sqTwo l = out := by rw [e1, ho, List.dropLast_concat]
    have ha := sqRow_again l
    rw [ho, sqRow_snoc] at ha
    have hlen := sqRow_length out
    have hne : ¬ (sqB 32 = 32 ∧ (sqRow out = [] ∨ (sqRow out).getLast? = some 32)) := by
      intro hc
      unfold sqStep at ha
      rw [if_pos hc] at ha
      have := congrArg List.length ha
      simp at this
      omega
    unfold sqStep at ha
    rw [if_neg hne, show sqB 32 = 32 by decide] at ha
    have hr : sqRow out = out := List.append_cancel_right ha
    rw [e2]
    unfold sqTwo
    rw [hr, if_neg]
    intro hl
    exact hne ⟨by decide, .inr (by rw [hr]; exact hl)⟩
  · have e1 : sqTwo l = sqRow l := by unfold sqTwo; rw [if_neg h]
    rw [e1]
    unfold sqTwo
    rw [sqRow_again, if_neg h]
end Go.Proofs.YtllnfiidmpopkaaDoor
