/-
  Plain laws: the bytes of a character that has been read are the bytes that were read. No condition.
-/
import Derived.Test.YtllnfiidmpopkaaDoorPlain
namespace Go.Proofs.YtllnfiidmpopkaaDoor.Ch

theorem valid_le {c : Int} (h : valid c = true) : 0 ≤ c ∧ c ≤ 1114111 := by
  simp [valid] at h; omega
theorem lenN_pos (n : Nat) : 1 ≤ lenN n ∧ lenN n ≤ 4 := by
  unfold lenN; split
  · omega
  · split
    · omega
    · split <;> omega

/-- The ways in which a list of bytes begins with a number. -/
theorem raw_cases {l : List Nat} {c n : Nat} (h : raw l = some (c, n)) :
    (∃ b r, l = b :: r ∧ b < 128 ∧ c = b ∧ n = 1) ∨
    (∃ b b1 r, l = b :: b1 :: r ∧ 192 ≤ b ∧ b < 224 ∧ 128 ≤ b1 ∧ b1 < 192 ∧ c = (b - 192) * 64 + (b1 - 128) ∧ n = 2) ∨
    (∃ b b1 b2 r, l = b :: b1 :: b2 :: r ∧ 224 ≤ b ∧ b < 240 ∧ 128 ≤ b1 ∧ b1 < 192 ∧ 128 ≤ b2 ∧ b2 < 192 ∧ c = ((b - 224) * 64 + (b1 - 128)) * 64 + (b2 - 128) ∧ n = 3) ∨
    (∃ b b1 b2 b3 r, l = b :: b1 :: b2 :: b3 :: r ∧ 240 ≤ b ∧ b < 248 ∧ 128 ≤ b1 ∧ b1 < 192 ∧ 128 ≤ b2 ∧ b2 < 192 ∧ 128 ≤ b3 ∧ b3 < 192 ∧ c = (((b - 240) * 64 + (b1 - 128)) * 64 + (b2 - 128)) * 64 + (b3 - 128) ∧ n = 4) := by
  unfold raw at h
  by_cases h0 : l.length = 0
  · rw [if_pos h0] at h; cases h
  rw [if_neg h0] at h
  obtain ⟨b, r, rfl⟩ : ∃ b r, l = b :: r := by cases l with | nil => simp at h0 | cons b r => exact ⟨b, r, rfl⟩
  simp only [List.getD_cons_zero, List.length_cons] at h
  by_cases h1 : b < 128
  · rw [if_pos h1] at h; simp only [Option.some.injEq, Prod.mk.injEq] at h
    exact .inl ⟨b, r, rfl, h1, by omega, by omega⟩
  rw [if_neg h1] at h
  by_cases h2 : b < 192
  · rw [if_pos h2] at h; cases h
  rw [if_neg h2] at h
  by_cases h3 : b < 224
  · rw [if_pos h3] at h; split at h
    · rename_i hc
      obtain ⟨b1, r, rfl⟩ : ∃ b1 r', r = b1 :: r' := by cases r with | nil => simp at hc | cons b r => exact ⟨b, r, rfl⟩
      simp only [Option.some.injEq, Prod.mk.injEq, List.getD_cons_succ, List.getD_cons_zero] at h hc
      exact .inr (.inl ⟨b, b1, r, rfl, by omega, by omega, by omega, by omega, by omega, by omega⟩)
    · cases h
  rw [if_neg h3] at h
  by_cases h4 : b < 240
  · rw [if_pos h4] at h; split at h
    · rename_i hc
      obtain ⟨b1, r, rfl⟩ : ∃ b1 r', r = b1 :: r' := by cases r with | nil => simp at hc | cons b r => exact ⟨b, r, rfl⟩
      obtain ⟨b2, r, rfl⟩ : ∃ b1 r', r = b1 :: r' := by cases r with | nil => simp at hc | cons b r => exact ⟨b, r, rfl⟩
      simp only [Option.some.injEq, Prod.mk.injEq, List.getD_cons_succ, List.getD_cons_zero] at h hc
      exact .inr (.inr (.inl ⟨b, b1, b2, r, rfl, by omega, by omega, by omega, by omega, by omega, by omega, by omega, by omega⟩))
    · cases h
  rw [if_neg h4] at h
  by_cases h5 : b < 248
  · rw [if_pos h5] at h; split at h
    · rename_i hc
      obtain ⟨b1, r, rfl⟩ : ∃ b1 r', r = b1 :: r' := by cases r with | nil => simp at hc | cons b r => exact ⟨b, r, rfl⟩
      obtain ⟨b2, r, rfl⟩ : ∃ b1 r', r = b1 :: r' := by cases r with | nil => simp at hc | cons b r => exact ⟨b, r, rfl⟩
      obtain ⟨b3, r, rfl⟩ : ∃ b1 r', r = b1 :: r' := by cases r with | nil => simp at hc | cons b r => exact ⟨b, r, rfl⟩
      simp only [Option.some.injEq, Prod.mk.injEq, List.getD_cons_succ, List.getD_cons_zero] at h hc
      exact .inr (.inr (.inr ⟨b, b1, b2, b3, r, rfl, by omega, by omega, by omega, by omega, by omega, by omega, by omega, by omega, by omega, by omega⟩))
    · cases h
  rw [if_neg h5] at h; cases h

theorem lenN_lt {c k : Nat} : lenN c = k → (k = 1 → c < 128) ∧ (k = 2 → 128 ≤ c ∧ c < 2048) ∧ (k = 3 → 2048 ≤ c ∧ c < 65536) ∧ (k = 4 → 65536 ≤ c) := by
  rintro rfl
  unfold lenN
  by_cases h1 : c < 128
  · rw [if_pos h1]; omega
  · rw [if_neg h1]
    by_cases h2 : c < 2048
    · rw [if_pos h2]; omega
    · rw [if_neg h2]
      by_cases h3 : c < 65536
      · rw [if_pos h3]; omega
      · rw [if_neg h3]; omega

/-- In its shortest form the bytes that were read are the character's. -/
theorem take_enc {l : List Nat} {c n : Nat} (h : raw l = some (c, n)) (hn : lenN c = n) : l.take n = encN c := by
  have hl := lenN_lt hn
  rcases raw_cases h with ⟨b, r, rfl, h1, hc, en⟩ | ⟨b, b1, r, rfl, h1, h2, h3, h4, hc, en⟩ | ⟨b, b1, b2, r, rfl, h1, h2, h3, h4, h5, h6, hc, en⟩ | ⟨b, b1, b2, b3, r, rfl, h1, h2, h3, h4, h5, h6, h7, h8, hc, en⟩
  · rw [en]; unfold encN; rw [if_pos (by omega), hc]; rfl
  · rw [en]; unfold encN; rw [if_neg (by omega), if_pos (by omega)]
    simp only [List.take_succ_cons, List.take_zero, List.cons.injEq, and_true]; omega
  · rw [en]; unfold encN; rw [if_neg (by omega), if_neg (by omega), if_pos (by omega)]
    simp only [List.take_succ_cons, List.take_zero, List.cons.injEq, and_true]; omega
  · rw [en]; unfold encN; rw [if_neg (by omega), if_neg (by omega), if_neg (by omega)]
    simp only [List.take_succ_cons, List.take_zero, List.cons.injEq, and_true]; omega

/-- Else they are not, and there are enough of them. -/
theorem take_not_enc {l : List Nat} {c n : Nat} (h : raw l = some (c, n)) (hn : lenN c ≠ n) : lenN c ≤ l.length ∧ l.take (lenN c) ≠ encN c := by
  obtain ⟨k, hk⟩ : ∃ k, lenN c = k := ⟨_, rfl⟩
  have hl := lenN_lt hk
  have hp := lenN_pos c
  have hr := raw_le h
  have he : (encN c).head? = (l.take (lenN c)).head? → False := by
    obtain ⟨x, y, hx⟩ : ∃ x y, lenN c = x + 1 ∧ y = x := ⟨lenN c - 1, _, by omega, rfl⟩
    rcases raw_cases h with ⟨b, r, rfl, h1, hc, en⟩ | ⟨b, b1, r, rfl, h1, h2, h3, h4, hc, en⟩ | ⟨b, b1, b2, r, rfl, h1, h2, h3, h4, h5, h6, hc, en⟩ | ⟨b, b1, b2, b3, r, rfl, h1, h2, h3, h4, h5, h6, h7, h8, hc, en⟩
    all_goals
      rw [hx.1, List.take_succ_cons]
      unfold encN
      intro hh
      split at hh
      · simp only [List.head?_cons, Option.some.injEq] at hh; omega
      · split at hh
        · simp only [List.head?_cons, Option.some.injEq] at hh; omega
        · split at hh
          · simp only [List.head?_cons, Option.some.injEq] at hh; omega
          · simp only [List.head?_cons, Option.some.injEq] at hh; omega
  refine ⟨?_, fun e => he (by rw [e])⟩
  rcases raw_cases h with ⟨b, r, rfl, h1, hc, en⟩ | ⟨b, b1, r, rfl, h1, h2, h3, h4, hc, en⟩ | ⟨b, b1, b2, r, rfl, h1, h2, h3, h4, h5, h6, hc, en⟩ | ⟨b, b1, b2, b3, r, rfl, h1, h2, h3, h4, h5, h6, h7, h8, hc, en⟩
  all_goals
    simp only [List.length_cons]
    omega

theorem raw_1 {l : List Nat} {c : Nat} (h : raw l = some (c, 1)) : 1 ≤ l.length ∧ l.getD 0 0 < 128 ∧ c = l.getD 0 0 := by
  rcases raw_cases h with ⟨b, r, rfl, h1, hc, en⟩ | ⟨b, b1, r, rfl, h1, h2, h3, h4, hc, en⟩ | ⟨b, b1, b2, r, rfl, h1, h2, h3, h4, h5, h6, hc, en⟩ | ⟨b, b1, b2, b3, r, rfl, h1, h2, h3, h4, h5, h6, h7, h8, hc, en⟩ <;> simp at en ⊢ <;> omega
theorem raw_2 {l : List Nat} {c : Nat} (h : raw l = some (c, 2)) : 2 ≤ l.length ∧ 192 ≤ l.getD 0 0 ∧ l.getD 0 0 < 224 ∧ (128 ≤ l.getD 1 0 ∧ l.getD 1 0 < 192) ∧ c = (l.getD 0 0 - 192) * 64 + (l.getD 1 0 - 128) := by
  rcases raw_cases h with ⟨b, r, rfl, h1, hc, en⟩ | ⟨b, b1, r, rfl, h1, h2, h3, h4, hc, en⟩ | ⟨b, b1, b2, r, rfl, h1, h2, h3, h4, h5, h6, hc, en⟩ | ⟨b, b1, b2, b3, r, rfl, h1, h2, h3, h4, h5, h6, h7, h8, hc, en⟩ <;> simp at en ⊢ <;> omega
theorem raw_3 {l : List Nat} {c : Nat} (h : raw l = some (c, 3)) : 3 ≤ l.length ∧ 224 ≤ l.getD 0 0 ∧ l.getD 0 0 < 240 ∧ (128 ≤ l.getD 1 0 ∧ l.getD 1 0 < 192 ∧ 128 ≤ l.getD 2 0 ∧ l.getD 2 0 < 192) ∧ c = ((l.getD 0 0 - 224) * 64 + (l.getD 1 0 - 128)) * 64 + (l.getD 2 0 - 128) := by
  rcases raw_cases h with ⟨b, r, rfl, h1, hc, en⟩ | ⟨b, b1, r, rfl, h1, h2, h3, h4, hc, en⟩ | ⟨b, b1, b2, r, rfl, h1, h2, h3, h4, h5, h6, hc, en⟩ | ⟨b, b1, b2, b3, r, rfl, h1, h2, h3, h4, h5, h6, h7, h8, hc, en⟩ <;> simp at en ⊢ <;> omega
theorem raw_4 {l : List Nat} {c : Nat} (h : raw l = some (c, 4)) : 4 ≤ l.length ∧ 240 ≤ l.getD 0 0 ∧ l.getD 0 0 < 248 ∧ (128 ≤ l.getD 1 0 ∧ l.getD 1 0 < 192 ∧ 128 ≤ l.getD 2 0 ∧ l.getD 2 0 < 192 ∧ 128 ≤ l.getD 3 0 ∧ l.getD 3 0 < 192) ∧ c = (((l.getD 0 0 - 240) * 64 + (l.getD 1 0 - 128)) * 64 + (l.getD 2 0 - 128)) * 64 + (l.getD 3 0 - 128) := by
  rcases raw_cases h with ⟨b, r, rfl, h1, hc, en⟩ | ⟨b, b1, r, rfl, h1, h2, h3, h4, hc, en⟩ | ⟨b, b1, b2, r, rfl, h1, h2, h3, h4, h5, h6, hc, en⟩ | ⟨b, b1, b2, b3, r, rfl, h1, h2, h3, h4, h5, h6, h7, h8, hc, en⟩ <;> simp at en ⊢ <;> omega
theorem raw_none {l : List Nat} (h : raw l = none) : l.length = 0 ∨ (1 ≤ l.length ∧ (
    (128 ≤ l.getD 0 0 ∧ l.getD 0 0 < 192) ∨ 248 ≤ l.getD 0 0 ∨
    (192 ≤ l.getD 0 0 ∧ l.getD 0 0 < 224 ∧ ¬ (2 ≤ l.length ∧ 128 ≤ l.getD 1 0 ∧ l.getD 1 0 < 192)) ∨
    (224 ≤ l.getD 0 0 ∧ l.getD 0 0 < 240 ∧ ¬ (3 ≤ l.length ∧ 128 ≤ l.getD 1 0 ∧ l.getD 1 0 < 192 ∧ 128 ≤ l.getD 2 0 ∧ l.getD 2 0 < 192)) ∨
    (240 ≤ l.getD 0 0 ∧ l.getD 0 0 < 248 ∧ ¬ (4 ≤ l.length ∧ 128 ≤ l.getD 1 0 ∧ l.getD 1 0 < 192 ∧ 128 ≤ l.getD 2 0 ∧ l.getD 2 0 < 192 ∧ 128 ≤ l.getD 3 0 ∧ l.getD 3 0 < 192)))) := by
  unfold raw at h
  by_cases h0 : l.length = 0
  · exact .inl h0
  refine .inr ⟨by omega, ?_⟩
  rw [if_neg h0] at h
  by_cases h1 : l.getD 0 0 < 128
  · rw [if_pos h1] at h; cases h
  rw [if_neg h1] at h
  by_cases h2 : l.getD 0 0 < 192
  · exact .inl ⟨by omega, h2⟩
  rw [if_neg h2] at h
  by_cases h3 : l.getD 0 0 < 224
  · rw [if_pos h3] at h
    exact .inr (.inr (.inl ⟨by omega, h3, fun hc => by rw [if_pos hc] at h; cases h⟩))
  rw [if_neg h3] at h
  by_cases h4 : l.getD 0 0 < 240
  · rw [if_pos h4] at h
    exact .inr (.inr (.inr (.inl ⟨by omega, h4, fun hc => by rw [if_pos hc] at h; cases h⟩)))
  rw [if_neg h4] at h
  by_cases h5 : l.getD 0 0 < 248
  · rw [if_pos h5] at h
    exact .inr (.inr (.inr (.inr ⟨by omega, h5, fun hc => by rw [if_pos hc] at h; cases h⟩)))
  exact .inr (.inl (by omega))
theorem encN_lt {c : Nat} (h : c ≤ 1114111) : ∀ b ∈ encN c, b < 256 := by
  unfold encN; split
  · simp; omega
  · split
    · simp; omega
    · split
      · simp; omega
      · simp; omega
end Go.Proofs.YtllnfiidmpopkaaDoor.Ch
