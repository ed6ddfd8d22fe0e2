/-
  Decimal digits and the numbers that they write. Plain laws; no condition.
-/
namespace Go.Proofs.YthmmjihldkjhhaaGreatDoor.Dc

/-- A digit. -/
def dig (c : Nat) : Bool := decide (48 ≤ c) && decide (c ≤ 57)
theorem dig_iff {c : Nat} : dig c = true ↔ 48 ≤ c ∧ c ≤ 57 := by simp [dig]
/-- The number that digits write. -/
def val (l : List Nat) : Nat := l.foldl (fun a c => a * 10 + (c - 48)) 0
theorem val_nil : val [] = 0 := rfl
theorem val_snoc (l : List Nat) (c : Nat) : val (l ++ [c]) = val l * 10 + (c - 48) := by simp [val]
theorem val_from (l : List Nat) : ∀ a, l.foldl (fun a c => a * 10 + (c - 48)) a = a * 10 ^ l.length + val l := by
  induction l with
  | nil => intro a; simp [val]
  | cons c l ih =>
    intro a
    have h : val (c :: l) = (0 * 10 + (c - 48)) * 10 ^ l.length + val l := by rw [← ih]; rfl
    rw [List.foldl_cons, ih, h, List.length_cons, Nat.pow_succ, Nat.zero_mul, Nat.zero_add, Nat.add_mul, Nat.add_assoc, Nat.mul_assoc, Nat.mul_comm 10]
theorem val_append (l m : List Nat) : val (l ++ m) = val l * 10 ^ m.length + val m := by
  rw [val, List.foldl_append, val_from]; rfl
theorem val_cons (c : Nat) (l : List Nat) : val (c :: l) = (c - 48) * 10 ^ l.length + val l := by
  have h := val_append [c] l
  simpa [val] using h
theorem val_lt {l : List Nat} (h : l.all dig = true) : val l < 10 ^ l.length := by
  induction l with
  | nil => simp [val]
  | cons c l ih =>
    simp only [List.all_cons, Bool.and_eq_true] at h
    have hc := dig_iff.1 h.1
    have := ih h.2
    rw [val_cons, List.length_cons, Nat.pow_succ]
    have h9 : (c - 48) * 10 ^ l.length ≤ 9 * 10 ^ l.length := Nat.mul_le_mul_right _ (by omega)
    omega
theorem val_zeros (n : Nat) : val (List.replicate n 48) = 0 := by
  induction n with
  | zero => rfl
  | succ n ih => rw [List.replicate_succ, val_cons, ih]; simp
theorem val_zeros_front (n : Nat) (l : List Nat) : val (List.replicate n 48 ++ l) = val l := by rw [val_append, val_zeros]; simp
theorem val_zeros_back (l : List Nat) (n : Nat) : val (l ++ List.replicate n 48) = val l * 10 ^ n := by rw [val_append, val_zeros, List.length_replicate]; rfl
theorem zeros_dig (n : Nat) : (List.replicate n 48).all dig = true := by
  rw [List.all_eq_true]; intro c hc; rw [List.eq_of_mem_replicate hc]; rfl

/-- The digits of a number, none in vain. -/
def digsF : Nat → Nat → List Nat
  | 0, _ => []
  | f + 1, n => if n < 10 then [48 + n] else digsF f (n / 10) ++ [48 + n % 10]
def digs (n : Nat) : List Nat := digsF (n + 1) n
theorem digsF_eq (f : Nat) : ∀ g n, n < f → n < g → digsF f n = digsF g n := by
  induction f with
  | zero => intro g n h; omega
  | succ f ih =>
    intro g n hf hg
    cases g with
    | zero => omega
    | succ g =>
      unfold digsF
      by_cases h : n < 10
      · rw [if_pos h, if_pos h]
      · rw [if_neg h, if_neg h, ih g (n / 10) (by omega) (by omega)]
theorem digs_low {n : Nat} (h : n < 10) : digs n = [48 + n] := by unfold digs digsF; rw [if_pos h]
theorem digs_step {n : Nat} (h : 10 ≤ n) : digs n = digs (n / 10) ++ [48 + n % 10] := by
  unfold digs
  rw [digsF, if_neg (by omega), digsF_eq n (n / 10 + 1) (n / 10) (by omega) (by omega)]
theorem digs_zero : digs 0 = [48] := rfl
theorem digs_ne (n : Nat) : digs n ≠ [] := by
  by_cases h : n < 10
  · rw [digs_low h]; simp
  · rw [digs_step (by omega)]; simp
theorem digs_induct {P : Nat → Prop} (low : ∀ n, n < 10 → P n) (step : ∀ n, 10 ≤ n → P (n / 10) → P n) : ∀ n, P n := by
  intro n
  induction n using Nat.strongRecOn with
  | ind n ih =>
    by_cases h : n < 10
    · exact low n h
    · exact step n (by omega) (ih (n / 10) (by omega))
theorem val_digs (n : Nat) : val (digs n) = n := by
  induction n using digs_induct with
  | low n h => rw [digs_low h]; simp [val]
  | step n h ih => rw [digs_step h, val_snoc, ih]; omega
theorem digs_dig (n : Nat) : (digs n).all dig = true := by
  induction n using digs_induct with
  | low n h => rw [digs_low h]; simp [dig]; omega
  | step n h ih => rw [digs_step h, List.all_append, ih]; simp [dig]; omega
theorem digs_head {n : Nat} (h : n ≠ 0) : (digs n).head? ≠ some 48 := by
  induction n using digs_induct with
  | low n h2 => rw [digs_low h2]; simp; omega
  | step n h2 ih =>
    rw [digs_step h2]
    have hne := digs_ne (n / 10)
    have := ih (by omega)
    cases hd : digs (n / 10) with
    | nil => exact absurd hd hne
    | cons c r => rw [hd] at this; simpa using this
theorem digs_last (n : Nat) : (digs n).getLast? = some (48 + n % 10) := by
  by_cases h : n < 10
  · rw [digs_low h]; simp; omega
  · rw [digs_step (by omega)]; simp
theorem digs_pos (n : Nat) : 1 ≤ (digs n).length := by
  cases h : digs n with
  | nil => exact absurd h (digs_ne n)
  | cons _ _ => simp
theorem digs_length {n k : Nat} (hk : 1 ≤ k) : (digs n).length ≤ k ↔ n < 10 ^ k := by
  constructor
  · intro h
    have h1 := val_lt (digs_dig n)
    rw [val_digs] at h1
    exact Nat.lt_of_lt_of_le h1 (Nat.pow_le_pow_right (by decide) h)
  · induction n using digs_induct generalizing k with
    | low n h => intro _; rw [digs_low h]; simpa using hk
    | step n h ih =>
      intro hn
      rw [digs_step h, List.length_append]
      have hk2 : 2 ≤ k := by
        rcases Nat.lt_or_ge k 2 with h1 | h1
        · have : k = 1 := by omega
          subst this; simp at hn; omega
        · exact h1
      obtain ⟨j, rfl⟩ : ∃ j, k = j + 1 := ⟨k - 1, by omega⟩
      have := ih (k := j) (by omega) (by rw [Nat.pow_succ] at hn; omega)
      simp; omega
theorem snoc_induct {P : List Nat → Prop} (nil : P []) (snoc : ∀ m c, P m → P (m ++ [c])) : ∀ l, P l := by
  have : ∀ n (l : List Nat), l.length = n → P l := by
    intro n
    induction n with
    | zero => intro l h; rw [List.length_eq_zero_iff.1 h]; exact nil
    | succ n ih =>
      intro l h
      rcases List.eq_nil_or_concat l with rfl | ⟨m, c, rfl⟩
      · simp at h
      · rw [List.concat_eq_append] at h ⊢
        exact snoc m c (ih m (by simpa using h))
  exact fun l => this l.length l rfl
theorem digs_unique {l : List Nat} (hd : l.all dig = true) (hne : l ≠ []) (hh : l.head? ≠ some 48 ∨ l.length = 1) : digs (val l) = l := by
  induction l using snoc_induct with
  | nil => exact absurd rfl hne
  | snoc m c ih =>
    rw [List.all_append, Bool.and_eq_true] at hd
    have hc := dig_iff.1 (by simpa using hd.2 : dig c = true)
    rw [val_snoc]
    by_cases hm : m = []
    · subst hm
      rw [digs_low (by simp [val]; omega)]
      simp [val]; omega
    · have hmh : m.head? ≠ some 48 := by
        rcases hh with h | h
        · cases m with
          | nil => exact absurd rfl hm
          | cons x r => simpa using h
        · rw [List.length_append, List.length_singleton] at h
          have : m.length = 0 := by omega
          exact absurd (List.length_eq_zero_iff.1 this) hm
      have hi := ih hd.1 hm (.inl hmh)
      have hp : 1 ≤ val m := by
        cases m with
        | nil => exact absurd rfl hm
        | cons x r =>
          simp only [List.all_cons, Bool.and_eq_true] at hd
          have hx := dig_iff.1 hd.1.1
          have : x ≠ 48 := by simpa using hmh
          rw [val_cons]
          have : 1 * 10 ^ r.length ≤ (x - 48) * 10 ^ r.length := Nat.mul_le_mul_right _ (by omega)
          have : 0 < 10 ^ r.length := Nat.pow_pos (by decide)
          omega
      rw [digs_step (by omega), show (val m * 10 + (c - 48)) / 10 = val m by omega, hi, show 48 + (val m * 10 + (c - 48)) % 10 = c by omega]

/-- Digits without zeros in front, at least one. -/
def bare : List Nat → List Nat
  | [] => []
  | [c] => [c]
  | c :: d :: r => if c = 48 then bare (d :: r) else c :: d :: r
theorem bare_step {l : List Nat} (h1 : 1 < l.length) (h2 : l.head? = some 48) : bare l.tail = bare l := by
  match l, h1, h2 with
  | [], h, _ => simp at h
  | [_], h, _ => simp at h
  | c :: d :: r, _, h => have hc : c = 48 := by simpa using h
                         subst hc; rfl
theorem bare_short {l : List Nat} (h1 : ¬ 1 < l.length) : bare l = l := by
  match l, h1 with
  | [], _ => rfl
  | [_], _ => rfl
  | _ :: _ :: _, h => simp at h
theorem bare_stop {l : List Nat} (h2 : l.head? ≠ some 48) : bare l = l := by
  match l, h2 with
  | [], _ => rfl
  | [_], _ => rfl
  | c :: d :: r, h => have hc : c ≠ 48 := by simpa using h
                      rw [bare, if_neg hc]
theorem bare_spec (l : List Nat) (hd : l.all dig = true) (hne : l ≠ []) : (bare l).all dig = true ∧ bare l ≠ [] ∧ ((bare l).head? ≠ some 48 ∨ (bare l).length = 1) ∧ val (bare l) = val l := by
  induction l with
  | nil => exact absurd rfl hne
  | cons c l ih =>
    cases l with
    | nil => exact ⟨hd, by simp [bare], .inr rfl, rfl⟩
    | cons d r =>
      by_cases hc : c = 48
      · subst hc
        simp only [List.all_cons, Bool.and_eq_true] at hd
        have := ih (by simpa using hd.2) (by simp)
        rw [bare, if_pos rfl]
        refine ⟨this.1, this.2.1, this.2.2.1, ?_⟩
        rw [this.2.2.2, val_cons 48]; simp
      · rw [bare, if_neg hc]
        exact ⟨hd, by simp, .inl (by simpa using hc), rfl⟩
theorem bare_eq {l : List Nat} (hd : l.all dig = true) (hne : l ≠ []) : bare l = digs (val l) := by
  have h := bare_spec l hd hne
  rw [← h.2.2.2]
  exact (digs_unique h.1 h.2.1 h.2.2.1).symm

/-- Zeros at the end taken away, as long as the scale is above 0. -/
def strip : Nat → Nat → Nat × Nat
  | v, 0 => (v, 0)
  | v, S + 1 => if v % 10 = 0 then strip (v / 10) S else (v, S + 1)
theorem strip_spec (S : Nat) : ∀ v, (strip v S).2 ≤ S ∧ v = (strip v S).1 * 10 ^ (S - (strip v S).2) ∧ ((strip v S).2 = 0 ∨ (strip v S).1 % 10 ≠ 0) := by
  induction S with
  | zero => intro v; simp [strip]
  | succ S ih =>
    intro v
    unfold strip
    by_cases h : v % 10 = 0
    · rw [if_pos h]
      obtain ⟨h1, h2, h3⟩ := ih (v / 10)
      refine ⟨by omega, ?_, h3⟩
      rw [show S + 1 - (strip (v / 10) S).2 = (S - (strip (v / 10) S).2) + 1 by omega, Nat.pow_succ, ← Nat.mul_assoc, ← h2]
      omega
    · rw [if_neg h]
      exact ⟨Nat.le_refl _, by simp, .inr h⟩
theorem pow10_pos (k : Nat) : 0 < 10 ^ k := Nat.pow_pos (by decide)
/-- What is equal as a fraction has the same stripped form. -/
theorem strip_unique {v u S T : Nat} (h : v * 10 ^ T = u * 10 ^ S) (hv : v ≠ 0) : strip v S = strip u T := by
  obtain ⟨a1, a2, a3⟩ := strip_spec S v
  obtain ⟨b1, b2, b3⟩ := strip_spec T u
  obtain ⟨x, X, hx⟩ : ∃ x X, strip v S = (x, X) := ⟨_, _, rfl⟩
  obtain ⟨y, Y, hy⟩ : ∃ y Y, strip u T = (y, Y) := ⟨_, _, rfl⟩
  rw [hx] at a1 a2 a3 ⊢
  rw [hy] at b1 b2 b3 ⊢
  simp only at a1 a2 a3 b1 b2 b3
  have e : x * 10 ^ Y = y * 10 ^ X := by
    have h2 : x * 10 ^ Y * 10 ^ (S - X + (T - Y)) = y * 10 ^ X * 10 ^ (S - X + (T - Y)) := by
      have l1 : x * 10 ^ Y * 10 ^ (S - X + (T - Y)) = v * 10 ^ T := by
        rw [a2, Nat.mul_assoc, Nat.mul_assoc, ← Nat.pow_add, ← Nat.pow_add]; congr 2; omega
      have l2 : y * 10 ^ X * 10 ^ (S - X + (T - Y)) = u * 10 ^ S := by
        rw [b2, Nat.mul_assoc, Nat.mul_assoc, ← Nat.pow_add, ← Nat.pow_add]; congr 2; omega
      rw [l1, l2, h]
    exact Nat.eq_of_mul_eq_mul_right (pow10_pos _) h2
  have hx0 : x ≠ 0 := by rintro rfl; simp at a2; exact hv a2
  rcases Nat.lt_trichotomy X Y with h1 | h1 | h1
  · have : x * 10 ^ (Y - X) = y := by
      refine Nat.eq_of_mul_eq_mul_right (pow10_pos X) ?_
      rw [Nat.mul_assoc, ← Nat.pow_add, show Y - X + X = Y by omega, e]
    obtain ⟨k, hk⟩ : ∃ k, Y - X = k + 1 := ⟨Y - X - 1, by omega⟩
    rw [hk, Nat.pow_succ, ← Nat.mul_assoc] at this
    rcases b3 with b3 | b3
    · omega
    · omega
  · subst h1
    have := Nat.eq_of_mul_eq_mul_right (pow10_pos X) e
    rw [this]
  · have : y * 10 ^ (X - Y) = x := by
      refine Nat.eq_of_mul_eq_mul_right (pow10_pos Y) ?_
      rw [Nat.mul_assoc, ← Nat.pow_add, show X - Y + Y = X by omega, e]
    obtain ⟨k, hk⟩ : ∃ k, X - Y = k + 1 := ⟨X - Y - 1, by omega⟩
    rw [hk, Nat.pow_succ, ← Nat.mul_assoc] at this
    rcases a3 with a3 | a3
    · omega
    · omega

/-- The decimal of a number, divided by 10 so often; none: it is out of range. -/
def can (neg : Bool) (v S : Nat) : Option (Bool × Nat × Nat) :=
  if v = 0 then some (false, 0, 0) else if 60 < (digs (strip v S).1).length ∨ 60 < (strip v S).2 then none else some (neg, (strip v S).1, (strip v S).2)
theorem can_congr {v u S T : Nat} (neg : Bool) (h : v * 10 ^ T = u * 10 ^ S) : can neg v S = can neg u T := by
  unfold can
  by_cases hv : v = 0
  · subst hv
    have hu : u = 0 := by
      rw [Nat.zero_mul] at h
      rcases Nat.mul_eq_zero.1 h.symm with h | h
      · exact h
      · have := pow10_pos S; omega
    rw [if_pos rfl, if_pos hu]
  · have hu : u ≠ 0 := by
      rintro rfl
      rw [Nat.zero_mul] at h
      rcases Nat.mul_eq_zero.1 h with h | h
      · exact hv h
      · have := pow10_pos T; omega
    rw [if_neg hv, if_neg hu, strip_unique h hv]
/-- A decimal that Check finds valid. -/
def isCan (neg : Bool) (v S : Nat) : Prop := (digs v).length ≤ 60 ∧ S ≤ 60 ∧ (v = 0 → neg = false ∧ S = 0) ∧ (S = 0 ∨ v % 10 ≠ 0)
theorem strip_done {v S : Nat} (h : S = 0 ∨ v % 10 ≠ 0) : strip v S = (v, S) := by
  cases S with
  | zero => rfl
  | succ S => rcases h with h | h
              · omega
              · unfold strip; rw [if_neg h]
theorem can_self {neg : Bool} {v S : Nat} (h : isCan neg v S) : can neg v S = some (neg, v, S) := by
  obtain ⟨h1, h2, h3, h4⟩ := h
  unfold can
  by_cases hv : v = 0
  · subst hv
    obtain ⟨rfl, rfl⟩ := h3 rfl
    rfl
  · rw [if_neg hv, strip_done h4, if_neg (by simp only; omega)]
theorem can_is {neg n : Bool} {v S u T : Nat} (h : can neg v S = some (n, u, T)) : isCan n u T ∧ (v = 0 → n = false) ∧ (v ≠ 0 → n = neg) ∧ v * 10 ^ T = u * 10 ^ S := by
  unfold can at h
  by_cases hv : v = 0
  · rw [if_pos hv] at h
    cases h
    exact ⟨⟨by decide, by decide, fun _ => ⟨rfl, rfl⟩, .inl rfl⟩, fun _ => rfl, fun h => absurd hv h, by rw [hv]; simp⟩
  · rw [if_neg hv] at h
    obtain ⟨a1, a2, a3⟩ := strip_spec S v
    split at h
    · cases h
    · rename_i hr
      simp only [Option.some.injEq, Prod.mk.injEq] at h
      obtain ⟨rfl, rfl, rfl⟩ := h
      refine ⟨⟨by omega, by omega, fun h0 => ?_, a3⟩, fun h => absurd h hv, fun _ => rfl, ?_⟩
      · rw [h0] at a2; simp at a2; exact absurd a2 hv
      · generalize strip v S = p at *
        obtain ⟨x, X⟩ := p
        simp only at *
        rw [a2, Nat.mul_assoc, ← Nat.pow_add, show S - X + X = S by omega]

/-- With its sign. -/
def sg (neg : Bool) (v : Nat) : Int := if neg then -(v : Int) else (v : Int)
def canI (m : Int) (S : Nat) : Option (Bool × Nat × Nat) := can (decide (m < 0)) m.natAbs S
theorem can_sg (neg : Bool) (v S : Nat) : can neg v S = canI (sg neg v) S := by
  unfold canI sg
  by_cases hv : v = 0
  · subst hv; cases neg <;> simp [can]
  · cases neg
    · simp only [Bool.false_eq_true, if_false, Int.natAbs_natCast]
      rw [decide_eq_false (by omega)]
    · simp only [if_true, Int.natAbs_neg, Int.natAbs_natCast]
      rw [decide_eq_true (by omega)]
theorem canI_congr {m k : Int} {S T : Nat} (h : m * 10 ^ T = k * 10 ^ S) : canI m S = canI k T := by
  have hp : ∀ n : Nat, (0 : Int) < 10 ^ n := fun n => Int.pow_pos (by decide)
  have hs : decide (m < 0) = decide (k < 0) := by
    have key : m < 0 ↔ k < 0 := by
      constructor
      · intro hm
        have : m * 10 ^ T < 0 := Int.mul_neg_of_neg_of_pos hm (hp T)
        rw [h] at this
        rcases Int.lt_or_le k 0 with hk | hk
        · exact hk
        · have := Int.mul_nonneg hk (Int.le_of_lt (hp S)); omega
      · intro hk
        have : k * 10 ^ S < 0 := Int.mul_neg_of_neg_of_pos hk (hp S)
        rw [← h] at this
        rcases Int.lt_or_le m 0 with hm | hm
        · exact hm
        · have := Int.mul_nonneg hm (Int.le_of_lt (hp T)); omega
    exact decide_eq_decide.2 key
  unfold canI
  rw [hs]
  refine can_congr _ ?_
  have := congrArg Int.natAbs h
  rw [Int.natAbs_mul, Int.natAbs_mul, Int.natAbs_pow, Int.natAbs_pow] at this
  exact this
theorem sg_natAbs (neg : Bool) (v : Nat) : (sg neg v).natAbs = v := by unfold sg; cases neg <;> simp
theorem sg_canI {neg : Bool} {v S : Nat} (h : isCan neg v S) : canI (sg neg v) S = some (neg, v, S) := by rw [← can_sg, can_self h]
theorem canI_is {m : Int} {S : Nat} {n : Bool} {u T : Nat} (h : canI m S = some (n, u, T)) : isCan n u T ∧ m * 10 ^ T = sg n u * 10 ^ S := by
  unfold canI at h
  obtain ⟨h1, h2, h3, h4⟩ := can_is h
  refine ⟨h1, ?_⟩
  by_cases hm : m = 0
  · subst hm
    have h0 : u = 0 := by
      rw [Int.natAbs_zero, Nat.zero_mul] at h4
      rcases Nat.mul_eq_zero.1 h4.symm with h4 | h4
      · exact h4
      · have := pow10_pos S; omega
    subst h0
    simp [sg]
  · have hn : n = decide (m < 0) := h3 (by omega)
    have h5 : ((m.natAbs : Nat) : Int) * 10 ^ T = (u : Int) * 10 ^ S := by exact_mod_cast h4
    unfold sg
    rcases Int.lt_or_le m 0 with hneg | hpos
    · rw [decide_eq_true hneg] at hn
      subst hn
      rw [show m = -((m.natAbs : Nat) : Int) by omega, if_pos rfl, Int.neg_mul, Int.neg_mul, h5]
    · rw [decide_eq_false (by omega)] at hn
      subst hn
      rw [show m = ((m.natAbs : Nat) : Int) by omega, if_neg (by decide), h5]
end Go.Proofs.YthmmjihldkjhhaaGreatDoor.Dc
