/-
  Sums, differences, products and the order of decimals. Plain laws; no condition.
-/
import Derived.Test.YthmmjihldkjhhaaGreatDoorDbig
namespace Go.Proofs.YthmmjihldkjhhaaGreatDoor.Dc

/-- A decimal: its sign, the number that its digits write, its scale. -/
abbrev D := Bool × Nat × Nat
def ok (a : D) : Prop := isCan a.1 a.2.1 a.2.2
/-- Its number, multiplied by 10 so often. -/
def at_ (K : Nat) (a : D) : Int := sg a.1 a.2.1 * 10 ^ (K - a.2.2)
theorem p10 (n : Nat) : (0 : Int) < 10 ^ n := Int.pow_pos (by decide)
theorem canI_up {m : Int} {S K : Nat} (h : S ≤ K) : canI m S = canI (m * 10 ^ (K - S)) K :=
  canI_congr (by rw [Int.mul_assoc, ← Int.pow_add, show K - S + S = K by omega])
theorem can_scale {neg n : Bool} {v S u T : Nat} (h : can neg v S = some (n, u, T)) : T ≤ S := by
  unfold can at h
  split at h
  · cases h; omega
  · split at h
    · cases h
    · cases h; exact (strip_spec S v).1
theorem canI_at {M : Int} {K : Nat} {x : D} (h : canI M K = some x) : ok x ∧ x.2.2 ≤ K ∧ at_ K x = M := by
  obtain ⟨n, u, T⟩ := x
  obtain ⟨h1, h2⟩ := canI_is h
  have h3 : T ≤ K := can_scale h
  refine ⟨h1, h3, ?_⟩
  unfold at_
  simp only
  have e : sg n u * 10 ^ (K - T) * 10 ^ T = M * 10 ^ T := by
    rw [Int.mul_assoc, ← Int.pow_add, show K - T + T = K by omega, h2]
  exact Int.eq_of_mul_eq_mul_right (Int.ne_of_gt (p10 T)) e
theorem at_canI {K : Nat} {x : D} (h : ok x) (hK : x.2.2 ≤ K) : canI (at_ K x) K = some x := by
  unfold at_
  rw [← canI_up hK]
  exact sg_canI h
theorem at_up {K L : Nat} {x : D} (h : x.2.2 ≤ K) (hL : K ≤ L) : at_ L x = at_ K x * 10 ^ (L - K) := by
  unfold at_
  rw [Int.mul_assoc, ← Int.pow_add, show K - x.2.2 + (L - K) = L - x.2.2 by omega]
/-- The sum. -/
def addD (a b : D) : Option D := canI (at_ (max a.2.2 b.2.2) a + at_ (max a.2.2 b.2.2) b) (max a.2.2 b.2.2)
/-- The opposite. -/
def opp (a : D) : D := (!a.1 && decide (a.2.1 ≠ 0), a.2.1, a.2.2)
def subD (a b : D) : Option D := addD a (opp b)
def mulD (a b : D) : Option D := canI (sg a.1 a.2.1 * sg b.1 b.2.1) (a.2.2 + b.2.2)
/-- The order: -1, 0, 1. -/
def cmpD (a b : D) : Int := if at_ (max a.2.2 b.2.2) a < at_ (max a.2.2 b.2.2) b then -1 else if at_ (max a.2.2 b.2.2) b < at_ (max a.2.2 b.2.2) a then 1 else 0
theorem sg_opp (n : Bool) (v : Nat) : sg (!n && decide (v ≠ 0)) v = -sg n v := by
  unfold sg
  by_cases hv : v = 0
  · subst hv; cases n <;> simp
  · cases n <;> simp [hv]
theorem at_opp (K : Nat) (a : D) : at_ K (opp a) = -at_ K a := by
  unfold at_ opp; simp only; rw [sg_opp, Int.neg_mul]
theorem opp_ok {a : D} (h : ok a) : ok (opp a) := by
  obtain ⟨n, v, S⟩ := a
  obtain ⟨h1, h2, h3, h4⟩ := h
  refine ⟨h1, h2, fun h0 => ?_, h4⟩
  simp only [opp] at h0 ⊢
  exact ⟨by simp [h0], (h3 h0).2⟩
theorem addD_at {K : Nat} {a b : D} (ha : a.2.2 ≤ K) (hb : b.2.2 ≤ K) : addD a b = canI (at_ K a + at_ K b) K := by
  unfold addD
  rw [canI_up (K := K) (by omega), Int.add_mul, ← at_up (by omega) (by omega), ← at_up (by omega) (by omega)]
theorem subD_at {K : Nat} {a b : D} (ha : a.2.2 ≤ K) (hb : b.2.2 ≤ K) : subD a b = canI (at_ K a - at_ K b) K := by
  unfold subD
  rw [addD_at (K := K) ha (by exact hb), at_opp, Int.sub_eq_add_neg]
theorem mulD_at {K : Nat} {a b : D} (ha : a.2.2 ≤ K) (hb : b.2.2 ≤ K) : mulD a b = canI (at_ K a * at_ K b) (K + K) := by
  unfold mulD
  rw [canI_up (K := K + K) (by omega)]
  congr 1
  unfold at_
  rw [show K + K - (a.2.2 + b.2.2) = (K - a.2.2) + (K - b.2.2) by omega, Int.pow_add]
  rw [Int.mul_assoc, Int.mul_assoc]
  congr 1
  rw [← Int.mul_assoc, ← Int.mul_assoc, Int.mul_comm (sg b.1 b.2.1)]
theorem cmpD_at {K : Nat} {a b : D} (ha : a.2.2 ≤ K) (hb : b.2.2 ≤ K) : cmpD a b = if at_ K a < at_ K b then -1 else if at_ K b < at_ K a then 1 else 0 := by
  have e1 : at_ K a = at_ (max a.2.2 b.2.2) a * 10 ^ (K - max a.2.2 b.2.2) := at_up (by omega) (by omega)
  have e2 : at_ K b = at_ (max a.2.2 b.2.2) b * 10 ^ (K - max a.2.2 b.2.2) := at_up (by omega) (by omega)
  have hp := p10 (K - max a.2.2 b.2.2)
  unfold cmpD
  rw [e1, e2]
  generalize at_ (max a.2.2 b.2.2) a = x
  generalize at_ (max a.2.2 b.2.2) b = y
  have lt : ∀ x y : Int, (x * 10 ^ (K - max a.2.2 b.2.2) < y * 10 ^ (K - max a.2.2 b.2.2)) ↔ x < y := fun x y => ⟨fun h => Int.lt_of_mul_lt_mul_right h (Int.le_of_lt hp), fun h => Int.mul_lt_mul_of_pos_right h hp⟩
  by_cases h1 : x < y
  · rw [if_pos h1, if_pos ((lt x y).2 h1)]
  · rw [if_neg h1, if_neg (fun h => h1 ((lt x y).1 h))]
    by_cases h2 : y < x
    · rw [if_pos h2, if_pos ((lt y x).2 h2)]
    · rw [if_neg h2, if_neg (fun h => h2 ((lt y x).1 h))]
theorem add_comm (a b : D) : addD a b = addD b a := by
  rw [addD_at (K := max a.2.2 b.2.2) (by omega) (by omega), addD_at (K := max a.2.2 b.2.2) (by omega) (by omega), Int.add_comm]
theorem mul_comm (a b : D) : mulD a b = mulD b a := by unfold mulD; rw [Int.mul_comm, Nat.add_comm]
theorem at_zero {K : Nat} {x : D} : at_ K x = 0 ↔ x.2.1 = 0 := by
  have hp := p10 (K - x.2.2)
  unfold at_
  constructor
  · intro h
    rcases Int.mul_eq_zero.1 h with h | h
    · have := congrArg Int.natAbs h
      rw [sg_natAbs] at this
      exact this
    · omega
  · intro h; rw [h]; cases x.1 <;> simp [sg]
theorem at_neg {K : Nat} {x : D} (h : ok x) : at_ K x < 0 ↔ x.1 = true := by
  have hp := p10 (K - x.2.2)
  obtain ⟨n, v, S⟩ := x
  have h3 := h.2.2.1
  simp only at h3
  unfold at_ sg
  simp only at hp ⊢
  constructor
  · intro hlt
    cases n with
    | true => rfl
    | false =>
      rw [if_neg (by decide)] at hlt
      have := Int.mul_nonneg (Int.natCast_nonneg v) (Int.le_of_lt hp)
      omega
  · intro hn
    subst hn
    have hv : v ≠ 0 := fun h0 => by have := (h3 h0).1; cases this
    rw [if_pos rfl]
    exact Int.mul_neg_of_neg_of_pos (by omega) hp
/-- The difference tells the order. -/
theorem sub_cmp {a b x : D} (h : subD a b = some x) : (x.1 = true ↔ cmpD a b < 0) ∧ (x.2.1 = 0 ↔ cmpD a b = 0) := by
  obtain ⟨K, hK⟩ : ∃ K, K = max a.2.2 b.2.2 := ⟨_, rfl⟩
  rw [subD_at (K := K) (by omega) (by omega)] at h
  obtain ⟨h1, h2, h3⟩ := canI_at h
  rw [cmpD_at (K := K) (by omega) (by omega), ← at_neg (K := K) h1, ← at_zero (K := K), h3]
  constructor
  · constructor
    · intro h; rw [if_pos (by omega)]; decide
    · intro h; by_cases h5 : at_ K a < at_ K b
      · omega
      · rw [if_neg h5] at h; split at h <;> omega
  · constructor
    · intro h; rw [if_neg (by omega), if_neg (by omega)]
    · intro h; by_cases h5 : at_ K a < at_ K b
      · rw [if_pos h5] at h; omega
      · rw [if_neg h5] at h; split at h <;> omega
/-- What is added is taken away again. -/
theorem add_sub {a b x : D} (ha : ok a) (h : addD a b = some x) : subD x b = some a := by
  obtain ⟨K, hK⟩ : ∃ K, K = max a.2.2 b.2.2 := ⟨_, rfl⟩
  rw [addD_at (K := K) (by omega) (by omega)] at h
  obtain ⟨h1, h2, h3⟩ := canI_at h
  rw [subD_at (K := K) h2 (by omega), h3, show at_ K a + at_ K b - at_ K b = at_ K a by omega]
  exact at_canI ha (by omega)
/-- Products distribute over sums. -/
theorem distrib {a b c x l o t : D} (h : addD a b = some x) (hl : mulD x c = some l) (ho : mulD a c = some o) (ht : mulD b c = some t) : addD o t = some l := by
  obtain ⟨K, hK⟩ : ∃ K, K = max (max a.2.2 b.2.2) c.2.2 := ⟨_, rfl⟩
  rw [addD_at (K := K) (by omega) (by omega)] at h
  obtain ⟨_, x2, x3⟩ := canI_at h
  rw [mulD_at (K := K) x2 (by omega)] at hl
  rw [mulD_at (K := K) (by omega) (by omega)] at ho ht
  obtain ⟨l1, l2, l3⟩ := canI_at hl
  obtain ⟨o1, o2, o3⟩ := canI_at ho
  obtain ⟨t1, t2, t3⟩ := canI_at ht
  rw [addD_at (K := K + K) o2 t2, o3, t3, ← Int.add_mul, ← x3, ← l3]
  exact at_canI l1 l2
end Go.Proofs.YthmmjihldkjhhaaGreatDoor.Dc
