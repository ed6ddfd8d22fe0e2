/-
  Sums, differences and the order of decimals by their digits. Plain laws; no condition.
-/
import Derived.Test.YthmmjihldkjhhaaGreatDoorDround
namespace Go.Proofs.YthmmjihldkjhhaaGreatDoor.Dc

theorem sg_add (x : Bool) (m n : Nat) : sg x m + sg x n = sg x (m + n) := by cases x <;> simp [sg] <;> omega
theorem sg_ge (x : Bool) {m n : Nat} (h : n ≤ m) : sg x m + sg (!x) n = sg x (m - n) := by cases x <;> simp [sg] <;> omega
theorem sg_lt (x : Bool) {m n : Nat} (h : m < n) : sg x m + sg (!x) n = sg (!x) (n - m) := by cases x <;> simp [sg] <;> omega
theorem addD_same (n : Bool) (u T v S : Nat) {K X Y : Nat} (hK : max T S = K) (hX : u * 10 ^ (K - T) = X) (hY : v * 10 ^ (K - S) = Y) : addD (n, u, T) (n, v, S) = can n (X + Y) K := by
  subst hK; subst hX; subst hY
  unfold addD; rw [can_sg, at_sg, at_sg, sg_add]
theorem addD_ge (n : Bool) (u T v S : Nat) {K X Y : Nat} (hK : max T S = K) (hX : u * 10 ^ (K - T) = X) (hY : v * 10 ^ (K - S) = Y) (h : Y ≤ X) : addD (n, u, T) (!n, v, S) = can n (X - Y) K := by
  subst hK; subst hX; subst hY
  unfold addD; rw [can_sg, at_sg, at_sg, sg_ge _ h]
theorem addD_lt (n : Bool) (u T v S : Nat) {K X Y : Nat} (hK : max T S = K) (hX : u * 10 ^ (K - T) = X) (hY : v * 10 ^ (K - S) = Y) (h : X < Y) : addD (n, u, T) (!n, v, S) = can (!n) (Y - X) K := by
  subst hK; subst hX; subst hY
  unfold addD; rw [can_sg, at_sg, at_sg, sg_lt _ h]
theorem mulD_can (n m : Bool) (u T v S : Nat) : mulD (n, u, T) (m, v, S) = can (n != m) (u * v) (T + S) := by
  unfold mulD; rw [can_sg, sg_mul]
/-- The order of two numbers. -/
def ord (x y : Nat) : Int := if x < y then -1 else if y < x then 1 else 0
theorem cmpD_pos (u T v S : Nat) {K X Y : Nat} (hK : max T S = K) (hX : u * 10 ^ (K - T) = X) (hY : v * 10 ^ (K - S) = Y) : cmpD (false, u, T) (false, v, S) = ord X Y := by
  subst hK; subst hX; subst hY
  unfold cmpD ord; rw [at_sg, at_sg]
  simp only [sg, Bool.false_eq_true, if_false]
  generalize u * 10 ^ (max T S - T) = X
  generalize v * 10 ^ (max T S - S) = Y
  by_cases h : X < Y
  · rw [if_pos h, if_pos (Int.ofNat_lt.2 h)]
  · rw [if_neg h, if_neg (fun h2 => h (Int.ofNat_lt.1 h2))]
    by_cases h3 : Y < X
    · rw [if_pos h3, if_pos (Int.ofNat_lt.2 h3)]
    · rw [if_neg h3, if_neg (fun h2 => h3 (Int.ofNat_lt.1 h2))]
theorem cmpD_neg (u T v S : Nat) {K X Y : Nat} (hK : max T S = K) (hX : u * 10 ^ (K - T) = X) (hY : v * 10 ^ (K - S) = Y) : cmpD (true, u, T) (true, v, S) = - ord X Y := by
  subst hK; subst hX; subst hY
  unfold cmpD ord; rw [at_sg, at_sg]
  simp only [sg, if_true]
  generalize u * 10 ^ (max T S - T) = X
  generalize v * 10 ^ (max T S - S) = Y
  rcases Nat.lt_trichotomy X Y with h | h | h
  · rw [if_neg (by omega), if_pos (by omega), if_pos h]; rfl
  · rw [if_neg (by omega), if_neg (by omega), if_neg (by omega), if_neg (by omega)]; rfl
  · rw [if_pos (by omega), if_neg (by omega), if_pos h]
theorem cmpD_np {a b : D} (ha : ok a) (hb : ok b) (h1 : a.1 = true) (h2 : b.1 = false) : cmpD a b = -1 := by
  have e1 : at_ (max a.2.2 b.2.2) a < 0 := (at_neg ha).2 h1
  have e2 : ¬ at_ (max a.2.2 b.2.2) b < 0 := fun h => by have := (at_neg hb).1 h; rw [h2] at this; cases this
  unfold cmpD; rw [if_pos (by omega)]
theorem cmpD_pn {a b : D} (ha : ok a) (hb : ok b) (h1 : a.1 = false) (h2 : b.1 = true) : cmpD a b = 1 := by
  have e1 : ¬ at_ (max a.2.2 b.2.2) a < 0 := fun h => by have := (at_neg ha).1 h; rw [h1] at this; cases this
  have e2 : at_ (max a.2.2 b.2.2) b < 0 := (at_neg hb).2 h2
  unfold cmpD; rw [if_neg (by omega), if_pos (by omega)]
theorem cmpD_self (a : D) : cmpD a a = 0 := by unfold cmpD; rw [if_neg (by omega), if_neg (by omega)]
/-- Equal numbers are one decimal. -/
theorem at_inj {K : Nat} {a b : D} (ha : ok a) (hb : ok b) (h1 : a.2.2 ≤ K) (h2 : b.2.2 ≤ K) (h : at_ K a = at_ K b) : a = b := by
  have e1 := at_canI ha h1
  have e2 := at_canI hb h2
  rw [h, e2] at e1
  exact (Option.some.inj e1).symm
theorem cmpD_eq {a b : D} (ha : ok a) (hb : ok b) (h : cmpD a b = 0) : a = b := by
  unfold cmpD at h
  refine at_inj (K := max a.2.2 b.2.2) ha hb (by omega) (by omega) ?_
  split at h
  · cases h
  · split at h
    · cases h
    · omega
theorem cmpD_cases (a b : D) : cmpD a b = -1 ∨ cmpD a b = 0 ∨ cmpD a b = 1 := by
  unfold cmpD; split
  · exact .inl rfl
  · split
    · exact .inr (.inr rfl)
    · exact .inr (.inl rfl)
end Go.Proofs.YthmmjihldkjhhaaGreatDoor.Dc
