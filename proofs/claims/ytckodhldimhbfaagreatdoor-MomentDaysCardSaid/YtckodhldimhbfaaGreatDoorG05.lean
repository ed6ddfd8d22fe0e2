/-
  Part 5 of the proof: what functions return, and plain facts (Dlaws Dround Dsum Mpt). Conditions: each theorem names its own.
-/
import Derived.Test.YtckodhldimhbfaaGreatDoorG04
set_option maxRecDepth 1000000
set_option maxHeartbeats 16000000
namespace Go.Proofs.YtckodhldimhbfaaGreatDoor.Dc

abbrev D := Bool × Nat × Nat
def ok (a : D) : Prop := isCan a.1 a.2.1 a.2.2
def at_ (K : Nat) (a : D) : Int := sg a.1 a.2.1 * 10 ^ (K - a.2.2)
theorem p10 (n : Nat) : (0 : Int) < 10 ^ n := Int.pow_pos (by decide)
theorem canI_up {m : Int} {S K : Nat} (h : S <= K) : canI m S = canI (m * 10 ^ (K - S)) K :=
 canI_congr (by rw [Int.mul_assoc, <- Int.pow_add, show K - S + S = K by omega])
theorem can_scale {neg n : Bool} {v S u T : Nat} (h : can neg v S = some (n, u, T)) : T <= S := by
 unfold can at h
 split at h
 ·cases h; omega
 ·split at h
  ·cases h
  ·cases h; exact (strip_spec S v).1
theorem canI_at {M : Int} {K : Nat} {x : D} (h : canI M K = some x) : ok x /\ x.2.2 <= K /\ at_ K x = M := by
 obtain ⟨n, u, T⟩ := x
 obtain ⟨h1, h2⟩ := canI_is h
 have h3 : T <= K := can_scale h
 refine ⟨h1, h3, ?_⟩
 unfold at_
 simp only
 have e : sg n u * 10 ^ (K - T) * 10 ^ T = M * 10 ^ T := by
  rw [Int.mul_assoc, <- Int.pow_add, show K - T + T = K by omega, h2]
 exact Int.eq_of_mul_eq_mul_right (Int.ne_of_gt (p10 T)) e
theorem at_canI {K : Nat} {x : D} (h : ok x) (hK : x.2.2 <= K) : canI (at_ K x) K = some x := by
 unfold at_
 rw [<- canI_up hK]
 exact sg_canI h
theorem at_up {K L : Nat} {x : D} (h : x.2.2 <= K) (hL : K <= L) : at_ L x = at_ K x * 10 ^ (L - K) := by
 unfold at_
 rw [Int.mul_assoc, <- Int.pow_add, show K - x.2.2 + (L - K) = L - x.2.2 by omega]
def addD (a b : D) : Option D := canI (at_ (max a.2.2 b.2.2) a + at_ (max a.2.2 b.2.2) b) (max a.2.2 b.2.2)
def opp (a : D) : D := (!a.1 && decide (a.2.1 ≠ 0), a.2.1, a.2.2)
def subD (a b : D) : Option D := addD a (opp b)
def mulD (a b : D) : Option D := canI (sg a.1 a.2.1 * sg b.1 b.2.1) (a.2.2 + b.2.2)
def cmpD (a b : D) : Int := if at_ (max a.2.2 b.2.2) a < at_ (max a.2.2 b.2.2) b then -1 else if at_ (max a.2.2 b.2.2) b < at_ (max a.2.2 b.2.2) a then 1 else 0
theorem sg_opp (n : Bool) (v : Nat) : sg (!n && decide (v ≠ 0)) v = -sg n v := by
 unfold sg
 by_cases hv : v = 0
 ·subst hv; cases n <;> simp
 ·cases n <;> simp [hv]
theorem at_opp (K : Nat) (a : D) : at_ K (opp a) = -at_ K a := by
 unfold at_ opp; simp only; rw [sg_opp, Int.neg_mul]
theorem opp_ok {a : D} (h : ok a) : ok (opp a) := by
 obtain ⟨n, v, S⟩ := a
 obtain ⟨h1, h2, h3, h4⟩ := h
 refine ⟨h1, h2, fun h0 => ?_, h4⟩
 simp only [opp] at h0 ⊢
 exact ⟨by simp [h0], (h3 h0).2⟩
theorem addD_at {K : Nat} {a b : D} (ha : a.2.2 <= K) (hb : b.2.2 <= K) : addD a b = canI (at_ K a + at_ K b) K := by
 unfold addD
 rw [canI_up (K := K) (by omega), Int.add_mul, <- at_up (by omega) (by omega), <- at_up (by omega) (by omega)]
theorem subD_at {K : Nat} {a b : D} (ha : a.2.2 <= K) (hb : b.2.2 <= K) : subD a b = canI (at_ K a - at_ K b) K := by
 unfold subD
 rw [addD_at (K := K) ha (by exact hb), at_opp, Int.sub_eq_add_neg]
theorem cmpD_at {K : Nat} {a b : D} (ha : a.2.2 <= K) (hb : b.2.2 <= K) : cmpD a b = if at_ K a < at_ K b then -1 else if at_ K b < at_ K a then 1 else 0 := by
 have e1 : at_ K a = at_ (max a.2.2 b.2.2) a * 10 ^ (K - max a.2.2 b.2.2) := at_up (by omega) (by omega)
 have e2 : at_ K b = at_ (max a.2.2 b.2.2) b * 10 ^ (K - max a.2.2 b.2.2) := at_up (by omega) (by omega)
 have hp := p10 (K - max a.2.2 b.2.2)
 unfold cmpD
 rw [e1, e2]
 generalize at_ (max a.2.2 b.2.2) a = x
 generalize at_ (max a.2.2 b.2.2) b = y
 have lt : ∀ x y : Int, (x * 10 ^ (K - max a.2.2 b.2.2) < y * 10 ^ (K - max a.2.2 b.2.2)) ↔ x < y := fun x y => ⟨fun h => Int.lt_of_mul_lt_mul_right h (Int.le_of_lt hp), fun h => Int.mul_lt_mul_of_pos_right h hp⟩
 by_cases h1 : x < y
 ·rw [if_pos h1, if_pos ((lt x y).2 h1)]
 ·rw [if_neg h1, if_neg (fun h => h1 ((lt x y).1 h))]
  by_cases h2 : y < x
  ·rw [if_pos h2, if_pos ((lt y x).2 h2)]
  ·rw [if_neg h2, if_neg (fun h => h2 ((lt y x).1 h))]
theorem add_comm (a b : D) : addD a b = addD b a := by
 rw [addD_at (K := max a.2.2 b.2.2) (by omega) (by omega), addD_at (K := max a.2.2 b.2.2) (by omega) (by omega), Int.add_comm]
theorem mul_comm (a b : D) : mulD a b = mulD b a := by unfold mulD; rw [Int.mul_comm, Nat.add_comm]
theorem at_neg {K : Nat} {x : D} (h : ok x) : at_ K x < 0 ↔ x.1 = true := by
 have hp := p10 (K - x.2.2)
 obtain ⟨n, v, S⟩ := x
 have h3 := h.2.2.1
 simp only at h3
 unfold at_ sg
 simp only at hp ⊢
 constructor
 ·intro hlt
  cases n with
  | true => rfl
  | false =>
   rw [if_neg (by decide)] at hlt
   have := Int.mul_nonneg (Int.natCast_nonneg v) (Int.le_of_lt hp)
   omega
 ·intro hn
  subst hn
  have hv : v ≠ 0 := fun h0 => by have := (h3 h0).1; cases this
  rw [if_pos rfl]
  exact Int.mul_neg_of_neg_of_pos (by omega) hp
end Go.Proofs.YtckodhldimhbfaaGreatDoor.Dc
namespace Go.Proofs.YtckodhldimhbfaaGreatDoor.Dc

def quo (a b : D) (sc : Nat) : Nat := (a.2.1 * 10 ^ (max a.2.2 b.2.2 - a.2.2 + sc)) / (b.2.1 * 10 ^ (max a.2.2 b.2.2 - b.2.2))
def divD (a b : D) (sc : Nat) : Option D := can (a.1 != b.1) (quo a b sc) sc
theorem at_natAbs (K : Nat) (a : D) : (at_ K a).natAbs = a.2.1 * 10 ^ (K - a.2.2) := by
 unfold at_; rw [Int.natAbs_mul, sg_natAbs, Int.natAbs_pow]; rfl
theorem sg_pow (x : Bool) (m k : Nat) : sg x m * 10 ^ k = sg x (m * 10 ^ k) := by
 cases x <;> simp [sg, Int.natCast_mul, Int.natCast_pow, Int.neg_mul]
theorem at_sg (K : Nat) (a : D) : at_ K a = sg a.1 (a.2.1 * 10 ^ (K - a.2.2)) := sg_pow _ _ _
theorem strip_le (S : Nat) : ∀ v, (strip v S).1 <= v := by
 induction S with
 | zero => intro v; exact Nat.le_refl _
 | succ S ih =>
  intro v; unfold strip
  by_cases h : v % 10 = 0
  ·rw [if_pos h]; exact Nat.le_trans (ih _) (Nat.div_le_self _ _)
  ·rw [if_neg h]; exact Nat.le_refl _
theorem can_some {neg : Bool} {v S : Nat} (hv : v < 10 ^ 60) (hS : S <= 60) : ∃ x, can neg v S = some x := by
 unfold can
 by_cases h0 : v = 0
 ·rw [if_pos h0]; exact ⟨_, rfl⟩
 ·have h1 := strip_le S v
  have h2 := (strip_spec S v).1
  have h3 := (digs_length (n := (strip v S).1) (k := 60) (by decide)).2 (Nat.lt_of_le_of_lt h1 hv)
  rw [if_neg h0, if_neg (by omega)]; exact ⟨_, rfl⟩
theorem canI_some {m : Int} {S : Nat} (hv : m.natAbs < 10 ^ 60) (hS : S <= 60) : ∃ x, canI m S = some x := can_some hv hS
end Go.Proofs.YtckodhldimhbfaaGreatDoor.Dc
namespace Go.Proofs.YtckodhldimhbfaaGreatDoor.Dc

theorem sg_add (x : Bool) (m n : Nat) : sg x m + sg x n = sg x (m + n) := by cases x <;> simp [sg] <;> omega
theorem sg_ge (x : Bool) {m n : Nat} (h : n <= m) : sg x m + sg (!x) n = sg x (m - n) := by cases x <;> simp [sg] <;> omega
theorem sg_lt (x : Bool) {m n : Nat} (h : m < n) : sg x m + sg (!x) n = sg (!x) (n - m) := by cases x <;> simp [sg] <;> omega
theorem addD_same (n : Bool) (u T v S : Nat) {K X Y : Nat} (hK : max T S = K) (hX : u * 10 ^ (K - T) = X) (hY : v * 10 ^ (K - S) = Y) : addD (n, u, T) (n, v, S) = can n (X + Y) K := by
 subst hK; subst hX; subst hY
 unfold addD; rw [can_sg, at_sg, at_sg, sg_add]
theorem addD_ge (n : Bool) (u T v S : Nat) {K X Y : Nat} (hK : max T S = K) (hX : u * 10 ^ (K - T) = X) (hY : v * 10 ^ (K - S) = Y) (h : Y <= X) : addD (n, u, T) (!n, v, S) = can n (X - Y) K := by
 subst hK; subst hX; subst hY
 unfold addD; rw [can_sg, at_sg, at_sg, sg_ge _ h]
theorem addD_lt (n : Bool) (u T v S : Nat) {K X Y : Nat} (hK : max T S = K) (hX : u * 10 ^ (K - T) = X) (hY : v * 10 ^ (K - S) = Y) (h : X < Y) : addD (n, u, T) (!n, v, S) = can (!n) (Y - X) K := by
 subst hK; subst hX; subst hY
 unfold addD; rw [can_sg, at_sg, at_sg, sg_lt _ h]
def ord (x y : Nat) : Int := if x < y then -1 else if y < x then 1 else 0
theorem cmpD_pos (u T v S : Nat) {K X Y : Nat} (hK : max T S = K) (hX : u * 10 ^ (K - T) = X) (hY : v * 10 ^ (K - S) = Y) : cmpD (false, u, T) (false, v, S) = ord X Y := by
 subst hK; subst hX; subst hY
 unfold cmpD ord; rw [at_sg, at_sg]
 simp only [sg, Bool.false_eq_true, if_false]
 generalize u * 10 ^ (max T S - T) = X
 generalize v * 10 ^ (max T S - S) = Y
 by_cases h : X < Y
 ·rw [if_pos h, if_pos (Int.ofNat_lt.2 h)]
 ·rw [if_neg h, if_neg (fun h2 => h (Int.ofNat_lt.1 h2))]
  by_cases h3 : Y < X
  ·rw [if_pos h3, if_pos (Int.ofNat_lt.2 h3)]
  ·rw [if_neg h3, if_neg (fun h2 => h3 (Int.ofNat_lt.1 h2))]
theorem cmpD_neg (u T v S : Nat) {K X Y : Nat} (hK : max T S = K) (hX : u * 10 ^ (K - T) = X) (hY : v * 10 ^ (K - S) = Y) : cmpD (true, u, T) (true, v, S) = - ord X Y := by
 subst hK; subst hX; subst hY
 unfold cmpD ord; rw [at_sg, at_sg]
 simp only [sg, if_true]
 generalize u * 10 ^ (max T S - T) = X
 generalize v * 10 ^ (max T S - S) = Y
 rcases Nat.lt_trichotomy X Y with h | h | h
 ·rw [if_neg (by omega), if_pos (by omega), if_pos h]; rfl
 ·rw [if_neg (by omega), if_neg (by omega), if_neg (by omega), if_neg (by omega)]; rfl
 ·rw [if_pos (by omega), if_neg (by omega), if_pos h]
theorem cmpD_np {a b : D} (ha : ok a) (hb : ok b) (h1 : a.1 = true) (h2 : b.1 = false) : cmpD a b = -1 := by
 have e1 : at_ (max a.2.2 b.2.2) a < 0 := (at_neg ha).2 h1
 have e2 : ¬ at_ (max a.2.2 b.2.2) b < 0 := fun h => by have := (at_neg hb).1 h; rw [h2] at this; cases this
 unfold cmpD; rw [if_pos (by omega)]
theorem cmpD_pn {a b : D} (ha : ok a) (hb : ok b) (h1 : a.1 = false) (h2 : b.1 = true) : cmpD a b = 1 := by
 have e1 : ¬ at_ (max a.2.2 b.2.2) a < 0 := fun h => by have := (at_neg ha).1 h; rw [h1] at this; cases this
 have e2 : at_ (max a.2.2 b.2.2) b < 0 := (at_neg hb).2 h2
 unfold cmpD; rw [if_neg (by omega), if_pos (by omega)]
theorem cmpD_self (a : D) : cmpD a a = 0 := by unfold cmpD; rw [if_neg (by omega), if_neg (by omega)]
theorem at_inj {K : Nat} {a b : D} (ha : ok a) (hb : ok b) (h1 : a.2.2 <= K) (h2 : b.2.2 <= K) (h : at_ K a = at_ K b) : a = b := by
 have e1 := at_canI ha h1
 have e2 := at_canI hb h2
 rw [h, e2] at e1
 exact (Option.some.inj e1).symm
theorem cmpD_eq {a b : D} (ha : ok a) (hb : ok b) (h : cmpD a b = 0) : a = b := by
 unfold cmpD at h
 refine at_inj (K := max a.2.2 b.2.2) ha hb (by omega) (by omega) ?_
 split at h
 ·cases h
 ·split at h
  ·cases h
  ·omega
end Go.Proofs.YtckodhldimhbfaaGreatDoor.Dc
namespace Go.Proofs.YtckodhldimhbfaaGreatDoor.Dc
def U : Int := 10 ^ 60
theorem U_eq : U = 10 ^ 60 := rfl
theorem U_pos : 0 < U := p10 60
def frac (r : Int) : D := (canI r 60).getD (false, 0, 0)
theorem frac_some {r : Int} (h0 : 0 <= r) (h1 : r < U) : canI r 60 = some (frac r) := by
 obtain ⟨x, hx⟩ := canI_some (m := r) (S := 60) (by
  have : ((r.natAbs : Nat) : Int) < ((10 ^ 60 : Nat) : Int) := by rw [U_eq] at h1; omega
  exact_mod_cast this) (by decide)
 unfold frac; rw [hx]; rfl
theorem frac_ok {r : Int} (h0 : 0 <= r) (h1 : r < U) : ok (frac r) /\ (frac r).2.2 <= 60 /\ at_ 60 (frac r) = r := canI_at (frac_some h0 h1)
theorem ok60 {a : D} (h : ok a) : a.2.2 <= 60 := h.2.1
theorem at_one : at_ 60 (false, 1, 0) = U := rfl
theorem at_int (n : Bool) (v : Nat) : at_ 60 (n, v, 0) = sg n v * U := rfl
theorem at_inj60 {a b : D} (ha : ok a) (hb : ok b) (h : at_ 60 a = at_ 60 b) : a = b := at_inj ha hb (ok60 ha) (ok60 hb) h
theorem div_one {a : D} (ha : ok a) : divD a (false, 1, 0) 0 = canI ((at_ 60 a).tdiv U) 0 := by
 obtain ⟨n, v, S⟩ := a
 have hS : S <= 60 := ok60 ha
 have hp : (10 : Nat) ^ 60 = 10 ^ (60 - S) * 10 ^ S := by rw [<- Nat.pow_add]; congr 1; omega
 unfold divD quo
 simp only [Nat.max_zero, Nat.sub_self, Nat.add_zero, Nat.pow_zero, Nat.mul_one, Nat.one_mul, Nat.sub_zero]
 rw [can_sg]
 congr 1
 rw [at_sg, U_eq]
 have e : v * 10 ^ (60 - S) / 10 ^ 60 = v / 10 ^ S := by
  rw [hp, Nat.mul_comm v, Nat.mul_div_mul_left _ _ (pow10_pos _)]
 cases n
 ·show ((v / 10 ^ S : Nat) : Int) = (((v * 10 ^ (60 - S) : Nat)) : Int).tdiv ((10 ^ 60 : Nat) : Int)
  rw [<- Int.ofNat_tdiv, e]
 ·show -((v / 10 ^ S : Nat) : Int) = (-(((v * 10 ^ (60 - S) : Nat)) : Int)).tdiv ((10 ^ 60 : Nat) : Int)
  rw [Int.neg_tdiv, <- Int.ofNat_tdiv, e]
theorem int_some {k : Int} (h : k.natAbs < 10 ^ 60) : canI k 0 = some (decide (k < 0), k.natAbs, 0) := by
 unfold canI can
 by_cases h0 : k.natAbs = 0
 ·obtain rfl : k = 0 := by omega
  rfl
 ·rw [if_neg h0]
  have := (digs_length (n := k.natAbs) (k := 60) (by decide)).2 h
  rw [strip_done (.inl rfl), if_neg (by simp only; omega)]
theorem at_int' (k : Int) : at_ 60 (decide (k < 0), k.natAbs, 0) = k * U := by
 rw [at_int]
 congr 1
 unfold sg
 by_cases h : k < 0
 ·rw [decide_eq_true h, if_pos rfl]; omega
 ·rw [decide_eq_false h, if_neg (by decide)]; omega
theorem int_ok {k : Int} (h : k.natAbs < 10 ^ 60) : ok (decide (k < 0), k.natAbs, 0) := (canI_at (int_some h)).1
theorem sub60 {a b : D} (ha : ok a) (hb : ok b) : subD a b = canI (at_ 60 a - at_ 60 b) 60 := subD_at (ok60 ha) (ok60 hb)
theorem add60 {a b : D} (ha : ok a) (hb : ok b) : addD a b = canI (at_ 60 a + at_ 60 b) 60 := addD_at (ok60 ha) (ok60 hb)
theorem cmp60 {a b : D} (ha : ok a) (hb : ok b) : cmpD a b = if at_ 60 a < at_ 60 b then -1 else if at_ 60 b < at_ 60 a then 1 else 0 := cmpD_at (ok60 ha) (ok60 hb)
theorem back60 {a : D} (ha : ok a) : canI (at_ 60 a) 60 = some a := at_canI ha (ok60 ha)
theorem small_some {r : Int} (h : r.natAbs < 10 ^ 60) : canI r 60 = some (frac r) := by
 obtain ⟨x, hx⟩ := canI_some (m := r) (S := 60) h (by decide)
 unfold frac; rw [hx]; rfl
theorem small_ok {r : Int} (h : r.natAbs < 10 ^ 60) : ok (frac r) /\ at_ 60 (frac r) = r := ⟨(canI_at (small_some h)).1, (canI_at (small_some h)).2.2⟩
theorem one_ok : ok (false, 1, 0) := int_ok (k := 1) (by decide)
theorem frac_one : canI U 60 = some (false, 1, 0) := back60 (a := (false, 1, 0)) one_ok
theorem zero_ok : ok (false, 0, 0) := int_ok (k := 0) (by decide)
theorem le_some {r : Int} (h0 : 0 <= r) (h1 : r <= U) : canI r 60 = some (frac r) /\ ok (frac r) /\ at_ 60 (frac r) = r := by
 rcases (by omega : r < U \/ r = U) with h | rfl
 ·exact ⟨frac_some h0 h, (frac_ok h0 h).1, (frac_ok h0 h).2.2⟩
 ·have e : frac U = (false, 1, 0) := by unfold frac; rw [frac_one]; rfl
  rw [e]
  exact ⟨frac_one, one_ok, rfl⟩
theorem lt_abs {r : Int} (h0 : -U < r) (h1 : r < U) : r.natAbs < 10 ^ 60 := by
 have : ((r.natAbs : Nat) : Int) < ((10 ^ 60 : Nat) : Int) := by rw [U_eq] at *; omega
 exact_mod_cast this
def trunc (T : Int) : D := (decide (T.tdiv U < 0), (T.tdiv U).natAbs, 0)
theorem tdiv_abs {T : Int} (h : T.natAbs < 10 ^ 75) : (T.tdiv U).natAbs < 10 ^ 60 := by
 rw [Int.natAbs_tdiv]
 have e : U.natAbs = 10 ^ 60 := rfl
 rw [e]
 exact Nat.lt_of_le_of_lt (Nat.div_le_div_right (Nat.le_of_lt h)) (by decide)
theorem split_div {a : D} (ha : ok a) (h : (at_ 60 a).natAbs < 10 ^ 75) : divD a (false, 1, 0) 0 = some (trunc (at_ 60 a)) := by
 rw [div_one ha, int_some (tdiv_abs h)]; rfl
theorem trunc_ok {T : Int} (h : T.natAbs < 10 ^ 75) : ok (trunc T) /\ at_ 60 (trunc T) = T.tdiv U * U := ⟨int_ok (tdiv_abs h), at_int' _⟩
theorem tmod_bd (T : Int) : -U < T.tmod U /\ T.tmod U < U /\ (T.tmod U < 0 -> T / U = T.tdiv U - 1 /\ T % U = T.tmod U + U) /\ (0 <= T.tmod U -> T / U = T.tdiv U /\ T % U = T.tmod U) := by
 have hU := U_pos
 have h1 := Int.mul_tdiv_add_tmod T U
 have h2 := Int.mul_ediv_add_emod T U
 have h3 := Int.emod_nonneg T (b := U) (by omega)
 have h4 := Int.emod_lt_of_pos T hU
 have h5 := Int.tmod_lt_of_pos T hU
 have h6 : -U < T.tmod U := by
  have := Int.tmod_lt_of_pos (-T) hU
  rw [Int.neg_tmod] at this
  omega
 generalize T.tdiv U = q at *
 generalize T.tmod U = r at *
 generalize T / U = p at *
 generalize T % U = s at *
 have key : U * (p - q) = r - s := by rw [Int.mul_sub]; omega
 have lo : ∀ k : Int, k <= -2 -> U * k <= U * (-2) := fun k hk => Int.mul_le_mul_of_nonneg_left hk (by omega)
 have hi : ∀ k : Int, 1 <= k -> U * 1 <= U * k := fun k hk => Int.mul_le_mul_of_nonneg_left hk (by omega)
 have a1 : ¬ 1 <= p - q := fun h => by have := hi _ h; omega
 have a2 : ¬ p - q <= -2 := fun h => by have := lo _ h; omega
 rcases (by omega : p = q \/ p = q - 1) with rfl | rfl
 ·rw [Int.sub_self, Int.mul_zero] at key
  exact ⟨h6, h5, fun h => by omega, fun h => ⟨rfl, by omega⟩⟩
 ·have : U * (q - 1 - q) = -U := by rw [show q - 1 - q = -1 by omega]; omega
  exact ⟨h6, h5, fun h => ⟨rfl, by omega⟩, fun h => by omega⟩
theorem split_sub {a : D} (ha : ok a) (h : (at_ 60 a).natAbs < 10 ^ 75) : subD a (trunc (at_ 60 a)) = some (frac ((at_ 60 a).tmod U)) := by
 obtain ⟨h1, h2⟩ := trunc_ok h
 rw [sub60 ha h1, h2]
 have := Int.mul_tdiv_add_tmod (at_ 60 a) U
 rw [show at_ 60 a - (at_ 60 a).tdiv U * U = (at_ 60 a).tmod U by rw [Int.mul_comm] at this; omega]
 obtain ⟨k1, k2, _⟩ := tmod_bd (at_ 60 a)
 exact small_some (lt_abs k1 k2)
theorem split_neg (T : Int) : (frac (T.tmod U)).1 = decide (T.tmod U < 0) := by
 obtain ⟨k1, k2, _⟩ := tmod_bd T
 obtain ⟨h1, h2⟩ := small_ok (lt_abs k1 k2)
 have := at_neg (K := 60) h1
 rw [h2] at this
 cases h : (frac (T.tmod U)).1 with
 | true => exact (decide_eq_true (this.2 h)).symm
 | false => exact (decide_eq_false (fun k => by rw [this.1 k] at h; cases h)).symm
theorem split_add {T : Int} (h : T.tmod U < 0) : addD (frac (T.tmod U)) (false, 1, 0) = some (frac (T % U)) := by
 obtain ⟨k1, k2, k3, _⟩ := tmod_bd T
 obtain ⟨h1, h2⟩ := small_ok (lt_abs k1 k2)
 rw [add60 h1 one_ok, h2, at_one, (k3 h).2]
 exact frac_some (by omega) (by omega)
theorem plus_left {r : Int} (h0 : 0 <= r) (h1 : r < U) : subD (false, 1, 0) (frac r) = some (frac (U - r)) := by
 obtain ⟨k1, _, k2⟩ := frac_ok h0 h1
 rw [sub60 one_ok k1, k2, at_one]
 exact (le_some (by omega) (by omega)).1
theorem plus_cmp {r q : Int} (h0 : 0 <= r) (h1 : r < U) (g0 : 0 <= q) (g1 : q < U) : (cmpD (frac r) (frac (U - q)) < 0) = (r + q < U) := by
 obtain ⟨k1, _, k2⟩ := frac_ok h0 h1
 obtain ⟨_, l1, l2⟩ := le_some (r := U - q) (by omega) (by omega)
 rw [cmp60 k1 l1, k2, l2]
 apply propext
 split
 ·omega
 ·split <;> omega
theorem plus_add {r q : Int} (h0 : 0 <= r) (h1 : r < U) (g0 : 0 <= q) (g1 : q < U) (h : r + q < U) : addD (frac r) (frac q) = some (frac (r + q)) := by
 obtain ⟨k1, _, k2⟩ := frac_ok h0 h1
 obtain ⟨l1, _, l2⟩ := frac_ok g0 g1
 rw [add60 k1 l1, k2, l2]
 exact frac_some (by omega) h
theorem plus_sub {r q : Int} (h0 : 0 <= r) (h1 : r < U) (g0 : 0 <= q) (g1 : q < U) (h : ¬ r + q < U) : subD (frac r) (frac (U - q)) = some (frac (r + q - U)) := by
 obtain ⟨k1, _, k2⟩ := frac_ok h0 h1
 obtain ⟨_, l1, l2⟩ := le_some (r := U - q) (by omega) (by omega)
 rw [sub60 k1 l1, k2, l2, show r - (U - q) = r + q - U by omega]
 exact frac_some (by omega) (by omega)
theorem emod_bd (T : Int) : 0 <= T % U /\ T % U < U := ⟨Int.emod_nonneg _ (by have := U_pos; omega), Int.emod_lt_of_pos _ U_pos⟩
theorem parts (T : Int) : T / U * U + T % U = T := by have := Int.mul_ediv_add_emod T U; rw [Int.mul_comm]; exact this
theorem parts_eq {w r : Int} (h0 : 0 <= r) (h1 : r < U) : (w * U + r) / U = w /\ (w * U + r) % U = r := by
 have hU := U_pos
 constructor
 ·rw [Int.add_comm, Int.add_mul_ediv_right _ _ (by omega), Int.ediv_eq_zero_of_lt h0 h1, Int.zero_add]
 ·rw [Int.add_comm, Int.add_mul_emod_self_right, Int.emod_eq_of_lt h0 h1]
theorem plus_parts (S T : Int) : (S + T) / U = (if S % U + T % U < U then S / U + T / U else S / U + T / U + 1) /\ (S + T) % U = (if S % U + T % U < U then S % U + T % U else S % U + T % U - U) := by
 obtain ⟨a0, a1⟩ := emod_bd S
 obtain ⟨b0, b1⟩ := emod_bd T
 have e1 := parts S
 have e2 := parts T
 split
 ·rename_i h
  have e : S + T = (S / U + T / U) * U + (S % U + T % U) := by rw [Int.add_mul]; omega
  have := parts_eq (w := S / U + T / U) (r := S % U + T % U) (by omega) h
  rw [<- e] at this
  exact this
 ·rename_i h
  have e : S + T = (S / U + T / U + 1) * U + (S % U + T % U - U) := by rw [Int.add_mul, Int.add_mul]; omega
  have := parts_eq (w := S / U + T / U + 1) (r := S % U + T % U - U) (by omega) (by omega)
  rw [<- e] at this
  exact this
def ordI (a b : Int) : Int := if a < b then -1 else if b < a then 1 else 0
theorem point_ord (S T : Int) : ordI S T = if S / U < T / U then -1 else if T / U < S / U then 1 else cmpD (frac (S % U)) (frac (T % U)) := by
 obtain ⟨a0, a1⟩ := emod_bd S
 obtain ⟨b0, b1⟩ := emod_bd T
 obtain ⟨k1, _, k2⟩ := frac_ok a0 a1
 obtain ⟨l1, _, l2⟩ := frac_ok b0 b1
 rw [cmp60 k1 l1, k2, l2]
 have e1 := parts S
 have e2 := parts T
 have mono : ∀ x y : Int, x + 1 <= y -> x * U + U <= y * U := fun x y h => by
  have := Int.mul_le_mul_of_nonneg_right h (Int.le_of_lt U_pos)
  rw [Int.add_mul] at this; omega
 unfold ordI
 generalize hs : S % U = r at *
 generalize ht : T % U = q at *
 generalize hp : S / U = x at *
 generalize hq : T / U = y at *
 rcases Int.lt_trichotomy x y with h | h | h
 ·have := mono _ _ (show x + 1 <= y by omega)
  rw [if_pos h, if_pos (by omega)]
 ·subst h
  rw [if_neg (Int.lt_irrefl _), if_neg (Int.lt_irrefl _)]
  by_cases h1 : r < q
  ·rw [if_pos h1, if_pos (by omega)]
  ·rw [if_neg h1, if_neg (by omega)]
   by_cases h2 : q < r
   ·rw [if_pos h2, if_pos (by omega)]
   ·rw [if_neg h2, if_neg (by omega)]
 ·have := mono _ _ (show y + 1 <= x by omega)
  rw [if_neg (show ¬ x < y by omega), if_pos h, if_neg (by omega), if_pos (by omega)]
end Go.Proofs.YtckodhldimhbfaaGreatDoor.Dc
