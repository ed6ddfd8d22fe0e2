/-
  Quotients and rounding of decimals, and how far they are off. Plain laws; no condition.
-/
import Derived.Test.YthmmjihldkjhhaaGreatDoorDlaws
namespace Go.Proofs.YthmmjihldkjhhaaGreatDoor.Dc

/-- The quotient's digits, as a number. -/
def quo (a b : D) (sc : Nat) : Nat := (a.2.1 * 10 ^ (max a.2.2 b.2.2 - a.2.2 + sc)) / (b.2.1 * 10 ^ (max a.2.2 b.2.2 - b.2.2))
/-- The quotient. -/
def divD (a b : D) (sc : Nat) : Option D := can (a.1 != b.1) (quo a b sc) sc
/-- A number divided by a power of 10, rounded to nearest, to even. -/
def rndN (u k : Nat) : Nat := if 10 ^ k < 2 * (u % 10 ^ k) ∨ 2 * (u % 10 ^ k) = 10 ^ k ∧ u / 10 ^ k % 2 = 1 then u / 10 ^ k + 1 else u / 10 ^ k
/-- A decimal rounded. -/
def roundD (a : D) (sc : Nat) : Option D := if a.2.2 ≤ sc then some a else can a.1 (rndN a.2.1 (a.2.2 - sc)) sc
/-- Without its sign. -/
def absD (a : D) : D := (false, a.2.1, a.2.2)
theorem absD_ok {a : D} (h : ok a) : ok (absD a) := ⟨h.1, h.2.1, fun h0 => ⟨rfl, (h.2.2.1 h0).2⟩, h.2.2.2⟩
theorem at_natAbs (K : Nat) (a : D) : (at_ K a).natAbs = a.2.1 * 10 ^ (K - a.2.2) := by
  unfold at_; rw [Int.natAbs_mul, sg_natAbs, Int.natAbs_pow]; rfl
theorem sg_pow (x : Bool) (m k : Nat) : sg x m * 10 ^ k = sg x (m * 10 ^ k) := by
  cases x <;> simp [sg, Int.natCast_mul, Int.natCast_pow, Int.neg_mul]
theorem sg_mul (x y : Bool) (m n : Nat) : sg x m * sg y n = sg (x != y) (m * n) := by
  cases x <;> cases y <;> simp [sg, Int.natCast_mul, Int.neg_mul, Int.mul_neg]
theorem sg_sub (x : Bool) {m n : Nat} (h : n ≤ m) : sg x m - sg x n = sg x (m - n) := by
  cases x <;> simp [sg] <;> omega
theorem at_sg (K : Nat) (a : D) : at_ K a = sg a.1 (a.2.1 * 10 ^ (K - a.2.2)) := sg_pow _ _ _
theorem at_abs (K : Nat) (a : D) : at_ K (absD a) = ((at_ K a).natAbs : Int) := by
  rw [at_natAbs, at_sg]; rfl
theorem strip_le (S : Nat) : ∀ v, (strip v S).1 ≤ v := by
  induction S with
  | zero => intro v; exact Nat.le_refl _
  | succ S ih =>
    intro v; unfold strip
    by_cases h : v % 10 = 0
    · rw [if_pos h]; exact Nat.le_trans (ih _) (Nat.div_le_self _ _)
    · rw [if_neg h]; exact Nat.le_refl _
theorem can_some {neg : Bool} {v S : Nat} (hv : v < 10 ^ 60) (hS : S ≤ 60) : ∃ x, can neg v S = some x := by
  unfold can
  by_cases h0 : v = 0
  · rw [if_pos h0]; exact ⟨_, rfl⟩
  · have h1 := strip_le S v
    have h2 := (strip_spec S v).1
    have h3 := (digs_length (n := (strip v S).1) (k := 60) (by decide)).2 (Nat.lt_of_le_of_lt h1 hv)
    rw [if_neg h0, if_neg (by omega)]; exact ⟨_, rfl⟩
theorem canI_some {m : Int} {S : Nat} (hv : m.natAbs < 10 ^ 60) (hS : S ≤ 60) : ∃ x, canI m S = some x := can_some hv hS
theorem cmpD_le {K : Nat} {a b : D} (ha : a.2.2 ≤ K) (hb : b.2.2 ≤ K) (h : at_ K a ≤ at_ K b) : cmpD a b = -1 ∨ cmpD a b = 0 := by
  rw [cmpD_at ha hb]
  by_cases h1 : at_ K a < at_ K b
  · rw [if_pos h1]; exact .inl rfl
  · rw [if_neg h1, if_neg (by omega)]; exact .inr rfl
theorem cmpD_lt {K : Nat} {a b : D} (ha : a.2.2 ≤ K) (hb : b.2.2 ≤ K) (h : at_ K a < at_ K b) : cmpD a b = -1 := by
  rw [cmpD_at ha hb, if_pos h]
theorem low40 {u k : Nat} (hu : u < 10 ^ 20) (hk : k ≤ 20) : u * 10 ^ k < 10 ^ 40 := by
  have h1 : 10 ^ k ≤ 10 ^ 20 := Nat.pow_le_pow_right (by decide) hk
  have h2 : u * 10 ^ k ≤ u * 10 ^ 20 := Nat.mul_le_mul_left _ h1
  have h3 : u * 10 ^ 20 < 10 ^ 20 * 10 ^ 20 := Nat.mul_lt_mul_of_pos_right hu (pow10_pos 20)
  rw [← Nat.pow_add] at h3
  exact Nat.lt_of_le_of_lt h2 h3
theorem lt60 {n : Nat} (h : n < 10 ^ 40) : n < 10 ^ 60 := Nat.lt_of_lt_of_le h (Nat.pow_le_pow_right (by decide) (by decide))
theorem sg_nat (x : Bool) (m : Nat) : (sg x m).natAbs = m := sg_natAbs x m
/-- A quotient times the divisor. -/
theorem div_bounds {a b : D} {sc : Nat} (la : a.2.1 < 10 ^ 20) (sa : a.2.2 ≤ 10) (sb : b.2.2 ≤ 10) (hs : sc ≤ 10) (lb : b.2.1 < 10 ^ 20) (h0 : b.2.1 ≠ 0) :
    ∃ q p rest small, divD a b sc = some q ∧ mulD q b = some p ∧ subD a p = some rest ∧ mulD b (false, 1, sc) = some small ∧ (cmpD (absD p) (absD a) = -1 ∨ cmpD (absD p) (absD a) = 0) ∧ cmpD (absD rest) (absD small) = -1 ∧ q.2.2 ≤ sc ∧ ok q ∧ ok p ∧ ok rest ∧ ok small := by
  obtain ⟨K, hK⟩ : ∃ K, K = max a.2.2 b.2.2 := ⟨_, rfl⟩
  obtain ⟨X, hX⟩ : ∃ X, X = a.2.1 * 10 ^ (K - a.2.2 + sc) := ⟨_, rfl⟩
  obtain ⟨Y, hY⟩ : ∃ Y, Y = b.2.1 * 10 ^ (K - b.2.2) := ⟨_, rfl⟩
  obtain ⟨T, hT⟩ : ∃ T, T = 10 ^ (10 - K) * 10 ^ (10 - sc) := ⟨_, rfl⟩
  have hT0 : 0 < T := by rw [hT]; exact Nat.mul_pos (pow10_pos _) (pow10_pos _)
  have hY0 : 0 < Y := by rw [hY]; exact Nat.mul_pos (Nat.pos_of_ne_zero h0) (pow10_pos _)
  obtain ⟨Q, hQ⟩ : ∃ Q, Q = X / Y := ⟨_, rfl⟩
  have hQq : quo a b sc = Q := by unfold quo; rw [hQ, hX, hY, hK]
  have hQ1 : Q * Y ≤ X := by rw [hQ]; exact Nat.div_mul_le_self X Y
  have hQ2 : X < Q * Y + Y := by
    have h1 := Nat.div_add_mod X Y
    have h2 := Nat.mod_lt X hY0
    rw [hQ, Nat.mul_comm (X / Y) Y]; omega
  have eA : a.2.1 * 10 ^ (20 - a.2.2) = X * T := by
    rw [hX, hT, ← Nat.pow_add, Nat.mul_assoc, ← Nat.pow_add]; congr 2; omega
  have eB : b.2.1 * 10 ^ (10 - b.2.2) = Y * 10 ^ (10 - K) := by
    rw [hY, Nat.mul_assoc, ← Nat.pow_add]; congr 2; omega
  have eP : Q * 10 ^ (10 - sc) * (b.2.1 * 10 ^ (10 - b.2.2)) = Q * Y * T := by
    rw [eB, hT]
    generalize 10 ^ (10 - sc) = x
    generalize 10 ^ (10 - K) = y
    rw [Nat.mul_assoc Q x, Nat.mul_assoc Q Y]
    congr 1
    rw [← Nat.mul_assoc, Nat.mul_comm x Y, Nat.mul_assoc, Nat.mul_comm x y]
  have lA : X * T < 10 ^ 40 := by rw [← eA]; exact low40 la (by omega)
  have pA : Q * Y * T ≤ X * T := Nat.mul_le_mul_right _ hQ1
  have pB : X * T < Q * Y * T + Y * T := by rw [← Nat.add_mul]; exact Nat.mul_lt_mul_of_pos_right hQ2 hT0
  have lX : X ≤ X * T := Nat.le_mul_of_pos_right _ hT0
  have lQ : Q ≤ X := by rw [hQ]; exact Nat.div_le_self _ _
  obtain ⟨q, hq⟩ : ∃ q, divD a b sc = some q := by
    unfold divD; rw [hQq]; exact can_some (lt60 (by omega)) (by omega)
  have hq' := hq
  unfold divD at hq'
  rw [hQq, can_sg] at hq'
  obtain ⟨q1, q2, q3⟩ := canI_at hq'
  have q4 : at_ 10 q = sg (a.1 != b.1) (Q * 10 ^ (10 - sc)) := by rw [at_up q2 hs, q3, sg_pow]
  have q5 : at_ 10 q * at_ 10 b = sg a.1 (Q * Y * T) := by
    rw [q4, at_sg 10 b, sg_mul, eP]
    congr 1
    cases a.1 <;> cases b.1 <;> rfl
  have hm := mulD_at (K := 10) (a := q) (b := b) (by omega) sb
  rw [q5] at hm
  obtain ⟨p, hp⟩ : ∃ p, mulD q b = some p := by
    rw [hm]; exact canI_some (by rw [sg_nat]; exact lt60 (by omega)) (by decide)
  obtain ⟨p1, p2, p3⟩ := canI_at (hm.symm.trans hp)
  have a20 : at_ 20 a = sg a.1 (X * T) := by rw [at_sg, eA]
  have hsub := subD_at (K := 20) (a := a) (b := p) (by omega) p2
  rw [a20, p3, sg_sub _ pA] at hsub
  obtain ⟨rest, hr⟩ : ∃ r, subD a p = some r := by
    rw [hsub]; exact canI_some (by rw [sg_nat]; exact lt60 (by omega)) (by decide)
  obtain ⟨r1, r2, r3⟩ := canI_at (hsub.symm.trans hr)
  have hms := mulD_at (K := 10) (a := b) (b := (false, 1, sc)) sb hs
  have e1 : at_ 10 b * at_ 10 (false, 1, sc) = sg b.1 (Y * T) := by
    rw [at_sg 10 b, at_sg 10 (false, 1, sc), sg_mul, eB, hT]
    congr 1
    · cases b.1 <;> rfl
    · simp only [Nat.one_mul]; rw [Nat.mul_assoc]
  rw [e1] at hms
  have lY : Y * T < 10 ^ 40 := by
    have : Y * T = b.2.1 * 10 ^ ((10 - b.2.2) + (10 - sc)) := by
      rw [hT, ← Nat.mul_assoc, ← eB, Nat.mul_assoc, ← Nat.pow_add]
    rw [this]; exact low40 lb (by omega)
  obtain ⟨small, hsm⟩ : ∃ s, mulD b (false, 1, sc) = some s := by
    rw [hms]; exact canI_some (by rw [sg_nat]; exact lt60 lY) (by decide)
  obtain ⟨s1, s2, s3⟩ := canI_at (hms.symm.trans hsm)
  refine ⟨q, p, rest, small, hq, hp, hr, hsm, ?_, ?_, q2, q1, p1, r1, s1⟩
  · refine cmpD_le (K := 20) p2 (show a.2.2 ≤ 20 by omega) ?_
    rw [at_abs, at_abs, p3, a20, sg_nat, sg_nat]; omega
  · refine cmpD_lt (K := 20) r2 s2 ?_
    rw [at_abs, at_abs, r3, s3, sg_nat, sg_nat]; omega
theorem rnd_near (u k : Nat) : 2 * u ≤ 2 * (rndN u k * 10 ^ k) + 10 ^ k ∧ 2 * (rndN u k * 10 ^ k) ≤ 2 * u + 10 ^ k := by
  unfold rndN
  have h := Nat.div_add_mod u (10 ^ k)
  have hm := Nat.mod_lt u (pow10_pos k)
  generalize 10 ^ k = U at *
  generalize u / U = q at *
  generalize u % U = r at *
  split
  · rw [Nat.add_mul, Nat.one_mul, Nat.mul_comm q U]; omega
  · rw [Nat.mul_comm q U]; omega
theorem rnd_le (u k : Nat) : rndN u k ≤ u + 1 := by
  unfold rndN
  have := Nat.div_le_self u (10 ^ k)
  split <;> omega
theorem sg_apart {x : Bool} {m n d : Nat} (h1 : 2 * m ≤ 2 * n + d) (h2 : 2 * n ≤ 2 * m + d) : ((sg x m - sg x n) + (sg x m - sg x n)).natAbs ≤ d := by
  cases x <;> simp [sg] <;> omega
/-- A rounded number. -/
theorem round_bounds {a : D} {sc : Nat} (ha : ok a) (la : a.2.1 < 10 ^ 20) (sa : a.2.2 ≤ 10) (hs : sc ≤ 10) :
    ∃ r rest twice, roundD a sc = some r ∧ subD a r = some rest ∧ addD rest rest = some twice ∧ r.2.2 ≤ sc ∧ (cmpD (absD twice) (false, 1, sc) = -1 ∨ cmpD (absD twice) (false, 1, sc) = 0) ∧ ok r ∧ ok rest ∧ ok twice := by
  have key : ∃ r, roundD a sc = some r ∧ ok r ∧ r.2.2 ≤ sc ∧ ∃ R, at_ 20 r = sg a.1 R ∧ 2 * (a.2.1 * 10 ^ (20 - a.2.2)) ≤ 2 * R + 10 ^ (20 - sc) ∧ 2 * R ≤ 2 * (a.2.1 * 10 ^ (20 - a.2.2)) + 10 ^ (20 - sc) := by
    unfold roundD
    by_cases h : a.2.2 ≤ sc
    · rw [if_pos h]
      exact ⟨a, rfl, ha, h, _, at_sg 20 a, Nat.le_add_right _ _, Nat.le_add_right _ _⟩
    · rw [if_neg h]
      have hl := rnd_le a.2.1 (a.2.2 - sc)
      have hn := rnd_near a.2.1 (a.2.2 - sc)
      have h20 : a.2.1 + 1 < 10 ^ 60 := by
        have : a.2.1 + 1 < 10 ^ 40 := Nat.lt_of_le_of_lt (Nat.succ_le_of_lt la) (Nat.pow_lt_pow_right (by decide) (by decide))
        exact lt60 this
      obtain ⟨r, hr⟩ : ∃ r, can a.1 (rndN a.2.1 (a.2.2 - sc)) sc = some r := can_some (Nat.lt_of_le_of_lt hl h20) (by omega)
      have hr' := hr
      rw [can_sg] at hr'
      obtain ⟨r1, r2, r3⟩ := canI_at hr'
      refine ⟨r, hr, r1, r2, rndN a.2.1 (a.2.2 - sc) * 10 ^ (20 - sc), by rw [at_up r2 (by omega), r3, sg_pow], ?_⟩
      rw [show 20 - sc = (a.2.2 - sc) + (20 - a.2.2) by omega, Nat.pow_add, ← Nat.mul_assoc]
      generalize 10 ^ (20 - a.2.2) = P
      have m1 := Nat.mul_le_mul_right P hn.1
      have m2 := Nat.mul_le_mul_right P hn.2
      simp only [Nat.add_mul, Nat.mul_assoc] at m1 m2 ⊢
      exact ⟨m1, m2⟩
  obtain ⟨r, h1, h2, h3, R, h4, h5, h6⟩ := key
  have hd := subD_at (K := 20) (a := a) (b := r) (by omega) (by omega)
  rw [h4, at_sg 20 a] at hd
  have hb := sg_apart (x := a.1) h5 h6
  have hlow : 10 ^ (20 - sc) ≤ 10 ^ 20 := Nat.pow_le_pow_right (by decide) (by omega)
  have h2060 : (10 : Nat) ^ 20 < 10 ^ 60 := Nat.pow_lt_pow_right (by decide) (by decide)
  generalize sg a.1 (a.2.1 * 10 ^ (20 - a.2.2)) - sg a.1 R = d at *
  obtain ⟨rest, hr⟩ : ∃ x, subD a r = some x := by
    rw [hd]; exact canI_some (by omega) (by decide)
  obtain ⟨r1, r2, r3⟩ := canI_at (hd.symm.trans hr)
  have ht := addD_at (K := 20) (a := rest) (b := rest) r2 r2
  rw [r3] at ht
  obtain ⟨twice, htw⟩ : ∃ x, addD rest rest = some x := by
    rw [ht]; exact canI_some (by omega) (by decide)
  obtain ⟨t1, t2, t3⟩ := canI_at (ht.symm.trans htw)
  refine ⟨r, rest, twice, h1, hr, htw, h3, ?_, h2, r1, t1⟩
  refine cmpD_le (K := 20) t2 (show sc ≤ 20 by omega) ?_
  rw [at_abs, t3, at_sg 20 (false, 1, sc)]
  simp only [sg, Nat.one_mul, Bool.false_eq_true, if_false]
  exact Int.ofNat_le.2 hb
end Go.Proofs.YthmmjihldkjhhaaGreatDoor.Dc
