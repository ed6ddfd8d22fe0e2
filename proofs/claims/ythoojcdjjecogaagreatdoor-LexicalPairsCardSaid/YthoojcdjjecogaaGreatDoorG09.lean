/-
  Part 9 of the proof: what functions return, and plain facts (Dsum Mpt Res Mspec Mvars Rdtext Pparse Pof Rsum). Conditions: each theorem names its own.
-/
import Derived.Test.YthoojcdjjecogaaGreatDoorG04
import Derived.Test.YthoojcdjjecogaaGreatDoorG06
import Derived.Test.YthoojcdjjecogaaGreatDoorG08
import Derived.Test.YthoojcdjjecogaaGreatDoorG03
import Derived.Test.YthoojcdjjecogaaGreatDoorG07
set_option maxRecDepth 1000000
set_option maxHeartbeats 16000000
namespace Go.Proofs.YthoojcdjjecogaaGreatDoor.Dc

theorem sg_add (x : Bool) (m n : Nat) : sg x m + sg x n = sg x (m + n) := by cases x <;> simp [sg] <;> omega
theorem sg_ge (x : Bool) {m n : Nat} (h : n <= m) : sg x m + sg (!x) n = sg x (m - n) := by cases x <;> simp [sg] <;> omega
theorem sg_lt (x : Bool) {m n : Nat} (h : m < n) : sg x m + sg (!x) n = sg (!x) (n - m) := by cases x <;> simp [sg] <;> omega
theorem addD_same (n : Bool) (u T v S : Nat) {K X Y : Nat} (hK : max T S = K) (hX : u * 10 ^ (K - T) = X) (hY : v * 10 ^ (K - S) = Y) : addD (n, u, T) (n, v, S) = can n (X + Y) K := by
 subst hK; subst hX; subst hY
 unfold addD; rw [can_sg, at_sg, at_sg, sg_add]
theorem addD_ge (n : Bool) (u T v S : Nat) {K X Y : Nat} (hK : max T S = K) (hX : u * 10 ^ (K - T) = X) (hY : v * 10 ^ (K - S) = Y) (h : Y <= X) : addD (n, u, T) (!n, v, S) = can n (X - Y) K := by
 subst hK; subst hX; subst hY
 unfold addD; rw [can_sg, at_sg, at_sg, sg_ge _ h]
theorem addD_lt (n : Bool) (u T v S : Nat) {K X Y : Nat} (hK : max T S = K) (hX : u * 10 ^ (K - T) = X) (hY : v * 10 ^ (K - S) = Y) (h : X < Y) : addD (n, u, T) (!n, v, S) = can (!n) (Y - X) K := by
 subst hK; subst hX; subst hY
 unfold addD; rw [can_sg, at_sg, at_sg, sg_lt _ h]
def ord (x y : Nat) : Int := if x < y then -1 else if y < x then 1 else 0
theorem cmpD_pos (u T v S : Nat) {K X Y : Nat} (hK : max T S = K) (hX : u * 10 ^ (K - T) = X) (hY : v * 10 ^ (K - S) = Y) : cmpD (false, u, T) (false, v, S) = ord X Y := by
 subst hK; subst hX; subst hY
 unfold cmpD ord; rw [at_sg, at_sg]
 simp only [sg, Bool.false_eq_true, if_false]
 generalize u * 10 ^ (max T S - T) = X
 generalize v * 10 ^ (max T S - S) = Y
 by_cases h : X < Y
 ·rw [if_pos h, if_pos (Int.ofNat_lt.2 h)]
 ·rw [if_neg h, if_neg (fun h2 => h (Int.ofNat_lt.1 h2))]
  by_cases h3 : Y < X
  ·rw [if_pos h3, if_pos (Int.ofNat_lt.2 h3)]
  ·rw [if_neg h3, if_neg (fun h2 => h3 (Int.ofNat_lt.1 h2))]
theorem cmpD_neg (u T v S : Nat) {K X Y : Nat} (hK : max T S = K) (hX : u * 10 ^ (K - T) = X) (hY : v * 10 ^ (K - S) = Y) : cmpD (true, u, T) (true, v, S) = - ord X Y := by
 subst hK; subst hX; subst hY
 unfold cmpD ord; rw [at_sg, at_sg]
 simp only [sg, if_true]
 generalize u * 10 ^ (max T S - T) = X
 generalize v * 10 ^ (max T S - S) = Y
 rcases Nat.lt_trichotomy X Y with h | h | h
 ·rw [if_neg (by omega), if_pos (by omega), if_pos h]; rfl
 ·rw [if_neg (by omega), if_neg (by omega), if_neg (by omega), if_neg (by omega)]; rfl
 ·rw [if_pos (by omega), if_neg (by omega), if_pos h]
theorem cmpD_np {a b : D} (ha : ok a) (hb : ok b) (h1 : a.1 = true) (h2 : b.1 = false) : cmpD a b = -1 := by
 have e1 : at_ (max a.2.2 b.2.2) a < 0 := (at_neg ha).2 h1
 have e2 : ¬ at_ (max a.2.2 b.2.2) b < 0 := fun h => by have := (at_neg hb).1 h; rw [h2] at this; cases this
 unfold cmpD; rw [if_pos (by omega)]
theorem cmpD_pn {a b : D} (ha : ok a) (hb : ok b) (h1 : a.1 = false) (h2 : b.1 = true) : cmpD a b = 1 := by
 have e1 : ¬ at_ (max a.2.2 b.2.2) a < 0 := fun h => by have := (at_neg ha).1 h; rw [h1] at this; cases this
 have e2 : at_ (max a.2.2 b.2.2) b < 0 := (at_neg hb).2 h2
 unfold cmpD; rw [if_neg (by omega), if_pos (by omega)]
theorem cmpD_self (a : D) : cmpD a a = 0 := by unfold cmpD; rw [if_neg (by omega), if_neg (by omega)]
theorem at_inj {K : Nat} {a b : D} (ha : ok a) (hb : ok b) (h1 : a.2.2 <= K) (h2 : b.2.2 <= K) (h : at_ K a = at_ K b) : a = b := by
 have e1 := at_canI ha h1
 have e2 := at_canI hb h2
 rw [h, e2] at e1
 exact (Option.some.inj e1).symm
theorem cmpD_eq {a b : D} (ha : ok a) (hb : ok b) (h : cmpD a b = 0) : a = b := by
 unfold cmpD at h
 refine at_inj (K := max a.2.2 b.2.2) ha hb (by omega) (by omega) ?_
 split at h
 ·cases h
 ·split at h
  ·cases h
  ·omega
end Go.Proofs.YthoojcdjjecogaaGreatDoor.Dc
namespace Go.Proofs.YthoojcdjjecogaaGreatDoor.Dc
def U : Int := 10 ^ 60
theorem U_eq : U = 10 ^ 60 := rfl
theorem U_pos : 0 < U := p10 60
def frac (r : Int) : D := (canI r 60).getD (false, 0, 0)
theorem frac_some {r : Int} (h0 : 0 <= r) (h1 : r < U) : canI r 60 = some (frac r) := by
 obtain ⟨x, hx⟩ := canI_some (m := r) (S := 60) (by
  have : ((r.natAbs : Nat) : Int) < ((10 ^ 60 : Nat) : Int) := by rw [U_eq] at h1; omega
  exact_mod_cast this) (by decide)
 unfold frac; rw [hx]; rfl
theorem frac_ok {r : Int} (h0 : 0 <= r) (h1 : r < U) : ok (frac r) /\ (frac r).2.2 <= 60 /\ at_ 60 (frac r) = r := canI_at (frac_some h0 h1)
theorem ok60 {a : D} (h : ok a) : a.2.2 <= 60 := h.2.1
theorem at_one : at_ 60 (false, 1, 0) = U := rfl
theorem at_int (n : Bool) (v : Nat) : at_ 60 (n, v, 0) = sg n v * U := rfl
theorem at_inj60 {a b : D} (ha : ok a) (hb : ok b) (h : at_ 60 a = at_ 60 b) : a = b := at_inj ha hb (ok60 ha) (ok60 hb) h
theorem div_one {a : D} (ha : ok a) : divD a (false, 1, 0) 0 = canI ((at_ 60 a).tdiv U) 0 := by
 obtain ⟨n, v, S⟩ := a
 have hS : S <= 60 := ok60 ha
 have hp : (10 : Nat) ^ 60 = 10 ^ (60 - S) * 10 ^ S := by rw [<- Nat.pow_add]; congr 1; omega
 unfold divD quo
 simp only [Nat.max_zero, Nat.sub_self, Nat.add_zero, Nat.pow_zero, Nat.mul_one, Nat.one_mul, Nat.sub_zero]
 rw [can_sg]
 congr 1
 rw [at_sg, U_eq]
 have e : v * 10 ^ (60 - S) / 10 ^ 60 = v / 10 ^ S := by
  rw [hp, Nat.mul_comm v, Nat.mul_div_mul_left _ _ (pow10_pos _)]
 cases n
 ·show ((v / 10 ^ S : Nat) : Int) = (((v * 10 ^ (60 - S) : Nat)) : Int).tdiv ((10 ^ 60 : Nat) : Int)
  rw [<- Int.ofNat_tdiv, e]
 ·show -((v / 10 ^ S : Nat) : Int) = (-(((v * 10 ^ (60 - S) : Nat)) : Int)).tdiv ((10 ^ 60 : Nat) : Int)
  rw [Int.neg_tdiv, <- Int.ofNat_tdiv, e]
theorem int_some {k : Int} (h : k.natAbs < 10 ^ 60) : canI k 0 = some (decide (k < 0), k.natAbs, 0) := by
 unfold canI can
 by_cases h0 : k.natAbs = 0
 ·obtain rfl : k = 0 := by omega
  rfl
 ·rw [if_neg h0]
  have := (digs_length (n := k.natAbs) (k := 60) (by decide)).2 h
  rw [strip_done (.inl rfl), if_neg (by simp only; omega)]
theorem at_int' (k : Int) : at_ 60 (decide (k < 0), k.natAbs, 0) = k * U := by
 rw [at_int]
 congr 1
 unfold sg
 by_cases h : k < 0
 ·rw [decide_eq_true h, if_pos rfl]; omega
 ·rw [decide_eq_false h, if_neg (by decide)]; omega
theorem int_ok {k : Int} (h : k.natAbs < 10 ^ 60) : ok (decide (k < 0), k.natAbs, 0) := (canI_at (int_some h)).1
theorem sub60 {a b : D} (ha : ok a) (hb : ok b) : subD a b = canI (at_ 60 a - at_ 60 b) 60 := subD_at (ok60 ha) (ok60 hb)
theorem add60 {a b : D} (ha : ok a) (hb : ok b) : addD a b = canI (at_ 60 a + at_ 60 b) 60 := addD_at (ok60 ha) (ok60 hb)
theorem cmp60 {a b : D} (ha : ok a) (hb : ok b) : cmpD a b = if at_ 60 a < at_ 60 b then -1 else if at_ 60 b < at_ 60 a then 1 else 0 := cmpD_at (ok60 ha) (ok60 hb)
theorem small_some {r : Int} (h : r.natAbs < 10 ^ 60) : canI r 60 = some (frac r) := by
 obtain ⟨x, hx⟩ := canI_some (m := r) (S := 60) h (by decide)
 unfold frac; rw [hx]; rfl
theorem small_ok {r : Int} (h : r.natAbs < 10 ^ 60) : ok (frac r) /\ at_ 60 (frac r) = r := ⟨(canI_at (small_some h)).1, (canI_at (small_some h)).2.2⟩
theorem one_ok : ok (false, 1, 0) := int_ok (k := 1) (by decide)
theorem zero_ok : ok (false, 0, 0) := int_ok (k := 0) (by decide)
theorem lt_abs {r : Int} (h0 : -U < r) (h1 : r < U) : r.natAbs < 10 ^ 60 := by
 have : ((r.natAbs : Nat) : Int) < ((10 ^ 60 : Nat) : Int) := by rw [U_eq] at *; omega
 exact_mod_cast this
def trunc (T : Int) : D := (decide (T.tdiv U < 0), (T.tdiv U).natAbs, 0)
theorem tdiv_abs {T : Int} (h : T.natAbs < 10 ^ 75) : (T.tdiv U).natAbs < 10 ^ 60 := by
 rw [Int.natAbs_tdiv]
 have e : U.natAbs = 10 ^ 60 := rfl
 rw [e]
 exact Nat.lt_of_le_of_lt (Nat.div_le_div_right (Nat.le_of_lt h)) (by decide)
theorem split_div {a : D} (ha : ok a) (h : (at_ 60 a).natAbs < 10 ^ 75) : divD a (false, 1, 0) 0 = some (trunc (at_ 60 a)) := by
 rw [div_one ha, int_some (tdiv_abs h)]; rfl
theorem trunc_ok {T : Int} (h : T.natAbs < 10 ^ 75) : ok (trunc T) /\ at_ 60 (trunc T) = T.tdiv U * U := ⟨int_ok (tdiv_abs h), at_int' _⟩
theorem tmod_bd (T : Int) : -U < T.tmod U /\ T.tmod U < U /\ (T.tmod U < 0 -> T / U = T.tdiv U - 1 /\ T % U = T.tmod U + U) /\ (0 <= T.tmod U -> T / U = T.tdiv U /\ T % U = T.tmod U) := by
 have hU := U_pos
 have h1 := Int.mul_tdiv_add_tmod T U
 have h2 := Int.mul_ediv_add_emod T U
 have h3 := Int.emod_nonneg T (b := U) (by omega)
 have h4 := Int.emod_lt_of_pos T hU
 have h5 := Int.tmod_lt_of_pos T hU
 have h6 : -U < T.tmod U := by
  have := Int.tmod_lt_of_pos (-T) hU
  rw [Int.neg_tmod] at this
  omega
 generalize T.tdiv U = q at *
 generalize T.tmod U = r at *
 generalize T / U = p at *
 generalize T % U = s at *
 have key : U * (p - q) = r - s := by rw [Int.mul_sub]; omega
 have lo : ∀ k : Int, k <= -2 -> U * k <= U * (-2) := fun k hk => Int.mul_le_mul_of_nonneg_left hk (by omega)
 have hi : ∀ k : Int, 1 <= k -> U * 1 <= U * k := fun k hk => Int.mul_le_mul_of_nonneg_left hk (by omega)
 have a1 : ¬ 1 <= p - q := fun h => by have := hi _ h; omega
 have a2 : ¬ p - q <= -2 := fun h => by have := lo _ h; omega
 rcases (by omega : p = q \/ p = q - 1) with rfl | rfl
 ·rw [Int.sub_self, Int.mul_zero] at key
  exact ⟨h6, h5, fun h => by omega, fun h => ⟨rfl, by omega⟩⟩
 ·have : U * (q - 1 - q) = -U := by rw [show q - 1 - q = -1 by omega]; omega
  exact ⟨h6, h5, fun h => ⟨rfl, by omega⟩, fun h => by omega⟩
theorem split_sub {a : D} (ha : ok a) (h : (at_ 60 a).natAbs < 10 ^ 75) : subD a (trunc (at_ 60 a)) = some (frac ((at_ 60 a).tmod U)) := by
 obtain ⟨h1, h2⟩ := trunc_ok h
 rw [sub60 ha h1, h2]
 have := Int.mul_tdiv_add_tmod (at_ 60 a) U
 rw [show at_ 60 a - (at_ 60 a).tdiv U * U = (at_ 60 a).tmod U by rw [Int.mul_comm] at this; omega]
 obtain ⟨k1, k2, _⟩ := tmod_bd (at_ 60 a)
 exact small_some (lt_abs k1 k2)
theorem split_neg (T : Int) : (frac (T.tmod U)).1 = decide (T.tmod U < 0) := by
 obtain ⟨k1, k2, _⟩ := tmod_bd T
 obtain ⟨h1, h2⟩ := small_ok (lt_abs k1 k2)
 have := at_neg (K := 60) h1
 rw [h2] at this
 cases h : (frac (T.tmod U)).1 with
 | true => exact (decide_eq_true (this.2 h)).symm
 | false => exact (decide_eq_false (fun k => by rw [this.1 k] at h; cases h)).symm
theorem split_add {T : Int} (h : T.tmod U < 0) : addD (frac (T.tmod U)) (false, 1, 0) = some (frac (T % U)) := by
 obtain ⟨k1, k2, k3, _⟩ := tmod_bd T
 obtain ⟨h1, h2⟩ := small_ok (lt_abs k1 k2)
 rw [add60 h1 one_ok, h2, at_one, (k3 h).2]
 exact frac_some (by omega) (by omega)
theorem emod_bd (T : Int) : 0 <= T % U /\ T % U < U := ⟨Int.emod_nonneg _ (by have := U_pos; omega), Int.emod_lt_of_pos _ U_pos⟩
theorem parts (T : Int) : T / U * U + T % U = T := by have := Int.mul_ediv_add_emod T U; rw [Int.mul_comm]; exact this
def ordI (a b : Int) : Int := if a < b then -1 else if b < a then 1 else 0
theorem point_ord (S T : Int) : ordI S T = if S / U < T / U then -1 else if T / U < S / U then 1 else cmpD (frac (S % U)) (frac (T % U)) := by
 obtain ⟨a0, a1⟩ := emod_bd S
 obtain ⟨b0, b1⟩ := emod_bd T
 obtain ⟨k1, _, k2⟩ := frac_ok a0 a1
 obtain ⟨l1, _, l2⟩ := frac_ok b0 b1
 rw [cmp60 k1 l1, k2, l2]
 have e1 := parts S
 have e2 := parts T
 have mono : ∀ x y : Int, x + 1 <= y -> x * U + U <= y * U := fun x y h => by
  have := Int.mul_le_mul_of_nonneg_right h (Int.le_of_lt U_pos)
  rw [Int.add_mul] at this; omega
 unfold ordI
 generalize hs : S % U = r at *
 generalize ht : T % U = q at *
 generalize hp : S / U = x at *
 generalize hq : T / U = y at *
 rcases Int.lt_trichotomy x y with h | h | h
 ·have := mono _ _ (show x + 1 <= y by omega)
  rw [if_pos h, if_pos (by omega)]
 ·subst h
  rw [if_neg (Int.lt_irrefl _), if_neg (Int.lt_irrefl _)]
  by_cases h1 : r < q
  ·rw [if_pos h1, if_pos (by omega)]
  ·rw [if_neg h1, if_neg (by omega)]
   by_cases h2 : q < r
   ·rw [if_pos h2, if_pos (by omega)]
   ·rw [if_neg h2, if_neg (by omega)]
 ·have := mono _ _ (show y + 1 <= x by omega)
  rw [if_neg (show ¬ x < y by omega), if_pos h, if_neg (by omega), if_pos (by omega)]
end Go.Proofs.YthoojcdjjecogaaGreatDoor.Dc
namespace Go.Proofs.YthoojcdjjecogaaGreatDoor
open Go Go.RowKit

structure Res where
 n : Bool
 s : ByteArray
 S : Int
 k : Int
def resOf : Option Dc.D -> Res
 | some a => ⟨a.1, str (Dc.digs a.2.1), (a.2.2 : Int), 0⟩
 | none => ⟨false, ⟨#[]⟩, 0, 7⟩
def argR : Res := ⟨false, ⟨#[]⟩, 0, 2⟩
def formR : Res := ⟨false, ⟨#[]⟩, 0, 6⟩
def Res.ret (r : Res) : Ending := .returned (.tuple #[.agg #[.bool r.n, .string r.s, .int .i64 r.S], .int .i64 r.k])
theorem made_ret (o : Option Dc.D) : madeEnd o = (resOf o).ret := by cases o <;> rfl
theorem made_is {o : Option Dc.D} {r : Res} (h : resOf o = r) : madeEnd o = .returned (.tuple #[.agg #[.bool r.n, .string r.s, .int .i64 r.S], .int .i64 r.k]) := by
 rw [made_ret, h]; rfl
def rawD (n : Bool) (s : ByteArray) (S : Int) : Dc.D := (n, Dc.val (bts s), S.toNat)
structure OkD (n : Bool) (s : ByteArray) (S : Int) : Prop where
 dig : Digs s
 size : s.size <= 60
 pos : 1 <= s.size
 low : 0 <= S
 high : S <= 60
 eq : bts s = Dc.digs (Dc.val (bts s))
 can : Dc.ok (rawD n s S)
theorem okB_ok {n : Bool} {s : ByteArray} {S : Int} (h : okB n s S = true) : OkD n s S := by
 unfold okB onlyB at h
 simp only [Bool.and_eq_true, decide_eq_true_eq] at h
 obtain ⟨⟨⟨⟨⟨h1, h2⟩, h3⟩, h4⟩, h5⟩, h6⟩ := h
 have hne : bts s ≠ [] := fun he => h2 (by rw [<- bts_length, he]; rfl)
 have hh : (bts s).head? ≠ some 48 \/ (bts s).length = 1 := by
  by_cases hq : bts s = [48]
  ·right; rw [hq]; rfl
  ·rw [if_neg hq] at h6
   simp only [Bool.and_eq_true, Bool.not_eq_true', decide_eq_false_iff_not] at h6
   exact .inl h6.1
 have he : bts s = Dc.digs (Dc.val (bts s)) := (Dc.digs_unique h1 hne hh).symm
 refine ⟨⟨h1, hne⟩, h3, by omega, h4, h5, he, ⟨?_, ?_, ?_, ?_⟩⟩
 ·show (Dc.digs (Dc.val (bts s))).length <= 60
  rw [<- he, bts_length]; exact h3
 ·show S.toNat <= 60
  omega
 ·intro h0
  have h0' : Dc.val (bts s) = 0 := h0
  rw [h0'] at he
  rw [if_pos (show bts s = [48] from he)] at h6
  simp only [Bool.and_eq_true, Bool.not_eq_true', decide_eq_true_eq] at h6
  exact ⟨h6.1, by show S.toNat = 0; omega⟩
 ·show S.toNat = 0 \/ Dc.val (bts s) % 10 ≠ 0
  by_cases hq : bts s = [48]
  ·rw [if_pos hq] at h6
   simp only [Bool.and_eq_true, Bool.not_eq_true', decide_eq_true_eq] at h6
   left; omega
  ·rw [if_neg hq] at h6
   simp only [Bool.and_eq_true, Bool.or_eq_true, Bool.not_eq_true', decide_eq_false_iff_not, decide_eq_true_eq] at h6
   rcases h6.2 with h | h
   ·left; omega
   ·right
    intro hz
    apply h
    rw [he, Dc.digs_last, hz]
theorem ok_okB {a : Dc.D} (h : Dc.ok a) : okB a.1 (str (Dc.digs a.2.1)) (a.2.2 : Int) = true := by
 obtain ⟨n, v, S⟩ := a
 obtain ⟨h1, h2, h3, h4⟩ := h
 simp only at h1 h2 h3 h4 ⊢
 unfold okB onlyB
 rw [bts_digs, Dc.digs_dig, str_size]
 have hp := Dc.digs_pos v
 rw [decide_eq_true (by omega : (Dc.digs v).length ≠ 0), decide_eq_true h1, decide_eq_true (by omega : (0 : Int) <= (S : Int)), decide_eq_true (by omega : (S : Int) <= 60)]
 simp only [Bool.true_and]
 by_cases hv : v = 0
 ·subst hv
  obtain ⟨rfl, rfl⟩ := h3 rfl
  rfl
 ·have hq : Dc.digs v ≠ [48] := fun h => Dc.digs_head hv (by rw [h]; rfl)
  rw [if_neg hq, decide_eq_false (Dc.digs_head hv), Dc.digs_last]
  simp only [Bool.not_false, Bool.true_and, Bool.or_eq_true, decide_eq_true_eq, Bool.not_eq_true', decide_eq_false_iff_not, Option.some.injEq]
  omega
theorem raw_of {a : Dc.D} : rawD a.1 (str (Dc.digs a.2.1)) (a.2.2 : Int) = a := by
 obtain ⟨n, v, S⟩ := a
 simp [rawD, bts_digs, Dc.val_digs]
def twoR (f : Dc.D -> Dc.D -> Option Dc.D) (n : Bool) (s : ByteArray) (S : Int) (m : Bool) (t : ByteArray) (T : Int) : Res := if okB n s S = true /\ okB m t T = true then resOf (f (rawD n s S) (rawD m t T)) else argR
theorem two_yes {f : Dc.D -> Dc.D -> Option Dc.D} {n : Bool} {s : ByteArray} {S : Int} {m : Bool} {t : ByteArray} {T : Int} (h1 : okB n s S = true) (h2 : okB m t T = true) : twoR f n s S m t T = resOf (f (rawD n s S) (rawD m t T)) := if_pos ⟨h1, h2⟩
def cmpR (n : Bool) (s : ByteArray) (S : Int) (m : Bool) (t : ByteArray) (T : Int) : Int × Int := if okB n s S = true /\ okB m t T = true then (Dc.cmpD (rawD n s S) (rawD m t T), 0) else (0, 2)
def divR (n : Bool) (s : ByteArray) (S : Int) (m : Bool) (t : ByteArray) (T : Int) (K : Int) : Res :=
 if okB n s S = true /\ okB m t T = true /\ bts t ≠ [48] /\ 0 <= K /\ K <= 60 then resOf (Dc.divD (rawD n s S) (rawD m t T) K.toNat) else argR
def textR (n : Bool) (s : ByteArray) (S : Int) : ByteArray × Int := if okB n s S = true then (str (Dc.txt n (bts s) S.toNat), 0) else (⟨#[]⟩, 2)
def readR (l : List Nat) : Res := match Dc.readD l with
 | none => formR
 | some o => resOf o
def oppN (n : Bool) (s : ByteArray) : Bool := !n && decide (bts s ≠ [48])
theorem opp_raw {n : Bool} {s : ByteArray} {S : Int} (h : OkD n s S) : Dc.opp (rawD n s S) = rawD (oppN n s) s S := by
 unfold Dc.opp rawD oppN
 simp only [Prod.mk.injEq, and_true]
 congr 1
 apply decide_eq_decide.2
 constructor
 ·intro hv he; apply hv; rw [he]; rfl
 ·intro he hv; apply he; rw [h.eq, hv]; rfl
theorem opp_okB {n : Bool} {s : ByteArray} {S : Int} (h : OkD n s S) : okB (oppN n s) s S = true := by
 have h1 := ok_okB (Dc.opp_ok h.can)
 rw [opp_raw h] at h1
 have e : ((S.toNat : Nat) : Int) = S := by have := h.low; omega
 have h2 : okB (oppN n s) (str (Dc.digs (Dc.val (bts s)))) ((S.toNat : Nat) : Int) = true := h1
 rw [<- h.eq, str_bts, e] at h2
 exact h2
end Go.Proofs.YthoojcdjjecogaaGreatDoor
namespace Go.Proofs.YthoojcdjjecogaaGreatDoor
open Go Go.RowKit

structure Mo where
 k : Int
 y : Int
 m : Int
 d : Int
 h : Int
 i : Int
 n : Bool
 s : ByteArray
 S : Int
 z : Bool
 o : Int
namespace Mo
def dateOk (x : Mo) : Prop := x.y ≠ 0 /\ -9999 <= x.y /\ x.y <= 9999 /\ 1 <= x.m /\ x.m <= 12 /\ 1 <= x.d /\ x.d <= dim (counted x.y) x.m
def sixty : ByteArray := ⟨#[54, 48]⟩
def secB (x : Mo) : Bool := okB x.n x.s x.S && (!x.n && decide ((cmpR x.n x.s x.S false sixty 0).1 < 0))
def timeOk (x : Mo) : Prop := secB x = true /\ 0 <= x.h /\ x.h <= 23 /\ 0 <= x.i /\ x.i <= 59
def noDate (x : Mo) : Prop := x.y = 0 /\ x.m = 0 /\ x.d = 0
def noTime (x : Mo) : Prop := x.h = 0 /\ x.i = 0 /\ x.n = false /\ x.s = ⟨#[]⟩ /\ x.S = 0
def Ok (x : Mo) : Prop := (x.k = 1 \/ x.k = 2 \/ x.k = 3) /\ -840 <= x.o /\ x.o <= 840 /\ (x.z = false -> x.o = 0) /\ (if x.k = 2 then noDate x else dateOk x) /\ (if x.k = 1 then noTime x else timeOk x)
instance (x : Mo) : Decidable (Ok x) := by unfold Ok dateOk timeOk noDate noTime; infer_instance
def okB (x : Mo) : Bool := decide (Ok x)
end Mo
end Go.Proofs.YthoojcdjjecogaaGreatDoor
namespace Go.Proofs.YthoojcdjjecogaaGreatDoor
open Go Go.RowKit Go.Ex

def monthLens : List Value := [31, 28, 31, 30, 31, 30, 31, 31, 30, 31, 30, 31].map fun z => Value.int .i64 z
def lenCells : List V := [31, 28, 31, 30, 31, 30, 31, 31, 30, 31, 30, 31].map fun z => .int .i64 z
def powCells : List V := [1, 10, 100, 1000, 10000, 100000, 1000000, 10000000, 100000000, 1000000000, 10000000000, 100000000000, 1000000000000, 10000000000000, 100000000000000, 1000000000000000, 10000000000000000, 100000000000000000, 1000000000000000000, 10000000000000000000].map fun z => .int .u64 z
def rngInts : List Int := [9, 9, 10, 10, 13, 13, 32, 55295, 57344, 65533, 65536, 1114111]
def rngVals : List Value := rngInts.map fun z => Value.int .i32 z
def rngVs : List V := rngInts.map fun z => .int .i32 z
def VarAt (g : Nat) (cells : List Value) (t : TypeId) (w : World) : Prop := ∃ lo hi, w.heap[g]? = some (.cells cells.toArray t (lo, hi)) /\ (hi <= lo \/ cells.length <= lo)
theorem VarAt.next {g : Nat} {cells : List Value} {t : TypeId} {w w' : World} (h : VarAt g cells t w) (hb : Below w.heap.size w w') : VarAt g cells t w' := by
 obtain ⟨lo, hi, h1, h2⟩ := h
 exact ⟨lo, hi, (hb.block _ (Array.getElem?_eq_some_iff.1 h1).1).trans h1, h2⟩
theorem VarAt.lt {g : Nat} {cells : List Value} {t : TypeId} {w : World} (h : VarAt g cells t w) : g < w.heap.size := by
 obtain ⟨lo, hi, h1, h2⟩ := h
 exact (Array.getElem?_eq_some_iff.1 h1).1
structure Vars (m : Int) (w : World) : Prop where
 row0 : VarAt 2 [.int .i64 m] 3 w
 row1 : VarAt 5 (Lib.pow10Tab.map fun z => Value.int .u64 z) 200 w
 row2 : VarAt 0 monthLens 144 w
 row3 : VarAt 1 rngVals 165 w
theorem Vars.next {m : Int} {w w' : World} (h : Vars m w) (hb : Below w.heap.size w w') : Vars m w' := ⟨h.row0.next hb, h.row1.next hb, h.row2.next hb, h.row3.next hb⟩
def row0 : Row := ⟨[.xi .i64 (.at 0)], 3, 1, false, false, none⟩
def row1 : Row := ⟨powCells, 200, 1, false, false, none⟩
def row2 : Row := ⟨lenCells, 144, 1, false, false, none⟩
def row3 : Row := ⟨rngVs, 165, 1, false, false, none⟩
noncomputable def h0 : H := ⟨((((T.e : T Row).put 2 (some row0)).put 5 (some row1)).put 0 (some row2)).put 1 (some row3), nG, 1000000⟩
noncomputable def keptR (h : H) (g : Nat) (q : Row) : Bool := oB (h.rows.get g) fun r => bB (V.eqbs r.cells q.cells) (bB (!r.opn) (Nat.beq r.elem q.elem))
noncomputable def gd (h : H) : Bool := bB (keptR h 2 row0) (bB (keptR h 5 row1) (bB (keptR h 0 row2) (keptR h 1 row3)))
theorem row_at {E : Nat -> Value} {B : World} {L : Ex.Loc} {h : H} {w : World} (hs : Sat E nG B L h w) {g : Nat} (hg : g < nG) {q : Row} (hh : keptR h g q = true) : VarAt g (V.dens L E q.cells) q.elem w := by
 obtain ⟨r, hr, hc⟩ := oB_some hh
 obtain ⟨h1, h2⟩ := bB_true hc
 obtain ⟨h2, h3⟩ := bB_true h2
 obtain ⟨rest, lo, hi, hw, hl, hrest, _⟩ := hs.rows g r hr
 have e : rest = [] := hrest (by simpa using h2)
 rw [e] at hw hl
 rw [hs.glob g hg, List.append_nil, eqbs_eq _ _ h1, Nat.eq_of_beq_eq_true h3] at hw
 rw [eqbs_eq _ _ h1] at hl
 exact ⟨lo, hi, hw, by rw [dens_length]; exact hl⟩
theorem Vars.pow {m : Int} {w : World} (h : Vars m w) : Pow w := by
 obtain ⟨lo', hi', h1, _⟩ := h.row1
 unfold Pow Lib.TabIs World.var?
 rw [show Tryz.prog.globalNamed "internal/strconv.uint64pow10" = some 5 by kernel_rfl, Option.bind_some, h1]
theorem row0_dens {E : Nat -> Value} {L : Ex.Loc} {m : Int} (hE : E 0 = .int .i64 m) : V.dens L E row0.cells = [.int .i64 m] := by simp [row0, V.dens, V.den, X.evI, hE]
theorem gd_good {E : Nat -> Value} {B : World} {L : Ex.Loc} {h : H} {w : World} {m : Int} (hE : E 0 = .int .i64 m) (hs : Sat E nG B L h w) (hg : gd h = true) : Vars m w := by
 obtain ⟨h1, h2⟩ := bB_true hg
 obtain ⟨h2, h3⟩ := bB_true h2
 obtain ⟨h3, h4⟩ := bB_true h3
 have k1 := row_at hs (by decide) h1
 rw [row0_dens hE] at k1
 exact ⟨k1, row_at hs (by decide) h2, row_at hs (by decide) h3, row_at hs (by decide) h4⟩
theorem row_sat {E : Nat -> Value} {L : Ex.Loc} {B : World} {n b : Nat} {r : Row} {w : World} (hL : L.ρ b = b) (hb : b < n) (hB : b < B.heap.size) (hopn : r.opn = false) (hown : r.own = false) (hok : V.oks n r.cells = true) (hone : r.cells.all V.one = true) (hw : VarAt b (V.dens L E r.cells) r.elem w) : RowAt E B L n b r w := by
 obtain ⟨lo, hi, hw, hl⟩ := hw
 rw [dens_length] at hl
 refine ⟨[], lo, hi, ?_, hl, fun _ => rfl, fun h => ?_, hok, hone, hb, ⟨fun h => ?_, fun h => ?_⟩⟩
 ·rw [hL, List.append_nil]; exact hw
 ·rw [hopn] at h; cases h
 ·rw [hown] at h; cases h
 ·rw [hL] at h; omega
theorem start_sat {E : Nat -> Value} {w : World} {m : Int} (hE : E 0 = .int .i64 m) (hV : Vars m w) : Sat E nG w L0 h0 w := by
 refine ⟨fun b r hb => ?_, fun b c r s _ _ h => .inl h, .refl _, fun _ _ => rfl, Nat.le_refl _⟩
 unfold h0 at hb
 simp only [T.get_put, T.get_e] at hb
 split at hb
 ·rename_i e
  cases hb
  subst e
  exact row_sat rfl (by decide) hV.row3.lt rfl rfl rfl rfl hV.row3
 ·split at hb
  ·rename_i e
   cases hb
   subst e
   exact row_sat rfl (by decide) hV.row2.lt rfl rfl rfl rfl hV.row2
  ·split at hb
   ·rename_i e
    cases hb
    subst e
    exact row_sat rfl (by decide) hV.row1.lt rfl rfl rfl rfl hV.row1
   ·split at hb
    ·rename_i e
     cases hb
     subst e
     refine row_sat rfl (by decide) hV.row0.lt rfl rfl rfl rfl ?_
     rw [row0_dens hE]
     exact hV.row0
    ·cases hb
def moKinds : List Kd := [.i .i64, .i .i64, .i .i64, .i .i64, .i .i64, .i .i64, .b, .s, .i .i64, .b, .i .i64]
def moT : EqTab := [(26, moKinds), (24, deKinds)]
theorem mo_sorted {l : List Value} (h : sorted moKinds l) : ∃ k y m d hh i n s S z o, l = [.int .i64 k, .int .i64 y, .int .i64 m, .int .i64 d, .int .i64 hh, .int .i64 i, .bool n, .string s, .int .i64 S, .bool z, .int .i64 o] := by
 obtain ⟨k, l0, e0, g0⟩ := sorted_i h
 obtain ⟨y, l1, e1, g1⟩ := sorted_i g0
 obtain ⟨m, l2, e2, g2⟩ := sorted_i g1
 obtain ⟨d, l3, e3, g3⟩ := sorted_i g2
 obtain ⟨hh, l4, e4, g4⟩ := sorted_i g3
 obtain ⟨i, l5, e5, g5⟩ := sorted_i g4
 obtain ⟨n, l6, e6, g6⟩ := sorted_b g5
 obtain ⟨s, l7, e7, g7⟩ := sorted_s g6
 obtain ⟨S, l8, e8, g8⟩ := sorted_i g7
 obtain ⟨z, l9, e9, g9⟩ := sorted_b g8
 obtain ⟨o, l10, e10, g10⟩ := sorted_i g9
 exact ⟨_, _, _, _, _, _, _, _, _, _, _, by rw [e0, e1, e2, e3, e4, e5, e6, e7, e8, e9, e10, sorted_n g10]⟩
theorem moT_ok : EqS Tryz.prog moT := by
 refine ⟨fun xs ys h1 h2 w => ⟨Tryz.eqGuardType26, ?_⟩, fun xs ys h1 h2 w => ⟨Tryz.eqGuardType24, ?_⟩, trivial⟩
 ·obtain ⟨k, y, m, d, hh, i, n, s, S, z, o, rfl⟩ := mo_sorted h1
  obtain ⟨k', y', m', d', hh', i', n', s', S', z', o', rfl⟩ := mo_sorted h2
  simp only [valsEq, <- toList_dec]
  simp [go_sem, Op.equal, Op.maxDepth]
  simp only [if_ok, Bool.and_true, beq_dec, lbeq_dec]
 ·obtain ⟨n, s, S, rfl⟩ := de_sorted h1
  obtain ⟨n', s', S', rfl⟩ := de_sorted h2
  simp only [valsEq, <- toList_dec]
  simp [go_sem, Op.equal, Op.maxDepth]
  simp only [if_ok, Bool.and_true, beq_dec, lbeq_dec]
theorem tree_run {calls : List CallX} {env : List Value} {m : Int} {n : Nat} {f : FuncId} {args : List V} {F : Fx} {t : Tree} {w : World} (hr : chk (runTr Tryz.prog nG (fun _ => none) gd moT calls n f args h0) t F = true) (hc : AllX Tryz.prog (envE (.int .i64 m :: env)) (Vars m) calls) (hone : env.all Value.oneCell' = true) (hF : F.Ok (envE (.int .i64 m :: env)))
  (hargs : V.oks nG args = true) (hV : Vars m w) : Calls Tryz.prog f (V.dens L0 (envE (.int .i64 m :: env)) args).toArray w fun e w' => e = .returned ((t.at (envE (.int .i64 m :: env))).den L0 (envE (.int .i64 m :: env))) /\ Below w.heap.size w w' :=
 tree_law (envE_one (by rw [List.all_cons, hone]; rfl)) (by kernel_rfl) noExt hF moT_ok hc (fun L h w' hs hg => gd_good rfl hs hg) hr (start_sat rfl hV) hargs
theorem tree_rv {calls : List CallX} {env : List Value} {m : Int} {n : Nat} {f : FuncId} {args : List V} {F : Fx} {t : Tree} {av : Array Value} {v : Value} {w : World} (hr : chk (runTr Tryz.prog nG (fun _ => none) gd moT calls n f args h0) t F = true) (hc : AllX Tryz.prog (envE (.int .i64 m :: env)) (Vars m) calls) (hone : env.all Value.oneCell' = true) (hF : F.Ok (envE (.int .i64 m :: env)))
  (hargs : V.oks nG args = true) (hav : (V.dens L0 (envE (.int .i64 m :: env)) args).toArray = av) (hv : (t.at (envE (.int .i64 m :: env))).den L0 (envE (.int .i64 m :: env)) = v) (hV : Vars m w) : Calls Tryz.prog f av w fun e w' => e = .returned v /\ Below w.heap.size w w' := by
 rw [<- hv, <- hav]; exact tree_run hr hc hone hF hargs hV
def VK (m : Int) (w w' : World) : Prop := Vars m w' /\ Keeps w w'
theorem VK.next {m : Int} {w w' w'' : World} (h : VK m w w') (hb : Below w'.heap.size w' w'') : VK m w w'' := ⟨h.1.next hb, h.2.below hb⟩
theorem okX_mono {P : Program} {E : Nat -> Value} {A B : World -> Prop} (hAB : ∀ w, B w -> A w) {c : CallX} (h : CallX.Ok P E A c) : CallX.Ok P E B c := ⟨h.1, h.2.1, fun hp L w hw => h.2.2 hp L w (hAB w hw)⟩
theorem okX_vk {P : Program} {E : Nat -> Value} {m : Int} {w : World} {c : CallX} (h : CallX.Ok P E (Vars m) c) : CallX.Ok P E (VK m w) c := okX_mono (fun _ h => h.1) h
theorem tree_rk {calls : List CallX} {env : List Value} {m : Int} {n : Nat} {f : FuncId} {args : List V} {F : Fx} {t : Tree} {av : Array Value} {v : Value} {w : World} (hr : chk (runTr Tryz.prog nG (fun _ => none) gd moT calls n f args h0) t F = true) (hc : AllX Tryz.prog (envE (.int .i64 m :: env)) (VK m w) calls) (hone : env.all Value.oneCell' = true) (hF : F.Ok (envE (.int .i64 m :: env)))
  (hargs : V.oks nG args = true) (hav : (V.dens L0 (envE (.int .i64 m :: env)) args).toArray = av) (hv : (t.at (envE (.int .i64 m :: env))).den L0 (envE (.int .i64 m :: env)) = v) (hV : Vars m w) : Calls Tryz.prog f av w fun e w' => e = .returned v /\ Below w.heap.size w w' := by
 rw [<- hv, <- hav]
 exact tree_law (envE_one (by rw [List.all_cons, hone]; rfl)) (by kernel_rfl) noExt hF moT_ok hc (fun L h w' hs hg => ⟨gd_good rfl hs hg, hs.base⟩) hr (start_sat rfl hV) hargs
def moV (b : Nat) : V := .agg [xi b, xi (b + 1), xi (b + 2), xi (b + 3), xi (b + 4), xi (b + 5), xb (b + 6), xs (b + 7), xi (b + 8), xb (b + 9), xi (b + 10)]
def moK (k : Int) (b : Nat) : V := .agg [it k, xi (b + 1), xi (b + 2), xi (b + 3), xi (b + 4), xi (b + 5), xb (b + 6), xs (b + 7), xi (b + 8), xb (b + 9), xi (b + 10)]
def Mo.list (x : Mo) : List Value := [.int .i64 x.k, .int .i64 x.y, .int .i64 x.m, .int .i64 x.d, .int .i64 x.h, .int .i64 x.i, .bool x.n, .string x.s, .int .i64 x.S, .bool x.z, .int .i64 x.o]
def Mo.val (x : Mo) : Value := .agg x.list.toArray
end Go.Proofs.YthoojcdjjecogaaGreatDoor
namespace Go.Proofs.YthoojcdjjecogaaGreatDoor
open Go Go.RowKit
namespace Dc
theorem whole_part (l : List Nat) : (l = whole l /\ part l = []) \/ l = whole l ++ 46 :: part l := by
 unfold whole part
 have h := List.takeWhile_append_dropWhile (p := fun c => decide (c ≠ 46)) (l := l)
 cases hd : l.dropWhile (fun c => decide (c ≠ 46)) with
 | nil => rw [hd, List.append_nil] at h; exact .inl ⟨h.symm, rfl⟩
 | cons c r =>
  have hc : c = 46 := by
   have := List.head?_dropWhile_not (fun c => decide (c ≠ 46)) l
   rw [hd] at this
   simpa using this
  rw [hd, hc] at h
  exact .inr h.symm
theorem whole_part_length (l : List Nat) : (whole l ++ part l).length <= l.length := by
 rcases whole_part l with ⟨h1, h2⟩ | h
 ·rw [<- h1, h2, List.append_nil]; exact Nat.le_refl _
 ·have := congrArg List.length h
  rw [List.length_append, List.length_cons] at this
  rw [List.length_append]; omega
theorem whole_length (l : List Nat) : (whole l).length <= l.length := by
 have := whole_part_length l
 rw [List.length_append] at this; omega
theorem whole_at {l : List Nat} (h : (whole l).length < l.length) : l.getD (whole l).length 0 = 46 /\ l.take (whole l).length = whole l /\ l.drop ((whole l).length + 1) = part l /\ l.length = (whole l).length + 1 + (part l).length := by
 rcases whole_part l with ⟨h1, _⟩ | h1
 ·rw [<- h1] at h; omega
 ·generalize whole l = W at *
  generalize part l = Q at *
  subst h1
  refine ⟨?_, ?_, ?_, ?_⟩
  ·rw [List.getD_eq_getElem?_getD, List.getElem?_append_right (Nat.le_refl _)]; simp
  ·rw [List.take_left']; rfl
  ·rw [<- List.drop_drop, List.drop_left']; rfl; rfl
  ·rw [List.length_append, List.length_cons]; omega
theorem whole_all {l : List Nat} (h : (whole l).length = l.length) : whole l = l /\ part l = [] := by
 rcases whole_part l with ⟨h1, h2⟩ | h1
 ·exact ⟨h1.symm, h2⟩
 ·have := congrArg List.length h1
  rw [List.length_append, List.length_cons] at this; omega
end Dc
def onlyL (l : List Nat) : Bool := l.all Dc.dig && decide (l.length ≠ 0)
def allL (m : List Nat) : List Nat := Dc.whole m ++ Dc.part m
theorem readR_yes {l m : List Nat} {neg : Bool} (hu : Dc.unsign l = (neg, m)) (ho : onlyL (allL m) = true) : readR l = resOf (Dc.can neg (Dc.val (allL m)) (Dc.part m).length) := by
 unfold onlyL at ho
 rw [Bool.and_eq_true, decide_eq_true_eq] at ho
 unfold readR Dc.readD
 rw [hu]
 simp only
 rw [if_pos ⟨ho.1, fun he => ho.2 (by unfold allL; rw [he]; rfl)⟩]
 rfl
theorem readR_no {l m : List Nat} {neg : Bool} (hu : Dc.unsign l = (neg, m)) (ho : onlyL (allL m) = false) : readR l = formR := by
 unfold readR Dc.readD
 rw [hu]
 simp only
 rw [if_neg]
 rintro ⟨h1, h2⟩
 have : onlyL (allL m) = true := by
  unfold onlyL
  rw [Bool.and_eq_true, decide_eq_true_eq]
  exact ⟨h1, fun he => h2 (List.length_eq_zero_iff.1 he)⟩
 rw [this] at ho; cases ho
theorem unsign_minus {s : ByteArray} (h : (bts s).head? = some 45) : Dc.unsign (bts s) = (true, bts (s.extract 1 s.size)) := by
 rw [bts_tail]
 cases hb : bts s with
 | nil => rw [hb] at h; cases h
 | cons c r => rw [hb] at h; obtain rfl : c = 45 := Option.some.inj h; rfl
theorem unsign_plus {s : ByteArray} (h : (bts s).head? = some 43) : Dc.unsign (bts s) = (false, bts (s.extract 1 s.size)) := by
 rw [bts_tail]
 cases hb : bts s with
 | nil => rw [hb] at h; cases h
 | cons c r => rw [hb] at h; obtain rfl : c = 43 := Option.some.inj h; rfl
theorem unsign_none {s : ByteArray} (h1 : (bts s).head? ≠ some 45) (h2 : (bts s).head? ≠ some 43) : Dc.unsign (bts s) = (false, bts s) := by
 cases hb : bts s with
 | nil => rfl
 | cons c r =>
  rw [hb] at h1 h2
  show (if c = 45 then (true, r) else if c = 43 then (false, r) else (false, c :: r)) = _
  rw [if_neg (fun e => h1 (by rw [e]; rfl)), if_neg (fun e => h2 (by rw [e]; rfl))]
end Go.Proofs.YthoojcdjjecogaaGreatDoor
namespace Go.Proofs.YthoojcdjjecogaaGreatDoor
open Go Go.RowKit

theorem parseU (M : Nat) (hM : M < 18446744073709551615) : ∀ (l : List UInt8) (acc : Nat), (l.map UInt8.toNat).all Dc.dig = true -> acc * 10 ^ l.length + Dc.val (l.map UInt8.toNat) <= M -> Lib.parseUintM M acc l = .ok (acc * 10 ^ l.length + Dc.val (l.map UInt8.toNat))
 | [], acc, _, _ => by simp [Lib.parseUintM, Dc.val]
 | c :: r, acc, hd, h => by
  rw [List.map_cons, List.all_cons, Bool.and_eq_true] at hd
  have hc := Dc.dig_iff.1 hd.1
  rw [List.map_cons, Dc.val_cons, List.length_map, List.length_cons, Nat.pow_succ] at h
  have e : acc * (10 ^ r.length * 10) + ((c.toNat - 48) * 10 ^ r.length + Dc.val (r.map UInt8.toNat)) = (acc * 10 + (c.toNat - 48)) * 10 ^ r.length + Dc.val (r.map UInt8.toNat) := by
   rw [Nat.add_mul, Nat.mul_assoc, Nat.mul_comm 10, Nat.add_assoc]
  rw [e] at h
  have hp := Dc.pow10_pos r.length
  have h1 : acc * 10 + (c.toNat - 48) <= M := by
   have : (acc * 10 + (c.toNat - 48)) * 1 <= (acc * 10 + (c.toNat - 48)) * 10 ^ r.length := Nat.mul_le_mul_left _ hp
   omega
  rw [List.map_cons, Dc.val_cons, List.length_map, List.length_cons, Nat.pow_succ, e, Lib.parseUintM, if_pos hc, if_neg (by omega), if_neg (by omega)]
  exact parseU M hM r _ hd.2 h
theorem pu_any (s : ByteArray) (h1 : 1 <= s.size) (h2 : s.size <= 9) (hd : (bts s).all Dc.dig = true) (w : World) : Calls Tryz.prog 129 #[.string s, .int .i64 10, .int .i64 32] w fun e w' => e = .returned (.tuple #[.int .u64 (Dc.val (bts s) : Nat), .nilIface]) /\ Below w.heap.size w w' := by
 have hv := Dc.val_lt hd
 rw [bts_length] at hv
 have hp : 10 ^ s.size <= 10 ^ 9 := Nat.pow_le_pow_right (by decide) h2
 have hne : s.data.toList ≠ [] := fun h => by
  have : s.data.toList.length = s.size := rfl
  rw [h] at this; simp at this; omega
 have h := parseU (2 ^ 32 - 1) (by decide) s.data.toList 0 hd (by rw [Nat.zero_mul, Nat.zero_add]; show Dc.val (bts s) <= _; omega)
 rw [Nat.zero_mul, Nat.zero_add] at h
 refine (Tryz.strconv_ParseUint_10_at32_ok s (by omega) (Dc.val (bts s)) (by unfold Lib.parseUintB; rw [if_neg hne]; exact h) w).mono ?_
 rintro e w' ⟨rfl, hw⟩
 refine ⟨rfl, ?_⟩
 rcases hw with rfl | rfl
 ·exact Below.refl _ _
 ·exact ⟨rfl, rfl, rfl, by rw [Lib.bytesWorld_size]; omega, fun k hk => Lib.bytesWorld_at_old w 5 s k hk⟩
theorem parse_step {s S : ByteArray} {m f : Nat} (hS : bts S = (bts s).take m) (hm : m <= s.size) (hf : f = m - 9) : Dc.val ((bts s).take m) = Dc.val ((bts S).drop f) + 10 ^ (m - f) * Dc.val ((bts s).take f) /\ (bts S).take f = (bts s).take f := by
 have e : (bts S).take f = (bts s).take f := by rw [hS, List.take_take]; congr 1; omega
 refine ⟨?_, e⟩
 rw [<- e, <- hS]
 have h := Dc.val_append ((bts S).take f) ((bts S).drop f)
 rw [List.take_append_drop] at h
 rw [h, Nat.add_comm, Nat.mul_comm, List.length_drop, hS, List.length_take, bts_length, Nat.min_eq_left hm]

theorem parse_sum {m f k V v : Nat} {l : List Nat} (hf : f = m - 9) : V + 1000000000 ^ k * (v + 10 ^ (m - f) * Dc.val (l.take f)) = V + 1000000000 ^ k * v + 1000000000 ^ (k + 1) * Dc.val (l.take f) := by
 rcases Nat.lt_or_ge m 9 with h9 | h9
 ·have h0 : f = 0 := by omega
  rw [h0, List.take_zero, Dc.val_nil, Nat.mul_zero, Nat.mul_zero]; rfl
 ·have e : m - f = 9 := by omega
  have e2 : (10 : Nat) ^ (m - f) = 1000000000 := by rw [e]
  rw [e2, Nat.mul_add, Nat.pow_succ, Nat.add_assoc, Nat.mul_assoc]

theorem pparse_any (s : ByteArray) (hs : s.size <= 216) (hd : (bts s).all Dc.dig = true) (w : World) : Calls Tryz.prog 111 #[.string s] w fun e w' => (∃ O : List Nat, e = .returned (.agg (numV O)) /\ Num O /\ Dc.valB O = Dc.val (bts s)) /\ Below w.heap.size w w' := by
 have HD : Hid _ := Lib.hid hd
 have R1 : Hid (Row24 ((w.alloc (.cells (numV (List.replicate 24 0)) 117)).alloc (.cells (numV (List.replicate 24 0)) 117)) w.heap.size (List.replicate 24 0)) := Lib.hid ((Row24.new w _ rfl).old _)
 have R2 : Hid (Row24 ((w.alloc (.cells (numV (List.replicate 24 0)) 117)).alloc (.cells (numV (List.replicate 24 0)) 117)) (w.heap.size + 1) (List.replicate 24 0)) := Lib.hid (by
  have := Row24.new (w.alloc (.cells (numV (List.replicate 24 0)) 117)) (List.replicate 24 0) rfl
  rwa [show (w.alloc (.cells (numV (List.replicate 24 0)) 117)).heap.size = w.heap.size + 1 from Array.size_push _] at this)
 have B0 : Hid (Below w.heap.size w ((w.alloc (.cells (numV (List.replicate 24 0)) 117)).alloc (.cells (numV (List.replicate 24 0)) 117))) := Lib.hid (((Below.refl _ w).alloc (Nat.le_refl _) _).alloc (((Below.refl _ w).alloc (Nat.le_refl _) _).size) _)
 clear hd
 go_enter Tryz.func111, Tryz.ntmps111
 go_wp2
 go_loopw [0, 4] (fun t i wr => ∃ (k m : Nat) (S : ByteArray) (O : List Nat), k <= 24 /\ i = .int .i64 (k : Int) /\ t = .string S /\ m <= s.size /\ Hid (m = 0 \/ m + 9 * k = s.size) /\ Hid (bts S = (bts s).take m) /\ S.size <= 216 /\ Hid (S.size = m) /\ Hid (∀ d ∈ O, d < 1000000000) /\ Hid (Dc.val (bts s) = Dc.valB O + 1000000000 ^ k * Dc.val ((bts s).take m)) /\ Hid (O.drop k = (List.replicate 24 0).drop k) /\ Row24 wr w.heap.size (List.replicate 24 0) /\ Row24 wr (w.heap.size + 1) O /\ Below w.heap.size w wr) (fun t _ _ => match t with | .string X => X.size | _ => 0)
 case atStart => exact ⟨0, s.size, s, List.replicate 24 0, Nat.zero_le _, rfl, rfl, Nat.le_refl _, Lib.hid (Or.inr (by omega)), Lib.hid (by rw [<- bts_length, List.take_length]), hs, Lib.hid rfl, Lib.hid Num.zeros.low, Lib.hid (by rw [Dc.valB_zeros, <- bts_length, List.take_length]; simp), Lib.hid rfl, R1.out, R2.out, B0.out⟩
 case round =>
  obtain ⟨k, m, S, O, hk, rfl, rfl, hm, hmk, hS, hSs, hSm, hlow, hval, hdr, hr1, hr2, hB⟩ := hrel
  by_cases hm0 : m = 0
  ·subst hm0
   have hSe : S.toList.isEmpty = true := isEmpty_yes hSm.out
   have hN : Hid (Num O) := Lib.hid ⟨hr2.len, hlow.out⟩
   have hV : Hid (Dc.valB O = Dc.val (bts s)) := Lib.hid (by rw [hval.out]; simp [Dc.val])
   have hl := hr2.len
   have R3 : Hid _ := Lib.hid (hr1.set hl)
   clear hmk hS hlow hval hdr hm
   go_wp2_with (first
    | (refine wp_loadN hr2 rfl _ rfl rfl ?_)
    | (refine wp_storeN hr1 hl rfl _ _ rfl rfl rfl ?_))
   (try simp only [Exit.inBlock, Exit.then]); refine bodyPost_ret (R3.out.result rfl rfl) rfl ?_
   exact ⟨⟨O, rfl, hN.out, hV.out⟩, below_setRow hB (Nat.le_refl _) _⟩
  ·have hmk2 : m + 9 * k = s.size := by have := hmk.out; omega
   have hk' : k < 24 := by omega
   have k0 : (0 : Int) <= (k : Int) := by omega
   have k1 : (k : Int) < 24 := by omega
   have hSe : S.toList.isEmpty = false := isEmpty_no (by have := hSm.out; omega)
   obtain ⟨f, hf⟩ : ∃ f : Nat, f = m - 9 := ⟨_, rfl⟩
   have hmx : max (0 : Int) ((S.size : Int) - 9) = (f : Int) := by have := hSm.out; omega
   have hfS : f <= S.size := by have := hSm.out; omega
   obtain ⟨x1, hx1⟩ : ∃ x, S.extract f S.size = x := ⟨_, rfl⟩
   obtain ⟨x2, hx2⟩ : ∃ x, S.extract 0 f = x := ⟨_, rfl⟩
   have hst := parse_step hS.out hm hf
   have hb1 : bts x1 = (bts S).drop f := by rw [<- hx1, bts_from]
   have hb2 : bts x2 = (bts s).take f := by rw [<- hx2, bts_extract, List.drop_zero, hst.2]
   have hx1s : x1.size = m - f := by rw [<- bts_length, hb1, List.length_drop, bts_length, hSm.out]
   have hx2s : x2.size = f := by rw [<- bts_length, hb2, List.length_take, bts_length]; omega
   have hd1 : (bts x1).all Dc.dig = true := by
    rw [hb1]; refine List.all_eq_true.2 fun c hc => List.all_eq_true.1 HD.out c ?_
    have := List.mem_of_mem_drop hc
    rw [hS.out] at this
    exact List.mem_of_mem_take this
   obtain ⟨v, hv⟩ : ∃ v, Dc.val (bts x1) = v := ⟨_, rfl⟩
   have C : Hid (∀ w, Calls Tryz.prog 129 #[.string x1, .int .i64 10, .int .i64 32] w fun e w' => e = .returned (.tuple #[.int .u64 (v : Int), .nilIface]) /\ Below w.heap.size w w') := Lib.hid (by rw [<- hv]; exact pu_any x1 (by omega) (by omega) hd1)
   have hvl : v < 1000000000 := by
    have h1 := Dc.val_lt hd1
    rw [hv, bts_length] at h1
    have h2 : 10 ^ x1.size <= 10 ^ 9 := Nat.pow_le_pow_right (by decide) (by omega)
    omega
   have f1 := hr2.open (j := k)
   have hzk : O.getD k 0 = 0 := by rw [drop_at hdr.out, List.getD_eq_getElem?_getD, List.getElem?_replicate, if_pos hk']; rfl
   have hval2 : Hid (Dc.val (bts s) = Dc.valB (O.set k v) + 1000000000 ^ (k + 1) * Dc.val ((bts s).take f)) := Lib.hid (by
    have h1 := Dc.valB_set (l := O) (x := v) (by rw [hr2.len]; exact hk')
    rw [hzk, Nat.mul_zero, Nat.add_zero] at h1
    rw [hval.out, h1, hst.1, <- hb1, hv]
    exact parse_sum hf)
   have hlow2 : Hid (∀ d ∈ O.set k v, d < 1000000000) := Lib.hid (fun d hd => by
    rcases List.mem_or_eq_of_mem_set hd with h | h
    ·exact hlow.out d h
    ·rw [h]; exact hvl)
   have hdr2 : Hid ((O.set k v).drop (k + 1) = (List.replicate 24 0).drop (k + 1)) := Lib.hid (drop_step hdr.out)
   have hx2l : x2.size <= 216 := by omega
   have HX2S : Hid _ := Lib.hid hx2s
   have HB2 : Hid _ := Lib.hid hb2
   have hmk3 : Hid (f = 0 \/ f + 9 * (k + 1) = s.size) := Lib.hid (by omega)
   have hfm : f < m := by omega
   have hfs : f <= s.size := by omega
   clear hmk hmk2 hf hst hb1 hb2 hx1s hx2s hd1 hv hzk hlow hval hdr hm0
   go_wp2_with (go_at_call 129; refine (C.out _).mono ?_; rintro e w1 ⟨rfl, hb⟩; have g1 := hr1.keep hb; have g2 := hr2.keep hb; have f2 := g2.open (j := k); have c2 := g2.cell hk'; have HBB : Hid _ := Lib.hid (hB.trans (hb.mono hB.size)))
   go_region
   all_goals go_wp2
   all_goals go_roundw
   case rel => exact ⟨k + 1, f, x2, O.set k v, by omega, rfl, rfl, hfs, hmk3, HB2, hx2l, HX2S, hlow2, hval2, hdr2, (g1.drew _).apart (by omega) k _, (g2.drew _).put k _, (below_drewN HBB.out _).setCell (p := ⟨w.heap.size + 1, k, none⟩) (by show w.heap.size <= w.heap.size + 1; omega) _⟩
   case measure => simp only; rw [HX2S.out, hSm.out]; exact hfm

theorem suffix48 (s : ByteArray) : Lib.hasSuffix s.data.toList [48] = decide ((bts s).getLast? = some 48) := by
 rw [Bool.eq_iff_iff, decide_eq_true_iff]
 unfold Lib.hasSuffix bts
 rw [List.isSuffixOf_iff_suffix, List.getLast?_map]
 constructor
 ·rintro ⟨m, hm⟩
  rw [<- hm, List.getLast?_append]; rfl
 ·intro h
  cases hl : s.data.toList.getLast? with
  | none => rw [hl] at h; cases h
  | some a =>
   rw [hl] at h
   have ha : a = 48 := UInt8.toNat_inj.1 (Option.some.inj h)
   obtain ⟨ys, hys⟩ := List.getLast?_eq_some_iff.1 hl
   exact ⟨ys, by rw [hys, ha]⟩
theorem suff_any (s : ByteArray) (hs : s.size <= 1000000) (r : Bool) (hr : decide ((bts s).getLast? = some 48) = r) (w : World) : Calls Tryz.prog 71 #[.string s, .string ⟨#[48]⟩] w fun e w' => e = .returned (.bool r) /\ w = w' :=
 (Tryz.strings_HasSuffix s ⟨#[48]⟩ w (by omega)).mono fun _ _ ⟨he, hw⟩ => ⟨by rw [he, <- hr, <- suffix48], hw.symm⟩
def dz (x : Nat) : List Nat := if x = 0 then [] else Dc.digs x
theorem drop48 : ∀ l : List UInt8, (l.dropWhile (· == 48)).map UInt8.toNat = (l.map UInt8.toNat).dropWhile (· == 48)
 | [] => rfl
 | c :: r => by
  rw [List.map_cons, List.dropWhile_cons, List.dropWhile_cons]
  by_cases h : c = 48
  ·subst h; simpa using drop48 r
  ·have h2 : (c == 48) = false := beq_eq_false_iff_ne.2 h
   have h3 : (c.toNat == 48) = false := beq_eq_false_iff_ne.2 (fun e => h (UInt8.toNat_inj.1 e))
   rw [h2, h3]; rfl
theorem drop_dz : ∀ l : List Nat, l.all Dc.dig = true -> l.dropWhile (· == 48) = dz (Dc.val l)
 | [], _ => rfl
 | c :: r, h => by
  rw [List.dropWhile_cons]
  rw [List.all_cons, Bool.and_eq_true] at h
  by_cases h48 : c = 48
  ·subst h48
   rw [Dc.val_cons, Nat.sub_self, Nat.zero_mul, Nat.zero_add]
   simpa using drop_dz r h.2
  ·rw [if_neg (by simpa using h48)]
   have hc := Dc.dig_iff.1 h.1
   have hv : Dc.val (c :: r) ≠ 0 := by
    rw [Dc.val_cons]
    have := Nat.mul_pos (show 0 < c - 48 by omega) (Dc.pow10_pos r.length)
    omega
   rw [dz, if_neg hv]
   exact (Dc.digs_unique (by rw [List.all_cons, h.1, h.2]; rfl) (by simp) (.inl (by simpa using h48))).symm
theorem trim_any (s : ByteArray) (hd : (bts s).all Dc.dig = true) (v : Nat) (hv : Dc.val (bts s) = v) (w : World) : Calls Tryz.prog 191 #[.string s, .string ⟨#[48]⟩] w fun e w' => (∃ t : ByteArray, e = .returned (.string t) /\ bts t = dz v) /\ w = w' := by
 refine (Tryz.strings_TrimLeft_one s 48 (by decide) w).mono ?_
 rintro e w' ⟨rfl, rfl⟩
 refine ⟨⟨_, rfl, ?_⟩, rfl⟩
 rw [<- hv, <- drop_dz _ hd]
 show ((s.data.toList.dropWhile (· == 48)).toArray.toList).map UInt8.toNat = _
 exact drop48 _
theorem dz_length (v : Nat) {l : List Nat} (hd : l.all Dc.dig = true) (hv : Dc.val l = v) : (dz v).length <= l.length := by
 rw [<- hv, <- drop_dz _ hd]
 exact (List.dropWhile_sublist _).length_le

theorem pof_any (neg : Bool) (s : ByteArray) (S : Nat) (hs : s.size <= 1000) (hS : S <= 1000) (hd : (bts s).all Dc.dig = true) (w : World) : Calls Tryz.prog 171 #[.bool neg, .string s, .int .i64 (S : Int)] w fun e w' => e = madeEnd (Dc.can neg (Dc.val (bts s)) S) /\ Below w.heap.size w w' := by
 obtain ⟨v, hv⟩ : ∃ v, Dc.val (bts s) = v := ⟨_, rfl⟩
 have hbl : Hid ((dz v).length <= 1000) := Lib.hid (by have := dz_length v hd hv; rw [bts_length] at this; omega)
 have C : Hid _ := Lib.hid (trim_any s hd v hv)
 rw [hv]
 clear hv hd
 go_enter Tryz.func171, Tryz.ntmps171
 go_wp2_with (go_at_call 191; refine (C.out _).mono ?_; rintro e w4 ⟨⟨t0, rfl, ht0⟩, rfl⟩; have HT0 : Hid _ := Lib.hid ht0; clear ht0)
 go_loop [1, 2] (fun a b => ∃ (x T : Nat) (t : ByteArray), a = .string t /\ b = .int .i64 (T : Int) /\ T <= 1000 /\ t.size <= 1000 /\ Hid (bts t = dz x) /\ Hid (Dc.strip x T = Dc.strip v S) /\ Hid (x = 0 ↔ v = 0)) (fun _ b => (intOf b).toNat)
 case atStart => exact ⟨v, S, t0, rfl, rfl, hS, by rw [<- bts_length, HT0.out]; exact hbl.out, Lib.hid HT0.out, Lib.hid rfl, Lib.hid Iff.rfl⟩
 case round =>
  obtain ⟨x, T, t, rfl, rfl, hT, ht, hbt, hst, hx0⟩ := hrel
  by_cases hT0 : T = 0
  ·have dT : decide (0 < T) = false := decide_eq_false (by omega)
   have hdone : Hid (T = 0 \/ (x ≠ 0 -> x % 10 ≠ 0)) := Lib.hid (.inl hT0)
   clear hT0
   by_cases hxz : x = 0
   ·have q : t.toList.isEmpty = true := isEmpty_yes (by rw [<- bts_length, hbt.out, dz, if_pos hxz]; rfl)
    have hz : Hid (v = 0) := Lib.hid (hx0.out.1 hxz)
    clear hxz hbt hst hx0
    go_wp2
    all_goals refine bodyPost_ret (v := .tuple #[.agg #[.bool false, .string ⟨#[48]⟩, .int .i64 0], .int .i64 0]) (by simp [results, Tryz.results171, go_sem]) rfl ⟨made_zero hz.out, (by repeat (first | exact Below.refl _ _ | refine Below.alloc ?_ (by simp) _ | refine Below.setCell ?_ (by simp) _))⟩
   ·have hb : bts t = Dc.digs x := by rw [hbt.out, dz, if_neg hxz]
    have q : t.toList.isEmpty = false := isEmpty_no (by rw [<- bts_length, hb]; exact Dc.digs_pos x)
    have hnz : Hid (v ≠ 0) := Lib.hid (fun h => hxz (hx0.out.2 h))
    have hfs : Hid (Dc.strip v S = (x, T)) := Lib.hid (by rw [<- hst.out]; exact Dc.strip_done (hdone.out.imp id (fun h => h hxz)))
    have hsz : Hid (t.size = (Dc.digs x).length) := Lib.hid (by rw [<- bts_length, hb])
    by_cases r1 : 60 < t.size
    ·have d1 : decide (60 < (t.size : Int)) = true := decide_eq_true (by omega)
     have hr : Hid (60 < (Dc.digs x).length \/ 60 < T) := Lib.hid (.inl (by have := hsz.out; omega))
     clear hxz hbt hb hst hx0 r1
     go_wp2
     all_goals refine bodyPost_ret (v := .tuple #[.agg #[.bool false, .string ⟨#[]⟩, .int .i64 0], .int .i64 7]) (by simp [results, Tryz.results171, go_sem]) rfl ⟨made_range hnz.out hfs.out hr.out, (by repeat (first | exact Below.refl _ _ | refine Below.alloc ?_ (by simp) _ | refine Below.setCell ?_ (by simp) _))⟩
    ·have d1 : decide (60 < (t.size : Int)) = false := decide_eq_false (by omega)
     by_cases r2 : 60 < T
     ·have d2 : decide (60 < (T : Int)) = true := decide_eq_true (by omega)
      have hr : Hid (60 < (Dc.digs x).length \/ 60 < T) := Lib.hid (.inr r2)
      clear hxz hbt hb hst hx0 r1 r2
      go_wp2
      all_goals refine bodyPost_ret (v := .tuple #[.agg #[.bool false, .string ⟨#[]⟩, .int .i64 0], .int .i64 7]) (by simp [results, Tryz.results171, go_sem]) rfl ⟨made_range hnz.out hfs.out hr.out, (by repeat (first | exact Below.refl _ _ | refine Below.alloc ?_ (by simp) _ | refine Below.setCell ?_ (by simp) _))⟩
     ·have d2 : decide (60 < (T : Int)) = false := decide_eq_false (by omega)
      have hr : Hid (¬ (60 < (Dc.digs x).length \/ 60 < T)) := Lib.hid (by have := hsz.out; omega)
      have htx : Hid (t = str (Dc.digs x)) := Lib.hid (by rw [<- hb, str_bts])
      clear hxz hbt hb hst hx0 r1 r2
      go_wp2
      all_goals refine bodyPost_ret (v := .tuple #[.agg #[.bool neg, .string t, .int .i64 (T : Int)], .int .i64 0]) (by simp [results, Tryz.results171, go_sem]) rfl ⟨made_good hnz.out hfs.out hr.out htx.out, (by repeat (first | exact Below.refl _ _ | refine Below.alloc ?_ (by simp) _ | refine Below.setCell ?_ (by simp) _))⟩
  ·have dT : decide (0 < T) = true := decide_eq_true (by omega)
   by_cases hsf : x ≠ 0 /\ x % 10 = 0
   ·have hb : bts t = Dc.digs (x / 10) ++ [48] := by rw [hbt.out, dz, if_neg hsf.1, Dc.digs_step (by omega), hsf.2]
    have CS : Hid _ := Lib.hid (suff_any t (by omega) true (by rw [hb]; simp))
    obtain ⟨L, hL⟩ : ∃ L, t.size = L + 1 := ⟨t.size - 1, by have := bts_length t; rw [hb, List.length_append] at this; simp at this; omega⟩
    have hL2 : L <= 1000 := by omega
    obtain ⟨t2, ht2⟩ : ∃ t2, t.extract 0 L = t2 := ⟨_, rfl⟩
    have hb2 : Hid (bts t2 = dz (x / 10)) := Lib.hid (by
     have h4 := bts_length t
     rw [hb, List.length_append, hL] at h4
     rw [<- ht2, bts_extract, hb, List.drop_zero, List.take_left' (by simpa using h4), dz, if_neg (by omega)])
    obtain ⟨U, rfl⟩ : ∃ U, T = U + 1 := ⟨T - 1, by omega⟩
    have hs2 : Hid (Dc.strip (x / 10) U = Dc.strip v S) := Lib.hid (by rw [<- hst.out, Dc.strip, if_pos hsf.2])
    have hx2 : Hid (x / 10 = 0 ↔ v = 0) := Lib.hid (by rw [<- hx0.out]; omega)
    have ht2s : t2.size <= 1000 := by rw [<- ht2]; simp; omega
    clear hb hbt hst hx0 hsf hT0
    go_wp2_with (go_at_call 71; refine (CS.out _).mono ?_; rintro e w5 ⟨rfl, rfl⟩)
    go_round
    case rel => exact ⟨x / 10, U, t2, rfl, by go_num, by omega, ht2s, hb2, hs2, hx2⟩
    case measure => simp [intOf]
   ·have CS : Hid _ := Lib.hid (suff_any t (by omega) false (by
     rw [hbt.out, dz]
     by_cases h0 : x = 0
     ·rw [if_pos h0]; rfl
     ·rw [if_neg h0, Dc.digs_last]
      exact decide_eq_false (fun h => by have := Option.some.inj h; omega)))
    have hdone : Hid (T = 0 \/ (x ≠ 0 -> x % 10 ≠ 0)) := Lib.hid (.inr (fun h h2 => hsf ⟨h, h2⟩))
    clear hsf hT0
    by_cases hxz : x = 0
    ·have q : t.toList.isEmpty = true := isEmpty_yes (by rw [<- bts_length, hbt.out, dz, if_pos hxz]; rfl)
     have hz : Hid (v = 0) := Lib.hid (hx0.out.1 hxz)
     clear hxz hbt hst hx0
     go_wp2_with (go_at_call 71; refine (CS.out _).mono ?_; rintro e w5 ⟨rfl, rfl⟩)
     all_goals refine bodyPost_ret (v := .tuple #[.agg #[.bool false, .string ⟨#[48]⟩, .int .i64 0], .int .i64 0]) (by simp [results, Tryz.results171, go_sem]) rfl ⟨made_zero hz.out, (by repeat (first | exact Below.refl _ _ | refine Below.alloc ?_ (by simp) _ | refine Below.setCell ?_ (by simp) _))⟩
    ·have hb : bts t = Dc.digs x := by rw [hbt.out, dz, if_neg hxz]
     have q : t.toList.isEmpty = false := isEmpty_no (by rw [<- bts_length, hb]; exact Dc.digs_pos x)
     have hnz : Hid (v ≠ 0) := Lib.hid (fun h => hxz (hx0.out.2 h))
     have hfs : Hid (Dc.strip v S = (x, T)) := Lib.hid (by rw [<- hst.out]; exact Dc.strip_done (hdone.out.imp id (fun h => h hxz)))
     have hsz : Hid (t.size = (Dc.digs x).length) := Lib.hid (by rw [<- bts_length, hb])
     by_cases r1 : 60 < t.size
     ·have d1 : decide (60 < (t.size : Int)) = true := decide_eq_true (by omega)
      have hr : Hid (60 < (Dc.digs x).length \/ 60 < T) := Lib.hid (.inl (by have := hsz.out; omega))
      clear hxz hbt hb hst hx0 r1
      go_wp2_with (go_at_call 71; refine (CS.out _).mono ?_; rintro e w5 ⟨rfl, rfl⟩)
      all_goals refine bodyPost_ret (v := .tuple #[.agg #[.bool false, .string ⟨#[]⟩, .int .i64 0], .int .i64 7]) (by simp [results, Tryz.results171, go_sem]) rfl ⟨made_range hnz.out hfs.out hr.out, (by repeat (first | exact Below.refl _ _ | refine Below.alloc ?_ (by simp) _ | refine Below.setCell ?_ (by simp) _))⟩
     ·have d1 : decide (60 < (t.size : Int)) = false := decide_eq_false (by omega)
      by_cases r2 : 60 < T
      ·have d2 : decide (60 < (T : Int)) = true := decide_eq_true (by omega)
       have hr : Hid (60 < (Dc.digs x).length \/ 60 < T) := Lib.hid (.inr r2)
       clear hxz hbt hb hst hx0 r1 r2
       go_wp2_with (go_at_call 71; refine (CS.out _).mono ?_; rintro e w5 ⟨rfl, rfl⟩)
       all_goals refine bodyPost_ret (v := .tuple #[.agg #[.bool false, .string ⟨#[]⟩, .int .i64 0], .int .i64 7]) (by simp [results, Tryz.results171, go_sem]) rfl ⟨made_range hnz.out hfs.out hr.out, (by repeat (first | exact Below.refl _ _ | refine Below.alloc ?_ (by simp) _ | refine Below.setCell ?_ (by simp) _))⟩
      ·have d2 : decide (60 < (T : Int)) = false := decide_eq_false (by omega)
       have hr : Hid (¬ (60 < (Dc.digs x).length \/ 60 < T)) := Lib.hid (by have := hsz.out; omega)
       have htx : Hid (t = str (Dc.digs x)) := Lib.hid (by rw [<- hb, str_bts])
       clear hxz hbt hb hst hx0 r1 r2
       go_wp2_with (go_at_call 71; refine (CS.out _).mono ?_; rintro e w5 ⟨rfl, rfl⟩)
       all_goals refine bodyPost_ret (v := .tuple #[.agg #[.bool neg, .string t, .int .i64 (T : Int)], .int .i64 0]) (by simp [results, Tryz.results171, go_sem]) rfl ⟨made_good hnz.out hfs.out hr.out htx.out, (by repeat (first | exact Below.refl _ _ | refine Below.alloc ?_ (by simp) _ | refine Below.setCell ?_ (by simp) _))⟩
open Go.Ex
set_option maxRecDepth 1000000

theorem zero_dec : (Tryz.prog.info? 24).bind (·.zero) = some (.agg #[.bool false, .string ⟨#[]⟩, .int .i64 0]) := by kernel_rfl
theorem rcheck_r (n : Bool) (s : ByteArray) (S : Int) (hs : s.size <= 1000000) (r : Int) (hr : ckI n s S = r) (w : World) : Calls Tryz.prog 39 #[.agg #[.bool n, .string s, .int .i64 S]] w fun e w' => e = .returned (.int .i64 r) /\ Below w.heap.size w w' := by
 rw [<- hr]; exact rcheck_any n s S hs w
theorem rmade_is (neg : Bool) (s : ByteArray) (S : Nat) (hs : s.size <= 1000) (hS : S <= 1000) (h1 : Digs s) (r : Res) (hr : resOf (Dc.can neg (Dc.val (bts s)) S) = r) (w : World) : Calls Tryz.prog 98 #[.bool neg, .string s, .int .i64 (S : Int)] w fun e w' => e = .returned (.tuple #[.agg #[.bool r.n, .string r.s, .int .i64 r.S], .int .i64 r.k]) /\ Below w.heap.size w w' :=
 (rmade_any neg s S hs hS h1 w).mono fun _ _ ⟨he, hb⟩ => ⟨he.trans (made_is hr), hb⟩
theorem digs_size {u : ByteArray} {x k : Nat} (h : bts u = Dc.digs x) (hx : x < 10 ^ k) (hk : 1 <= k) : u.size <= k := by
 rw [<- bts_length, h]; exact (Dc.digs_length hk).2 hx
theorem digs_all {u : ByteArray} {x : Nat} (h : bts u = Dc.digs x) : (bts u).all Dc.dig = true := by rw [h]; exact Dc.digs_dig x
theorem val_of {u : ByteArray} {x : Nat} (h : bts u = Dc.digs x) : Dc.val (bts u) = x := by rw [h, Dc.val_digs]
theorem digs_is {u : ByteArray} {x : Nat} (h : bts u = Dc.digs x) : Digs u := ⟨digs_all h, by rw [h]; exact Dc.digs_ne x⟩
theorem scaled_low {s : ByteArray} {c : Nat} (hs : s.size <= 60) (hd : (bts s).all Dc.dig = true) (hc : c <= 60) : Dc.val (bts s) * 10 ^ c < 10 ^ 120 := by
 have h1 := Dc.val_lt hd
 rw [bts_length] at h1
 have h2 : (10 : Nat) ^ s.size <= 10 ^ 60 := Nat.pow_le_pow_right (by decide) hs
 have h3 : (10 : Nat) ^ c <= 10 ^ 60 := Nat.pow_le_pow_right (by decide) hc
 have h4 : Dc.val (bts s) * 10 ^ c <= Dc.val (bts s) * 10 ^ 60 := Nat.mul_le_mul_left _ h3
 have h5 : Dc.val (bts s) * 10 ^ 60 < 10 ^ 60 * 10 ^ 60 := Nat.mul_lt_mul_of_pos_right (Nat.lt_of_lt_of_le h1 h2) (Dc.pow10_pos 60)
 rw [<- Nat.pow_add] at h5
 exact Nat.lt_of_le_of_lt h4 h5
def zs (c : Nat) : ByteArray := str (List.replicate c 48)
theorem zs_bts (c : Nat) : bts (zs c) = List.replicate c 48 := bts_str _ (fun b hb => by rw [List.eq_of_mem_replicate hb]; decide)
theorem zs_size (c : Nat) : (zs c).size = c := by rw [zs, str_size, List.length_replicate]
def zf (s : ByteArray) (c : Nat) : ByteArray := s ++ zs c
theorem zf_bts (s : ByteArray) (c : Nat) : bts (zf s c) = bts s ++ List.replicate c 48 := by rw [zf, str_add, zs_bts]
theorem zf_size (s : ByteArray) (c : Nat) : (zf s c).size = s.size + c := by rw [zf, ByteArray.size_append, zs_size]
theorem zf_val (s : ByteArray) (c : Nat) : Dc.val (bts (zf s c)) = Dc.val (bts s) * 10 ^ c := by rw [zf_bts, Dc.val_zeros_back]
theorem zf_all {s : ByteArray} (h : (bts s).all Dc.dig = true) (c : Nat) : (bts (zf s c)).all Dc.dig = true := by rw [zf_bts, List.all_append, h, Dc.zeros_dig]; rfl
theorem zf_digs {s : ByteArray} (h : Digs s) (c : Nat) : Digs (zf s c) := ⟨zf_all h.all c, by rw [zf_bts]; simp [h.ne]⟩
theorem rzeros_v (z : Int) (n : Nat) (hz : z = n) (hn : n <= 1000000) (w : World) : Calls Tryz.prog 69 #[.int .i64 z] w fun e w' => e = .returned (.string (zs n)) /\ Below w.heap.size w w' := by
 refine (rzeros_any z n hz hn w).mono ?_
 rintro e w' ⟨⟨t, rfl, rfl⟩, rfl⟩
 exact ⟨rfl, Below.refl _ _⟩
def resL (r : Res) : List Value := [.bool r.n, .string r.s, .int .i64 r.S, .int .i64 r.k]
def resC (r : Res) (l : List Value) : List Value := .bool r.n :: .string r.s :: .int .i64 r.S :: .int .i64 r.k :: l
def Res.val (r : Res) : Value := .tuple #[.agg #[.bool r.n, .string r.s, .int .i64 r.S], .int .i64 r.k]
def ResAt (E : Nat -> Value) (b : Nat) (r : Res) : Prop := E b = .bool r.n /\ E (b + 1) = .string r.s /\ E (b + 2) = .int .i64 r.S /\ E (b + 3) = .int .i64 r.k
def rsV (b : Nat) : V := .tup [deV b, xi (b + 3)]
theorem ResAt.den {E : Nat -> Value} {b : Nat} {r : Res} (h : ResAt E b r) : (rsV b).den L0 E = r.val := by
 obtain ⟨h1, h2, h3, h4⟩ := h
 simp only [rsV, deV, xb, xs, xi, V.den, V.dens, X.evB, X.evS, X.evI, h1, h2, h3, h4, Res.val]
def noV (k : Int) : V := .tup [.agg [.bool false, .str [], it 0], it k]
theorem eq48 (s : ByteArray) : decide (s = Ex.bytes [48]) = decide (bts s = [48]) := decide_eq_decide.2 ⟨fun h => by rw [h]; rfl, fun h => bts_inj (h.trans rfl)⟩
def mxX : X := .mx (.at 3) (.at 6)
theorem mx_nat (a b : Nat) : (if (a : Int) < (b : Int) then (b : Int) else (a : Int)) = ((max a b : Nat) : Int) := by split <;> omega
theorem wsub {a b : Nat} (h : b <= a) (h2 : a <= 1000) : IntKind.i64.wrap (((a : Nat) : Int) - (b : Int)) = ((a - b : Nat) : Int) := by rw [IntKind.wrap_i64]; omega
def sumT (lt : X) (a : Nat) : Tree := .node (.beq (.at 1) (.at 4)) (.leaf (rsV a)) (.node lt (.leaf (rsV (a + 4))) (.leaf (rsV (a + 8))))
theorem sum_at {E : Nat -> Value} {n m : Bool} {u T v S K A B : Nat} {lt : X} {a : Nat} {r1 r2 r3 r : Res} (h1 : E 1 = .bool n) (h4 : E 4 = .bool m) (hlt : lt.evB E = decide (A < B)) (hK : max T S = K) (hA : u * 10 ^ (K - T) = A) (hB : v * 10 ^ (K - S) = B)
  (g1 : ResAt E a r1) (g2 : ResAt E (a + 4) r2) (g3 : ResAt E (a + 8) r3) (e1 : r1 = resOf (Dc.can n (A + B) K)) (e2 : r2 = resOf (Dc.can m (B - A) K)) (e3 : r3 = resOf (Dc.can n (A - B) K)) (hr : resOf (Dc.addD (n, u, T) (m, v, S)) = r) : ((sumT lt a).at E).den L0 E = r.val := by
 have e : (sumT lt a).at E = bif n == m then rsV a else bif decide (A < B) then rsV (a + 4) else rsV (a + 8) := by
  simp only [sumT, Tree.at, X.evB, h1, h4, hlt]
 rw [e]
 by_cases hn : n = m
 ·subst hn
  rw [beq_self_eq_true, cond_true, g1.den, e1, <- hr, Dc.addD_same n u T v S hK hA hB]
 ·have hm : m = !n := by cases n <;> cases m <;> simp_all
  subst hm
  rw [show (n == !n) = false by cases n <;> rfl, cond_false]
  by_cases h : A < B
  ·rw [decide_eq_true h, cond_true, g2.den, e2, <- hr, Dc.addD_lt n u T v S hK hA hB h]
  ·rw [decide_eq_false h, cond_false, g3.den, e3, <- hr, Dc.addD_ge n u T v S hK hA hB (by omega)]
def smC : List CallX := [⟨69, [.xi .i64 (.sub .i64 mxX (.at 3))], [], xs 7⟩, ⟨69, [.xi .i64 (.sub .i64 mxX (.at 6))], [], xs 8⟩]
def smF : Fx := [(.fits (.at 2) (.at 7), true), (.fits (.at 5) (.at 8), true)]
theorem run_same : chk (runTr Tryz.prog nG (fun _ => none) (fun _ => true) deT smC 100 87 [deV 1, deV 4] hN) (.leaf (.tup [.xs (.cat (.at 2) (.at 7)), .xs (.cat (.at 5) (.at 8)), .xi .i64 mxX])) smF = true := by decide +kernel
theorem rsame_any (n : Bool) (s : ByteArray) (T : Nat) (m : Bool) (t : ByteArray) (V M : Nat) (hM : max T V = M) (hs : s.size <= 60) (ht : t.size <= 60) (hT : T <= 60) (hV : V <= 60) (w : World) : Calls Tryz.prog 87 #[.agg #[.bool n, .string s, .int .i64 (T : Int)], .agg #[.bool m, .string t, .int .i64 (V : Int)]] w fun e w' => e = .returned (.tuple #[.string (zf s (M - T)), .string (zf t (M - V)), .int .i64 (M : Int)]) /\ Below w.heap.size w w' := by
 subst hM
 refine tree_nv (env := [.bool n, .string s, .int .i64 (T : Int), .bool m, .string t, .int .i64 (V : Int), .string (zs (max T V - T)), .string (zs (max T V - V))]) run_same ⟨⟨rfl, fk, fun _ L w _ => rzeros_v _ _ ?_ (by omega) w⟩, ⟨rfl, fk, fun _ L w _ => rzeros_v _ _ ?_ (by omega) w⟩, trivial⟩ rfl ⟨decide_eq_true ?_, decide_eq_true ?_, trivial⟩ rfl rfl ?_ (w := w)
 ·show IntKind.i64.wrap ((if (T : Int) < (V : Int) then (V : Int) else (T : Int)) - (T : Int)) = _
  rw [mx_nat, wsub (by omega) (by omega)]
 ·show IntKind.i64.wrap ((if (T : Int) < (V : Int) then (V : Int) else (T : Int)) - (V : Int)) = _
  rw [mx_nat, wsub (by omega) (by omega)]
 ·show s.size + (zs _).size <= _
  rw [zs_size]; omega
 ·show t.size + (zs _).size <= _
  rw [zs_size]; omega
 ·show Value.tuple #[.string (zf s _), .string (zf t _), .int .i64 (if (T : Int) < (V : Int) then (V : Int) else (T : Int))] = _
  rw [mx_nat]
def opT : Tree := .node (.at 1) (.leaf (.agg [.bool false, xs 2, xi 3])) (.node (.seq (.at 2) (.str [48])) (.leaf (.agg [.bool false, xs 2, xi 3])) (.leaf (.agg [.bool true, xs 2, xi 3])))
theorem op_at (n : Bool) (s : ByteArray) (S : Int) : (opT.at (envE [.int .i64 0, .bool n, .string s, .int .i64 S])).den L0 (envE [.int .i64 0, .bool n, .string s, .int .i64 S]) = .agg #[.bool (oppN n s), .string s, .int .i64 S] := by
 have e : opT.at (envE [.int .i64 0, .bool n, .string s, .int .i64 S]) = bif n then .agg [.bool false, xs 2, xi 3] else bif decide (s = Ex.bytes [48]) then .agg [.bool false, xs 2, xi 3] else .agg [.bool true, xs 2, xi 3] := rfl
 rw [e, eq48]
 unfold oppN
 cases n
 ·by_cases h : bts s = [48] <;> simp [h] <;> rfl
 ·rfl
theorem rrun_opp : chk (runTr Tryz.prog nG (fun _ => none) (fun _ => true) deT [] 100 179 [deV 1] hN) opT [] = true := by decide +kernel
theorem ropp_any (n : Bool) (s : ByteArray) (S : Int) (w : World) : Calls Tryz.prog 179 #[.agg #[.bool n, .string s, .int .i64 S]] w fun e w' => e = .returned (.agg #[.bool (oppN n s), .string s, .int .i64 S]) /\ Below w.heap.size w w' :=
 tree_nv (env := [.bool n, .string s, .int .i64 S]) rrun_opp trivial rfl trivial rfl rfl (op_at n s S)
def ruC : List CallX := [⟨87, [deV 1, deV 4], [], .tup [xs 7, xs 8, xi 9]⟩, ⟨195, [xs 7, xs 8], [], xs 10⟩, ⟨88, [xs 7, xs 8], [], xb 11⟩, ⟨194, [xs 8, xs 7], [(.at 11, true)], xs 12⟩, ⟨194, [xs 7, xs 8], [(.at 11, false)], xs 13⟩,
 ⟨98, [xb 1, xs 10, xi 9], [], rsV 14⟩, ⟨98, [xb 4, xs 12, xi 9], [], rsV 18⟩, ⟨98, [xb 1, xs 13, xi 9], [], rsV 22⟩]
theorem run_rsum : chk (runTr Tryz.prog nG (fun _ => none) (fun _ => true) deT ruC 100 178 [deV 1, deV 4] hN) (sumT (.at 11) 14) [] = true := by decide +kernel
theorem rmade_v (neg : Bool) (x S : Nat) (hx : x < 10 ^ 200) (hS : S <= 1000) {u : ByteArray} (hu : str (Dc.digs x) = u) {r : Res} (hr : resOf (Dc.can neg x S) = r) (w : World) : Calls Tryz.prog 98 #[.bool neg, .string u, .int .i64 (S : Int)] w fun e w' => e = .returned r.val /\ Below w.heap.size w w' := by
 subst hu
 exact rmade_is neg (str (Dc.digs x)) S (Nat.le_trans (digs_size (bts_digs x) hx (by decide)) (by decide)) hS (digs_is (bts_digs x)) r (by rw [val_of (bts_digs x)]; exact hr) w
theorem rsum_is (n : Bool) (s : ByteArray) (S : Int) (m : Bool) (t : ByteArray) (U : Int) (k1 : OkD n s S) (k2 : OkD m t U) (w : World) : Calls Tryz.prog 178 #[.agg #[.bool n, .string s, .int .i64 S], .agg #[.bool m, .string t, .int .i64 U]] w fun e w' => e = .returned (resOf (Dc.addD (rawD n s S) (rawD m t U))).val /\ Below w.heap.size w w' := by
 obtain ⟨T, rfl⟩ : ∃ T : Nat, S = T := ⟨S.toNat, by have := k1.low; omega⟩
 obtain ⟨V, rfl⟩ : ∃ V : Nat, U = V := ⟨U.toNat, by have := k2.low; omega⟩
 have hT : T <= 60 := by have := k1.high; omega
 have hV : V <= 60 := by have := k2.high; omega
 have z1 := k1.size
 have z2 := k2.size
 obtain ⟨K, hK⟩ : ∃ K, max T V = K := ⟨_, rfl⟩
 have hA := zf_val s (K - T)
 have hB := zf_val t (K - V)
 obtain ⟨A, eA⟩ : ∃ A, Dc.val (bts (zf s (K - T))) = A := ⟨_, rfl⟩
 obtain ⟨B, eB⟩ : ∃ B, Dc.val (bts (zf t (K - V))) = B := ⟨_, rfl⟩
 have lA : A < 10 ^ 120 := by rw [<- eA, hA]; exact scaled_low z1 k1.dig.all (by omega)
 have lB : B < 10 ^ 120 := by rw [<- eB, hB]; exact scaled_low z2 k2.dig.all (by omega)
 have l0 : (10 : Nat) ^ 120 + 10 ^ 120 <= 10 ^ 200 := by decide +kernel
 have dA := zf_digs k1.dig (K - T)
 have dB := zf_digs k2.dig (K - V)
 have sA := zf_size s (K - T)
 have sB := zf_size t (K - V)
 obtain ⟨x1, h1⟩ : ∃ x, str (Dc.digs (A + B)) = x := ⟨_, rfl⟩
 obtain ⟨x2, h2⟩ : ∃ x, str (Dc.digs (B - A)) = x := ⟨_, rfl⟩
 obtain ⟨x3, h3⟩ : ∃ x, str (Dc.digs (A - B)) = x := ⟨_, rfl⟩
 obtain ⟨r1, g1⟩ : ∃ r, resOf (Dc.can n (A + B) K) = r := ⟨_, rfl⟩
 obtain ⟨r2, g2⟩ : ∃ r, resOf (Dc.can m (B - A) K) = r := ⟨_, rfl⟩
 obtain ⟨r3, g3⟩ : ∃ r, resOf (Dc.can n (A - B) K) = r := ⟨_, rfl⟩
 obtain ⟨y, hy⟩ : ∃ y, zf s (K - T) = y := ⟨_, rfl⟩
 obtain ⟨z, hz⟩ : ∃ z, zf t (K - V) = z := ⟨_, rfl⟩
 obtain ⟨b, hb⟩ : ∃ b, decide (A < B) = b := ⟨_, rfl⟩
 have C := rsame_any n s T m t V K hK z1 z2 hT hV
 rw [hy] at dA sA eA C
 rw [hz] at dB sB eB C
 refine tree_nv (env := .append [.bool n, .string s, .int .i64 (T : Int), .bool m, .string t, .int .i64 (V : Int), .string y, .string z, .int .i64 (K : Int), .string x1, .bool b, .string x2, .string x3] (resC r1 (resC r2 (resL r3)))) run_rsum ?_ rfl trivial rfl rfl (sum_at (n := n) (m := m) (A := A) (B := B) rfl rfl hb.symm hK (hA.symm.trans (hy ▸ eA)) (hB.symm.trans (hz ▸ eB)) (r1 := r1) (r2 := r2) (r3 := r3) ⟨rfl, rfl, rfl, rfl⟩ ⟨rfl, rfl, rfl, rfl⟩ ⟨rfl, rfl, rfl, rfl⟩ g1.symm g2.symm g3.symm rfl) (w := w)
 refine ⟨⟨rfl, fk, fun _ L w _ => C w⟩, ⟨rfl, fk, fun _ L w _ => ?_⟩, ⟨rfl, fk, fun _ L w _ => ?_⟩, ⟨rfl, fk, fun hp L w _ => ?_⟩, ⟨rfl, fk, fun hp L w _ => ?_⟩,
   ⟨rfl, fk, fun _ L w _ => rmade_v n (A + B) K (by omega) (by omega) h1 g1 w⟩, ⟨rfl, fk, fun _ L w _ => rmade_v m (B - A) K (by omega) (by omega) h2 g2 w⟩, ⟨rfl, fk, fun _ L w _ => rmade_v n (A - B) K (by omega) (by omega) h3 g3 w⟩, trivial⟩
 ·refine (rplus_any y z (by omega) (by omega) dA dB w).mono ?_
  rintro e w' ⟨⟨r, rfl, rfl⟩, hb⟩
  rw [eA, eB, h1]
  exact ⟨rfl, hb⟩
 ·refine (rless_any y z (by omega) (by omega) dA dB w).mono ?_
  rintro e w' ⟨rfl, rfl⟩
  rw [eA, eB, hb]
  exact ⟨rfl, Below.refl _ _⟩
 ·have h : b = true := hp.1
  have h := of_decide_eq_true (hb.trans h)
  refine (rminus_any z y (by omega) (by omega) dB dA (by omega) w).mono ?_
  rintro e w' ⟨⟨r, rfl, rfl⟩, hb⟩
  rw [eA, eB, h2]
  exact ⟨rfl, hb⟩
 ·have h : b = false := hp.1
  have h := of_decide_eq_false (hb.trans h)
  refine (rminus_any y z (by omega) (by omega) dA dB (by omega) w).mono ?_
  rintro e w' ⟨⟨r, rfl, rfl⟩, hb⟩
  rw [eA, eB, h3]
  exact ⟨rfl, hb⟩
end Go.Proofs.YthoojcdjjecogaaGreatDoor
