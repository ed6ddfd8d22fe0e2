/-
  What the functions on decimals return, as plain data. No condition.
-/
import Derived.Test.YthmmjihldkjhhaaGreatDoorRcheck
import Derived.Test.YthmmjihldkjhhaaGreatDoorDsum
import Derived.Test.YthmmjihldkjhhaaGreatDoorDtext
namespace Go.Proofs.YthmmjihldkjhhaaGreatDoor
open Go Go.RowKit

/-- A decimal and an error number. -/
structure Res where
  n : Bool
  s : ByteArray
  S : Int
  k : Int
def resOf : Option Dc.D → Res
  | some a => ⟨a.1, str (Dc.digs a.2.1), (a.2.2 : Int), 0⟩
  | none => ⟨false, ⟨#[]⟩, 0, 7⟩
def argR : Res := ⟨false, ⟨#[]⟩, 0, 2⟩
def formR : Res := ⟨false, ⟨#[]⟩, 0, 6⟩
/-- What returns it. -/
def Res.ret (r : Res) : Ending := .returned (.tuple #[.agg #[.bool r.n, .string r.s, .int .i64 r.S], .int .i64 r.k])
theorem made_ret (o : Option Dc.D) : madeEnd o = (resOf o).ret := by cases o <;> rfl
theorem made_is {o : Option Dc.D} {r : Res} (h : resOf o = r) : madeEnd o = .returned (.tuple #[.agg #[.bool r.n, .string r.s, .int .i64 r.S], .int .i64 r.k]) := by
  rw [made_ret, h]; rfl
/-- The decimal of fields. -/
def rawD (n : Bool) (s : ByteArray) (S : Int) : Dc.D := (n, Dc.val (bts s), S.toNat)
structure OkD (n : Bool) (s : ByteArray) (S : Int) : Prop where
  dig : Digs s
  size : s.size ≤ 60
  pos : 1 ≤ s.size
  low : 0 ≤ S
  high : S ≤ 60
  eq : bts s = Dc.digs (Dc.val (bts s))
  can : Dc.ok (rawD n s S)
theorem okB_ok {n : Bool} {s : ByteArray} {S : Int} (h : okB n s S = true) : OkD n s S := by
  unfold okB onlyB at h
  simp only [Bool.and_eq_true, decide_eq_true_eq] at h
  obtain ⟨⟨⟨⟨⟨h1, h2⟩, h3⟩, h4⟩, h5⟩, h6⟩ := h
  have hne : bts s ≠ [] := fun he => h2 (by rw [← bts_length, he]; rfl)
  have hh : (bts s).head? ≠ some 48 ∨ (bts s).length = 1 := by
    by_cases hq : bts s = [48]
    · right; rw [hq]; rfl
    · rw [if_neg hq] at h6
      simp only [Bool.and_eq_true, Bool.not_eq_true', decide_eq_false_iff_not] at h6
      exact .inl h6.1
  have he : bts s = Dc.digs (Dc.val (bts s)) := (Dc.digs_unique h1 hne hh).symm
  refine ⟨⟨h1, hne⟩, h3, by omega, h4, h5, he, ⟨?_, ?_, ?_, ?_⟩⟩
  · show (Dc.digs (Dc.val (bts s))).length ≤ 60
    rw [← he, bts_length]; exact h3
  · show S.toNat ≤ 60
    omega
  · intro h0
    have h0' : Dc.val (bts s) = 0 := h0
    rw [h0'] at he
    rw [if_pos (show bts s = [48] from he)] at h6
    simp only [Bool.and_eq_true, Bool.not_eq_true', decide_eq_true_eq] at h6
    exact ⟨h6.1, by show S.toNat = 0; omega⟩
  · show S.toNat = 0 ∨ Dc.val (bts s) % 10 ≠ 0
    by_cases hq : bts s = [48]
    · rw [if_pos hq] at h6
      simp only [Bool.and_eq_true, Bool.not_eq_true', decide_eq_true_eq] at h6
      left; omega
    · rw [if_neg hq] at h6
      simp only [Bool.and_eq_true, Bool.or_eq_true, Bool.not_eq_true', decide_eq_false_iff_not, decide_eq_true_eq] at h6
      rcases h6.2 with h | h
      · left; omega
      · right
        intro hz
        apply h
        rw [he, Dc.digs_last, hz]
theorem digs_nat (a : Nat) : bts (str (Dc.digs a)) = Dc.digs a := bts_digs a
theorem ok_okB {a : Dc.D} (h : Dc.ok a) : okB a.1 (str (Dc.digs a.2.1)) (a.2.2 : Int) = true := by
  obtain ⟨n, v, S⟩ := a
  obtain ⟨h1, h2, h3, h4⟩ := h
  simp only at h1 h2 h3 h4 ⊢
  unfold okB onlyB
  rw [bts_digs, Dc.digs_dig, str_size]
  have hp := Dc.digs_pos v
  rw [decide_eq_true (by omega : (Dc.digs v).length ≠ 0), decide_eq_true h1, decide_eq_true (by omega : (0 : Int) ≤ (S : Int)), decide_eq_true (by omega : (S : Int) ≤ 60)]
  simp only [Bool.true_and]
  by_cases hv : v = 0
  · subst hv
    obtain ⟨rfl, rfl⟩ := h3 rfl
    rfl
  · have hq : Dc.digs v ≠ [48] := fun h => Dc.digs_head hv (by rw [h]; rfl)
    rw [if_neg hq, decide_eq_false (Dc.digs_head hv), Dc.digs_last]
    simp only [Bool.not_false, Bool.true_and, Bool.or_eq_true, decide_eq_true_eq, Bool.not_eq_true', decide_eq_false_iff_not, Option.some.injEq]
    omega
theorem raw_of {a : Dc.D} : rawD a.1 (str (Dc.digs a.2.1)) (a.2.2 : Int) = a := by
  obtain ⟨n, v, S⟩ := a
  simp [rawD, bts_digs, Dc.val_digs]
/-- The results of the functions of two decimals. -/
def twoR (f : Dc.D → Dc.D → Option Dc.D) (n : Bool) (s : ByteArray) (S : Int) (m : Bool) (t : ByteArray) (T : Int) : Res := if okB n s S = true ∧ okB m t T = true then resOf (f (rawD n s S) (rawD m t T)) else argR
theorem two_yes {f : Dc.D → Dc.D → Option Dc.D} {n : Bool} {s : ByteArray} {S : Int} {m : Bool} {t : ByteArray} {T : Int} (h1 : okB n s S = true) (h2 : okB m t T = true) : twoR f n s S m t T = resOf (f (rawD n s S) (rawD m t T)) := if_pos ⟨h1, h2⟩
theorem two_no1 {f : Dc.D → Dc.D → Option Dc.D} {n : Bool} {s : ByteArray} {S : Int} {m : Bool} {t : ByteArray} {T : Int} (h1 : okB n s S = false) : twoR f n s S m t T = argR := if_neg (by rw [h1]; simp)
theorem two_no2 {f : Dc.D → Dc.D → Option Dc.D} {n : Bool} {s : ByteArray} {S : Int} {m : Bool} {t : ByteArray} {T : Int} (h2 : okB m t T = false) : twoR f n s S m t T = argR := if_neg (by rw [h2]; simp)
def negR (n : Bool) (s : ByteArray) (S : Int) : Res := if okB n s S = true then resOf (some (Dc.opp (rawD n s S))) else argR
/-- The order, and an error number. -/
def cmpR (n : Bool) (s : ByteArray) (S : Int) (m : Bool) (t : ByteArray) (T : Int) : Int × Int := if okB n s S = true ∧ okB m t T = true then (Dc.cmpD (rawD n s S) (rawD m t T), 0) else (0, 2)
def divR (n : Bool) (s : ByteArray) (S : Int) (m : Bool) (t : ByteArray) (T : Int) (K : Int) : Res :=
  if okB n s S = true ∧ okB m t T = true ∧ bts t ≠ [48] ∧ 0 ≤ K ∧ K ≤ 60 then resOf (Dc.divD (rawD n s S) (rawD m t T) K.toNat) else argR
def roundR (n : Bool) (s : ByteArray) (S : Int) (K : Int) : Res := if okB n s S = true ∧ 0 ≤ K ∧ K ≤ 60 then resOf (Dc.roundD (rawD n s S) K.toNat) else argR
/-- The number of digits, of those behind the point, and an error number. -/
def countR (n : Bool) (s : ByteArray) (S : Int) : Int × Int × Int := if okB n s S = true then (max (s.size : Int) S, S, 0) else (0, 0, 2)
/-- The text, and an error number. -/
def textR (n : Bool) (s : ByteArray) (S : Int) : ByteArray × Int := if okB n s S = true then (str (Dc.txt n (bts s) S.toNat), 0) else (⟨#[]⟩, 2)
def readR (l : List Nat) : Res := match Dc.readD l with
  | none => formR
  | some o => resOf o
/-- The opposite, by its fields. -/
def oppN (n : Bool) (s : ByteArray) : Bool := !n && decide (bts s ≠ [48])
theorem opp_raw {n : Bool} {s : ByteArray} {S : Int} (h : OkD n s S) : Dc.opp (rawD n s S) = rawD (oppN n s) s S := by
  unfold Dc.opp rawD oppN
  simp only [Prod.mk.injEq, and_true]
  congr 1
  apply decide_eq_decide.2
  constructor
  · intro hv he; apply hv; rw [he]; rfl
  · intro he hv; apply he; rw [h.eq, hv]; rfl
theorem opp_okB {n : Bool} {s : ByteArray} {S : Int} (h : OkD n s S) : okB (oppN n s) s S = true := by
  have h1 := ok_okB (Dc.opp_ok h.can)
  rw [opp_raw h] at h1
  have e : ((S.toNat : Nat) : Int) = S := by have := h.low; omega
  have h2 : okB (oppN n s) (str (Dc.digs (Dc.val (bts s)))) ((S.toNat : Nat) : Int) = true := h1
  rw [← h.eq, str_bts, e] at h2
  exact h2
theorem raw_res {n : Bool} {s : ByteArray} {S : Int} (h : OkD n s S) (r : Bool) : resOf (some (rawD r s S)) = ⟨r, s, S, 0⟩ := by
  have e : ((S.toNat : Nat) : Int) = S := by have := h.low; omega
  show (⟨r, str (Dc.digs (Dc.val (bts s))), ((S.toNat : Nat) : Int), 0⟩ : Res) = _
  rw [e, ← h.eq, str_bts]
end Go.Proofs.YthmmjihldkjhhaaGreatDoor
