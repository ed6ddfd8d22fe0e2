/-
  Part 17 of the proof: what functions return, and plain facts (Mtext). Conditions: each theorem names its own.
-/
import Derived.Test.YthoojcdjjecogaaGreatDoorG16
import Derived.Test.YthoojcdjjecogaaGreatDoorG10
set_option maxRecDepth 1000000
set_option maxHeartbeats 16000000
namespace Go.Proofs.YthoojcdjjecogaaGreatDoor
open Go Go.RowKit
namespace Mo
def secL (x : Mo) : List Nat := if (Dc.whole (Dc.txt x.n (bts x.s) x.S.toNat)).length < 2 then 48 :: Dc.txt x.n (bts x.s) x.S.toNat else Dc.txt x.n (bts x.s) x.S.toNat
def dateL (x : Mo) : List Nat := (if x.y < 0 then [45] else []) ++ (Dc.pad 4 x.y.natAbs ++ 45 :: (Dc.pad 2 x.m.natAbs ++ 45 :: Dc.pad 2 x.d.natAbs))
def timeL (x : Mo) : List Nat := Dc.pad 2 x.h.natAbs ++ 58 :: (Dc.pad 2 x.i.natAbs ++ 58 :: secL x)
def zoneL (x : Mo) : List Nat := if x.z = false then [] else if x.o = 0 then [90] else (if 0 < x.o then 43 else 45) :: (Dc.pad 2 (x.o.natAbs / 60) ++ 58 :: Dc.pad 2 (x.o.natAbs % 60))
def textL (x : Mo) : List Nat := (if x.k = 2 then [] else dateL x) ++ ((if x.k = 3 then [84] else []) ++ ((if x.k = 1 then [] else timeL x) ++ zoneL x))
def textM (x : Mo) : ByteArray × Int := if okB x = true then (str (textL x), 0) else (⟨#[]⟩, 2)
def hasP (c : Nat) : List Nat -> Bool × List Nat
 | [] => (false, [])
 | a :: r => if a = c then (true, r) else (false, a :: r)
def wantP (c : Nat) : List Nat -> Option (List Nat)
 | [] => none
 | a :: r => if a = c then some r else none
def numP (m : Nat) (l : List Nat) : Option (Nat × List Nat) := if m <= l.length /\ (l.take m).all Dc.dig = true then some (Dc.val (l.take m), l.drop m) else none
def dateP (l : List Nat) : Option ((Int × Int × Int) × List Nat) :=
 (numP 4 (hasP 45 l).2).bind fun y => (wantP 45 y.2).bind fun l1 => (numP 2 l1).bind fun m => (wantP 45 m.2).bind fun l2 => (numP 2 l2).bind fun d =>
  some ((if (hasP 45 l).1 then -(y.1 : Int) else (y.1 : Int), (m.1 : Int), (d.1 : Int)), d.2)
def runD (l : List Nat) : List Nat := l.takeWhile Dc.dig
def runR (l : List Nat) : List Nat := l.dropWhile Dc.dig
def secP (l : List Nat) : Option (List Nat × List Nat) := (numP 2 l).bind fun s =>
 if (hasP 46 s.2).1 then (if runD (hasP 46 s.2).2 = [] then none else some (l.take 2 ++ 46 :: runD (hasP 46 s.2).2, runR (hasP 46 s.2).2)) else some (l.take 2, s.2)
def timeP (l : List Nat) : Option ((Int × Int × List Nat) × List Nat) :=
 (numP 2 l).bind fun h => (wantP 58 h.2).bind fun l1 => (numP 2 l1).bind fun i => (wantP 58 i.2).bind fun l2 => (secP l2).bind fun s => some (((h.1 : Int), (i.1 : Int), s.1), s.2)
def signP (l : List Nat) : Option (Int × List Nat) := if (hasP 45 l).1 then some (-1, (hasP 45 l).2) else (wantP 43 l).bind fun r => some (1, r)
def zoneP (l : List Nat) : Option (Bool × Int) := if l = [] then some (false, 0) else if (hasP 90 l).1 then (if (hasP 90 l).2 = [] then some (true, 0) else none) else
 (signP l).bind fun s => (numP 2 s.2).bind fun h => (wantP 58 h.2).bind fun l1 => (numP 2 l1).bind fun m => if 59 < m.1 \/ m.2 ≠ [] then none else some (true, s.1 * (60 * (h.1 : Int) + (m.1 : Int)))
def partsP (k : Int) (l : List Nat) : Option (Mo × List Nat) :=
 (if k = 2 then some ((0, 0, 0), l) else dateP l).bind fun d => (if k = 3 then wantP 84 d.2 else some d.2).bind fun l1 =>
 (if k = 1 then some ((0, 0, []), l1) else timeP l1).bind fun t => (zoneP t.2).bind fun z =>
 some (⟨k, d.1.1, d.1.2.1, d.1.2.2, t.1.1, t.1.2.1, false, ⟨#[]⟩, 0, z.1, z.2⟩, t.1.2.2)
def nil : Mo := ⟨0, 0, 0, 0, 0, 0, false, ⟨#[]⟩, 0, false, 0⟩
def withS (x : Mo) (r : Res) : Mo := ⟨x.k, x.y, x.m, x.d, x.h, x.i, r.n, r.s, r.S, x.z, x.o⟩
def doneM (k : Int) (p : Mo × List Nat) : Mo × Int :=
 if k = 1 then (if okB p.1 = true then (p.1, 0) else (nil, 6))
 else if (readR p.2).k ≠ 0 then (nil, (readR p.2).k)
 else if okB (withS p.1 (readR p.2)) = true then (withS p.1 (readR p.2), 0) else (nil, 6)
def readM (k : Int) (l : List Nat) : Mo × Int :=
 if k = 1 \/ k = 2 \/ k = 3 then (match partsP k l with | none => (nil, 6) | some p => doneM k p) else (nil, 2)
theorem hasP_yes (c : Nat) (l : List Nat) : hasP c (c :: l) = (true, l) := by simp [hasP]
theorem hasP_no {c a : Nat} (l : List Nat) (h : a ≠ c) : hasP c (a :: l) = (false, a :: l) := by simp [hasP, h]
theorem secL_form {x : Mo} (h : secB x = true) : ∃ p q : List Nat, p.length = 2 /\ p.all Dc.dig = true /\ q.all Dc.dig = true /\ (q = [] /\ secL x = p \/ q ≠ [] /\ secL x = p ++ 46 :: q) /\ readR (secL x) = ⟨x.n, x.s, x.S, 0⟩ := by
 obtain ⟨hk, hn, h0, h60⟩ := sec_lt h
 obtain ⟨k, y, m, d, hh, i, n, s, S, z, o⟩ := x
 simp only at hk hn h0 h60
 subst hn
 have ho := okB_ok hk
 have hv : Dc.val (bts s) < 60 * 10 ^ S.toNat := by
  have e : secT ⟨k, y, m, d, hh, i, false, s, S, z, o⟩ = (Dc.val (bts s) : Int) * 10 ^ (60 - S.toNat) := rfl
  rw [e] at h60
  have hS : S.toNat <= 60 := ho.can.2.1
  have eU : Dc.U = 10 ^ S.toNat * 10 ^ (60 - S.toNat) := by rw [Dc.U_eq, <- Int.pow_add]; congr 1; omega
  rw [eU, <- Int.mul_assoc] at h60
  have := Int.lt_of_mul_lt_mul_right h60 (Int.le_of_lt (Dc.p10 _))
  exact_mod_cast this
 have hb : bts s = Dc.digs (Dc.val (bts s)) := ho.eq
 have hd : (bts s).all Dc.dig = true := ho.dig.1
 have hw := Dc.wide_dig S.toNat hd
 have hwl := Dc.wide_length (bts s) S.toNat
 have hlen : (bts s).length <= S.toNat + 2 := by
  rw [hb]
  refine (Dc.digs_length (by omega)).2 (Nat.lt_of_lt_of_le hv ?_)
  rw [Nat.pow_add, Nat.mul_comm]
  exact Nat.mul_le_mul_left _ (by decide)
 have hres : ∀ o, Dc.readD o = some (Dc.can false (Dc.val (bts s)) S.toNat) -> readR o = ⟨false, s, S, 0⟩ := fun o hr => by
  unfold readR
  rw [hr]
  show resOf _ = _
  have e := Dc.can_self (show Dc.isCan false (Dc.val (bts s)) S.toNat from ho.can)
  rw [e]
  exact raw_res ho false
 have htxt : Dc.txt false (bts s) S.toNat = Dc.dotted (bts s) S.toNat := rfl
 have hrd : Dc.readD (Dc.dotted (bts s) S.toNat) = some (Dc.can false (Dc.val (bts s)) S.toNat) := by
  have := Dc.read_txt false (Dc.val (bts s)) S.toNat
  rw [<- hb] at this
  exact this
 -- the digits before the point
 obtain ⟨a, ha⟩ : ∃ a, (Dc.wide (bts s) S.toNat).take ((Dc.wide (bts s) S.toNat).length - S.toNat) = a := ⟨_, rfl⟩
 obtain ⟨q, hq⟩ : ∃ q, (Dc.wide (bts s) S.toNat).drop ((Dc.wide (bts s) S.toNat).length - S.toNat) = q := ⟨_, rfl⟩
 have had : a.all Dc.dig = true := by
  rw [<- ha, List.all_eq_true]
  exact fun c hc => List.all_eq_true.1 hw c (List.mem_of_mem_take hc)
 have hqd : q.all Dc.dig = true := by
  rw [<- hq, List.all_eq_true]
  exact fun c hc => List.all_eq_true.1 hw c (List.mem_of_mem_drop hc)
 have hal : a.length = (Dc.wide (bts s) S.toNat).length - S.toNat := by rw [<- ha, List.length_take]; omega
 have hql : q.length = S.toNat := by rw [<- hq, List.length_drop]; omega
 have haq : a ++ q = Dc.wide (bts s) S.toNat := by rw [<- ha, <- hq, List.take_append_drop]
 have hdot : (q = [] /\ Dc.dotted (bts s) S.toNat = a) \/ (q ≠ [] /\ Dc.dotted (bts s) S.toNat = a ++ 46 :: q) := by
  unfold Dc.dotted
  by_cases hS : S.toNat = 0
  ·left
   rw [if_pos hS, <- haq]
   have : q = [] := by cases q with | nil => rfl | cons c r => simp at hql; omega
   rw [this]; simp
  ·right
   rw [if_neg hS, ha, hq]
   exact ⟨fun e => by rw [e] at hql; simp at hql; omega, rfl⟩
 have hwh : Dc.whole (Dc.dotted (bts s) S.toNat) = a /\ Dc.part (Dc.dotted (bts s) S.toNat) = q := by
  rcases hdot with ⟨e1, e2⟩ | ⟨e1, e2⟩
  ·rw [e2, e1]; exact Dc.whole_digits had
  ·rw [e2]; exact Dc.whole_dot had
 by_cases h2 : a.length < 2
 ·refine ⟨48 :: a, q, ?_, ?_, hqd, ?_, ?_⟩
  ·rw [List.length_cons]; omega
  ·rw [List.all_cons, had]; rfl
  ·unfold secL
   simp only [htxt]
   rw [hwh.1, if_pos h2]
   rcases hdot with ⟨e1, e2⟩ | ⟨e1, e2⟩
   ·exact .inl ⟨e1, by rw [e2]⟩
   ·exact .inr ⟨e1, by rw [e2]; rfl⟩
  ·unfold secL
   simp only [htxt]
   rw [hwh.1, if_pos h2]
   apply hres
   rw [<- hrd]
   have hu : ∀ l, Dc.unsign (48 :: l) = (false, 48 :: l) := fun l => Dc.unsign_digit rfl
   obtain ⟨c, r, hc1, hc2⟩ := Dc.dotted_cons (bts s) S.toNat hd
   have hu2 : Dc.unsign (Dc.dotted (bts s) S.toNat) = (false, Dc.dotted (bts s) S.toNat) := by rw [hc1]; exact Dc.unsign_digit hc2
   have hw48 : Dc.whole (48 :: Dc.dotted (bts s) S.toNat) = 48 :: a /\ Dc.part (48 :: Dc.dotted (bts s) S.toNat) = q := by
    rcases hdot with ⟨e1, e2⟩ | ⟨e1, e2⟩
    ·rw [e2, e1]; exact Dc.whole_digits (l := 48 :: a) (by rw [List.all_cons, had]; rfl)
    ·rw [e2]; exact Dc.whole_dot (l := 48 :: a) (by rw [List.all_cons, had]; rfl)
   unfold Dc.readD
   rw [hu, hu2]
   simp only
   rw [hw48.1, hw48.2, hwh.1, hwh.2, List.cons_append, Dc.val_cons, show (48 - 48) * 10 ^ (a ++ q).length + Dc.val (a ++ q) = Dc.val (a ++ q) by simp]
   have hne : a ++ q ≠ [] := fun e => by rw [haq] at e; rw [e] at hwl; simp at hwl; omega
   have hall : (a ++ q).all Dc.dig = true := by rw [haq]; exact hw
   rw [if_pos ⟨by rw [List.all_cons, hall]; rfl, by simp⟩, if_pos ⟨hall, hne⟩]
 ·have hal2 : a.length = 2 := by
   rw [hal, hwl]
   omega
  refine ⟨a, q, hal2, had, hqd, ?_, ?_⟩
  ·unfold secL
   simp only [htxt]
   rw [hwh.1, if_neg h2]
   exact hdot
  ·unfold secL
   simp only [htxt]
   rw [hwh.1, if_neg h2]
   exact hres _ hrd
end Mo
end Go.Proofs.YthoojcdjjecogaaGreatDoor
