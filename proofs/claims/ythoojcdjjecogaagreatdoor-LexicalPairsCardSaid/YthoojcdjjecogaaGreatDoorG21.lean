/-
  Part 21 of the proof: what functions return, and plain facts (Mtext). Conditions: each theorem names its own.
-/
import Derived.Test.YthoojcdjjecogaaGreatDoorG20
import Derived.Test.YthoojcdjjecogaaGreatDoorG09
set_option maxRecDepth 1000000
set_option maxHeartbeats 16000000
namespace Go.Proofs.YthoojcdjjecogaaGreatDoor
open Go Go.RowKit
namespace Mo
def hasP (c : Nat) : List Nat -> Bool × List Nat
 | [] => (false, [])
 | a :: r => if a = c then (true, r) else (false, a :: r)
def wantP (c : Nat) : List Nat -> Option (List Nat)
 | [] => none
 | a :: r => if a = c then some r else none
def numP (m : Nat) (l : List Nat) : Option (Nat × List Nat) := if m <= l.length /\ (l.take m).all Dc.dig = true then some (Dc.val (l.take m), l.drop m) else none
def dateP (l : List Nat) : Option ((Int × Int × Int) × List Nat) :=
 (numP 4 (hasP 45 l).2).bind fun y => (wantP 45 y.2).bind fun l1 => (numP 2 l1).bind fun m => (wantP 45 m.2).bind fun l2 => (numP 2 l2).bind fun d =>
  some ((if (hasP 45 l).1 then -(y.1 : Int) else (y.1 : Int), (m.1 : Int), (d.1 : Int)), d.2)
def runD (l : List Nat) : List Nat := l.takeWhile Dc.dig
def runR (l : List Nat) : List Nat := l.dropWhile Dc.dig
def secP (l : List Nat) : Option (List Nat × List Nat) := (numP 2 l).bind fun s =>
 if (hasP 46 s.2).1 then (if runD (hasP 46 s.2).2 = [] then none else some (l.take 2 ++ 46 :: runD (hasP 46 s.2).2, runR (hasP 46 s.2).2)) else some (l.take 2, s.2)
def timeP (l : List Nat) : Option ((Int × Int × List Nat) × List Nat) :=
 (numP 2 l).bind fun h => (wantP 58 h.2).bind fun l1 => (numP 2 l1).bind fun i => (wantP 58 i.2).bind fun l2 => (secP l2).bind fun s => some (((h.1 : Int), (i.1 : Int), s.1), s.2)
def signP (l : List Nat) : Option (Int × List Nat) := if (hasP 45 l).1 then some (-1, (hasP 45 l).2) else (wantP 43 l).bind fun r => some (1, r)
def zoneP (l : List Nat) : Option (Bool × Int) := if l = [] then some (false, 0) else if (hasP 90 l).1 then (if (hasP 90 l).2 = [] then some (true, 0) else none) else
 (signP l).bind fun s => (numP 2 s.2).bind fun h => (wantP 58 h.2).bind fun l1 => (numP 2 l1).bind fun m => if 59 < m.1 \/ m.2 ≠ [] then none else some (true, s.1 * (60 * (h.1 : Int) + (m.1 : Int)))
def partsP (k : Int) (l : List Nat) : Option (Mo × List Nat) :=
 (if k = 2 then some ((0, 0, 0), l) else dateP l).bind fun d => (if k = 3 then wantP 84 d.2 else some d.2).bind fun l1 =>
 (if k = 1 then some ((0, 0, []), l1) else timeP l1).bind fun t => (zoneP t.2).bind fun z =>
 some (⟨k, d.1.1, d.1.2.1, d.1.2.2, t.1.1, t.1.2.1, false, ⟨#[]⟩, 0, z.1, z.2⟩, t.1.2.2)
def nil : Mo := ⟨0, 0, 0, 0, 0, 0, false, ⟨#[]⟩, 0, false, 0⟩
def withS (x : Mo) (r : Res) : Mo := ⟨x.k, x.y, x.m, x.d, x.h, x.i, r.n, r.s, r.S, x.z, x.o⟩
def doneM (k : Int) (p : Mo × List Nat) : Mo × Int :=
 if k = 1 then (if okB p.1 = true then (p.1, 0) else (nil, 6))
 else if (readR p.2).k ≠ 0 then (nil, (readR p.2).k)
 else if okB (withS p.1 (readR p.2)) = true then (withS p.1 (readR p.2), 0) else (nil, 6)
def readM (k : Int) (l : List Nat) : Mo × Int :=
 if k = 1 \/ k = 2 \/ k = 3 then (match partsP k l with | none => (nil, 6) | some p => doneM k p) else (nil, 2)
end Mo
end Go.Proofs.YthoojcdjjecogaaGreatDoor
