/-
  Part 25 of the proof: what functions return, and plain facts (Csqr Csqr2 Xspec Xrnum Mstate Mrrd Mpadded Mchain Csq Cwords Csq2). Conditions: each theorem names its own.
-/
import Derived.Test.YthoojcdjjecogaaGreatDoorG23
import Derived.Test.YthoojcdjjecogaaGreatDoorG13
import Derived.Test.YthoojcdjjecogaaGreatDoorG21
import Derived.Test.YthoojcdjjecogaaGreatDoorG06
import Derived.Test.YthoojcdjjecogaaGreatDoorG24
import Derived.Deep.CutBlock
import Derived.Deep.DeepCutAuto
import Derived.Test.YthoojcdjjecogaaGreatDoorG03
import Derived.Deep.MidRow
import Derived.Test.YthoojcdjjecogaaGreatDoorG04
import Derived.Shelf.Strings.SlTrimAscii
import Derived.Lib.ConvBytes
import Derived.Lib.SplitLaws
import Derived.Lib.Join
import Derived.Test.YthoojcdjjecogaaGreatDoorG07
set_option maxRecDepth 1000000
set_option maxHeartbeats 16000000
namespace Go.Proofs.YthoojcdjjecogaaGreatDoor
open Go Go.RowKit

def sqB (c : Nat) : Nat := if Ch.blank c then 32 else c
def sqStep (out : List Nat) (c : Nat) : List Nat := if sqB c = 32 /\ (out = [] \/ out.getLast? = some 32) then out else out ++ [sqB c]
def sqRow (l : List Nat) : List Nat := l.foldl sqStep []
def sqTwo (l : List Nat) : List Nat := if (sqRow l).getLast? = some 32 then (sqRow l).dropLast else sqRow l

theorem sqB_lt {c : Nat} (h : c < 256) : sqB c < 256 := by unfold sqB; split <;> omega
theorem sqStep_length (out : List Nat) (c : Nat) : (sqStep out c).length <= out.length + 1 := by
 unfold sqStep; split
 ·omega
 ·simp
theorem sqRow_length (l : List Nat) : (sqRow l).length <= l.length := by
 have : ∀ (l out : List Nat), (l.foldl sqStep out).length <= out.length + l.length := by
  intro l
  induction l with
  | nil => intro out; simp
  | cons c l ih =>
   intro out
   have h1 := ih (sqStep out c)
   have h2 := sqStep_length out c
   simp only [List.foldl_cons, List.length_cons]; omega
 have h := this l []
 rw [List.length_nil, Nat.zero_add] at h
 exact h
end Go.Proofs.YthoojcdjjecogaaGreatDoor
namespace Go.Proofs.YthoojcdjjecogaaGreatDoor
open Go Go.RowKit

structure Vl where
 k : Int
 t : ByteArray
 b : Bool
 n : Bool
 s : ByteArray
 S : Int
 m : Mo
namespace Lx
def zero : Vl := ⟨0, ⟨#[]⟩, false, false, ⟨#[]⟩, 0, Mo.nil⟩
end Lx
def Vl.list (v : Vl) : List Value := [.int .i64 v.k, .string v.t, .bool v.b, .bool v.n, .string v.s, .int .i64 v.S] ++ v.m.list
def Vl.val (v : Vl) (l : Value) : Value := .agg (v.list ++ [l]).toArray
def nilL : Value := .slice none 0 0
namespace Lx
def strT : ByteArray := ⟨#[116, 114, 117, 101]⟩
def strF : ByteArray := ⟨#[102, 97, 108, 115, 101]⟩
def truthV (s : ByteArray) : Vl × Int :=
 if s = strT \/ s = ⟨#[49]⟩ then (⟨2, ⟨#[]⟩, true, false, ⟨#[]⟩, 0, Mo.nil⟩, 0) else if s = strF \/ s = ⟨#[48]⟩ then (⟨2, ⟨#[]⟩, false, false, ⟨#[]⟩, 0, Mo.nil⟩, 0) else (zero, 6)
def numV (r : Res) : Vl × Int := if r.k = 0 then (⟨3, ⟨#[]⟩, false, r.n, r.s, r.S, Mo.nil⟩, 0) else (zero, r.k)
def momV (q : Mo × Int) : Vl × Int := if q.2 = 0 then (⟨4, ⟨#[]⟩, false, false, ⟨#[]⟩, 0, q.1⟩, 0) else (zero, q.2)
def half (c : Nat) : Option Nat := if 48 <= c /\ c <= 57 then some (c - 48) else if 97 <= c /\ c <= 102 then some (c - 87) else if 65 <= c /\ c <= 70 then some (c - 55) else none
def hexL : List Nat -> Option (List Nat)
 | [] => some []
 | [_] => none
 | a :: b :: r => (half a).bind fun x => (half b).bind fun y => (hexL r).map fun l => (16 * x + y) :: l
def hexV (l : List Nat) : Vl × Int := match hexL l with
 | some m => (⟨5, str m, false, false, ⟨#[]⟩, 0, Mo.nil⟩, 0)
 | none => (zero, 6)
def readS (p : Int) (s : ByteArray) : Vl × Int := if p = 2 then truthV s else if p = 3 then numV (readR (bts s)) else if p = 7 then hexV (bts s) else momV (Mo.readM (p - 3) (bts s))
def readV (p : Int) (t : ByteArray) : Vl × Int :=
 if p < 1 \/ 7 < p then (zero, 2) else if 300 < t.size then (zero, 3) else if wrongI t ≠ -1 then (zero, 6) else if p = 1 then (⟨1, t, false, false, ⟨#[]⟩, 0, Mo.nil⟩, 0) else readS p (str (sqTwo (bts t)))
def bareB (v : Vl) : Bool := (decide (v.k = 1) || decide (v.k = 5) || decide (v.t = ⟨#[]⟩)) && (decide (v.k = 2) || !v.b) && (decide (v.k = 3) || (!v.n && decide (v.s = ⟨#[]⟩) && decide (v.S = 0))) && (decide (v.k = 4) || Ex.valsEq v.m.list Mo.nil.list)
end Lx
end Go.Proofs.YthoojcdjjecogaaGreatDoor
namespace Go.Proofs.YthoojcdjjecogaaGreatDoor
open Go Go.RowKit
def Cutt (m : List Nat) (k : Nat) (p : Bool) (a b : List Nat) : Prop :=
 (p = false /\ k <= (Dc.whole m).length /\ a = m /\ b = []) \/ (p = true /\ a = Dc.whole m /\ b = Dc.part m)
theorem Cutt.next {m : List Nat} {k : Nat} {a b : List Nat} (h : Cutt m k false a b) (hne : m.getD k 0 ≠ 46) (hk : k < m.length) : Cutt m (k + 1) false a b := by
 rcases h with ⟨h1, h2, h3⟩ | ⟨h1, _⟩
 ·refine .inl ⟨rfl, ?_, h3⟩
  rcases Nat.lt_or_ge k (Dc.whole m).length with h | h
  ·exact h
  ·exfalso
   have e : k = (Dc.whole m).length := by omega
   rw [e] at hne hk
   exact hne (Dc.whole_at hk).1
 ·cases h1
theorem Cutt.done {m : List Nat} {k : Nat} {p : Bool} {a b : List Nat} (h : Cutt m k p a b) (hp : p = true \/ k = m.length) : a = Dc.whole m /\ b = Dc.part m := by
 rcases h with ⟨h1, h2, h3, h4⟩ | ⟨_, h⟩
 ·rcases hp with hp | hp
  ·rw [h1] at hp; cases hp
  ·have e := Dc.whole_length m
   obtain ⟨a1, a2⟩ := Dc.whole_all (l := m) (by omega)
   rw [a1, a2]; exact ⟨h3, h4⟩
 ·exact h
namespace Lx
end Lx
theorem readR_num {l m : List Nat} {neg : Bool} (hu : Dc.unsign l = (neg, m)) (ho : onlyL (allL m) = true) : readR l =
  if Lx.frontZ (Dc.whole m ++ Lx.backZ (Dc.part m)) = [] then ⟨false, str [48], 0, 0⟩ else if okB neg (str (Lx.frontZ (Dc.whole m ++ Lx.backZ (Dc.part m)))) ((Lx.backZ (Dc.part m)).length : Int) = true then ⟨neg, str (Lx.frontZ (Dc.whole m ++ Lx.backZ (Dc.part m))), ((Lx.backZ (Dc.part m)).length : Int), 0⟩ else ⟨false, ⟨#[]⟩, 0, 7⟩ := by
 rw [readR_yes hu ho]
 unfold onlyL allL at ho
 obtain ⟨h1, h2⟩ := Lx.dig_append.1 (Bool.and_eq_true _ _ ▸ ho).1
 exact Lx.num_can neg _ _ h1 h2
end Go.Proofs.YthoojcdjjecogaaGreatDoor
namespace Go.Proofs.YthoojcdjjecogaaGreatDoor
open Go Go.RowKit

structure Ch (S : List Nat) (w w' : World) : Prop where
 os : w'.os = w.os
 tape : w'.tape = w.tape
 output : w'.output = w.output
 size : w.heap.size <= w'.heap.size
 block : ∀ k, k < w.heap.size -> k ∉ S -> w'.heap[k]? = w.heap[k]?
theorem Ch.refl (S : List Nat) (w : World) : Ch S w w := ⟨rfl, rfl, rfl, Nat.le_refl _, fun _ _ _ => rfl⟩
theorem Ch.trans {S : List Nat} {a b c : World} (h : Ch S a b) (k : Ch S b c) : Ch S a c :=
 ⟨k.os.trans h.os, k.tape.trans h.tape, k.output.trans h.output, Nat.le_trans h.size k.size, fun i hi hS => (k.block i (Nat.lt_of_lt_of_le hi h.size) hS).trans (h.block i hi hS)⟩
theorem Ch.mono {S T : List Nat} {a b : World} (h : Ch S a b) (hs : ∀ k ∈ S, k ∈ T) : Ch T a b := ⟨h.os, h.tape, h.output, h.size, fun k hk hT => h.block k hk (fun hS => hT (hs k hS))⟩
theorem Ch.ofBelow {S : List Nat} {w w' : World} (h : Below w.heap.size w w') : Ch S w w' := ⟨h.os, h.tape, h.output, h.size, fun k hk _ => h.block k hk⟩
theorem Ch.ofGrown {S : List Nat} {g : Nat} {w w' : World} (h : w.grownBy w' (some g)) (hg : g ∈ S) : Ch S w w' := ⟨h.os, h.tape, h.output, h.size, fun k hk hS => h.block k hk (fun e => by cases e; exact hS hg)⟩
theorem Ch.below {S : List Nat} {B : Nat} {w w' : World} (h : Ch S w w') (hB : B <= w.heap.size) (hS : ∀ k ∈ S, B <= k) : Below B w w' :=
 ⟨h.os, h.tape, h.output, h.size, fun k hk => h.block k (by omega) (fun hm => by have := hS k hm; omega)⟩
theorem Ch.blk {S : List Nat} {w w' : World} {g : Nat} {t : TypeId} {cs : Array Value} (h : Ch S w w') (hb : Blk w g t cs) (hg : g ∉ S) : Blk w' g t cs := (h.block g hb.lt hg).trans hb
theorem Ch.set {S : List Nat} {w w' : World} {g : Nat} (h : Ch S w w') (hg : g ∈ S) (j : Nat) (v : Value) : Ch S w (w'.setCell ⟨g, j, none⟩ v) :=
 h.trans ⟨rfl, rfl, rfl, by simp [World.setCell], fun k _ hS => Below.heap_setCell _ _ _ _ (fun e => hS (by rw [e]; exact hg))⟩
theorem Ch.alloc {S : List Nat} {w w' : World} (h : Ch S w w') (o : Obj) : Ch S w (w'.alloc o) := h.trans (Ch.ofBelow (below_new _ _))
theorem Blk.set {w : World} {g : Nat} {t : TypeId} {cs : Array Value} (hb : Blk w g t cs) (j : Nat) (v : Value) : Blk (w.setCell ⟨g, j, none⟩ v) g t (cs.setIfInBounds j v) := by
 show (w.heap.modify g _)[g]? = _
 have hk := Array.getElem?_eq_some_iff.1 hb
 rw [Array.getElem?_eq_getElem (by rw [Array.size_modify]; exact hk.1), Array.getElem_modify_self, hk.2]
 rfl
theorem Blk.other {w : World} {g h : Nat} {t : TypeId} {cs : Array Value} (hb : Blk w g t cs) (hn : g ≠ h) (j : Nat) (v : Value) : Blk (w.setCell ⟨h, j, none⟩ v) g t cs :=
 (Below.heap_setCell w ⟨h, j, none⟩ v g hn).trans hb
def Left (o : Option (List Nat)) (s : ByteArray) (q : Bool) : Prop := s.size <= 300 /\ match o with
 | some l => q = false /\ bts s = l
 | none => q = true

def RR (w : World) (b : Nat) (s : ByteArray) (q : Bool) : Prop := Blk w b 92 #[.string s, .bool q]
theorem RR.c0 {w : World} {b : Nat} {s : ByteArray} {q : Bool} (h : RR w b s q) : w.cell? ⟨b, 0, none⟩ = some (.string s) := h.at rfl
theorem RR.c1 {w : World} {b : Nat} {s : ByteArray} {q : Bool} (h : RR w b s q) : w.cell? ⟨b, 1, none⟩ = some (.bool q) := h.at rfl
theorem RR.f0 {w : World} {b : Nat} {s : ByteArray} {q : Bool} (h : RR w b s q) (j : Nat) : w.frozen? ⟨b, j, none⟩ = false := Blk.free h j
theorem RR.put {w : World} {b : Nat} {s : ByteArray} {q : Bool} (h : RR w b s q) (t : ByteArray) : RR (w.setCell ⟨b, 0, none⟩ (.string t)) b t q := Blk.set h 0 (.string t)
def RdO (w : World) (b : Nat) (o : Option (List Nat)) : Prop := ∃ s q, RR w b s q /\ Left o s q
theorem RdO.lt {w : World} {b : Nat} {o : Option (List Nat)} (h : RdO w b o) : b < w.heap.size := by
 obtain ⟨s, q, h, _⟩ := h
 exact Blk.lt h
theorem RdO.ch {S : List Nat} {w w' : World} {b : Nat} {o : Option (List Nat)} (h : RdO w b o) (hc : Ch S w w') (hb : b ∉ S) : RdO w' b o := by
 obtain ⟨s, q, h, hl⟩ := h
 exact ⟨s, q, hc.blk h hb, hl⟩
end Go.Proofs.YthoojcdjjecogaaGreatDoor
namespace Go.Proofs.YthoojcdjjecogaaGreatDoor
open Go Go.RowKit
namespace Mo
theorem no {α : Type} {x : α} {P : Prop} (h : none = some x) : P := by cases h
abbrev Ob := Option (List Nat)
def runO (o : Ob) : Ob := o.map runR
end Mo
end Go.Proofs.YthoojcdjjecogaaGreatDoor
namespace Go.Proofs.YthoojcdjjecogaaGreatDoor
open Go Go.RowKit
def sqUpto (l : List Nat) (k : Nat) : List Nat := (l.take k).map sqB ++ l.drop k
theorem sqUpto_length (l : List Nat) (k : Nat) : (sqUpto l k).length = l.length := by
 simp [sqUpto]; omega
theorem sqUpto_get (l : List Nat) (k : Nat) (h : k < l.length) : (sqUpto l k).getD k 0 = l[k] := by
 have h1 : ((l.take k).map sqB).length = k := by simp; omega
 rw [List.getD_eq_getElem?_getD, sqUpto, List.getElem?_append_right (by omega), h1, Nat.sub_self, List.getElem?_drop]
 simp [h]
theorem sqUpto_set (l : List Nat) (k : Nat) (h : k < l.length) : (sqUpto l k).set k (sqB l[k]) = sqUpto l (k + 1) := by
 have h1 : ((l.take k).map sqB).length = k := by simp; omega
 rw [sqUpto, List.set_append_right _ _ (by omega), h1, Nat.sub_self, List.drop_eq_getElem_cons h, List.set_cons_zero, sqUpto, List.take_succ_eq_append_getElem h, List.map_append, List.append_assoc]
 rfl
theorem sqUpto_same (l : List Nat) (k : Nat) (h : k < l.length) (hs : sqB l[k] = l[k]) : sqUpto l (k + 1) = sqUpto l k := by
 rw [sqUpto, sqUpto, List.take_succ_eq_append_getElem h, List.drop_eq_getElem_cons h, List.map_append, List.append_assoc, List.map_cons, List.map_nil, hs]
 rfl
theorem sqUpto_all (l : List Nat) (k : Nat) (h : l.length <= k) : sqUpto l k = l.map sqB := by
 simp [sqUpto, List.take_of_length_le h, List.drop_eq_nil_of_le h]

theorem split_nil (c : UInt8) : Lib.split [] [c] = [[]] := by
 unfold Lib.split
 rw [Lib.count_one]; rfl
theorem split_eq (c : UInt8) (l : List UInt8) : Lib.split (c :: l) [c] = [] :: Lib.split l [c] := by
 have hix : Lib.index (c :: l) [c] = 0 := by rw [Lib.index]; simp [List.isPrefixOf]
 unfold Lib.split
 rw [Lib.count_cons_eq, Nat.add_comm, Lib.splitK, hix]
 simp
theorem split_ne (b c : UInt8) (l : List UInt8) (h : b ≠ c) (w0 : List UInt8) (rest : List (List UInt8)) (hs : Lib.split l [c] = w0 :: rest) : Lib.split (b :: l) [c] = (b :: w0) :: rest := by
 have hp : ([c] : List UInt8).isPrefixOf (b :: l) = false := by simp [List.isPrefixOf, Ne.symm h]
 have hix : Lib.index (b :: l) [c] = if Lib.index l [c] == -1 then -1 else Lib.index l [c] + 1 := by rw [Lib.index, hp]; simp
 by_cases hm : Lib.index l [c] = -1
 ·unfold Lib.split at hs ⊢
  rw [Lib.count_cons_ne b c l h]
  rw [Lib.count_miss hm] at hs ⊢
  simp only [Lib.splitK, List.cons.injEq] at hs ⊢
  exact ⟨⟨trivial, hs.1⟩, hs.2⟩
 ·have hge := Lib.index_ge l [c]
  obtain ⟨j, hj⟩ : ∃ j : Nat, Lib.index l [c] = j := ⟨(Lib.index l [c]).toNat, by omega⟩
  have hix' : Lib.index (b :: l) [c] = ((j + 1 : Nat) : Int) := by rw [hix, if_neg (fun e => hm (beq_iff_eq.1 e)), hj]; omega
  unfold Lib.split at hs ⊢
  rw [Lib.count_cons_ne b c l h]
  rw [Lib.count_hit (by simp) hj, Nat.add_comm, Lib.splitK, if_neg (by rw [hj]; simp), hj] at hs
  rw [Lib.count_hit (by simp) hj, Nat.add_comm, Lib.splitK, if_neg (by rw [hix']; simp; omega), hix']
  simp only [List.cons.injEq] at hs
  obtain ⟨h1, h2⟩ := hs
  simp only [Int.toNat_natCast, Nat.add_zero, List.length_cons, List.length_nil, Nat.zero_add] at h1 h2 ⊢
  rw [List.take_succ_cons, List.drop_succ_cons, h1, h2]

def sqF : Bool -> List UInt8 -> List UInt8
 | _, [] => []
 | true, c :: l => if c = 32 then sqF true l else c :: sqF false l
 | false, c :: l => if c = 32 then c :: sqF true l else c :: sqF false l
def trail (l : List UInt8) : List UInt8 := if l.getLast? = some 32 then l.dropLast else l
def full (ws : List (List UInt8)) : List (List UInt8) := ws.filter fun w => !w.isEmpty

theorem trail_cons (c : UInt8) (l : List UInt8) (h : c ≠ 32 \/ l ≠ []) : trail (c :: l) = c :: trail l := by
 unfold trail
 cases l with
 | nil =>
  have : c ≠ 32 := h.elim id (fun h => absurd rfl h)
  simp [this]
 | cons d l =>
  rw [List.getLast?_cons_cons]
  split
  ·rw [List.dropLast_cons_cons]
  ·rfl
theorem sqF_words (l : List UInt8) : trail (sqF true l) = Lib.join (full (Lib.split l [32])) [32] /\ (sqF true l = [] ↔ full (Lib.split l [32]) = []) /\
  ∃ w0 rest, Lib.split l [32] = w0 :: rest /\ trail (sqF false l) = w0 ++ Lib.joinTail [32] (full rest) := by
 induction l with
 | nil => exact ⟨by rw [split_nil]; rfl, by rw [split_nil]; exact ⟨fun _ => rfl, fun _ => rfl⟩, [], [], split_nil 32, rfl⟩
 | cons c l ih =>
  obtain ⟨iT, i0, w0, rest, hs, iF⟩ := ih
  by_cases hc : c = 32
  ·subst hc
   have e1 : full (Lib.split (32 :: l) [32]) = full (Lib.split l [32]) := by rw [split_eq]; rfl
   refine ⟨by rw [e1]; simpa [sqF] using iT, by rw [e1]; simpa [sqF] using i0, [], Lib.split l [32], split_eq 32 l, ?_⟩
   have e2 : sqF false (32 :: l) = 32 :: sqF true l := by simp [sqF]
   rw [e2, List.nil_append]
   by_cases hn : sqF true l = []
   ·rw [hn, i0.1 hn]; rfl
   ·rw [trail_cons _ _ (.inr hn), iT]
    cases hf : full (Lib.split l [32]) with
    | nil => exact absurd (i0.2 hf) hn
    | cons x r => rw [Lib.join_cons]; simp [Lib.joinTail]
  ·have hs2 := split_ne c 32 l hc w0 rest hs
   have e1 : full ((c :: w0) :: rest) = (c :: w0) :: full rest := rfl
   have e2 : ∀ b, sqF b (c :: l) = c :: sqF false l := fun b => by cases b <;> simp [sqF, hc]
   refine ⟨?_, ?_, c :: w0, rest, hs2, ?_⟩
   ·rw [e2, hs2, e1, Lib.join_cons, trail_cons _ _ (.inl hc), iF]; rfl
   ·rw [e2, hs2, e1]; simp
   ·rw [e2, trail_cons _ _ (.inl hc), iF]; rfl

theorem sqRow_eq (l : List Nat) (hl : ∀ c ∈ l, c < 256) : ∀ out : List Nat, (∀ c ∈ out, c < 256) ->
  (l.foldl sqStep out).map UInt8.ofNat = out.map UInt8.ofNat ++ sqF (decide (out = [] \/ out.getLast? = some 32)) ((l.map sqB).map UInt8.ofNat) := by
 induction l with
 | nil => intro out _; simp [sqF]
 | cons c l ih =>
  intro out ho
  have hc := hl c (by simp)
  have hb := sqB_lt hc
  have ih' := ih (fun d hd => hl d (by simp [hd]))
  have h32 : UInt8.ofNat (sqB c) = 32 ↔ sqB c = 32 := by
   constructor
   ·intro h
    have := congrArg UInt8.toNat h
    simpa [Nat.mod_eq_of_lt hb] using this
   ·intro h; rw [h]; rfl
  rw [List.foldl_cons, List.map_cons, List.map_cons]
  by_cases hx : sqB c = 32
  ·by_cases hf : out = [] \/ out.getLast? = some 32
   ·have e : sqStep out c = out := by rw [sqStep, if_pos ⟨hx, hf⟩]
    rw [e, ih' out ho, decide_eq_true hf, sqF, if_pos (h32.2 hx)]
   ·have e : sqStep out c = out ++ [sqB c] := by rw [sqStep, if_neg (fun h => hf h.2)]
    have hf2 : (out ++ [sqB c] = [] \/ (out ++ [sqB c]).getLast? = some 32) := .inr (by simp [hx])
    rw [e, ih' _ (by simpa using fun d hd => hd.elim (ho d) (fun h => h ▸ hb)), decide_eq_true hf2, decide_eq_false hf, sqF, if_pos (h32.2 hx)]
    simp
  ·have e : sqStep out c = out ++ [sqB c] := by rw [sqStep, if_neg (fun h => hx h.1)]
   have hf2 : ¬ (out ++ [sqB c] = [] \/ (out ++ [sqB c]).getLast? = some 32) := by simp [hx]
   rw [e, ih' _ (by simpa using fun d hd => hd.elim (ho d) (fun h => h ▸ hb)), decide_eq_false hf2]
   cases decide (out = [] \/ out.getLast? = some 32) <;> simp [sqF, h32, hx]
theorem sqRow_lt (l : List Nat) (hl : ∀ c ∈ l, c < 256) : ∀ c ∈ sqRow l, c < 256 := by
 have : ∀ (l : List Nat), (∀ c ∈ l, c < 256) -> ∀ out : List Nat, (∀ c ∈ out, c < 256) -> ∀ c ∈ l.foldl sqStep out, c < 256 := by
  intro l
  induction l with
  | nil => intro _ out ho; exact ho
  | cons d l ih =>
   intro hl out ho
   refine ih (fun c hc => hl c (by simp [hc])) _ ?_
   unfold sqStep
   split
   ·exact ho
   ·intro c hc
    rcases List.mem_append.1 hc with h | h
    ·exact ho c h
    ·rw [List.mem_singleton.1 h]; exact sqB_lt (hl d (by simp))
 exact this l hl [] (by simp)
theorem sqTwo_eq (l : List Nat) (hl : ∀ c ∈ l, c < 256) : (sqTwo l).map UInt8.ofNat = Lib.join (full (Lib.split ((l.map sqB).map UInt8.ofNat) [32])) [32] := by
 rw [<- (sqF_words _).1]
 have h := sqRow_eq l hl [] (by simp)
 simp only [List.map_nil, List.nil_append, true_or, decide_true] at h
 rw [<- h]
 have hlt := sqRow_lt l hl
 unfold sqTwo trail
 have e : ((List.foldl sqStep [] l).map UInt8.ofNat).getLast? = some 32 ↔ (sqRow l).getLast? = some 32 := by
  rw [List.getLast?_map]
  show Option.map UInt8.ofNat (sqRow l).getLast? = some 32 ↔ _
  cases hg : (sqRow l).getLast? with
  | none => simp
  | some c =>
   have hc := hlt c (List.mem_of_getLast? hg)
   simp only [Option.map_some, Option.some.injEq]
   constructor
   ·intro h
    have := congrArg UInt8.toNat h
    simpa [Nat.mod_eq_of_lt hc] using this
   ·intro h; rw [h]; rfl
 by_cases hg : (sqRow l).getLast? = some 32
 ·rw [if_pos hg, if_pos (e.2 hg), List.map_dropLast]; rfl
 ·rw [if_neg hg, if_neg (fun h => hg (e.1 h))]; rfl

theorem Tryz.info9 : (Tryz.prog.info? 9).map (fun i => (i.zero, i.size, i.bytes)) = some (some (.string ⟨#[]⟩), 1, 16) := by kernel_rfl

theorem f42_any (t : ByteArray) (ht : t.size <= 1000000) (m : Int) (w : World) (hm : w.cell? ⟨2, 0, none⟩ = some (.int .i64 m)) : Calls Tryz.prog 50 #[.string t, .string ⟨#[32]⟩] w fun e w' =>
  ∃ (B : Nat) (xs : List ByteArray), e = .returned (.slice (some ⟨B, 0, none⟩) xs.length xs.length) /\ B = w.heap.size /\ w'.heap.size = w.heap.size + 1 /\ xs.length <= t.size + 1 /\ xs.map (·.data.toList) = Lib.split t.data.toList [32] /\
   (∀ (j : Nat) x, xs[j]? = some x -> w'.cell? ⟨B, j, none⟩ = some (.string x)) /\ Below w.heap.size w w' := by
 refine (Tryz.strings_Split t ⟨#[32]⟩ m w (by omega) hm (by decide)).mono ?_
 rintro e w' ⟨rfl, rfl⟩
 have h1 := Lib.splitB_all ⟨#[32]⟩ (by decide) 0 (Lib.countB t ⟨#[32]⟩) t rfl
 have h2 := Lib.countB_le ⟨#[32]⟩ (by decide) t.size t (Nat.le_refl _)
 refine ⟨w.heap.size, Lib.splitB ⟨#[32]⟩ 0 (Lib.countB t ⟨#[32]⟩) t, by rw [h1], rfl, by simp, by omega, Lib.splitB_data _ _ _ _, fun j x hx => ?_, (Below.refl _ _).alloc (Nat.le_refl _) _⟩
 have := World.alloc_heap_new w (.cells ((Lib.splitB ⟨#[32]⟩ 0 (Lib.countB t ⟨#[32]⟩) t).map Value.string).toArray 9)
 rw [World.cell?, this]
 simp [hx]

theorem own_strings {W : World} {B n : Nat} {v : Value} {ws : List ByteArray} (h : W.ownsRow B 9 1 v n (ws.map Value.string)) (hne : n ≠ 0) :
  ∃ g cap, v = .slice (some ⟨g, 0, none⟩) n cap /\ n <= cap /\ g < W.heap.size /\ ∀ (j : Nat) x, ws[j]? = some x -> W.cell? ⟨g, 0 + j, none⟩ = some (.string x) := by
 obtain ⟨hl, ⟨_, h0⟩ | ⟨g, cap, cur, rfl, _, hg, hn, hc, hz, ht⟩⟩ := h
 ·exact absurd h0 hne
 ·refine ⟨g, cap, rfl, hn, (Array.getElem?_eq_some_iff.1 hg).1, fun j x hx => ?_⟩
  have hj : j < n := by
   have := (List.getElem?_eq_some_iff.1 hx).1
   rw [List.length_map] at hl; omega
  have e : (cur.toList.take (n * 1))[j]? = cur.toList[j]? := List.getElem?_take_of_lt (by omega)
  rw [ht, List.getElem?_map, hx] at e
  have e2 : cur[j]? = some (Value.string x) := by
   rw [<- Array.getElem?_toList, <- e]; rfl
  simp [World.cell?, hg, e2]

theorem f43_any (ws : List ByteArray) (v : Value) (B : Nat) (w : World) (hw : ws.length <= 1000001) (hlen : (Lib.join (ws.map (·.data.toList)) [32]).length <= 140737488355328) (h : w.ownsRow B 9 1 v ws.length (ws.map Value.string)) :
  Calls Tryz.prog 51 #[v, .string ⟨#[32]⟩] w fun e w' => (∃ bs : ByteArray, e = .returned (.string bs) /\ bs = ⟨(Lib.join (ws.map (·.data.toList)) [32]).toArray⟩) /\ Below w.heap.size w w' := by
 by_cases hz : ws.length = 0
 ·have hn : ws = [] := List.length_eq_zero_iff.1 hz
  subst hn
  obtain ⟨a, cap, rfl⟩ := row_slice h
  refine (Tryz.strings_Join_none a cap ⟨#[32]⟩ w).mono ?_
  rintro e w' ⟨rfl, rfl⟩
  exact ⟨⟨_, rfl, rfl⟩, Below.refl _ _⟩
 ·obtain ⟨g, cap, rfl, hcap, hg, hc⟩ := own_strings h hz
  refine (Tryz.strings_Join g 0 cap ws ⟨#[32]⟩ w hc hg (by omega) hcap hlen).mono ?_
  rintro e w' ⟨rfl, hb⟩
  exact ⟨⟨_, rfl, rfl⟩, hb⟩

def fullB (xs : List ByteArray) : List ByteArray := xs.filter fun x => !decide (x.size = 0)
theorem fullB_data (xs : List ByteArray) : (fullB xs).map (·.data.toList) = full (xs.map (·.data.toList)) := by
 induction xs with
 | nil => rfl
 | cons x xs ih =>
  have e : (x.data.toList).isEmpty = decide (x.size = 0) := by
   have : x.size = x.data.toList.length := rfl
   rw [this]
   cases x.data.toList <;> simp
  simp only [fullB, full, List.filter_cons, List.map_cons, e] at ih ⊢
  split
  ·rw [List.map_cons, ih]
  ·exact ih
theorem fullB_succ (xs : List ByteArray) (k : Nat) (h : k < xs.length) : fullB (xs.take (k + 1)) = if xs[k].size = 0 then fullB (xs.take k) else fullB (xs.take k) ++ [xs[k]] := by
 have e : fullB (xs.take (k + 1)) = fullB (xs.take k) ++ fullB [xs[k]] := by rw [List.take_succ_eq_append_getElem h, fullB, List.filter_append]; rfl
 rw [e]
 by_cases h0 : xs[k].size = 0
 ·have e2 : fullB [xs[k]] = [] := by rw [fullB, List.filter_cons, decide_eq_true h0]; rfl
  rw [if_pos h0, e2, List.append_nil]
 ·have e2 : fullB [xs[k]] = [xs[k]] := by rw [fullB, List.filter_cons, decide_eq_false h0]; rfl
  rw [if_neg h0, e2]
theorem sqTwo_length (s : ByteArray) : (sqTwo (bts s)).length <= s.size := by
 have := sqRow_length (bts s)
 rw [bts_length] at this
 unfold sqTwo
 split
 ·rw [List.length_dropLast]; omega
 ·exact this
theorem f22_2 (s : ByteArray) (hs : s.size <= 150000) (w : World) (hG : Rng w) (m : Int) (hm : w.cell? ⟨2, 0, none⟩ = some (.int .i64 m)) (hw : wrongI s = -1) : Calls Tryz.prog 25 #[.string s, .int .i64 2] w fun e w' =>
  e = .returned (.tuple #[.string (str (sqTwo (bts s))), .int .i64 0]) /\ Below w.heap.size w w' := by
 obtain ⟨i9, hi, hz0, hz1, hz2⟩ := info_parts Tryz.info9
 have hd : decide (0 <= wrongI s) = false := decide_eq_false (by omega)
 have h2w : 2 < w.heap.size := by
  rcases Nat.lt_or_ge 2 w.heap.size with h | h
  ·exact h
  ·rw [World.cell?, Array.getElem?_eq_none h] at hm; cases hm
 clear hw
 go_enter Tryz.func25, Tryz.ntmps25
 go_wp2_with (go_at_call 48; refine (f31_any s (by unfold maxLen; omega) _ hG).mono ?_; rintro e w0 ⟨rfl, hb0⟩; obtain ⟨cap, w1, hcv, hrow, hb1⟩ := bytes_row w0 s)
 go_loopw [31] (fun i wr => ∃ k : Nat, k <= s.size /\ i = .int .i64 k /\ Row8 wr w0.heap.size cap (sqUpto (bts s) k) /\ Below w.heap.size w wr) (fun i _ => s.size - (intOf i).toNat)
 case atStart => exact ⟨0, Nat.zero_le _, rfl, hrow, hb0.trans (hb1.mono hb0.size)⟩
 case round =>
  obtain ⟨k, hk, rfl, hr, hB⟩ := hrel
  by_cases hlt : k < s.size
  ·have hlb : k < (bts s).length := by rw [bts_length]; exact hlt
   obtain ⟨c, hc⟩ : ∃ c, (bts s)[k]'hlb = c := ⟨_, rfl⟩
   have hwr : wrap32 (c : Int) = (c : Int) := by have := (s[k]'hlt).toNat_lt; rw [<- bts_get s k hlt, hc] at this; unfold wrap32; omega
   have hcell := hr.at (j := k) (by rw [sqUpto_length]; exact hlb)
   rw [sqUpto_get _ _ hlb, hc] at hcell
   have hfz := hr.open (j := k) (by rw [sqUpto_length]; exact hlb)
   cases hbl : Ch.blank (c : Int) with
   | true =>
    have e1 : Hid (Row8 (wr.setCell ⟨w0.heap.size, k, none⟩ (.int .u8 32)) w0.heap.size cap (sqUpto (bts s) (k + 1))) := Lib.hid (by
     have := hr.put k 32
     have e : sqB ((bts s)[k]'hlb) = 32 := by rw [hc]; simp [sqB, hbl]
     rw [<- e, sqUpto_set _ _ hlb] at this
     rw [e] at this
     exact this)
    have HBL : Hid _ := Lib.hid hbl
    clear hbl hc
    go_wp2_with (go_at_call 49; refine (f10_any _ _).mono ?_; rintro e w3 ⟨rfl, rfl⟩; rw [HBL.out])
    go_roundw
    case rel => exact ⟨k + 1, by omega, by simp, e1.out, hB.setCell (p := ⟨w0.heap.size, k, none⟩) hb0.size _⟩
    case measure => simp [intOf]; omega
   | false =>
    have e1 : Hid (Row8 wr w0.heap.size cap (sqUpto (bts s) (k + 1))) := Lib.hid (by
     have e : sqB ((bts s)[k]'hlb) = (bts s)[k]'hlb := by rw [hc]; simp [sqB, hbl]
     rw [sqUpto_same _ _ hlb e]; exact hr)
    have HBL : Hid _ := Lib.hid hbl
    clear hbl hc
    go_wp2_with (go_at_call 49; refine (f10_any _ _).mono ?_; rintro e w3 ⟨rfl, rfl⟩; rw [HBL.out])
    go_roundw
    case rel => exact ⟨k + 1, by omega, by simp, e1.out, hB⟩
    case measure => simp [intOf]; omega
  ·have hcv2 := hr.str
   rw [sqUpto_length, bts_length, sqUpto_all _ _ (by rw [bts_length]; omega)] at hcv2
   obtain ⟨t, ht⟩ : ∃ t, str ((bts s).map sqB) = t := ⟨_, rfl⟩
   have hts : t.size <= 150000 := by rw [<- ht, str_size, List.length_map, bts_length]; exact hs
   have htd : Hid (t.data.toList = ((bts s).map sqB).map UInt8.ofNat) := Lib.hid (by rw [<- ht]; simp [str])
   rw [ht] at hcv2
   have hm1 : wr.cell? ⟨2, 0, none⟩ = some (.int .i64 m) := by
    rw [World.cell?, hB.block 2 h2w]; exact hm
   clear hcv ht
   go_wp2_with (go_at_call 50; refine (f42_any t (by omega) m _ hm1).mono ?_; rintro e w4 ⟨B2, xs, rfl, hB2, hs4, hxl, hxs, hcs, hb4⟩; have HXS : Hid _ := Lib.hid hxs; clear hxs; have HCS : Hid _ := Lib.hid hcs; clear hcs; have hb2 : B2 < w4.heap.size /\ w.heap.size <= B2 := ⟨by omega, by rw [hB2]; exact hB.size⟩; obtain ⟨hb2a, hb2b⟩ := hb2; clear hB2 hs4)
   go_loopw [9, 51] (fun v i wr => ∃ (k : Nat) (ws : List ByteArray), k <= xs.length /\ i = .int .i64 k /\ ws.length <= k /\ Hid (ws = fullB (xs.take k)) /\ wr.ownsRow (B2 + 1) 9 1 v ws.length (ws.map Value.string) /\ Hid (∀ (j : Nat) x, xs[j]? = some x -> wr.cell? ⟨B2, j, none⟩ = some (.string x)) /\ B2 < wr.heap.size /\ Below w.heap.size w wr) (fun _ i _ => xs.length - (intOf i).toNat)
   case atStart => exact ⟨0, [], Nat.zero_le _, rfl, by simp, Lib.hid rfl, ⟨rfl, .inl ⟨rfl, rfl⟩⟩, HCS, hb2a, hB.trans (hb4.mono hB.size)⟩
   case round =>
    obtain ⟨j, ws, hj, rfl, hwj, hws, hown, hcells, hlt2, hB5⟩ := hrel
    by_cases hjl : j < xs.length
    ·obtain ⟨x, hx⟩ : ∃ x, xs[j]'hjl = x := ⟨_, rfl⟩
     have hsucc := fullB_succ xs j hjl
     rw [hx, <- hws.out] at hsucc
     have hcell := hcells.out j x (by rw [List.getElem?_eq_getElem hjl, hx])
     by_cases h0 : x.size = 0
     ·rw [if_pos h0] at hsucc
      have he := isEmpty_yes h0
      have HS : Hid _ := Lib.hid hsucc
      clear hsucc h0 hx hws
      go_wp2
      go_roundw
      case rel => exact ⟨j + 1, ws, by omega, by simp, by omega, Lib.hid HS.out.symm, hown, hcells, hlt2, hB5⟩
      case measure => simp [intOf]; omega
     ·rw [if_neg h0] at hsucc
      have he := isEmpty_no (Nat.pos_of_ne_zero h0)
      have HS : Hid _ := Lib.hid hsucc
      clear hsucc h0 hx hws
      go_wp2_with (at_builtin; go_must (refine wpList_append_own _ rfl _ _ 81 rfl (B2 + 1) 9 i9 (.string ⟨#[]⟩) 1 16 Tryz.underlying81 hi hz0 hz1 hz2 rfl (by decide) _ ws.length (ws.map Value.string) rfl (hown.alloc _) ⟨wr.heap.size, 0, none⟩ 1 1 [.string x] rfl rfl (cell_one_new _ _ _) (by simp [Value.oneCell']) (by unfold maxLen; omega) (by omega) (by simp; omega) ?_); intro v' w2 hown2 hgrow _)
      go_roundw
      case rel =>
       have hgr := grownBy_alloc hgrow
       have hne : some B2 ≠ u9.ownBlock := row_ge hown B2 (by omega)
       refine ⟨j + 1, ws ++ [x], by omega, by simp, by simp; omega, Lib.hid HS.out.symm, by rw [List.length_append, List.map_append]; exact hown2, Lib.hid (fun i y hy => ?_), ?_, ?_⟩
       ·rw [World.cell?, hgr.block B2 hlt2 hne]; exact hcells.out i y hy
       ·exact Nat.lt_of_lt_of_le hlt2 hgr.size
       ·exact hB5.grown hgr hB5.size (fun i e => (Nat.lt_or_ge i (B2 + 1)).elim (fun hi => absurd e.symm (row_ge hown i hi)) (fun h => by omega))
      case measure => simp [intOf]; omega
    ·have hall : fullB (xs.take j) = fullB xs := by rw [List.take_of_length_le (by omega)]
     have hfin : Lib.join (ws.map (·.data.toList)) [32] = (sqTwo (bts s)).map UInt8.ofNat := by
      rw [sqTwo_eq _ (bts_lt s), <- htd.out, <- HXS.out, <- fullB_data, <- hall, <- hws.out]
     have hlen : (Lib.join (ws.map (·.data.toList)) [32]).length <= 140737488355328 := by
      rw [hfin, List.length_map]; have := sqTwo_length s; omega
     have HF : Hid (∀ bs : ByteArray, bs = ⟨(Lib.join (ws.map (·.data.toList)) [32]).toArray⟩ -> bs = str (sqTwo (bts s))) := Lib.hid (fun bs h => by rw [h, hfin]; rfl)
     clear hall hfin
     go_wp2_with (go_at_call 51; refine (f43_any ws _ (B2 + 1) _ (by omega) hlen hown).mono ?_; rintro e w6 ⟨⟨bs, rfl, hbs⟩, hb6⟩; have HB : Hid _ := Lib.hid hbs; clear hbs)
     go_ret2
     go_light
     exact ⟨by rw [HF.out bs HB.out]; rfl, hB5.trans (hb6.mono hB5.size)⟩
end Go.Proofs.YthoojcdjjecogaaGreatDoor
