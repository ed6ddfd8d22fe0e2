/-
  Part 30 of the proof: what functions return, and plain facts (Mrread). Conditions: each theorem names its own.
-/
import Derived.Test.YthoojcdjjecogaaGreatDoorG21
import Derived.Test.YthoojcdjjecogaaGreatDoorG13
import Derived.Test.YthoojcdjjecogaaGreatDoorG20
set_option maxRecDepth 1000000
set_option maxHeartbeats 16000000
namespace Go.Proofs.YthoojcdjjecogaaGreatDoor
open Go Go.RowKit

theorem zero_mo : (Tryz.prog.info? 26).bind (·.zero) = some (.agg Mo.nil.list.toArray) := by kernel_rfl
structure SD (w0 w : World) (r m : Nat) (x : Mo) (o : Mo.Ob) : Prop where
 res : Blk w w0.heap.size 26 Mo.nil.list.toArray
 rd : RdO w r o
 mo : Blk w m 26 x.list.toArray
 lo : w0.heap.size < r
 rm : r < m
 bel : Below w0.heap.size w0 w
section
variable {w0 w w' : World} {r m : Nat} {x y : Mo} {o o' : Mo.Ob}
theorem SD.call (h : SD w0 w r m x o) (hc : Ch [r] w w') (hr : RdO w' r o') : SD w0 w' r m x o' :=
 ⟨hc.blk h.res (by have := h.lo; simp; omega), hr, hc.blk h.mo (by have := h.rm; simp; omega), h.lo, h.rm, h.bel.trans (hc.below h.bel.size (fun k hk => by have := h.lo; simp at hk; omega))⟩
theorem SD.store (h : SD w0 w r m x o) (hb : Blk w' m 26 y.list.toArray) (hg : w.grownBy w' (some m)) : SD w0 w' r m y o :=
 ⟨h.res.far hg (by have := h.lo; have := h.rm; omega), h.rd.ch (Ch.ofGrown (S := [m]) hg (by simp)) (by have := h.rm; simp; omega), hb, h.lo, h.rm, below_far h.bel h.bel.size (by have := h.lo; have := h.rm; omega) hg⟩
theorem SD.pass (h : SD w0 w r m x o) (hb : Below w.heap.size w w') : SD w0 w' r m x o :=
 ⟨h.res.keep hb, h.rd.ch (Ch.ofBelow (S := []) hb) (by simp), h.mo.keep hb, h.lo, h.rm, below_step h.bel hb⟩
end
theorem SD.as {w0 w : World} {r m : Nat} {x : Mo} {o o' : Mo.Ob} (h : SD w0 w r m x o) (e : o = o') : SD w0 w r m x o' := e ▸ h
theorem readR_small {l : List Nat} {r : Res} (h : readR l = r) : r.s.size <= 1000000 := by
 rw [<- h]
 unfold readR
 cases hd : Dc.readD l with
 | none => exact Nat.zero_le _
 | some o =>
  unfold Dc.readD at hd
  split at hd
  ·cases hd
   show (resOf _).s.size <= _
   cases hc : Dc.can (Dc.unsign l).1 (Dc.val (Dc.whole (Dc.unsign l).2 ++ Dc.part (Dc.unsign l).2)) (Dc.part (Dc.unsign l).2).length with
   | none => exact Nat.zero_le _
   | some a =>
    obtain ⟨n, v, S⟩ := a
    have := (Dc.can_is hc).1.1
    show (str (Dc.digs v)).size <= _
    rw [str_size]; omega
  ·cases hd
namespace Mo
end Mo
end Go.Proofs.YthoojcdjjecogaaGreatDoor
