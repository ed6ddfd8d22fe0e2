/-
  Part 34 of the proof: what functions return, and plain facts (Mrread). Conditions: each theorem names its own.
-/
import Derived.Test.YthoojcdjjecogaaGreatDoorG25
import Derived.Test.YthoojcdjjecogaaGreatDoorG16
import Derived.Test.YthoojcdjjecogaaGreatDoorG24
set_option maxRecDepth 1000000
set_option maxHeartbeats 16000000
namespace Go.Proofs.YthoojcdjjecogaaGreatDoor
open Go Go.RowKit
structure SD (w0 w : World) (r m : Nat) (x : Mo) (o : Mo.Ob) : Prop where
 res : Blk w w0.heap.size 26 Mo.nil.list.toArray
 rd : RdO w r o
 mo : Blk w m 26 x.list.toArray
 lo : w0.heap.size < r
 rm : r < m
 bel : Below w0.heap.size w0 w
section
variable {w0 w w' : World} {r m : Nat} {x y : Mo} {o o' : Mo.Ob}
theorem SD.call (h : SD w0 w r m x o) (hc : Ch [r] w w') (hr : RdO w' r o') : SD w0 w' r m x o' :=
 ⟨hc.blk h.res (by have := h.lo; simp; omega), hr, hc.blk h.mo (by have := h.rm; simp; omega), h.lo, h.rm, h.bel.trans (hc.below h.bel.size (fun k hk => by have := h.lo; simp at hk; omega))⟩
theorem SD.store (h : SD w0 w r m x o) (hb : Blk w' m 26 y.list.toArray) (hg : w.grownBy w' (some m)) : SD w0 w' r m y o :=
 ⟨h.res.far hg (by have := h.lo; have := h.rm; omega), h.rd.ch (Ch.ofGrown (S := [m]) hg (by simp)) (by have := h.rm; simp; omega), hb, h.lo, h.rm, below_far h.bel h.bel.size (by have := h.lo; have := h.rm; omega) hg⟩
end
theorem SD.as {w0 w : World} {r m : Nat} {x : Mo} {o o' : Mo.Ob} (h : SD w0 w r m x o) (e : o = o') : SD w0 w r m x o' := e ▸ h
namespace Mo
theorem run_split {l : List Nat} {j : Nat} (h1 : (l.take j).all Dc.dig = true) (h2 : ∀ c r, l.drop j = c :: r -> Dc.dig c = false) : runD l = l.take j /\ runR l = l.drop j := by
 have h : ∀ c ∈ l.take j, Dc.dig c = true := List.all_eq_true.1 h1
 have e : l = l.take j ++ l.drop j := (List.take_append_drop j l).symm
 have a : (l.drop j).takeWhile Dc.dig = [] /\ (l.drop j).dropWhile Dc.dig = l.drop j := by
  cases hd : l.drop j with
  | nil => exact ⟨rfl, rfl⟩
  | cons c r => simp [h2 c r hd]
 unfold runD runR
 constructor
 ·conv => lhs; rw [e]
  rw [List.takeWhile_append_of_pos h, a.1, List.append_nil]
 ·conv => lhs; rw [e]
  rw [List.dropWhile_append_of_pos h, a.2]
end Mo
end Go.Proofs.YthoojcdjjecogaaGreatDoor
