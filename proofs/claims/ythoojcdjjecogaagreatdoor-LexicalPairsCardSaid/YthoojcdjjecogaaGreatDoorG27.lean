/-
  Part 27 of the proof: what functions return, and plain facts (Mprp). Conditions: each theorem names its own.
-/
import Derived.Test.YthoojcdjjecogaaGreatDoorG26
import Derived.StillTailTactics
set_option maxRecDepth 1000000
set_option maxHeartbeats 16000000
namespace Go.Proofs.YthoojcdjjecogaaGreatDoor
open Go Go.RowKit
structure PD (w : World) (p r m : Nat) (s : ByteArray) (x : Mo) : Prop where
 rd : RP w p r s
 mo : Blk w m 26 x.list.toArray
 mr : m ≠ r
 mp : m ≠ p
section
variable {w w' : World} {p r m : Nat} {s t : ByteArray} {x y : Mo}
theorem PD.call (h : PD w p r m s x) (hc : Ch [r] w w') (hr : RP w' p r t) : PD w' p r m t x := ⟨hr, hc.blk h.mo (by have := h.mr; simp; omega), h.mr, h.mp⟩
theorem PD.store (h : PD w p r m s x) (hb : Blk w' m 26 y.list.toArray) (hg : w.grownBy w' (some m)) : PD w' p r m s y :=
 ⟨h.rd.ch (Ch.ofGrown (S := [m]) hg (by simp)) (by have := h.mp; simp; omega) (by have := h.mr; simp; omega), hb, h.mr, h.mp⟩
theorem PD.ch {S : List Nat} (h : PD w p r m s x) (hc : Ch S w w') (h1 : p ∉ S) (h2 : r ∉ S) (h3 : m ∉ S) : PD w' p r m s x := ⟨h.rd.ch hc h1 h2, hc.blk h.mo h3, h.mr, h.mp⟩
end
end Go.Proofs.YthoojcdjjecogaaGreatDoor
