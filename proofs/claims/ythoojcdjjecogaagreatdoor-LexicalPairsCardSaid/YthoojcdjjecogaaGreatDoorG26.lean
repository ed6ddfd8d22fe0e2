/-
  Part 26 of the proof: what functions return, and plain facts (Mprd). Conditions: each theorem names its own.
-/
import Derived.Test.YthoojcdjjecogaaGreatDoorG25
import Derived.Lib.Atoi
set_option maxRecDepth 1000000
set_option maxHeartbeats 16000000
namespace Go.Proofs.YthoojcdjjecogaaGreatDoor
open Go Go.RowKit

structure RP (w : World) (p r : Nat) (s : ByteArray) : Prop where
 v : Blk w p 240 #[.pointer (some ⟨r, 0, none⟩)]
 b : Blk w r 246 #[.string s, .func (.func 247) #[] #[.pointer (some ⟨p, 0, none⟩)]]
 ne : p ≠ r
section
variable {w w' : World} {p r : Nat} {s : ByteArray}
theorem RP.v0 (h : RP w p r s) : w.cell? ⟨p, 0, none⟩ = some (.pointer (some ⟨r, 0, none⟩)) := h.v.at rfl
theorem RP.c0 (h : RP w p r s) : w.cell? ⟨r, 0, none⟩ = some (.string s) := h.b.at rfl
theorem RP.c1 (h : RP w p r s) : w.cell? ⟨r, 1, none⟩ = some (.func (.func 247) #[] #[.pointer (some ⟨p, 0, none⟩)]) := h.b.at rfl
theorem RP.f0 (h : RP w p r s) (j : Nat) : w.frozen? ⟨r, j, none⟩ = false := h.b.free j
theorem RP.put (h : RP w p r s) (t : ByteArray) : RP (w.setCell ⟨r, 0, none⟩ (.string t)) p r t := ⟨h.v.other h.ne 0 _, h.b.set 0 (.string t), h.ne⟩
theorem RP.keep (h : RP w p r s) (hb : Below w.heap.size w w') : RP w' p r s := ⟨h.v.keep hb, h.b.keep hb, h.ne⟩
theorem RP.ch {S : List Nat} (h : RP w p r s) (hc : Ch S w w') (h1 : p ∉ S) (h2 : r ∉ S) : RP w' p r s := ⟨hc.blk h.v h1, hc.blk h.b h2, h.ne⟩
end
end Go.Proofs.YthoojcdjjecogaaGreatDoor
