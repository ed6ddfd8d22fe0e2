/-
  Part 15 of the proof: what functions return, and plain facts (Mrsplit). Conditions: each theorem names its own.
-/
import Derived.Test.YthoojcdjjecogaaGreatDoorG14
set_option maxRecDepth 1000000
set_option maxHeartbeats 16000000
namespace Go.Proofs.YthoojcdjjecogaaGreatDoor
open Go Go.RowKit Go.Ex
theorem byte_gb (s : ByteArray) (j : Nat) : (s.data.getD j 0).toNat = gb s j := by
 unfold gb bts
 rw [List.getD_eq_getElem?_getD, List.getElem?_map, Array.getD_eq_getD_getElem?, Array.getElem?_toList]
 cases s.data[j]? <;> rfl
end Go.Proofs.YthoojcdjjecogaaGreatDoor
