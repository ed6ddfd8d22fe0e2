/-
  Part 28 of the proof: what functions return, and plain facts (Mprz). Conditions: each theorem names its own.
-/
import Derived.Test.YthoojcdjjecogaaGreatDoorG27
set_option maxRecDepth 1000000
set_option maxHeartbeats 16000000
namespace Go.Proofs.YthoojcdjjecogaaGreatDoor
open Go Go.RowKit
end Go.Proofs.YthoojcdjjecogaaGreatDoor
