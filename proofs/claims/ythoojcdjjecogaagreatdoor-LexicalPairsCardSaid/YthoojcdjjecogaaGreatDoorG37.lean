/-
  Part 37 of the proof: what functions return, and plain facts (Mrread2). Conditions: each theorem names its own.
-/
import Derived.Test.YthoojcdjjecogaaGreatDoorG34
set_option maxRecDepth 1000000
set_option maxHeartbeats 16000000
namespace Go.Proofs.YthoojcdjjecogaaGreatDoor
open Go Go.RowKit
end Go.Proofs.YthoojcdjjecogaaGreatDoor
