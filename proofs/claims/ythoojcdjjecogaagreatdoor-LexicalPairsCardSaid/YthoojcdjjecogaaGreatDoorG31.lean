/-
  Part 31 of the proof: what functions return, and plain facts (Mrof). Conditions: each theorem names its own.
-/
import Derived.Test.YthoojcdjjecogaaGreatDoorG30
set_option maxRecDepth 1000000
set_option maxHeartbeats 16000000
namespace Go.Proofs.YthoojcdjjecogaaGreatDoor
open Go Go.RowKit Go.Ex
end Go.Proofs.YthoojcdjjecogaaGreatDoor
