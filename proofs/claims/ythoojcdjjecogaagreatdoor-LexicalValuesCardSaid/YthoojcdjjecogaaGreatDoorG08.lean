/-
  Part 8 of the proof: what functions return, and plain facts (Pover). Conditions: each theorem names its own.
-/
import Derived.Test.YthoojcdjjecogaaGreatDoorG07
import Derived.Test.YthoojcdjjecogaaGreatDoorG04
import Derived.Deep.RegionWith
set_option maxRecDepth 1000000
set_option maxHeartbeats 16000000
namespace Go.Proofs.YthoojcdjjecogaaGreatDoor
open Go Go.RowKit
end Go.Proofs.YthoojcdjjecogaaGreatDoor
