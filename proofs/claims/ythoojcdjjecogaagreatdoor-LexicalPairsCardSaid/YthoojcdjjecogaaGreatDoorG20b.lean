/-
  Part 20b of the proof: what functions return, and plain facts (Mof). Conditions: each theorem names its own.
-/
import Derived.Test.YthoojcdjjecogaaGreatDoorG20
set_option maxRecDepth 1000000
set_option maxHeartbeats 16000000
namespace Go.Proofs.YthoojcdjjecogaaGreatDoor
open Go Go.RowKit Go.Ex
namespace Mo
def none : Mo := ⟨0, 0, 0, 0, 0, 0, false, ⟨#[]⟩, 0, false, 0⟩
end Mo
end Go.Proofs.YthoojcdjjecogaaGreatDoor
