/-
  Part 32 of the proof: what functions return, and plain facts (Mrtext). Conditions: each theorem names its own.
-/
import Derived.Test.YthoojcdjjecogaaGreatDoorG25
import Derived.Test.YthoojcdjjecogaaGreatDoorG31
import Derived.Test.YthoojcdjjecogaaGreatDoorG18
set_option maxRecDepth 1000000
set_option maxHeartbeats 16000000
namespace Go.Proofs.YthoojcdjjecogaaGreatDoor
open Go Go.RowKit Go.Ex
section
variable {x : Mo} {M : Int}
end
section
variable {x : Mo} {M : Int}
end
section
variable {x : Mo} {M : Int}
end
end Go.Proofs.YthoojcdjjecogaaGreatDoor
