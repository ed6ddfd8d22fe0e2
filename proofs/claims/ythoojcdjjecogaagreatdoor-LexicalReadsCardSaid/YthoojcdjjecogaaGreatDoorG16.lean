/-
  Part 16 of the proof: what functions return, and plain facts (Mlocal Mcmp Mcmp2). Conditions: each theorem names its own.
-/
import Derived.Test.YthoojcdjjecogaaGreatDoorG15
import Derived.Test.YthoojcdjjecogaaGreatDoorG14
set_option maxRecDepth 1000000
set_option maxHeartbeats 16000000
namespace Go.Proofs.YthoojcdjjecogaaGreatDoor
open Go Go.RowKit Go.Ex
namespace Mo
end Mo
end Go.Proofs.YthoojcdjjecogaaGreatDoor
namespace Go.Proofs.YthoojcdjjecogaaGreatDoor
open Go Go.RowKit Go.Ex
end Go.Proofs.YthoojcdjjecogaaGreatDoor
