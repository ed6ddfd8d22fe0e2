/-
  Part 14 of the proof: what functions return, and plain facts (Mpoint Mplus Msplit Mdays Mrdays Mrdate). Conditions: each theorem names its own.
-/
import Derived.Test.YthoojcdjjecogaaGreatDoorG13
import Derived.Test.YthoojcdjjecogaaGreatDoorG10
import Derived.Test.YthoojcdjjecogaaGreatDoorG11
import Derived.Lib.ParseIntBCases
import Derived.Lib.AtoiErrMem
set_option maxRecDepth 1000000
set_option maxHeartbeats 16000000
namespace Go.Proofs.YthoojcdjjecogaaGreatDoor
open Go Go.RowKit Go.Ex

theorem w64 {n : Int} (h0 : -9223372036854775808 <= n) (h1 : n <= 9223372036854775807) : IntKind.i64.wrap n = n := by
 rw [IntKind.wrap_i64]; omega
def one : V := .agg [.bool false, .str [49], it 0]
end Go.Proofs.YthoojcdjjecogaaGreatDoor
namespace Go.Proofs.YthoojcdjjecogaaGreatDoor
open Go Go.RowKit
open Go.Ex
end Go.Proofs.YthoojcdjjecogaaGreatDoor
