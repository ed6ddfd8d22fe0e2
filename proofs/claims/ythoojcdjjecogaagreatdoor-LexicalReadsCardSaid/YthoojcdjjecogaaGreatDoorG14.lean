/-
  Part 14 of the proof: what functions return, and plain facts (Mpoint Mplus Msplit Mdays Mrdays Mrdate). Conditions: each theorem names its own.
-/
import Derived.Test.YthoojcdjjecogaaGreatDoorG13
import Derived.Test.YthoojcdjjecogaaGreatDoorG10
import Derived.Test.YthoojcdjjecogaaGreatDoorG11
import Derived.Lib.ParseIntBCases
import Derived.Lib.AtoiErrMem
set_option maxRecDepth 1000000
set_option maxHeartbeats 16000000
namespace Go.Proofs.YthoojcdjjecogaaGreatDoor
open Go Go.RowKit Go.Ex

theorem w64 {n : Int} (h0 : -9223372036854775808 <= n) (h1 : n <= 9223372036854775807) : IntKind.i64.wrap n = n := by
 rw [IntKind.wrap_i64]; omega
def one : V := .agg [.bool false, .str [49], it 0]
def trSplit : Tree := (.node (.at 11) (.leaf (.agg [(.xi .i64 (.sub .i64 (.at 10) (.int 1))), (.xb (.at 15)), (.xs (.at 16)), (.xi .i64 (.at 17))])) (.leaf (.agg [(.xi .i64 (.at 10)), (.bool false), (.xs (.at 12)), (.xi .i64 (.at 13))])))
def spC : List CallX := [⟨108, [it 1], [], one⟩, ⟨147, [deV 1, one, it 0], [], .tup [deV 4, xi 7]⟩, ⟨65, [deV 4], [], .tup [xs 8, xi 9]⟩, ⟨148, [xs 8, it 10, it 64], [], .tup [xi 10, .nili]⟩, ⟨149, [deV 1, deV 4], [], .tup [deV 11, xi 14]⟩, ⟨150, [deV 11, one], [], .tup [deV 15, xi 18]⟩]
theorem run_split : chk (runTr Tryz.prog nG (fun _ => none) gd moT spC 100 130 [deV 1] h0) trSplit [] = true := by decide +kernel
end Go.Proofs.YthoojcdjjecogaaGreatDoor
namespace Go.Proofs.YthoojcdjjecogaaGreatDoor
open Go Go.RowKit
open Go.Ex
end Go.Proofs.YthoojcdjjecogaaGreatDoor
