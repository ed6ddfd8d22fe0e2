/-
  A world that holds what the rows list of variables. No condition.
-/
import Derived.Test.YtllnfiidmpopkaaDoorRows
import Derived.ProofKit
import Derived.LaidMore
import Derived.OpenShut
import Derived.Stop.Joined
import Derived.Lay
import Derived.Deep.DeepHandedRow
import Derived.Deep.DeepWitnessRowRef
import Derived.Lib.LaidTab
import Derived.Shelf.Vars
namespace Go.Proofs.YtllnfiidmpopkaaDoor
open Go.ChangeShapes Go.WideShapes Go.ChangeAt Go.WideMaps Go.WideElems Go.RowKit

theorem Tryd.own : ownKnob Tryd.prog.godebug = none := by kernel_rfl
theorem gRanges : Tryd.prog.globalNamed "gabarit/chars.ranges" = some 0 := by kernel_rfl
theorem tRanges : (Tryd.prog.globals[0]?).map (·.type) = some 40 := by kernel_rfl
theorem gEscapes : Tryd.prog.globalNamed "gabarit/chars.escapes" = some 1 := by kernel_rfl
theorem tEscapes : (Tryd.prog.globals[1]?).map (·.type) = some 71 := by kernel_rfl
theorem gRange : Tryd.prog.globalNamed "strconv.ErrRange" = some 5 := by kernel_rfl
theorem tRange : (Tryd.prog.globals[5]?).map (·.type) = some 50 := by kernel_rfl

/-- The settled world, the variables holding what their initialisers lay. -/
noncomputable def laidWorld (os : Os) : World := (World.doorLaid Tryd.prog 113 os).layVars Tryd.prog [("unicode/utf8.first", Rows.laid_unicode_utf8_first)]

theorem laid_met (os : Os) (args : Array Value) : laidMet Tryd.prog Rows.charsKindsRow.laid ((laidWorld os).forCall (fun _ _ => 0) ⟨#[], args, []⟩).memory :=
  laidMet_layVars (w0 := World.doorLaid Tryd.prog 113 os) ["unicode/utf8.first"] ((List.range (World.doorLaid Tryd.prog 113 os).heap.size).filter fun i => i != 6) (by kernel_rfl) (by kernel_rfl) (by kernel_rfl)
    (LaidIn.of_run _ 8 (by kernel_rfl) (by kernel_rfl) (by kernel_rfl) (by kernel_rfl))
end Go.Proofs.YtllnfiidmpopkaaDoor
