/-
  DERIVED. GIVEN WITH THE SEED: THE CARDS: each row of YtckodhldimhbfaaGreatDoorRows.lean that lists a variable, with what it lists TIED to the program's text (the seventh form; the later family's looks); each row that meets fmt, with fmt's text TOLD by the authors' own Lean function (tested against real Go, not proved from fmt's source: count such statements apart). THE CARD IS WHAT COUNTS. Prove the row's statement (the work); the ties are given (YtckodhldimhbfaaGreatDoorTie.lean); close each card by the builder's one call (the guide's Derived/Test/ToyasCard.lean, 'card_holds'). Laid BY PROGRAM, IN A SANDBOX (cutbox-door.mjs). By AI agents, Wed Nov 11 2026. No macro, syntax, notation, axiom, sorry.
-/
import Derived.Test.YtckodhldimhbfaaGreatDoorRows
import GoSem.ClaimSeven
namespace Go.Proofs.YtckodhldimhbfaaGreatDoor
namespace Rows

/-- THE TIED CARD OF 'gabaritlaw06.MomentAdds'. -/
def momentAddsCard : Claim7 := { stood := { row := momentAddsRow, standIns := [], harness := (true, "5574eb059fba525aedd1266e4635f1439fa03585015dedd32f21940f0e762de2"), looks := true }, kinds := [], alts := [], laidByText := true, laidKinds := [.data, .data, .data, .data, .sentinel, .sentinel, .data, .pinned], laidTests := true, laidLooks := .later }
def MomentAddsCardSaid : Prop := Claim7.holds Tryz.pinned (.plain (OpenSpec.ofChange momentAddsSpec)) momentAddsCard

/-- THE TIED CARD OF 'gabaritlaw06.MomentTexts'. -/
def momentTextsCard : Claim7 := { stood := { row := momentTextsRow, standIns := [], harness := (true, "5574eb059fba525aedd1266e4635f1439fa03585015dedd32f21940f0e762de2"), looks := true }, kinds := [], alts := [], laidByText := true, laidKinds := [.data, .data, .data, .data, .sentinel, .sentinel, .data, .pinned], laidTests := true, laidLooks := .later }
def MomentTextsCardSaid : Prop := Claim7.holds Tryz.pinned (.plain (OpenSpec.ofChange momentTextsSpec)) momentTextsCard

/-- THE TIED CARD OF 'gabaritlaw06.MomentOrders'. -/
def momentOrdersCard : Claim7 := { stood := { row := momentOrdersRow, standIns := [], harness := (true, "5574eb059fba525aedd1266e4635f1439fa03585015dedd32f21940f0e762de2"), looks := true }, kinds := [], alts := [], laidByText := true, laidKinds := [.data, .data, .data, .data, .sentinel, .sentinel, .data, .pinned], laidTests := true, laidLooks := .later }
def MomentOrdersCardSaid : Prop := Claim7.holds Tryz.pinned (.plain (OpenSpec.ofChange momentOrdersSpec)) momentOrdersCard

/-- THE TIED CARD OF 'gabaritlaw06.MomentLaws'. -/
def momentLawsCard : Claim7 := { stood := { row := momentLawsRow, standIns := [], harness := (true, "5574eb059fba525aedd1266e4635f1439fa03585015dedd32f21940f0e762de2"), looks := true }, kinds := [], alts := [], laidByText := true, laidKinds := [.data, .data, .data, .data, .sentinel, .sentinel, .data, .pinned], laidTests := true, laidLooks := .later }
def MomentLawsCardSaid : Prop := Claim7.holds Tryz.pinned (.plain (OpenSpec.ofChange momentLawsSpec)) momentLawsCard

/-- THE TIED CARD OF 'gabaritlaw06.MomentDays'. -/
def momentDaysCard : Claim7 := { stood := { row := momentDaysRow, standIns := [], harness := (true, "5574eb059fba525aedd1266e4635f1439fa03585015dedd32f21940f0e762de2"), looks := true }, kinds := [], alts := [], laidByText := true, laidKinds := [.data, .data, .data, .data, .sentinel, .sentinel, .data, .pinned], laidTests := true, laidLooks := .later }
def MomentDaysCardSaid : Prop := Claim7.holds Tryz.pinned (.plain (OpenSpec.ofChange momentDaysSpec)) momentDaysCard

/-- THE SECOND FORM's CARD OF 'gabaritlaw06.MomentAdds'. -/
def momentAddsUptoCard : Claim7 := { stood := { row := momentAddsUptoRow, standIns := [], harness := (true, "5574eb059fba525aedd1266e4635f1439fa03585015dedd32f21940f0e762de2"), looks := true }, kinds := [], alts := [], laidByText := true, laidKinds := [.data, .data, .data, .data, .sentinel, .sentinel, .data, .pinned], laidTests := true, laidLooks := .later }
def MomentAddsUptoCardSaid : Prop := Claim7.holds Tryz.pinned (.plain (OpenSpec.upto momentAddsSpec)) momentAddsUptoCard

/-- THE SECOND FORM's CARD OF 'gabaritlaw06.MomentTexts'. -/
def momentTextsUptoCard : Claim7 := { stood := { row := momentTextsUptoRow, standIns := [], harness := (true, "5574eb059fba525aedd1266e4635f1439fa03585015dedd32f21940f0e762de2"), looks := true }, kinds := [], alts := [], laidByText := true, laidKinds := [.data, .data, .data, .data, .sentinel, .sentinel, .data, .pinned], laidTests := true, laidLooks := .later }
def MomentTextsUptoCardSaid : Prop := Claim7.holds Tryz.pinned (.plain (OpenSpec.upto momentTextsSpec)) momentTextsUptoCard

/-- THE SECOND FORM's CARD OF 'gabaritlaw06.MomentOrders'. -/
def momentOrdersUptoCard : Claim7 := { stood := { row := momentOrdersUptoRow, standIns := [], harness := (true, "5574eb059fba525aedd1266e4635f1439fa03585015dedd32f21940f0e762de2"), looks := true }, kinds := [], alts := [], laidByText := true, laidKinds := [.data, .data, .data, .data, .sentinel, .sentinel, .data, .pinned], laidTests := true, laidLooks := .later }
def MomentOrdersUptoCardSaid : Prop := Claim7.holds Tryz.pinned (.plain (OpenSpec.upto momentOrdersSpec)) momentOrdersUptoCard

/-- THE SECOND FORM's CARD OF 'gabaritlaw06.MomentLaws'. -/
def momentLawsUptoCard : Claim7 := { stood := { row := momentLawsUptoRow, standIns := [], harness := (true, "5574eb059fba525aedd1266e4635f1439fa03585015dedd32f21940f0e762de2"), looks := true }, kinds := [], alts := [], laidByText := true, laidKinds := [.data, .data, .data, .data, .sentinel, .sentinel, .data, .pinned], laidTests := true, laidLooks := .later }
def MomentLawsUptoCardSaid : Prop := Claim7.holds Tryz.pinned (.plain (OpenSpec.upto momentLawsSpec)) momentLawsUptoCard

/-- THE SECOND FORM's CARD OF 'gabaritlaw06.MomentDays'. -/
def momentDaysUptoCard : Claim7 := { stood := { row := momentDaysUptoRow, standIns := [], harness := (true, "5574eb059fba525aedd1266e4635f1439fa03585015dedd32f21940f0e762de2"), looks := true }, kinds := [], alts := [], laidByText := true, laidKinds := [.data, .data, .data, .data, .sentinel, .sentinel, .data, .pinned], laidTests := true, laidLooks := .later }
def MomentDaysUptoCardSaid : Prop := Claim7.holds Tryz.pinned (.plain (OpenSpec.upto momentDaysSpec)) momentDaysUptoCard
end Rows
end Go.Proofs.YtckodhldimhbfaaGreatDoor
