/-
  DERIVED. GIVEN WITH THE SEED: THE CARDS: each row of YtoomcmghkajhiaaGreatDoorRows.lean that lists a variable, with what it lists TIED to the program's text (the seventh form; the later family's looks); each row that meets fmt, with fmt's text TOLD by the authors' own Lean function (tested against real Go, not proved from fmt's source: count such statements apart). THE CARD IS WHAT COUNTS. Prove the row's statement (the work); the ties are given (YtoomcmghkajhiaaGreatDoorTie.lean); close each card by the builder's one call (the guide's Derived/Test/ToyasCard.lean, 'card_holds'). Laid BY PROGRAM, IN A SANDBOX (cutbox-door.mjs). By AI agents, Wed Nov 11 2026. No macro, syntax, notation, axiom, sorry.
-/
import Derived.Test.YtoomcmghkajhiaaGreatDoorRows
import GoSem.ClaimSeven
namespace Go.Proofs.YtoomcmghkajhiaaGreatDoor
namespace Rows

/-- THE TIED CARD OF 'gabaritlaw05.DecimalTexts'. -/
def decimalTextsCard : Claim7 := { stood := { row := decimalTextsRow, standIns := [], harness := (true, "e185a1e81024d32e883770dd84e3bc0de678e991e17184a0ae09341c99f1a6c9"), looks := true }, kinds := [], alts := [], laidByText := true, laidKinds := [.data, .data, .data, .data, .sentinel, .sentinel, .pinned], laidTests := true, laidLooks := .later }
def DecimalTextsCardSaid : Prop := Claim7.holds Tryz.pinned (.plain (OpenSpec.ofChange decimalTextsSpec)) decimalTextsCard

/-- THE TIED CARD OF 'gabaritlaw05.DecimalRounds'. -/
def decimalRoundsCard : Claim7 := { stood := { row := decimalRoundsRow, standIns := [], harness := (true, "e185a1e81024d32e883770dd84e3bc0de678e991e17184a0ae09341c99f1a6c9"), looks := true }, kinds := [], alts := [], laidByText := true, laidKinds := [.data, .data, .data, .data, .sentinel, .sentinel, .pinned], laidTests := true, laidLooks := .later }
def DecimalRoundsCardSaid : Prop := Claim7.holds Tryz.pinned (.plain (OpenSpec.ofChange decimalRoundsSpec)) decimalRoundsCard

/-- THE TIED CARD OF 'gabaritlaw05.DecimalLaws'. -/
def decimalLawsCard : Claim7 := { stood := { row := decimalLawsRow, standIns := [], harness := (true, "e185a1e81024d32e883770dd84e3bc0de678e991e17184a0ae09341c99f1a6c9"), looks := true }, kinds := [], alts := [], laidByText := true, laidKinds := [.data, .data, .data, .data, .sentinel, .sentinel, .pinned], laidTests := true, laidLooks := .later }
def DecimalLawsCardSaid : Prop := Claim7.holds Tryz.pinned (.plain (OpenSpec.ofChange decimalLawsSpec)) decimalLawsCard

/-- THE TIED CARD OF 'gabaritlaw05.DecimalBounds'. -/
def decimalBoundsCard : Claim7 := { stood := { row := decimalBoundsRow, standIns := [], harness := (true, "e185a1e81024d32e883770dd84e3bc0de678e991e17184a0ae09341c99f1a6c9"), looks := true }, kinds := [], alts := [], laidByText := true, laidKinds := [.data, .data, .data, .data, .sentinel, .sentinel, .pinned], laidTests := true, laidLooks := .later }
def DecimalBoundsCardSaid : Prop := Claim7.holds Tryz.pinned (.plain (OpenSpec.ofChange decimalBoundsSpec)) decimalBoundsCard

/-- THE TIED CARD OF 'gabaritlaw05.DecimalSums'. -/
def decimalSumsCard : Claim7 := { stood := { row := decimalSumsRow, standIns := [], harness := (true, "e185a1e81024d32e883770dd84e3bc0de678e991e17184a0ae09341c99f1a6c9"), looks := true }, kinds := [], alts := [], laidByText := true, laidKinds := [.data, .data, .data, .data, .sentinel, .sentinel, .pinned], laidTests := true, laidLooks := .later }
def DecimalSumsCardSaid : Prop := Claim7.holds Tryz.pinned (.plain (OpenSpec.ofChange decimalSumsSpec)) decimalSumsCard

/-- THE TIED CARD OF 'gabaritlaw06.MomentAdds'. -/
def momentAddsCard : Claim7 := { stood := { row := momentAddsRow, standIns := [], harness := (true, "e185a1e81024d32e883770dd84e3bc0de678e991e17184a0ae09341c99f1a6c9"), looks := true }, kinds := [], alts := [], laidByText := true, laidKinds := [.data, .data, .data, .data, .sentinel, .sentinel, .data, .pinned], laidTests := true, laidLooks := .later }
def MomentAddsCardSaid : Prop := Claim7.holds Tryz.pinned (.plain (OpenSpec.ofChange momentAddsSpec)) momentAddsCard

/-- THE TIED CARD OF 'gabaritlaw06.MomentTexts'. -/
def momentTextsCard : Claim7 := { stood := { row := momentTextsRow, standIns := [], harness := (true, "e185a1e81024d32e883770dd84e3bc0de678e991e17184a0ae09341c99f1a6c9"), looks := true }, kinds := [], alts := [], laidByText := true, laidKinds := [.data, .data, .data, .data, .sentinel, .sentinel, .data, .pinned], laidTests := true, laidLooks := .later }
def MomentTextsCardSaid : Prop := Claim7.holds Tryz.pinned (.plain (OpenSpec.ofChange momentTextsSpec)) momentTextsCard

/-- THE TIED CARD OF 'gabaritlaw06.MomentOrders'. -/
def momentOrdersCard : Claim7 := { stood := { row := momentOrdersRow, standIns := [], harness := (true, "e185a1e81024d32e883770dd84e3bc0de678e991e17184a0ae09341c99f1a6c9"), looks := true }, kinds := [], alts := [], laidByText := true, laidKinds := [.data, .data, .data, .data, .sentinel, .sentinel, .data, .pinned], laidTests := true, laidLooks := .later }
def MomentOrdersCardSaid : Prop := Claim7.holds Tryz.pinned (.plain (OpenSpec.ofChange momentOrdersSpec)) momentOrdersCard

/-- THE TIED CARD OF 'gabaritlaw06.MomentLaws'. -/
def momentLawsCard : Claim7 := { stood := { row := momentLawsRow, standIns := [], harness := (true, "e185a1e81024d32e883770dd84e3bc0de678e991e17184a0ae09341c99f1a6c9"), looks := true }, kinds := [], alts := [], laidByText := true, laidKinds := [.data, .data, .data, .data, .sentinel, .sentinel, .data, .pinned], laidTests := true, laidLooks := .later }
def MomentLawsCardSaid : Prop := Claim7.holds Tryz.pinned (.plain (OpenSpec.ofChange momentLawsSpec)) momentLawsCard

/-- THE TIED CARD OF 'gabaritlaw06.MomentDays'. -/
def momentDaysCard : Claim7 := { stood := { row := momentDaysRow, standIns := [], harness := (true, "e185a1e81024d32e883770dd84e3bc0de678e991e17184a0ae09341c99f1a6c9"), looks := true }, kinds := [], alts := [], laidByText := true, laidKinds := [.data, .data, .data, .data, .sentinel, .sentinel, .data, .pinned], laidTests := true, laidLooks := .later }
def MomentDaysCardSaid : Prop := Claim7.holds Tryz.pinned (.plain (OpenSpec.ofChange momentDaysSpec)) momentDaysCard

/-- THE TIED CARD OF 'gabaritlaw09.LexicalReads'. -/
def lexicalReadsCard : Claim7 := { stood := { row := lexicalReadsRow, standIns := [], harness := (true, "e185a1e81024d32e883770dd84e3bc0de678e991e17184a0ae09341c99f1a6c9"), looks := true }, kinds := [], alts := [], laidByText := true, laidKinds := [.data, .data, .data, .data, .sentinel, .sentinel, .data, .data, .pinned], laidTests := true, laidLooks := .later }
def LexicalReadsCardSaid : Prop := Claim7.holds Tryz.pinned (.plain (OpenSpec.ofChange lexicalReadsSpec)) lexicalReadsCard

/-- THE TIED CARD OF 'gabaritlaw09.LexicalValues'. -/
def lexicalValuesCard : Claim7 := { stood := { row := lexicalValuesRow, standIns := [], harness := (true, "e185a1e81024d32e883770dd84e3bc0de678e991e17184a0ae09341c99f1a6c9"), looks := true }, kinds := [], alts := [], laidByText := true, laidKinds := [.data, .data, .data, .data, .sentinel, .sentinel, .data, .data, .pinned], laidTests := true, laidLooks := .later }
def LexicalValuesCardSaid : Prop := Claim7.holds Tryz.pinned (.plain (OpenSpec.ofChange lexicalValuesSpec)) lexicalValuesCard

/-- THE TIED CARD OF 'gabaritlaw09.LexicalBack'. -/
def lexicalBackCard : Claim7 := { stood := { row := lexicalBackRow, standIns := [], harness := (true, "e185a1e81024d32e883770dd84e3bc0de678e991e17184a0ae09341c99f1a6c9"), looks := true }, kinds := [], alts := [], laidByText := true, laidKinds := [.data, .data, .data, .data, .sentinel, .sentinel, .data, .data, .pinned], laidTests := true, laidLooks := .later }
def LexicalBackCardSaid : Prop := Claim7.holds Tryz.pinned (.plain (OpenSpec.ofChange lexicalBackSpec)) lexicalBackCard

/-- THE TIED CARD OF 'gabaritlaw09.LexicalPairs'. -/
def lexicalPairsCard : Claim7 := { stood := { row := lexicalPairsRow, standIns := [], harness := (true, "e185a1e81024d32e883770dd84e3bc0de678e991e17184a0ae09341c99f1a6c9"), looks := true }, kinds := [], alts := [], laidByText := true, laidKinds := [.data, .data, .data, .data, .sentinel, .sentinel, .data, .data, .pinned], laidTests := true, laidLooks := .later }
def LexicalPairsCardSaid : Prop := Claim7.holds Tryz.pinned (.plain (OpenSpec.ofChange lexicalPairsSpec)) lexicalPairsCard

/-- THE TIED CARD OF 'gabaritlaw09.LexicalLaws'. -/
def lexicalLawsCard : Claim7 := { stood := { row := lexicalLawsRow, standIns := [], harness := (true, "e185a1e81024d32e883770dd84e3bc0de678e991e17184a0ae09341c99f1a6c9"), looks := true }, kinds := [], alts := [], laidByText := true, laidKinds := [.data, .data, .data, .data, .sentinel, .sentinel, .data, .data, .pinned], laidTests := true, laidLooks := .later }
def LexicalLawsCardSaid : Prop := Claim7.holds Tryz.pinned (.plain (OpenSpec.ofChange lexicalLawsSpec)) lexicalLawsCard

/-- THE SECOND FORM's CARD OF 'gabaritlaw05.DecimalTexts'. -/
def decimalTextsUptoCard : Claim7 := { stood := { row := decimalTextsUptoRow, standIns := [], harness := (true, "e185a1e81024d32e883770dd84e3bc0de678e991e17184a0ae09341c99f1a6c9"), looks := true }, kinds := [], alts := [], laidByText := true, laidKinds := [.data, .data, .data, .data, .sentinel, .sentinel, .pinned], laidTests := true, laidLooks := .later }
def DecimalTextsUptoCardSaid : Prop := Claim7.holds Tryz.pinned (.plain (OpenSpec.upto decimalTextsSpec)) decimalTextsUptoCard

/-- THE SECOND FORM's CARD OF 'gabaritlaw05.DecimalRounds'. -/
def decimalRoundsUptoCard : Claim7 := { stood := { row := decimalRoundsUptoRow, standIns := [], harness := (true, "e185a1e81024d32e883770dd84e3bc0de678e991e17184a0ae09341c99f1a6c9"), looks := true }, kinds := [], alts := [], laidByText := true, laidKinds := [.data, .data, .data, .data, .sentinel, .sentinel, .pinned], laidTests := true, laidLooks := .later }
def DecimalRoundsUptoCardSaid : Prop := Claim7.holds Tryz.pinned (.plain (OpenSpec.upto decimalRoundsSpec)) decimalRoundsUptoCard

/-- THE SECOND FORM's CARD OF 'gabaritlaw05.DecimalLaws'. -/
def decimalLawsUptoCard : Claim7 := { stood := { row := decimalLawsUptoRow, standIns := [], harness := (true, "e185a1e81024d32e883770dd84e3bc0de678e991e17184a0ae09341c99f1a6c9"), looks := true }, kinds := [], alts := [], laidByText := true, laidKinds := [.data, .data, .data, .data, .sentinel, .sentinel, .pinned], laidTests := true, laidLooks := .later }
def DecimalLawsUptoCardSaid : Prop := Claim7.holds Tryz.pinned (.plain (OpenSpec.upto decimalLawsSpec)) decimalLawsUptoCard

/-- THE SECOND FORM's CARD OF 'gabaritlaw05.DecimalBounds'. -/
def decimalBoundsUptoCard : Claim7 := { stood := { row := decimalBoundsUptoRow, standIns := [], harness := (true, "e185a1e81024d32e883770dd84e3bc0de678e991e17184a0ae09341c99f1a6c9"), looks := true }, kinds := [], alts := [], laidByText := true, laidKinds := [.data, .data, .data, .data, .sentinel, .sentinel, .pinned], laidTests := true, laidLooks := .later }
def DecimalBoundsUptoCardSaid : Prop := Claim7.holds Tryz.pinned (.plain (OpenSpec.upto decimalBoundsSpec)) decimalBoundsUptoCard

/-- THE SECOND FORM's CARD OF 'gabaritlaw05.DecimalSums'. -/
def decimalSumsUptoCard : Claim7 := { stood := { row := decimalSumsUptoRow, standIns := [], harness := (true, "e185a1e81024d32e883770dd84e3bc0de678e991e17184a0ae09341c99f1a6c9"), looks := true }, kinds := [], alts := [], laidByText := true, laidKinds := [.data, .data, .data, .data, .sentinel, .sentinel, .pinned], laidTests := true, laidLooks := .later }
def DecimalSumsUptoCardSaid : Prop := Claim7.holds Tryz.pinned (.plain (OpenSpec.upto decimalSumsSpec)) decimalSumsUptoCard

/-- THE SECOND FORM's CARD OF 'gabaritlaw06.MomentAdds'. -/
def momentAddsUptoCard : Claim7 := { stood := { row := momentAddsUptoRow, standIns := [], harness := (true, "e185a1e81024d32e883770dd84e3bc0de678e991e17184a0ae09341c99f1a6c9"), looks := true }, kinds := [], alts := [], laidByText := true, laidKinds := [.data, .data, .data, .data, .sentinel, .sentinel, .data, .pinned], laidTests := true, laidLooks := .later }
def MomentAddsUptoCardSaid : Prop := Claim7.holds Tryz.pinned (.plain (OpenSpec.upto momentAddsSpec)) momentAddsUptoCard

/-- THE SECOND FORM's CARD OF 'gabaritlaw06.MomentTexts'. -/
def momentTextsUptoCard : Claim7 := { stood := { row := momentTextsUptoRow, standIns := [], harness := (true, "e185a1e81024d32e883770dd84e3bc0de678e991e17184a0ae09341c99f1a6c9"), looks := true }, kinds := [], alts := [], laidByText := true, laidKinds := [.data, .data, .data, .data, .sentinel, .sentinel, .data, .pinned], laidTests := true, laidLooks := .later }
def MomentTextsUptoCardSaid : Prop := Claim7.holds Tryz.pinned (.plain (OpenSpec.upto momentTextsSpec)) momentTextsUptoCard

/-- THE SECOND FORM's CARD OF 'gabaritlaw06.MomentOrders'. -/
def momentOrdersUptoCard : Claim7 := { stood := { row := momentOrdersUptoRow, standIns := [], harness := (true, "e185a1e81024d32e883770dd84e3bc0de678e991e17184a0ae09341c99f1a6c9"), looks := true }, kinds := [], alts := [], laidByText := true, laidKinds := [.data, .data, .data, .data, .sentinel, .sentinel, .data, .pinned], laidTests := true, laidLooks := .later }
def MomentOrdersUptoCardSaid : Prop := Claim7.holds Tryz.pinned (.plain (OpenSpec.upto momentOrdersSpec)) momentOrdersUptoCard

/-- THE SECOND FORM's CARD OF 'gabaritlaw06.MomentLaws'. -/
def momentLawsUptoCard : Claim7 := { stood := { row := momentLawsUptoRow, standIns := [], harness := (true, "e185a1e81024d32e883770dd84e3bc0de678e991e17184a0ae09341c99f1a6c9"), looks := true }, kinds := [], alts := [], laidByText := true, laidKinds := [.data, .data, .data, .data, .sentinel, .sentinel, .data, .pinned], laidTests := true, laidLooks := .later }
def MomentLawsUptoCardSaid : Prop := Claim7.holds Tryz.pinned (.plain (OpenSpec.upto momentLawsSpec)) momentLawsUptoCard

/-- THE SECOND FORM's CARD OF 'gabaritlaw06.MomentDays'. -/
def momentDaysUptoCard : Claim7 := { stood := { row := momentDaysUptoRow, standIns := [], harness := (true, "e185a1e81024d32e883770dd84e3bc0de678e991e17184a0ae09341c99f1a6c9"), looks := true }, kinds := [], alts := [], laidByText := true, laidKinds := [.data, .data, .data, .data, .sentinel, .sentinel, .data, .pinned], laidTests := true, laidLooks := .later }
def MomentDaysUptoCardSaid : Prop := Claim7.holds Tryz.pinned (.plain (OpenSpec.upto momentDaysSpec)) momentDaysUptoCard

/-- THE SECOND FORM's CARD OF 'gabaritlaw09.LexicalReads'. -/
def lexicalReadsUptoCard : Claim7 := { stood := { row := lexicalReadsUptoRow, standIns := [], harness := (true, "e185a1e81024d32e883770dd84e3bc0de678e991e17184a0ae09341c99f1a6c9"), looks := true }, kinds := [], alts := [], laidByText := true, laidKinds := [.data, .data, .data, .data, .sentinel, .sentinel, .data, .data, .pinned], laidTests := true, laidLooks := .later }
def LexicalReadsUptoCardSaid : Prop := Claim7.holds Tryz.pinned (.plain (OpenSpec.upto lexicalReadsSpec)) lexicalReadsUptoCard

/-- THE SECOND FORM's CARD OF 'gabaritlaw09.LexicalValues'. -/
def lexicalValuesUptoCard : Claim7 := { stood := { row := lexicalValuesUptoRow, standIns := [], harness := (true, "e185a1e81024d32e883770dd84e3bc0de678e991e17184a0ae09341c99f1a6c9"), looks := true }, kinds := [], alts := [], laidByText := true, laidKinds := [.data, .data, .data, .data, .sentinel, .sentinel, .data, .data, .pinned], laidTests := true, laidLooks := .later }
def LexicalValuesUptoCardSaid : Prop := Claim7.holds Tryz.pinned (.plain (OpenSpec.upto lexicalValuesSpec)) lexicalValuesUptoCard

/-- THE SECOND FORM's CARD OF 'gabaritlaw09.LexicalBack'. -/
def lexicalBackUptoCard : Claim7 := { stood := { row := lexicalBackUptoRow, standIns := [], harness := (true, "e185a1e81024d32e883770dd84e3bc0de678e991e17184a0ae09341c99f1a6c9"), looks := true }, kinds := [], alts := [], laidByText := true, laidKinds := [.data, .data, .data, .data, .sentinel, .sentinel, .data, .data, .pinned], laidTests := true, laidLooks := .later }
def LexicalBackUptoCardSaid : Prop := Claim7.holds Tryz.pinned (.plain (OpenSpec.upto lexicalBackSpec)) lexicalBackUptoCard

/-- THE SECOND FORM's CARD OF 'gabaritlaw09.LexicalPairs'. -/
def lexicalPairsUptoCard : Claim7 := { stood := { row := lexicalPairsUptoRow, standIns := [], harness := (true, "e185a1e81024d32e883770dd84e3bc0de678e991e17184a0ae09341c99f1a6c9"), looks := true }, kinds := [], alts := [], laidByText := true, laidKinds := [.data, .data, .data, .data, .sentinel, .sentinel, .data, .data, .pinned], laidTests := true, laidLooks := .later }
def LexicalPairsUptoCardSaid : Prop := Claim7.holds Tryz.pinned (.plain (OpenSpec.upto lexicalPairsSpec)) lexicalPairsUptoCard

/-- THE SECOND FORM's CARD OF 'gabaritlaw09.LexicalLaws'. -/
def lexicalLawsUptoCard : Claim7 := { stood := { row := lexicalLawsUptoRow, standIns := [], harness := (true, "e185a1e81024d32e883770dd84e3bc0de678e991e17184a0ae09341c99f1a6c9"), looks := true }, kinds := [], alts := [], laidByText := true, laidKinds := [.data, .data, .data, .data, .sentinel, .sentinel, .data, .data, .pinned], laidTests := true, laidLooks := .later }
def LexicalLawsUptoCardSaid : Prop := Claim7.holds Tryz.pinned (.plain (OpenSpec.upto lexicalLawsSpec)) lexicalLawsUptoCard
end Rows
end Go.Proofs.YtoomcmghkajhiaaGreatDoor
