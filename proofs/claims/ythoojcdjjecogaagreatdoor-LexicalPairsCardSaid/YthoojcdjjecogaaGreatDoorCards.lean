/-
  DERIVED. GIVEN WITH THE SEED: THE CARDS: each row of YthoojcdjjecogaaGreatDoorRows.lean that lists a variable, with what it lists TIED to the program's text (the seventh form; the later family's looks); each row that meets fmt, with fmt's text TOLD by the authors' own Lean function (tested against real Go, not proved from fmt's source: count such statements apart). THE CARD IS WHAT COUNTS. Prove the row's statement (the work); the ties are given (YthoojcdjjecogaaGreatDoorTie.lean); close each card by the builder's one call (the guide's Derived/Test/ToyasCard.lean, 'card_holds'). Laid BY PROGRAM, IN A SANDBOX (cutbox-door.mjs). By AI agents, Wed Nov 11 2026. No macro, syntax, notation, axiom, sorry.
-/
import Derived.Test.YthoojcdjjecogaaGreatDoorRows
import GoSem.ClaimSeven
namespace Go.Proofs.YthoojcdjjecogaaGreatDoor
namespace Rows

/-- THE TIED CARD OF 'gabaritlaw09.LexicalReads'. -/
def lexicalReadsCard : Claim7 := { stood := { row := lexicalReadsRow, standIns := [], harness := (true, "c628f746dabd2971da348cb77716f3db90befce4fa02acee12b221a6ffe5e728"), looks := true }, kinds := [], alts := [], laidByText := true, laidKinds := [.data, .data, .data, .data, .sentinel, .sentinel, .data, .data, .pinned], laidTests := true, laidLooks := .later }
def LexicalReadsCardSaid : Prop := Claim7.holds Tryz.pinned (.plain (OpenSpec.ofChange lexicalReadsSpec)) lexicalReadsCard

/-- THE TIED CARD OF 'gabaritlaw09.LexicalValues'. -/
def lexicalValuesCard : Claim7 := { stood := { row := lexicalValuesRow, standIns := [], harness := (true, "c628f746dabd2971da348cb77716f3db90befce4fa02acee12b221a6ffe5e728"), looks := true }, kinds := [], alts := [], laidByText := true, laidKinds := [.data, .data, .data, .data, .sentinel, .sentinel, .data, .data, .pinned], laidTests := true, laidLooks := .later }
def LexicalValuesCardSaid : Prop := Claim7.holds Tryz.pinned (.plain (OpenSpec.ofChange lexicalValuesSpec)) lexicalValuesCard

/-- THE TIED CARD OF 'gabaritlaw09.LexicalBack'. -/
def lexicalBackCard : Claim7 := { stood := { row := lexicalBackRow, standIns := [], harness := (true, "c628f746dabd2971da348cb77716f3db90befce4fa02acee12b221a6ffe5e728"), looks := true }, kinds := [], alts := [], laidByText := true, laidKinds := [.data, .data, .data, .data, .sentinel, .sentinel, .data, .data, .pinned], laidTests := true, laidLooks := .later }
def LexicalBackCardSaid : Prop := Claim7.holds Tryz.pinned (.plain (OpenSpec.ofChange lexicalBackSpec)) lexicalBackCard

/-- THE TIED CARD OF 'gabaritlaw09.LexicalPairs'. -/
def lexicalPairsCard : Claim7 := { stood := { row := lexicalPairsRow, standIns := [], harness := (true, "c628f746dabd2971da348cb77716f3db90befce4fa02acee12b221a6ffe5e728"), looks := true }, kinds := [], alts := [], laidByText := true, laidKinds := [.data, .data, .data, .data, .sentinel, .sentinel, .data, .data, .pinned], laidTests := true, laidLooks := .later }
def LexicalPairsCardSaid : Prop := Claim7.holds Tryz.pinned (.plain (OpenSpec.ofChange lexicalPairsSpec)) lexicalPairsCard

/-- THE TIED CARD OF 'gabaritlaw09.LexicalLaws'. -/
def lexicalLawsCard : Claim7 := { stood := { row := lexicalLawsRow, standIns := [], harness := (true, "c628f746dabd2971da348cb77716f3db90befce4fa02acee12b221a6ffe5e728"), looks := true }, kinds := [], alts := [], laidByText := true, laidKinds := [.data, .data, .data, .data, .sentinel, .sentinel, .data, .data, .pinned], laidTests := true, laidLooks := .later }
def LexicalLawsCardSaid : Prop := Claim7.holds Tryz.pinned (.plain (OpenSpec.ofChange lexicalLawsSpec)) lexicalLawsCard

/-- THE SECOND FORM's CARD OF 'gabaritlaw09.LexicalReads'. -/
def lexicalReadsUptoCard : Claim7 := { stood := { row := lexicalReadsUptoRow, standIns := [], harness := (true, "c628f746dabd2971da348cb77716f3db90befce4fa02acee12b221a6ffe5e728"), looks := true }, kinds := [], alts := [], laidByText := true, laidKinds := [.data, .data, .data, .data, .sentinel, .sentinel, .data, .data, .pinned], laidTests := true, laidLooks := .later }
def LexicalReadsUptoCardSaid : Prop := Claim7.holds Tryz.pinned (.plain (OpenSpec.upto lexicalReadsSpec)) lexicalReadsUptoCard

/-- THE SECOND FORM's CARD OF 'gabaritlaw09.LexicalValues'. -/
def lexicalValuesUptoCard : Claim7 := { stood := { row := lexicalValuesUptoRow, standIns := [], harness := (true, "c628f746dabd2971da348cb77716f3db90befce4fa02acee12b221a6ffe5e728"), looks := true }, kinds := [], alts := [], laidByText := true, laidKinds := [.data, .data, .data, .data, .sentinel, .sentinel, .data, .data, .pinned], laidTests := true, laidLooks := .later }
def LexicalValuesUptoCardSaid : Prop := Claim7.holds Tryz.pinned (.plain (OpenSpec.upto lexicalValuesSpec)) lexicalValuesUptoCard

/-- THE SECOND FORM's CARD OF 'gabaritlaw09.LexicalBack'. -/
def lexicalBackUptoCard : Claim7 := { stood := { row := lexicalBackUptoRow, standIns := [], harness := (true, "c628f746dabd2971da348cb77716f3db90befce4fa02acee12b221a6ffe5e728"), looks := true }, kinds := [], alts := [], laidByText := true, laidKinds := [.data, .data, .data, .data, .sentinel, .sentinel, .data, .data, .pinned], laidTests := true, laidLooks := .later }
def LexicalBackUptoCardSaid : Prop := Claim7.holds Tryz.pinned (.plain (OpenSpec.upto lexicalBackSpec)) lexicalBackUptoCard

/-- THE SECOND FORM's CARD OF 'gabaritlaw09.LexicalPairs'. -/
def lexicalPairsUptoCard : Claim7 := { stood := { row := lexicalPairsUptoRow, standIns := [], harness := (true, "c628f746dabd2971da348cb77716f3db90befce4fa02acee12b221a6ffe5e728"), looks := true }, kinds := [], alts := [], laidByText := true, laidKinds := [.data, .data, .data, .data, .sentinel, .sentinel, .data, .data, .pinned], laidTests := true, laidLooks := .later }
def LexicalPairsUptoCardSaid : Prop := Claim7.holds Tryz.pinned (.plain (OpenSpec.upto lexicalPairsSpec)) lexicalPairsUptoCard

/-- THE SECOND FORM's CARD OF 'gabaritlaw09.LexicalLaws'. -/
def lexicalLawsUptoCard : Claim7 := { stood := { row := lexicalLawsUptoRow, standIns := [], harness := (true, "c628f746dabd2971da348cb77716f3db90befce4fa02acee12b221a6ffe5e728"), looks := true }, kinds := [], alts := [], laidByText := true, laidKinds := [.data, .data, .data, .data, .sentinel, .sentinel, .data, .data, .pinned], laidTests := true, laidLooks := .later }
def LexicalLawsUptoCardSaid : Prop := Claim7.holds Tryz.pinned (.plain (OpenSpec.upto lexicalLawsSpec)) lexicalLawsUptoCard
end Rows
end Go.Proofs.YthoojcdjjecogaaGreatDoor
