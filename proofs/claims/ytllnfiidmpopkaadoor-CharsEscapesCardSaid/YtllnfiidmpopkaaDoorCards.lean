/-
  DERIVED. GIVEN WITH THE SEED: THE CARDS: each row of YtllnfiidmpopkaaDoorRows.lean that lists a variable, with what it lists TIED to the program's text (the seventh form; the later family's looks); each row that meets fmt, with fmt's text TOLD by the authors' own Lean function (tested against real Go, not proved from fmt's source: count such statements apart). THE CARD IS WHAT COUNTS. Prove the row's statement (the work); the ties are given (YtllnfiidmpopkaaDoorTie.lean); close each card by the builder's one call (the guide's Derived/Test/ToyasCard.lean, 'card_holds'). Laid BY PROGRAM, IN A SANDBOX (cutbox-door.mjs). By AI agents, Wed Nov 11 2026. No macro, syntax, notation, axiom, sorry.
-/
import Derived.Test.YtllnfiidmpopkaaDoorRows
import GoSem.ClaimSeven
namespace Go.Proofs.YtllnfiidmpopkaaDoor
namespace Rows

/-- THE TIED CARD OF 'gabaritlaw02.CharsKinds'. -/
def charsKindsCard : Claim7 := { stood := { row := charsKindsRow, standIns := [], harness := (true, "3c3fe0b3fe6c7f82ab59d9d53e404c6c179d90dc6bd3ee8161509f07cc49a7f8"), looks := true }, kinds := [], alts := [], laidByText := true, laidKinds := [.data, .data, .data, .data, .sentinel, .sentinel, .data, .mapped, .pinned], laidTests := true, laidLooks := .later }
def CharsKindsCardSaid : Prop := Claim7.holds Tryd.pinned (.plain (OpenSpec.ofChange charsKindsSpec)) charsKindsCard

/-- THE TIED CARD OF 'gabaritlaw02.CharsEscapes'. -/
def charsEscapesCard : Claim7 := { stood := { row := charsEscapesRow, standIns := [], harness := (true, "3c3fe0b3fe6c7f82ab59d9d53e404c6c179d90dc6bd3ee8161509f07cc49a7f8"), looks := true }, kinds := [], alts := [], laidByText := true, laidKinds := [.data, .data, .data, .data, .sentinel, .sentinel, .data, .mapped, .pinned], laidTests := true, laidLooks := .later }
def CharsEscapesCardSaid : Prop := Claim7.holds Tryd.pinned (.plain (OpenSpec.ofChange charsEscapesSpec)) charsEscapesCard

/-- THE TIED CARD OF 'gabaritlaw02.CharsTexts'. -/
def charsTextsCard : Claim7 := { stood := { row := charsTextsRow, standIns := [], harness := (true, "3c3fe0b3fe6c7f82ab59d9d53e404c6c179d90dc6bd3ee8161509f07cc49a7f8"), looks := true }, kinds := [], alts := [], laidByText := true, laidKinds := [.data, .data, .data, .data, .sentinel, .sentinel, .data, .mapped, .pinned], laidTests := true, laidLooks := .later }
def CharsTextsCardSaid : Prop := Claim7.holds Tryd.pinned (.plain (OpenSpec.ofChange charsTextsSpec)) charsTextsCard

/-- THE TIED CARD OF 'gabaritlaw02.CharsBack'. -/
def charsBackCard : Claim7 := { stood := { row := charsBackRow, standIns := [], harness := (true, "3c3fe0b3fe6c7f82ab59d9d53e404c6c179d90dc6bd3ee8161509f07cc49a7f8"), looks := true }, kinds := [], alts := [], laidByText := true, laidKinds := [.data, .data, .data, .data, .sentinel, .sentinel, .data, .mapped, .pinned], laidTests := true, laidLooks := .later }
def CharsBackCardSaid : Prop := Claim7.holds Tryd.pinned (.plain (OpenSpec.ofChange charsBackSpec)) charsBackCard

/-- THE SECOND FORM's CARD OF 'gabaritlaw02.CharsKinds'. -/
def charsKindsUptoCard : Claim7 := { stood := { row := charsKindsUptoRow, standIns := [], harness := (true, "3c3fe0b3fe6c7f82ab59d9d53e404c6c179d90dc6bd3ee8161509f07cc49a7f8"), looks := true }, kinds := [], alts := [], laidByText := true, laidKinds := [.data, .data, .data, .data, .sentinel, .sentinel, .data, .mapped, .pinned], laidTests := true, laidLooks := .later }
def CharsKindsUptoCardSaid : Prop := Claim7.holds Tryd.pinned (.plain (OpenSpec.upto charsKindsSpec)) charsKindsUptoCard

/-- THE SECOND FORM's CARD OF 'gabaritlaw02.CharsEscapes'. -/
def charsEscapesUptoCard : Claim7 := { stood := { row := charsEscapesUptoRow, standIns := [], harness := (true, "3c3fe0b3fe6c7f82ab59d9d53e404c6c179d90dc6bd3ee8161509f07cc49a7f8"), looks := true }, kinds := [], alts := [], laidByText := true, laidKinds := [.data, .data, .data, .data, .sentinel, .sentinel, .data, .mapped, .pinned], laidTests := true, laidLooks := .later }
def CharsEscapesUptoCardSaid : Prop := Claim7.holds Tryd.pinned (.plain (OpenSpec.upto charsEscapesSpec)) charsEscapesUptoCard

/-- THE SECOND FORM's CARD OF 'gabaritlaw02.CharsTexts'. -/
def charsTextsUptoCard : Claim7 := { stood := { row := charsTextsUptoRow, standIns := [], harness := (true, "3c3fe0b3fe6c7f82ab59d9d53e404c6c179d90dc6bd3ee8161509f07cc49a7f8"), looks := true }, kinds := [], alts := [], laidByText := true, laidKinds := [.data, .data, .data, .data, .sentinel, .sentinel, .data, .mapped, .pinned], laidTests := true, laidLooks := .later }
def CharsTextsUptoCardSaid : Prop := Claim7.holds Tryd.pinned (.plain (OpenSpec.upto charsTextsSpec)) charsTextsUptoCard

/-- THE SECOND FORM's CARD OF 'gabaritlaw02.CharsBack'. -/
def charsBackUptoCard : Claim7 := { stood := { row := charsBackUptoRow, standIns := [], harness := (true, "3c3fe0b3fe6c7f82ab59d9d53e404c6c179d90dc6bd3ee8161509f07cc49a7f8"), looks := true }, kinds := [], alts := [], laidByText := true, laidKinds := [.data, .data, .data, .data, .sentinel, .sentinel, .data, .mapped, .pinned], laidTests := true, laidLooks := .later }
def CharsBackUptoCardSaid : Prop := Claim7.holds Tryd.pinned (.plain (OpenSpec.upto charsBackSpec)) charsBackUptoCard
end Rows
end Go.Proofs.YtllnfiidmpopkaaDoor
