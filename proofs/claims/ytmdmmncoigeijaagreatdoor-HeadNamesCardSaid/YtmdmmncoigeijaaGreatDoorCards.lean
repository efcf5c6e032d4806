/-
  DERIVED. GIVEN WITH THE SEED: THE CARDS: each row of YtmdmmncoigeijaaGreatDoorRows.lean that lists a variable, with what it lists TIED to the program's text (the seventh form; the later family's looks); each row that meets fmt, with fmt's text TOLD by the authors' own Lean function (tested against real Go, not proved from fmt's source: count such statements apart). THE CARD IS WHAT COUNTS. Prove the row's statement (the work); the ties are given (YtmdmmncoigeijaaGreatDoorTie.lean); close each card by the builder's one call (the guide's Derived/Test/ToyasCard.lean, 'card_holds'). Laid BY PROGRAM, IN A SANDBOX (cutbox-door.mjs). By AI agents, Wed Nov 11 2026. No macro, syntax, notation, axiom, sorry.
-/
import Derived.Test.YtmdmmncoigeijaaGreatDoorRows
import GoSem.ClaimSeven
namespace Go.Proofs.YtmdmmncoigeijaaGreatDoor
namespace Rows

/-- THE TIED CARD OF 'bellowslaw27.PageAnswers'. -/
def pageAnswersCard : Claim7 := { stood := { row := pageAnswersRow, standIns := [], harness := (true, "faf4550fcd9e170547fbc6d6c8bdf887dd5c36378ff1c941535c2c5189c75caf"), looks := true }, kinds := [], alts := [], laidByText := true, laidKinds := [.data, .data, .data, .data, .pinned], laidTests := true, laidLooks := .later }
def PageAnswersCardSaid : Prop := Claim7.holds Tryz.pinned (.plain (OpenSpec.ofChange pageAnswersSpec)) pageAnswersCard

/-- THE TIED CARD OF 'bellowslaw20.HeadWrites'. -/
def headWritesCard : Claim7 := { stood := { row := headWritesRow, standIns := [], harness := (true, "faf4550fcd9e170547fbc6d6c8bdf887dd5c36378ff1c941535c2c5189c75caf"), looks := true }, kinds := [], alts := [], laidByText := true, laidKinds := [.data, .data, .data, .data, .sentinel, .sentinel, .pinned], laidTests := true, laidLooks := .later }
def HeadWritesCardSaid : Prop := Claim7.holds Tryz.pinned (.plain (OpenSpec.ofChange headWritesSpec)) headWritesCard

/-- THE TIED CARD OF 'bellowslaw20.HeadNames'. -/
def headNamesCard : Claim7 := { stood := { row := headNamesRow, standIns := [], harness := (true, "faf4550fcd9e170547fbc6d6c8bdf887dd5c36378ff1c941535c2c5189c75caf"), looks := true }, kinds := [], alts := [], laidByText := true, laidKinds := [.data, .data, .data, .data, .sentinel, .sentinel, .pinned], laidTests := true, laidLooks := .later }
def HeadNamesCardSaid : Prop := Claim7.holds Tryz.pinned (.plain (OpenSpec.ofChange headNamesSpec)) headNamesCard

/-- THE TIED CARD OF 'bellowslaw20.HeadBack'. -/
def headBackCard : Claim7 := { stood := { row := headBackRow, standIns := [], harness := (true, "faf4550fcd9e170547fbc6d6c8bdf887dd5c36378ff1c941535c2c5189c75caf"), looks := true }, kinds := [], alts := [], laidByText := true, laidKinds := [.data, .data, .data, .data, .sentinel, .sentinel, .pinned], laidTests := true, laidLooks := .later }
def HeadBackCardSaid : Prop := Claim7.holds Tryz.pinned (.plain (OpenSpec.ofChange headBackSpec)) headBackCard

/-- THE TIED CARD OF 'bellowslaw22.ChunkNames'. -/
def chunkNamesCard : Claim7 := { stood := { row := chunkNamesRow, standIns := [], harness := (true, "faf4550fcd9e170547fbc6d6c8bdf887dd5c36378ff1c941535c2c5189c75caf"), looks := true }, kinds := [], alts := [], laidByText := true, laidKinds := [.data, .data, .data, .data, .sentinel, .sentinel, .pinned], laidTests := true, laidLooks := .later }
def ChunkNamesCardSaid : Prop := Claim7.holds Tryz.pinned (.plain (OpenSpec.ofChange chunkNamesSpec)) chunkNamesCard

/-- THE SECOND FORM's CARD OF 'bellowslaw27.PageAnswers'. -/
def pageAnswersUptoCard : Claim7 := { stood := { row := pageAnswersUptoRow, standIns := [], harness := (true, "faf4550fcd9e170547fbc6d6c8bdf887dd5c36378ff1c941535c2c5189c75caf"), looks := true }, kinds := [], alts := [], laidByText := true, laidKinds := [.data, .data, .data, .data, .pinned], laidTests := true, laidLooks := .later }
def PageAnswersUptoCardSaid : Prop := Claim7.holds Tryz.pinned (.plain (OpenSpec.upto pageAnswersSpec)) pageAnswersUptoCard

/-- THE SECOND FORM's CARD OF 'bellowslaw20.HeadWrites'. -/
def headWritesUptoCard : Claim7 := { stood := { row := headWritesUptoRow, standIns := [], harness := (true, "faf4550fcd9e170547fbc6d6c8bdf887dd5c36378ff1c941535c2c5189c75caf"), looks := true }, kinds := [], alts := [], laidByText := true, laidKinds := [.data, .data, .data, .data, .sentinel, .sentinel, .pinned], laidTests := true, laidLooks := .later }
def HeadWritesUptoCardSaid : Prop := Claim7.holds Tryz.pinned (.plain (OpenSpec.upto headWritesSpec)) headWritesUptoCard

/-- THE SECOND FORM's CARD OF 'bellowslaw20.HeadNames'. -/
def headNamesUptoCard : Claim7 := { stood := { row := headNamesUptoRow, standIns := [], harness := (true, "faf4550fcd9e170547fbc6d6c8bdf887dd5c36378ff1c941535c2c5189c75caf"), looks := true }, kinds := [], alts := [], laidByText := true, laidKinds := [.data, .data, .data, .data, .sentinel, .sentinel, .pinned], laidTests := true, laidLooks := .later }
def HeadNamesUptoCardSaid : Prop := Claim7.holds Tryz.pinned (.plain (OpenSpec.upto headNamesSpec)) headNamesUptoCard

/-- THE SECOND FORM's CARD OF 'bellowslaw20.HeadBack'. -/
def headBackUptoCard : Claim7 := { stood := { row := headBackUptoRow, standIns := [], harness := (true, "faf4550fcd9e170547fbc6d6c8bdf887dd5c36378ff1c941535c2c5189c75caf"), looks := true }, kinds := [], alts := [], laidByText := true, laidKinds := [.data, .data, .data, .data, .sentinel, .sentinel, .pinned], laidTests := true, laidLooks := .later }
def HeadBackUptoCardSaid : Prop := Claim7.holds Tryz.pinned (.plain (OpenSpec.upto headBackSpec)) headBackUptoCard

/-- THE SECOND FORM's CARD OF 'bellowslaw22.ChunkNames'. -/
def chunkNamesUptoCard : Claim7 := { stood := { row := chunkNamesUptoRow, standIns := [], harness := (true, "faf4550fcd9e170547fbc6d6c8bdf887dd5c36378ff1c941535c2c5189c75caf"), looks := true }, kinds := [], alts := [], laidByText := true, laidKinds := [.data, .data, .data, .data, .sentinel, .sentinel, .pinned], laidTests := true, laidLooks := .later }
def ChunkNamesUptoCardSaid : Prop := Claim7.holds Tryz.pinned (.plain (OpenSpec.upto chunkNamesSpec)) chunkNamesUptoCard
end Rows
end Go.Proofs.YtmdmmncoigeijaaGreatDoor
