/-
  DERIVED. GIVEN WITH THE SEED: THE CARDS: each row of YtflfajcaicackaaDoorRows.lean that lists a variable, with what it lists TIED to the program's text (the seventh form; the later family's looks); each row that meets fmt, with fmt's text TOLD by the authors' own Lean function (tested against real Go, not proved from fmt's source: count such statements apart). THE CARD IS WHAT COUNTS. Prove the row's statement (the work); the ties are given (YtflfajcaicackaaDoorTie.lean); close each card by the builder's one call (the guide's Derived/Test/ToyasCard.lean, 'card_holds'). Laid BY PROGRAM, IN A SANDBOX (cutbox-door.mjs). By AI agents, Wed Nov 11 2026. No macro, syntax, notation, axiom, sorry.
-/
import Derived.Test.YtflfajcaicackaaDoorRows
import GoSem.ClaimSeven
namespace Go.Proofs.YtflfajcaicackaaDoor
namespace Rows

/-- THE TIED CARD OF 'bellowslaw19.LineWrites'. -/
def lineWritesCard : Claim7 := { stood := { row := lineWritesRow, standIns := [], harness := (true, "6243cc840b82b5e92bc9a1138f1dfe7daac33eba6c010c389fcb56edacd6918f"), looks := true }, kinds := [], alts := [], laidByText := true, laidKinds := [.data, .data, .data, .sentinel, .sentinel], laidTests := true, laidLooks := .later }
def LineWritesCardSaid : Prop := Claim7.holds Tryd.pinned (.plain (OpenSpec.ofChange lineWritesSpec)) lineWritesCard

/-- THE TIED CARD OF 'bellowslaw25.VaryAll'. -/
def varyAllCard : Claim7 := { stood := { row := varyAllRow, standIns := [], harness := (true, "6243cc840b82b5e92bc9a1138f1dfe7daac33eba6c010c389fcb56edacd6918f"), looks := true }, kinds := [], alts := [], laidByText := true, laidKinds := [.data, .pinned], laidTests := true, laidLooks := .later }
def VaryAllCardSaid : Prop := Claim7.holds Tryd.pinned (.plain (OpenSpec.ofChange varyAllSpec)) varyAllCard

/-- THE TIED CARD OF 'bellowslaw25.VaryNames'. -/
def varyNamesCard : Claim7 := { stood := { row := varyNamesRow, standIns := [], harness := (true, "6243cc840b82b5e92bc9a1138f1dfe7daac33eba6c010c389fcb56edacd6918f"), looks := true }, kinds := [], alts := [], laidByText := true, laidKinds := [.data, .pinned], laidTests := true, laidLooks := .later }
def VaryNamesCardSaid : Prop := Claim7.holds Tryd.pinned (.plain (OpenSpec.ofChange varyNamesSpec)) varyNamesCard

/-- THE TIED CARD OF 'bellowslaw25.VaryTells'. -/
def varyTellsCard : Claim7 := { stood := { row := varyTellsRow, standIns := [], harness := (true, "6243cc840b82b5e92bc9a1138f1dfe7daac33eba6c010c389fcb56edacd6918f"), looks := true }, kinds := [], alts := [], laidByText := true, laidKinds := [.data, .pinned], laidTests := true, laidLooks := .later }
def VaryTellsCardSaid : Prop := Claim7.holds Tryd.pinned (.plain (OpenSpec.ofChange varyTellsSpec)) varyTellsCard

/-- THE TIED CARD OF 'bellowslaw25.VaryFields'. -/
def varyFieldsCard : Claim7 := { stood := { row := varyFieldsRow, standIns := [], harness := (true, "6243cc840b82b5e92bc9a1138f1dfe7daac33eba6c010c389fcb56edacd6918f"), looks := true }, kinds := [], alts := [], laidByText := true, laidKinds := [.data, .pinned], laidTests := true, laidLooks := .later }
def VaryFieldsCardSaid : Prop := Claim7.holds Tryd.pinned (.plain (OpenSpec.ofChange varyFieldsSpec)) varyFieldsCard

/-- THE TIED CARD OF 'bellowslaw19.LineBack'. -/
def lineBackCard : Claim7 := { stood := { row := lineBackRow, standIns := [], harness := (true, "6243cc840b82b5e92bc9a1138f1dfe7daac33eba6c010c389fcb56edacd6918f"), looks := true }, kinds := [], alts := [], laidByText := true, laidKinds := [.data, .data, .data, .sentinel, .sentinel], laidTests := true, laidLooks := .later }
def LineBackCardSaid : Prop := Claim7.holds Tryd.pinned (.plain (OpenSpec.ofChange lineBackSpec)) lineBackCard

/-- THE TIED CARD OF 'bellowslaw19.LineReads'. -/
def lineReadsCard : Claim7 := { stood := { row := lineReadsRow, standIns := [], harness := (true, "6243cc840b82b5e92bc9a1138f1dfe7daac33eba6c010c389fcb56edacd6918f"), looks := true }, kinds := [], alts := [], laidByText := true, laidKinds := [.data, .data, .data, .data, .sentinel, .sentinel, .pinned], laidTests := true, laidLooks := .later }
def LineReadsCardSaid : Prop := Claim7.holds Tryd.pinned (.plain (OpenSpec.ofChange lineReadsSpec)) lineReadsCard

/-- THE TIED CARD OF 'bellowslaw19.LineParts'. -/
def linePartsCard : Claim7 := { stood := { row := linePartsRow, standIns := [], harness := (true, "6243cc840b82b5e92bc9a1138f1dfe7daac33eba6c010c389fcb56edacd6918f"), looks := true }, kinds := [], alts := [], laidByText := true, laidKinds := [.data, .data, .data, .data, .sentinel, .sentinel, .pinned], laidTests := true, laidLooks := .later }
def LinePartsCardSaid : Prop := Claim7.holds Tryd.pinned (.plain (OpenSpec.ofChange linePartsSpec)) linePartsCard

/-- THE TIED CARD OF 'bellowslaw19.LineQuotes'. -/
def lineQuotesCard : Claim7 := { stood := { row := lineQuotesRow, standIns := [], harness := (true, "6243cc840b82b5e92bc9a1138f1dfe7daac33eba6c010c389fcb56edacd6918f"), looks := true }, kinds := [], alts := [], laidByText := true, laidKinds := [.data, .data, .data, .data, .sentinel, .sentinel, .pinned], laidTests := true, laidLooks := .later }
def LineQuotesCardSaid : Prop := Claim7.holds Tryd.pinned (.plain (OpenSpec.ofChange lineQuotesSpec)) lineQuotesCard

/-- THE TIED CARD OF 'bellowslaw19.LineNames'. -/
def lineNamesCard : Claim7 := { stood := { row := lineNamesRow, standIns := [], harness := (true, "6243cc840b82b5e92bc9a1138f1dfe7daac33eba6c010c389fcb56edacd6918f"), looks := true }, kinds := [], alts := [], laidByText := true, laidKinds := [.data, .data, .data, .data, .sentinel, .sentinel, .pinned], laidTests := true, laidLooks := .later }
def LineNamesCardSaid : Prop := Claim7.holds Tryd.pinned (.plain (OpenSpec.ofChange lineNamesSpec)) lineNamesCard

/-- THE SECOND FORM's CARD OF 'bellowslaw19.LineWrites'. -/
def lineWritesUptoCard : Claim7 := { stood := { row := lineWritesUptoRow, standIns := [], harness := (true, "6243cc840b82b5e92bc9a1138f1dfe7daac33eba6c010c389fcb56edacd6918f"), looks := true }, kinds := [], alts := [], laidByText := true, laidKinds := [.data, .data, .data, .sentinel, .sentinel], laidTests := true, laidLooks := .later }
def LineWritesUptoCardSaid : Prop := Claim7.holds Tryd.pinned (.plain (OpenSpec.upto lineWritesSpec)) lineWritesUptoCard

/-- THE SECOND FORM's CARD OF 'bellowslaw25.VaryAll'. -/
def varyAllUptoCard : Claim7 := { stood := { row := varyAllUptoRow, standIns := [], harness := (true, "6243cc840b82b5e92bc9a1138f1dfe7daac33eba6c010c389fcb56edacd6918f"), looks := true }, kinds := [], alts := [], laidByText := true, laidKinds := [.data, .pinned], laidTests := true, laidLooks := .later }
def VaryAllUptoCardSaid : Prop := Claim7.holds Tryd.pinned (.plain (OpenSpec.upto varyAllSpec)) varyAllUptoCard

/-- THE SECOND FORM's CARD OF 'bellowslaw25.VaryNames'. -/
def varyNamesUptoCard : Claim7 := { stood := { row := varyNamesUptoRow, standIns := [], harness := (true, "6243cc840b82b5e92bc9a1138f1dfe7daac33eba6c010c389fcb56edacd6918f"), looks := true }, kinds := [], alts := [], laidByText := true, laidKinds := [.data, .pinned], laidTests := true, laidLooks := .later }
def VaryNamesUptoCardSaid : Prop := Claim7.holds Tryd.pinned (.plain (OpenSpec.upto varyNamesSpec)) varyNamesUptoCard

/-- THE SECOND FORM's CARD OF 'bellowslaw25.VaryTells'. -/
def varyTellsUptoCard : Claim7 := { stood := { row := varyTellsUptoRow, standIns := [], harness := (true, "6243cc840b82b5e92bc9a1138f1dfe7daac33eba6c010c389fcb56edacd6918f"), looks := true }, kinds := [], alts := [], laidByText := true, laidKinds := [.data, .pinned], laidTests := true, laidLooks := .later }
def VaryTellsUptoCardSaid : Prop := Claim7.holds Tryd.pinned (.plain (OpenSpec.upto varyTellsSpec)) varyTellsUptoCard

/-- THE SECOND FORM's CARD OF 'bellowslaw25.VaryFields'. -/
def varyFieldsUptoCard : Claim7 := { stood := { row := varyFieldsUptoRow, standIns := [], harness := (true, "6243cc840b82b5e92bc9a1138f1dfe7daac33eba6c010c389fcb56edacd6918f"), looks := true }, kinds := [], alts := [], laidByText := true, laidKinds := [.data, .pinned], laidTests := true, laidLooks := .later }
def VaryFieldsUptoCardSaid : Prop := Claim7.holds Tryd.pinned (.plain (OpenSpec.upto varyFieldsSpec)) varyFieldsUptoCard

/-- THE SECOND FORM's CARD OF 'bellowslaw19.LineBack'. -/
def lineBackUptoCard : Claim7 := { stood := { row := lineBackUptoRow, standIns := [], harness := (true, "6243cc840b82b5e92bc9a1138f1dfe7daac33eba6c010c389fcb56edacd6918f"), looks := true }, kinds := [], alts := [], laidByText := true, laidKinds := [.data, .data, .data, .sentinel, .sentinel], laidTests := true, laidLooks := .later }
def LineBackUptoCardSaid : Prop := Claim7.holds Tryd.pinned (.plain (OpenSpec.upto lineBackSpec)) lineBackUptoCard

/-- THE SECOND FORM's CARD OF 'bellowslaw19.LineReads'. -/
def lineReadsUptoCard : Claim7 := { stood := { row := lineReadsUptoRow, standIns := [], harness := (true, "6243cc840b82b5e92bc9a1138f1dfe7daac33eba6c010c389fcb56edacd6918f"), looks := true }, kinds := [], alts := [], laidByText := true, laidKinds := [.data, .data, .data, .data, .sentinel, .sentinel, .pinned], laidTests := true, laidLooks := .later }
def LineReadsUptoCardSaid : Prop := Claim7.holds Tryd.pinned (.plain (OpenSpec.upto lineReadsSpec)) lineReadsUptoCard

/-- THE SECOND FORM's CARD OF 'bellowslaw19.LineParts'. -/
def linePartsUptoCard : Claim7 := { stood := { row := linePartsUptoRow, standIns := [], harness := (true, "6243cc840b82b5e92bc9a1138f1dfe7daac33eba6c010c389fcb56edacd6918f"), looks := true }, kinds := [], alts := [], laidByText := true, laidKinds := [.data, .data, .data, .data, .sentinel, .sentinel, .pinned], laidTests := true, laidLooks := .later }
def LinePartsUptoCardSaid : Prop := Claim7.holds Tryd.pinned (.plain (OpenSpec.upto linePartsSpec)) linePartsUptoCard

/-- THE SECOND FORM's CARD OF 'bellowslaw19.LineQuotes'. -/
def lineQuotesUptoCard : Claim7 := { stood := { row := lineQuotesUptoRow, standIns := [], harness := (true, "6243cc840b82b5e92bc9a1138f1dfe7daac33eba6c010c389fcb56edacd6918f"), looks := true }, kinds := [], alts := [], laidByText := true, laidKinds := [.data, .data, .data, .data, .sentinel, .sentinel, .pinned], laidTests := true, laidLooks := .later }
def LineQuotesUptoCardSaid : Prop := Claim7.holds Tryd.pinned (.plain (OpenSpec.upto lineQuotesSpec)) lineQuotesUptoCard

/-- THE SECOND FORM's CARD OF 'bellowslaw19.LineNames'. -/
def lineNamesUptoCard : Claim7 := { stood := { row := lineNamesUptoRow, standIns := [], harness := (true, "6243cc840b82b5e92bc9a1138f1dfe7daac33eba6c010c389fcb56edacd6918f"), looks := true }, kinds := [], alts := [], laidByText := true, laidKinds := [.data, .data, .data, .data, .sentinel, .sentinel, .pinned], laidTests := true, laidLooks := .later }
def LineNamesUptoCardSaid : Prop := Claim7.holds Tryd.pinned (.plain (OpenSpec.upto lineNamesSpec)) lineNamesUptoCard
end Rows
end Go.Proofs.YtflfajcaicackaaDoor
