/-
  DERIVED. GIVEN WITH THE SEED: THE CARDS: each row of YtmdmmncoigeijaaDoorRows.lean that lists a variable, with what it lists TIED to the program's text (the seventh form; the later family's looks); each row that meets fmt, with fmt's text TOLD by the authors' own Lean function (tested against real Go, not proved from fmt's source: count such statements apart). THE CARD IS WHAT COUNTS. Prove the row's statement (the work); the ties are given (YtmdmmncoigeijaaDoorTie.lean); close each card by the builder's one call (the guide's Derived/Test/ToyasCard.lean, 'card_holds'). Laid BY PROGRAM, IN A SANDBOX (cutbox-door.mjs). By AI agents, Wed Nov 11 2026. No macro, syntax, notation, axiom, sorry.
-/
import Derived.Test.YtmdmmncoigeijaaDoorRows
import GoSem.ClaimSeven
namespace Go.Proofs.YtmdmmncoigeijaaDoor
namespace Rows

/-- THE TIED CARD OF 'bellowslaw27.PageTells'. -/
def pageTellsCard : Claim7 := { stood := { row := pageTellsRow, standIns := [], harness := (true, "ae5cb69e8cbbb3fdca7aa4ecb7cce66e64717219b0538829885f7d0cdbc6dda9"), looks := true }, kinds := [], alts := [], laidByText := true, laidKinds := [.data, .pinned], laidTests := true, laidLooks := .later }
def PageTellsCardSaid : Prop := Claim7.holds Tryd.pinned (.plain (OpenSpec.ofChange pageTellsSpec)) pageTellsCard

/-- THE TIED CARD OF 'bellowslaw27.PageFlushes'. -/
def pageFlushesCard : Claim7 := { stood := { row := pageFlushesRow, standIns := [], harness := (true, "ae5cb69e8cbbb3fdca7aa4ecb7cce66e64717219b0538829885f7d0cdbc6dda9"), looks := true }, kinds := [], alts := [], laidByText := true, laidKinds := [.data, .pinned], laidTests := true, laidLooks := .later }
def PageFlushesCardSaid : Prop := Claim7.holds Tryd.pinned (.plain (OpenSpec.ofChange pageFlushesSpec)) pageFlushesCard

/-- THE TIED CARD OF 'bellowslaw27.PageNames'. -/
def pageNamesCard : Claim7 := { stood := { row := pageNamesRow, standIns := [], harness := (true, "ae5cb69e8cbbb3fdca7aa4ecb7cce66e64717219b0538829885f7d0cdbc6dda9"), looks := true }, kinds := [], alts := [], laidByText := true, laidKinds := [.data, .data, .data, .data, .pinned], laidTests := true, laidLooks := .later }
def PageNamesCardSaid : Prop := Claim7.holds Tryd.pinned (.plain (OpenSpec.ofChange pageNamesSpec)) pageNamesCard

/-- THE TIED CARD OF 'bellowslaw20.HeadBegins'. -/
def headBeginsCard : Claim7 := { stood := { row := headBeginsRow, standIns := [], harness := (true, "ae5cb69e8cbbb3fdca7aa4ecb7cce66e64717219b0538829885f7d0cdbc6dda9"), looks := true }, kinds := [], alts := [], laidByText := true, laidKinds := [.data, .data, .data, .data, .sentinel, .sentinel, .pinned], laidTests := true, laidLooks := .later }
def HeadBeginsCardSaid : Prop := Claim7.holds Tryd.pinned (.plain (OpenSpec.ofChange headBeginsSpec)) headBeginsCard

/-- THE TIED CARD OF 'bellowslaw20.HeadLimits'. -/
def headLimitsCard : Claim7 := { stood := { row := headLimitsRow, standIns := [], harness := (true, "ae5cb69e8cbbb3fdca7aa4ecb7cce66e64717219b0538829885f7d0cdbc6dda9"), looks := true }, kinds := [], alts := [], laidByText := true, laidKinds := [.data, .data, .data, .data, .sentinel, .sentinel, .pinned], laidTests := true, laidLooks := .later }
def HeadLimitsCardSaid : Prop := Claim7.holds Tryd.pinned (.plain (OpenSpec.ofChange headLimitsSpec)) headLimitsCard

/-- THE TIED CARD OF 'bellowslaw22.ChunkParts'. -/
def chunkPartsCard : Claim7 := { stood := { row := chunkPartsRow, standIns := [], harness := (true, "ae5cb69e8cbbb3fdca7aa4ecb7cce66e64717219b0538829885f7d0cdbc6dda9"), looks := true }, kinds := [], alts := [], laidByText := true, laidKinds := [.data, .data, .data, .data, .sentinel, .sentinel, .pinned], laidTests := true, laidLooks := .later }
def ChunkPartsCardSaid : Prop := Claim7.holds Tryd.pinned (.plain (OpenSpec.ofChange chunkPartsSpec)) chunkPartsCard

/-- THE TIED CARD OF 'bellowslaw22.ChunkKeeps'. -/
def chunkKeepsCard : Claim7 := { stood := { row := chunkKeepsRow, standIns := [], harness := (true, "ae5cb69e8cbbb3fdca7aa4ecb7cce66e64717219b0538829885f7d0cdbc6dda9"), looks := true }, kinds := [], alts := [], laidByText := true, laidKinds := [.data, .data, .data, .data, .sentinel, .sentinel, .pinned], laidTests := true, laidLooks := .later }
def ChunkKeepsCardSaid : Prop := Claim7.holds Tryd.pinned (.plain (OpenSpec.ofChange chunkKeepsSpec)) chunkKeepsCard

/-- THE SECOND FORM's CARD OF 'bellowslaw27.PageTells'. -/
def pageTellsUptoCard : Claim7 := { stood := { row := pageTellsUptoRow, standIns := [], harness := (true, "ae5cb69e8cbbb3fdca7aa4ecb7cce66e64717219b0538829885f7d0cdbc6dda9"), looks := true }, kinds := [], alts := [], laidByText := true, laidKinds := [.data, .pinned], laidTests := true, laidLooks := .later }
def PageTellsUptoCardSaid : Prop := Claim7.holds Tryd.pinned (.plain (OpenSpec.upto pageTellsSpec)) pageTellsUptoCard

/-- THE SECOND FORM's CARD OF 'bellowslaw27.PageFlushes'. -/
def pageFlushesUptoCard : Claim7 := { stood := { row := pageFlushesUptoRow, standIns := [], harness := (true, "ae5cb69e8cbbb3fdca7aa4ecb7cce66e64717219b0538829885f7d0cdbc6dda9"), looks := true }, kinds := [], alts := [], laidByText := true, laidKinds := [.data, .pinned], laidTests := true, laidLooks := .later }
def PageFlushesUptoCardSaid : Prop := Claim7.holds Tryd.pinned (.plain (OpenSpec.upto pageFlushesSpec)) pageFlushesUptoCard

/-- THE SECOND FORM's CARD OF 'bellowslaw27.PageNames'. -/
def pageNamesUptoCard : Claim7 := { stood := { row := pageNamesUptoRow, standIns := [], harness := (true, "ae5cb69e8cbbb3fdca7aa4ecb7cce66e64717219b0538829885f7d0cdbc6dda9"), looks := true }, kinds := [], alts := [], laidByText := true, laidKinds := [.data, .data, .data, .data, .pinned], laidTests := true, laidLooks := .later }
def PageNamesUptoCardSaid : Prop := Claim7.holds Tryd.pinned (.plain (OpenSpec.upto pageNamesSpec)) pageNamesUptoCard

/-- THE SECOND FORM's CARD OF 'bellowslaw20.HeadBegins'. -/
def headBeginsUptoCard : Claim7 := { stood := { row := headBeginsUptoRow, standIns := [], harness := (true, "ae5cb69e8cbbb3fdca7aa4ecb7cce66e64717219b0538829885f7d0cdbc6dda9"), looks := true }, kinds := [], alts := [], laidByText := true, laidKinds := [.data, .data, .data, .data, .sentinel, .sentinel, .pinned], laidTests := true, laidLooks := .later }
def HeadBeginsUptoCardSaid : Prop := Claim7.holds Tryd.pinned (.plain (OpenSpec.upto headBeginsSpec)) headBeginsUptoCard

/-- THE SECOND FORM's CARD OF 'bellowslaw20.HeadLimits'. -/
def headLimitsUptoCard : Claim7 := { stood := { row := headLimitsUptoRow, standIns := [], harness := (true, "ae5cb69e8cbbb3fdca7aa4ecb7cce66e64717219b0538829885f7d0cdbc6dda9"), looks := true }, kinds := [], alts := [], laidByText := true, laidKinds := [.data, .data, .data, .data, .sentinel, .sentinel, .pinned], laidTests := true, laidLooks := .later }
def HeadLimitsUptoCardSaid : Prop := Claim7.holds Tryd.pinned (.plain (OpenSpec.upto headLimitsSpec)) headLimitsUptoCard

/-- THE SECOND FORM's CARD OF 'bellowslaw22.ChunkParts'. -/
def chunkPartsUptoCard : Claim7 := { stood := { row := chunkPartsUptoRow, standIns := [], harness := (true, "ae5cb69e8cbbb3fdca7aa4ecb7cce66e64717219b0538829885f7d0cdbc6dda9"), looks := true }, kinds := [], alts := [], laidByText := true, laidKinds := [.data, .data, .data, .data, .sentinel, .sentinel, .pinned], laidTests := true, laidLooks := .later }
def ChunkPartsUptoCardSaid : Prop := Claim7.holds Tryd.pinned (.plain (OpenSpec.upto chunkPartsSpec)) chunkPartsUptoCard

/-- THE SECOND FORM's CARD OF 'bellowslaw22.ChunkKeeps'. -/
def chunkKeepsUptoCard : Claim7 := { stood := { row := chunkKeepsUptoRow, standIns := [], harness := (true, "ae5cb69e8cbbb3fdca7aa4ecb7cce66e64717219b0538829885f7d0cdbc6dda9"), looks := true }, kinds := [], alts := [], laidByText := true, laidKinds := [.data, .data, .data, .data, .sentinel, .sentinel, .pinned], laidTests := true, laidLooks := .later }
def ChunkKeepsUptoCardSaid : Prop := Claim7.holds Tryd.pinned (.plain (OpenSpec.upto chunkKeepsSpec)) chunkKeepsUptoCard
end Rows
end Go.Proofs.YtmdmmncoigeijaaDoor
