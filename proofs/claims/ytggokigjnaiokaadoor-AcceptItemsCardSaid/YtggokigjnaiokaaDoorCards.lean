/-
  DERIVED. GIVEN WITH THE SEED: THE CARDS: each row of YtggokigjnaiokaaDoorRows.lean that lists a variable, with what it lists TIED to the program's text (the seventh form; the later family's looks); each row that meets fmt, with fmt's text TOLD by the authors' own Lean function (tested against real Go, not proved from fmt's source: count such statements apart). THE CARD IS WHAT COUNTS. Prove the row's statement (the work); the ties are given (YtggokigjnaiokaaDoorTie.lean); close each card by the builder's one call (the guide's Derived/Test/ToyasCard.lean, 'card_holds'). Laid BY PROGRAM, IN A SANDBOX (cutbox-door.mjs). By AI agents, Wed Nov 11 2026. No macro, syntax, notation, axiom, sorry.
-/
import Derived.Test.YtggokigjnaiokaaDoorRows
import GoSem.ClaimSeven
namespace Go.Proofs.YtggokigjnaiokaaDoor
namespace Rows

/-- THE TIED CARD OF 'bellowslaw27.PageTells'. -/
def pageTellsCard : Claim7 := { stood := { row := pageTellsRow, standIns := [], harness := (true, "16f53d9dc94bfd8de8145924d70a5e3dabccd054e942e07141c51738ef20e769"), looks := true }, kinds := [], alts := [], laidByText := true, laidKinds := [.data, .pinned], laidTests := true, laidLooks := .later }
def PageTellsCardSaid : Prop := Claim7.holds Tryd.pinned (.plain (OpenSpec.ofChange pageTellsSpec)) pageTellsCard

/-- THE TIED CARD OF 'bellowslaw27.PageFlushes'. -/
def pageFlushesCard : Claim7 := { stood := { row := pageFlushesRow, standIns := [], harness := (true, "16f53d9dc94bfd8de8145924d70a5e3dabccd054e942e07141c51738ef20e769"), looks := true }, kinds := [], alts := [], laidByText := true, laidKinds := [.data, .pinned], laidTests := true, laidLooks := .later }
def PageFlushesCardSaid : Prop := Claim7.holds Tryd.pinned (.plain (OpenSpec.ofChange pageFlushesSpec)) pageFlushesCard

/-- THE TIED CARD OF 'bellowslaw27.PageNames'. -/
def pageNamesCard : Claim7 := { stood := { row := pageNamesRow, standIns := [], harness := (true, "16f53d9dc94bfd8de8145924d70a5e3dabccd054e942e07141c51738ef20e769"), looks := true }, kinds := [], alts := [], laidByText := true, laidKinds := [.data, .data, .data, .data, .pinned], laidTests := true, laidLooks := .later }
def PageNamesCardSaid : Prop := Claim7.holds Tryd.pinned (.plain (OpenSpec.ofChange pageNamesSpec)) pageNamesCard

/-- THE TIED CARD OF 'bellowslaw21.SizeOne'. -/
def sizeOneCard : Claim7 := { stood := { row := sizeOneRow, standIns := [], harness := (true, "16f53d9dc94bfd8de8145924d70a5e3dabccd054e942e07141c51738ef20e769"), looks := true }, kinds := [], alts := [], laidByText := true, laidKinds := [.data, .data, .data, .data, .sentinel, .sentinel, .pinned], laidTests := true, laidLooks := .later }
def SizeOneCardSaid : Prop := Claim7.holds Tryd.pinned (.plain (OpenSpec.ofChange sizeOneSpec)) sizeOneCard

/-- THE TIED CARD OF 'bellowslaw21.SizeLengths'. -/
def sizeLengthsCard : Claim7 := { stood := { row := sizeLengthsRow, standIns := [], harness := (true, "16f53d9dc94bfd8de8145924d70a5e3dabccd054e942e07141c51738ef20e769"), looks := true }, kinds := [], alts := [], laidByText := true, laidKinds := [.data, .data, .data, .data, .sentinel, .sentinel, .pinned], laidTests := true, laidLooks := .later }
def SizeLengthsCardSaid : Prop := Claim7.holds Tryd.pinned (.plain (OpenSpec.ofChange sizeLengthsSpec)) sizeLengthsCard

/-- THE TIED CARD OF 'bellowslaw23.AcceptWeights'. -/
def acceptWeightsCard : Claim7 := { stood := { row := acceptWeightsRow, standIns := [], harness := (true, "16f53d9dc94bfd8de8145924d70a5e3dabccd054e942e07141c51738ef20e769"), looks := true }, kinds := [], alts := [], laidByText := true, laidKinds := [.data, .data, .data, .data, .sentinel, .sentinel, .pinned], laidTests := true, laidLooks := .later }
def AcceptWeightsCardSaid : Prop := Claim7.holds Tryd.pinned (.plain (OpenSpec.ofChange acceptWeightsSpec)) acceptWeightsCard

/-- THE TIED CARD OF 'bellowslaw23.AcceptBest'. -/
def acceptBestCard : Claim7 := { stood := { row := acceptBestRow, standIns := [], harness := (true, "16f53d9dc94bfd8de8145924d70a5e3dabccd054e942e07141c51738ef20e769"), looks := true }, kinds := [], alts := [], laidByText := true, laidKinds := [.data, .data, .data, .data, .sentinel, .sentinel, .pinned], laidTests := true, laidLooks := .later }
def AcceptBestCardSaid : Prop := Claim7.holds Tryd.pinned (.plain (OpenSpec.ofChange acceptBestSpec)) acceptBestCard

/-- THE TIED CARD OF 'bellowslaw23.AcceptItems'. -/
def acceptItemsCard : Claim7 := { stood := { row := acceptItemsRow, standIns := [], harness := (true, "16f53d9dc94bfd8de8145924d70a5e3dabccd054e942e07141c51738ef20e769"), looks := true }, kinds := [], alts := [], laidByText := true, laidKinds := [.data, .data, .data, .data, .sentinel, .sentinel, .pinned], laidTests := true, laidLooks := .later }
def AcceptItemsCardSaid : Prop := Claim7.holds Tryd.pinned (.plain (OpenSpec.ofChange acceptItemsSpec)) acceptItemsCard

/-- THE TIED CARD OF 'bellowslaw23.AcceptNames'. -/
def acceptNamesCard : Claim7 := { stood := { row := acceptNamesRow, standIns := [], harness := (true, "16f53d9dc94bfd8de8145924d70a5e3dabccd054e942e07141c51738ef20e769"), looks := true }, kinds := [], alts := [], laidByText := true, laidKinds := [.data, .data, .data, .data, .sentinel, .sentinel, .pinned], laidTests := true, laidLooks := .later }
def AcceptNamesCardSaid : Prop := Claim7.holds Tryd.pinned (.plain (OpenSpec.ofChange acceptNamesSpec)) acceptNamesCard

/-- THE SECOND FORM's CARD OF 'bellowslaw27.PageTells'. -/
def pageTellsUptoCard : Claim7 := { stood := { row := pageTellsUptoRow, standIns := [], harness := (true, "16f53d9dc94bfd8de8145924d70a5e3dabccd054e942e07141c51738ef20e769"), looks := true }, kinds := [], alts := [], laidByText := true, laidKinds := [.data, .pinned], laidTests := true, laidLooks := .later }
def PageTellsUptoCardSaid : Prop := Claim7.holds Tryd.pinned (.plain (OpenSpec.upto pageTellsSpec)) pageTellsUptoCard

/-- THE SECOND FORM's CARD OF 'bellowslaw27.PageFlushes'. -/
def pageFlushesUptoCard : Claim7 := { stood := { row := pageFlushesUptoRow, standIns := [], harness := (true, "16f53d9dc94bfd8de8145924d70a5e3dabccd054e942e07141c51738ef20e769"), looks := true }, kinds := [], alts := [], laidByText := true, laidKinds := [.data, .pinned], laidTests := true, laidLooks := .later }
def PageFlushesUptoCardSaid : Prop := Claim7.holds Tryd.pinned (.plain (OpenSpec.upto pageFlushesSpec)) pageFlushesUptoCard

/-- THE SECOND FORM's CARD OF 'bellowslaw27.PageNames'. -/
def pageNamesUptoCard : Claim7 := { stood := { row := pageNamesUptoRow, standIns := [], harness := (true, "16f53d9dc94bfd8de8145924d70a5e3dabccd054e942e07141c51738ef20e769"), looks := true }, kinds := [], alts := [], laidByText := true, laidKinds := [.data, .data, .data, .data, .pinned], laidTests := true, laidLooks := .later }
def PageNamesUptoCardSaid : Prop := Claim7.holds Tryd.pinned (.plain (OpenSpec.upto pageNamesSpec)) pageNamesUptoCard

/-- THE SECOND FORM's CARD OF 'bellowslaw21.SizeOne'. -/
def sizeOneUptoCard : Claim7 := { stood := { row := sizeOneUptoRow, standIns := [], harness := (true, "16f53d9dc94bfd8de8145924d70a5e3dabccd054e942e07141c51738ef20e769"), looks := true }, kinds := [], alts := [], laidByText := true, laidKinds := [.data, .data, .data, .data, .sentinel, .sentinel, .pinned], laidTests := true, laidLooks := .later }
def SizeOneUptoCardSaid : Prop := Claim7.holds Tryd.pinned (.plain (OpenSpec.upto sizeOneSpec)) sizeOneUptoCard

/-- THE SECOND FORM's CARD OF 'bellowslaw21.SizeLengths'. -/
def sizeLengthsUptoCard : Claim7 := { stood := { row := sizeLengthsUptoRow, standIns := [], harness := (true, "16f53d9dc94bfd8de8145924d70a5e3dabccd054e942e07141c51738ef20e769"), looks := true }, kinds := [], alts := [], laidByText := true, laidKinds := [.data, .data, .data, .data, .sentinel, .sentinel, .pinned], laidTests := true, laidLooks := .later }
def SizeLengthsUptoCardSaid : Prop := Claim7.holds Tryd.pinned (.plain (OpenSpec.upto sizeLengthsSpec)) sizeLengthsUptoCard

/-- THE SECOND FORM's CARD OF 'bellowslaw23.AcceptWeights'. -/
def acceptWeightsUptoCard : Claim7 := { stood := { row := acceptWeightsUptoRow, standIns := [], harness := (true, "16f53d9dc94bfd8de8145924d70a5e3dabccd054e942e07141c51738ef20e769"), looks := true }, kinds := [], alts := [], laidByText := true, laidKinds := [.data, .data, .data, .data, .sentinel, .sentinel, .pinned], laidTests := true, laidLooks := .later }
def AcceptWeightsUptoCardSaid : Prop := Claim7.holds Tryd.pinned (.plain (OpenSpec.upto acceptWeightsSpec)) acceptWeightsUptoCard

/-- THE SECOND FORM's CARD OF 'bellowslaw23.AcceptBest'. -/
def acceptBestUptoCard : Claim7 := { stood := { row := acceptBestUptoRow, standIns := [], harness := (true, "16f53d9dc94bfd8de8145924d70a5e3dabccd054e942e07141c51738ef20e769"), looks := true }, kinds := [], alts := [], laidByText := true, laidKinds := [.data, .data, .data, .data, .sentinel, .sentinel, .pinned], laidTests := true, laidLooks := .later }
def AcceptBestUptoCardSaid : Prop := Claim7.holds Tryd.pinned (.plain (OpenSpec.upto acceptBestSpec)) acceptBestUptoCard

/-- THE SECOND FORM's CARD OF 'bellowslaw23.AcceptItems'. -/
def acceptItemsUptoCard : Claim7 := { stood := { row := acceptItemsUptoRow, standIns := [], harness := (true, "16f53d9dc94bfd8de8145924d70a5e3dabccd054e942e07141c51738ef20e769"), looks := true }, kinds := [], alts := [], laidByText := true, laidKinds := [.data, .data, .data, .data, .sentinel, .sentinel, .pinned], laidTests := true, laidLooks := .later }
def AcceptItemsUptoCardSaid : Prop := Claim7.holds Tryd.pinned (.plain (OpenSpec.upto acceptItemsSpec)) acceptItemsUptoCard

/-- THE SECOND FORM's CARD OF 'bellowslaw23.AcceptNames'. -/
def acceptNamesUptoCard : Claim7 := { stood := { row := acceptNamesUptoRow, standIns := [], harness := (true, "16f53d9dc94bfd8de8145924d70a5e3dabccd054e942e07141c51738ef20e769"), looks := true }, kinds := [], alts := [], laidByText := true, laidKinds := [.data, .data, .data, .data, .sentinel, .sentinel, .pinned], laidTests := true, laidLooks := .later }
def AcceptNamesUptoCardSaid : Prop := Claim7.holds Tryd.pinned (.plain (OpenSpec.upto acceptNamesSpec)) acceptNamesUptoCard
end Rows
end Go.Proofs.YtggokigjnaiokaaDoor
