/-
  DERIVED. GIVEN WITH THE SEED: THE CARDS: each row of YtgemjpoggbdfaaaDoorRows.lean that lists a variable, with what it lists TIED to the program's text (the seventh form; the later family's looks); each row that meets fmt, with fmt's text TOLD by the authors' own Lean function (tested against real Go, not proved from fmt's source: count such statements apart). THE CARD IS WHAT COUNTS. Prove the row's statement (the work); the ties are given (YtgemjpoggbdfaaaDoorTie.lean); close each card by the builder's one call (the guide's Derived/Test/ToyasCard.lean, 'card_holds'). Laid BY PROGRAM, IN A SANDBOX (cutbox-door.mjs). By AI agents, Wed Nov 11 2026. No macro, syntax, notation, axiom, sorry.
-/
import Derived.Test.YtgemjpoggbdfaaaDoorRows
import GoSem.ClaimSeven
namespace Go.Proofs.YtgemjpoggbdfaaaDoor
namespace Rows

/-- THE TIED CARD OF 'bellowslaw24.TagNames'. -/
def tagNamesCard : Claim7 := { stood := { row := tagNamesRow, standIns := [], harness := (true, "becbddd455ae0737f2b5cbb6bb4bbc491ddf8359ad47b3f384b2232912bb96b2"), looks := false }, kinds := [], alts := [], laidByText := true, laidKinds := [.data, .pinned], laidTests := true, laidLooks := .later }
def TagNamesCardSaid : Prop := Claim7.holds Tryd.pinned (.plain (OpenSpec.ofChange tagNamesSpec)) tagNamesCard

/-- THE TIED CARD OF 'bellowslaw24.TagTells'. -/
def tagTellsCard : Claim7 := { stood := { row := tagTellsRow, standIns := [], harness := (true, "becbddd455ae0737f2b5cbb6bb4bbc491ddf8359ad47b3f384b2232912bb96b2"), looks := false }, kinds := [], alts := [], laidByText := true, laidKinds := [.data, .pinned], laidTests := true, laidLooks := .later }
def TagTellsCardSaid : Prop := Claim7.holds Tryd.pinned (.plain (OpenSpec.ofChange tagTellsSpec)) tagTellsCard

/-- THE TIED CARD OF 'bellowslaw24.TagApart'. -/
def tagApartCard : Claim7 := { stood := { row := tagApartRow, standIns := [], harness := (true, "becbddd455ae0737f2b5cbb6bb4bbc491ddf8359ad47b3f384b2232912bb96b2"), looks := false }, kinds := [], alts := [], laidByText := true, laidKinds := [.data, .pinned], laidTests := true, laidLooks := .later }
def TagApartCardSaid : Prop := Claim7.holds Tryd.pinned (.plain (OpenSpec.ofChange tagApartSpec)) tagApartCard

/-- THE TIED CARD OF 'bellowslaw24.TagLists'. -/
def tagListsCard : Claim7 := { stood := { row := tagListsRow, standIns := [], harness := (true, "becbddd455ae0737f2b5cbb6bb4bbc491ddf8359ad47b3f384b2232912bb96b2"), looks := false }, kinds := [], alts := [], laidByText := true, laidKinds := [.data, .pinned], laidTests := true, laidLooks := .later }
def TagListsCardSaid : Prop := Claim7.holds Tryd.pinned (.plain (OpenSpec.ofChange tagListsSpec)) tagListsCard

/-- THE TIED CARD OF 'bellowslaw18.FieldTells'. -/
def fieldTellsCard : Claim7 := { stood := { row := fieldTellsRow, standIns := [], harness := (true, "becbddd455ae0737f2b5cbb6bb4bbc491ddf8359ad47b3f384b2232912bb96b2"), looks := false }, kinds := [], alts := [], laidByText := true, laidKinds := [.data, .pinned], laidTests := true, laidLooks := .later }
def FieldTellsCardSaid : Prop := Claim7.holds Tryd.pinned (.plain (OpenSpec.ofChange fieldTellsSpec)) fieldTellsCard

/-- THE TIED CARD OF 'bellowslaw18.FieldBack'. -/
def fieldBackCard : Claim7 := { stood := { row := fieldBackRow, standIns := [], harness := (true, "becbddd455ae0737f2b5cbb6bb4bbc491ddf8359ad47b3f384b2232912bb96b2"), looks := false }, kinds := [], alts := [], laidByText := true, laidKinds := [.data, .pinned], laidTests := true, laidLooks := .later }
def FieldBackCardSaid : Prop := Claim7.holds Tryd.pinned (.plain (OpenSpec.ofChange fieldBackSpec)) fieldBackCard

/-- THE TIED CARD OF 'bellowslaw18.FieldSmall'. -/
def fieldSmallCard : Claim7 := { stood := { row := fieldSmallRow, standIns := [], harness := (true, "becbddd455ae0737f2b5cbb6bb4bbc491ddf8359ad47b3f384b2232912bb96b2"), looks := false }, kinds := [], alts := [], laidByText := true, laidKinds := [.data, .pinned], laidTests := true, laidLooks := .later }
def FieldSmallCardSaid : Prop := Claim7.holds Tryd.pinned (.plain (OpenSpec.ofChange fieldSmallSpec)) fieldSmallCard

/-- THE TIED CARD OF 'bellowslaw18.FieldItems'. -/
def fieldItemsCard : Claim7 := { stood := { row := fieldItemsRow, standIns := [], harness := (true, "becbddd455ae0737f2b5cbb6bb4bbc491ddf8359ad47b3f384b2232912bb96b2"), looks := false }, kinds := [], alts := [], laidByText := true, laidKinds := [.data, .pinned], laidTests := true, laidLooks := .later }
def FieldItemsCardSaid : Prop := Claim7.holds Tryd.pinned (.plain (OpenSpec.ofChange fieldItemsSpec)) fieldItemsCard

/-- THE TIED CARD OF 'bellowslaw18.FieldNames'. -/
def fieldNamesCard : Claim7 := { stood := { row := fieldNamesRow, standIns := [], harness := (true, "becbddd455ae0737f2b5cbb6bb4bbc491ddf8359ad47b3f384b2232912bb96b2"), looks := false }, kinds := [], alts := [], laidByText := true, laidKinds := [.data, .pinned], laidTests := true, laidLooks := .later }
def FieldNamesCardSaid : Prop := Claim7.holds Tryd.pinned (.plain (OpenSpec.ofChange fieldNamesSpec)) fieldNamesCard

/-- THE SECOND FORM's CARD OF 'bellowslaw24.TagNames'. -/
def tagNamesUptoCard : Claim7 := { stood := { row := tagNamesUptoRow, standIns := [], harness := (true, "becbddd455ae0737f2b5cbb6bb4bbc491ddf8359ad47b3f384b2232912bb96b2"), looks := false }, kinds := [], alts := [], laidByText := true, laidKinds := [.data, .pinned], laidTests := true, laidLooks := .later }
def TagNamesUptoCardSaid : Prop := Claim7.holds Tryd.pinned (.plain (OpenSpec.upto tagNamesSpec)) tagNamesUptoCard

/-- THE SECOND FORM's CARD OF 'bellowslaw24.TagTells'. -/
def tagTellsUptoCard : Claim7 := { stood := { row := tagTellsUptoRow, standIns := [], harness := (true, "becbddd455ae0737f2b5cbb6bb4bbc491ddf8359ad47b3f384b2232912bb96b2"), looks := false }, kinds := [], alts := [], laidByText := true, laidKinds := [.data, .pinned], laidTests := true, laidLooks := .later }
def TagTellsUptoCardSaid : Prop := Claim7.holds Tryd.pinned (.plain (OpenSpec.upto tagTellsSpec)) tagTellsUptoCard

/-- THE SECOND FORM's CARD OF 'bellowslaw24.TagApart'. -/
def tagApartUptoCard : Claim7 := { stood := { row := tagApartUptoRow, standIns := [], harness := (true, "becbddd455ae0737f2b5cbb6bb4bbc491ddf8359ad47b3f384b2232912bb96b2"), looks := false }, kinds := [], alts := [], laidByText := true, laidKinds := [.data, .pinned], laidTests := true, laidLooks := .later }
def TagApartUptoCardSaid : Prop := Claim7.holds Tryd.pinned (.plain (OpenSpec.upto tagApartSpec)) tagApartUptoCard

/-- THE SECOND FORM's CARD OF 'bellowslaw24.TagLists'. -/
def tagListsUptoCard : Claim7 := { stood := { row := tagListsUptoRow, standIns := [], harness := (true, "becbddd455ae0737f2b5cbb6bb4bbc491ddf8359ad47b3f384b2232912bb96b2"), looks := false }, kinds := [], alts := [], laidByText := true, laidKinds := [.data, .pinned], laidTests := true, laidLooks := .later }
def TagListsUptoCardSaid : Prop := Claim7.holds Tryd.pinned (.plain (OpenSpec.upto tagListsSpec)) tagListsUptoCard

/-- THE SECOND FORM's CARD OF 'bellowslaw18.FieldTells'. -/
def fieldTellsUptoCard : Claim7 := { stood := { row := fieldTellsUptoRow, standIns := [], harness := (true, "becbddd455ae0737f2b5cbb6bb4bbc491ddf8359ad47b3f384b2232912bb96b2"), looks := false }, kinds := [], alts := [], laidByText := true, laidKinds := [.data, .pinned], laidTests := true, laidLooks := .later }
def FieldTellsUptoCardSaid : Prop := Claim7.holds Tryd.pinned (.plain (OpenSpec.upto fieldTellsSpec)) fieldTellsUptoCard

/-- THE SECOND FORM's CARD OF 'bellowslaw18.FieldBack'. -/
def fieldBackUptoCard : Claim7 := { stood := { row := fieldBackUptoRow, standIns := [], harness := (true, "becbddd455ae0737f2b5cbb6bb4bbc491ddf8359ad47b3f384b2232912bb96b2"), looks := false }, kinds := [], alts := [], laidByText := true, laidKinds := [.data, .pinned], laidTests := true, laidLooks := .later }
def FieldBackUptoCardSaid : Prop := Claim7.holds Tryd.pinned (.plain (OpenSpec.upto fieldBackSpec)) fieldBackUptoCard

/-- THE SECOND FORM's CARD OF 'bellowslaw18.FieldSmall'. -/
def fieldSmallUptoCard : Claim7 := { stood := { row := fieldSmallUptoRow, standIns := [], harness := (true, "becbddd455ae0737f2b5cbb6bb4bbc491ddf8359ad47b3f384b2232912bb96b2"), looks := false }, kinds := [], alts := [], laidByText := true, laidKinds := [.data, .pinned], laidTests := true, laidLooks := .later }
def FieldSmallUptoCardSaid : Prop := Claim7.holds Tryd.pinned (.plain (OpenSpec.upto fieldSmallSpec)) fieldSmallUptoCard

/-- THE SECOND FORM's CARD OF 'bellowslaw18.FieldItems'. -/
def fieldItemsUptoCard : Claim7 := { stood := { row := fieldItemsUptoRow, standIns := [], harness := (true, "becbddd455ae0737f2b5cbb6bb4bbc491ddf8359ad47b3f384b2232912bb96b2"), looks := false }, kinds := [], alts := [], laidByText := true, laidKinds := [.data, .pinned], laidTests := true, laidLooks := .later }
def FieldItemsUptoCardSaid : Prop := Claim7.holds Tryd.pinned (.plain (OpenSpec.upto fieldItemsSpec)) fieldItemsUptoCard

/-- THE SECOND FORM's CARD OF 'bellowslaw18.FieldNames'. -/
def fieldNamesUptoCard : Claim7 := { stood := { row := fieldNamesUptoRow, standIns := [], harness := (true, "becbddd455ae0737f2b5cbb6bb4bbc491ddf8359ad47b3f384b2232912bb96b2"), looks := false }, kinds := [], alts := [], laidByText := true, laidKinds := [.data, .pinned], laidTests := true, laidLooks := .later }
def FieldNamesUptoCardSaid : Prop := Claim7.holds Tryd.pinned (.plain (OpenSpec.upto fieldNamesSpec)) fieldNamesUptoCard
end Rows
end Go.Proofs.YtgemjpoggbdfaaaDoor
