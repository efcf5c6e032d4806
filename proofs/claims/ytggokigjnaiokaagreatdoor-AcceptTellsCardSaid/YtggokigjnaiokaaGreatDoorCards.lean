/-
  DERIVED. GIVEN WITH THE SEED: THE CARDS: each row of YtggokigjnaiokaaGreatDoorRows.lean that lists a variable, with what it lists TIED to the program's text (the seventh form; the later family's looks); each row that meets fmt, with fmt's text TOLD by the authors' own Lean function (tested against real Go, not proved from fmt's source: count such statements apart). THE CARD IS WHAT COUNTS. Prove the row's statement (the work); the ties are given (YtggokigjnaiokaaGreatDoorTie.lean); close each card by the builder's one call (the guide's Derived/Test/ToyasCard.lean, 'card_holds'). Laid BY PROGRAM, IN A SANDBOX (cutbox-door.mjs). By AI agents, Wed Nov 11 2026. No macro, syntax, notation, axiom, sorry.
-/
import Derived.Test.YtggokigjnaiokaaGreatDoorRows
import GoSem.ClaimSeven
namespace Go.Proofs.YtggokigjnaiokaaGreatDoor
namespace Rows

/-- THE TIED CARD OF 'bellowslaw27.PageAnswers'. -/
def pageAnswersCard : Claim7 := { stood := { row := pageAnswersRow, standIns := [], harness := (true, "9ba5b0db0a41c27e025d8734e2e8127d9b31ae6afe0b08786bd07ba05c18b2f9"), looks := true }, kinds := [], alts := [], laidByText := true, laidKinds := [.data, .data, .data, .data, .pinned], laidTests := true, laidLooks := .later }
def PageAnswersCardSaid : Prop := Claim7.holds Tryz.pinned (.plain (OpenSpec.ofChange pageAnswersSpec)) pageAnswersCard

/-- THE TIED CARD OF 'bellowslaw23.AcceptTells'. -/
def acceptTellsCard : Claim7 := { stood := { row := acceptTellsRow, standIns := [], harness := (true, "9ba5b0db0a41c27e025d8734e2e8127d9b31ae6afe0b08786bd07ba05c18b2f9"), looks := true }, kinds := [], alts := [], laidByText := true, laidKinds := [.data, .data, .data, .data, .sentinel, .sentinel, .pinned], laidTests := true, laidLooks := .later }
def AcceptTellsCardSaid : Prop := Claim7.holds Tryz.pinned (.plain (OpenSpec.ofChange acceptTellsSpec)) acceptTellsCard

/-- THE SECOND FORM's CARD OF 'bellowslaw27.PageAnswers'. -/
def pageAnswersUptoCard : Claim7 := { stood := { row := pageAnswersUptoRow, standIns := [], harness := (true, "9ba5b0db0a41c27e025d8734e2e8127d9b31ae6afe0b08786bd07ba05c18b2f9"), looks := true }, kinds := [], alts := [], laidByText := true, laidKinds := [.data, .data, .data, .data, .pinned], laidTests := true, laidLooks := .later }
def PageAnswersUptoCardSaid : Prop := Claim7.holds Tryz.pinned (.plain (OpenSpec.upto pageAnswersSpec)) pageAnswersUptoCard

/-- THE SECOND FORM's CARD OF 'bellowslaw23.AcceptTells'. -/
def acceptTellsUptoCard : Claim7 := { stood := { row := acceptTellsUptoRow, standIns := [], harness := (true, "9ba5b0db0a41c27e025d8734e2e8127d9b31ae6afe0b08786bd07ba05c18b2f9"), looks := true }, kinds := [], alts := [], laidByText := true, laidKinds := [.data, .data, .data, .data, .sentinel, .sentinel, .pinned], laidTests := true, laidLooks := .later }
def AcceptTellsUptoCardSaid : Prop := Claim7.holds Tryz.pinned (.plain (OpenSpec.upto acceptTellsSpec)) acceptTellsUptoCard
end Rows
end Go.Proofs.YtggokigjnaiokaaGreatDoor
