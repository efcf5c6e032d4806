/-
  DERIVED. GIVEN WITH THE SEED: THE CARDS: each row of YtnaeeklnlddcaaaGreatDoorRows.lean that lists a variable, with what it lists TIED to the program's text (the seventh form; the later family's looks); each row that meets fmt, with fmt's text TOLD by the authors' own Lean function (tested against real Go, not proved from fmt's source: count such statements apart). THE CARD IS WHAT COUNTS. Prove the row's statement (the work); the ties are given (YtnaeeklnlddcaaaGreatDoorTie.lean); close each card by the builder's one call (the guide's Derived/Test/ToyasCard.lean, 'card_holds'). Laid BY PROGRAM, IN A SANDBOX (cutbox-door.mjs). By AI agents, Wed Nov 11 2026. No macro, syntax, notation, axiom, sorry.
-/
import Derived.Test.YtnaeeklnlddcaaaGreatDoorRows
import GoSem.ClaimSeven
namespace Go.Proofs.YtnaeeklnlddcaaaGreatDoor
namespace Rows

/-- THE TIED CARD OF 'bellowslaw26.RouteNames'. -/
def routeNamesCard : Claim7 := { stood := { row := routeNamesRow, standIns := [], harness := (true, "87b88058f8c4cc739913330cd052f68c4992e5dcd47972416e8288e668b9a19b"), looks := true }, kinds := [], alts := [], laidByText := true, laidKinds := [.data, .data, .data, .data, .sentinel, .sentinel, .pinned], laidTests := true, laidLooks := .later }
def RouteNamesCardSaid : Prop := Claim7.holds Tryz.pinned (.plain (OpenSpec.ofChange routeNamesSpec)) routeNamesCard

/-- THE TIED CARD OF 'bellowslaw26.RouteFills'. -/
def routeFillsCard : Claim7 := { stood := { row := routeFillsRow, standIns := [], harness := (true, "87b88058f8c4cc739913330cd052f68c4992e5dcd47972416e8288e668b9a19b"), looks := true }, kinds := [], alts := [], laidByText := true, laidKinds := [.data, .data, .data, .data, .sentinel, .sentinel, .pinned], laidTests := true, laidLooks := .later }
def RouteFillsCardSaid : Prop := Claim7.holds Tryz.pinned (.plain (OpenSpec.ofChange routeFillsSpec)) routeFillsCard

/-- THE TIED CARD OF 'bellowslaw29.ReplyFlushes'. -/
def replyFlushesCard : Claim7 := { stood := { row := replyFlushesRow, standIns := [], harness := (true, "87b88058f8c4cc739913330cd052f68c4992e5dcd47972416e8288e668b9a19b"), looks := true }, kinds := [], alts := [], laidByText := true, laidKinds := [.data, .data, .data, .data, .sentinel, .sentinel, .pinned], laidTests := true, laidLooks := .later }
def ReplyFlushesCardSaid : Prop := Claim7.holds Tryz.pinned (.plain (OpenSpec.ofChange replyFlushesSpec)) replyFlushesCard

/-- THE TIED CARD OF 'bellowslaw29.ReplyNames'. -/
def replyNamesCard : Claim7 := { stood := { row := replyNamesRow, standIns := [], harness := (true, "87b88058f8c4cc739913330cd052f68c4992e5dcd47972416e8288e668b9a19b"), looks := true }, kinds := [], alts := [], laidByText := true, laidKinds := [.data, .data, .data, .data, .sentinel, .sentinel, .pinned], laidTests := true, laidLooks := .later }
def ReplyNamesCardSaid : Prop := Claim7.holds Tryz.pinned (.plain (OpenSpec.ofChange replyNamesSpec)) replyNamesCard

/-- THE SECOND FORM's CARD OF 'bellowslaw26.RouteNames'. -/
def routeNamesUptoCard : Claim7 := { stood := { row := routeNamesUptoRow, standIns := [], harness := (true, "87b88058f8c4cc739913330cd052f68c4992e5dcd47972416e8288e668b9a19b"), looks := true }, kinds := [], alts := [], laidByText := true, laidKinds := [.data, .data, .data, .data, .sentinel, .sentinel, .pinned], laidTests := true, laidLooks := .later }
def RouteNamesUptoCardSaid : Prop := Claim7.holds Tryz.pinned (.plain (OpenSpec.upto routeNamesSpec)) routeNamesUptoCard

/-- THE SECOND FORM's CARD OF 'bellowslaw26.RouteFills'. -/
def routeFillsUptoCard : Claim7 := { stood := { row := routeFillsUptoRow, standIns := [], harness := (true, "87b88058f8c4cc739913330cd052f68c4992e5dcd47972416e8288e668b9a19b"), looks := true }, kinds := [], alts := [], laidByText := true, laidKinds := [.data, .data, .data, .data, .sentinel, .sentinel, .pinned], laidTests := true, laidLooks := .later }
def RouteFillsUptoCardSaid : Prop := Claim7.holds Tryz.pinned (.plain (OpenSpec.upto routeFillsSpec)) routeFillsUptoCard

/-- THE SECOND FORM's CARD OF 'bellowslaw29.ReplyFlushes'. -/
def replyFlushesUptoCard : Claim7 := { stood := { row := replyFlushesUptoRow, standIns := [], harness := (true, "87b88058f8c4cc739913330cd052f68c4992e5dcd47972416e8288e668b9a19b"), looks := true }, kinds := [], alts := [], laidByText := true, laidKinds := [.data, .data, .data, .data, .sentinel, .sentinel, .pinned], laidTests := true, laidLooks := .later }
def ReplyFlushesUptoCardSaid : Prop := Claim7.holds Tryz.pinned (.plain (OpenSpec.upto replyFlushesSpec)) replyFlushesUptoCard

/-- THE SECOND FORM's CARD OF 'bellowslaw29.ReplyNames'. -/
def replyNamesUptoCard : Claim7 := { stood := { row := replyNamesUptoRow, standIns := [], harness := (true, "87b88058f8c4cc739913330cd052f68c4992e5dcd47972416e8288e668b9a19b"), looks := true }, kinds := [], alts := [], laidByText := true, laidKinds := [.data, .data, .data, .data, .sentinel, .sentinel, .pinned], laidTests := true, laidLooks := .later }
def ReplyNamesUptoCardSaid : Prop := Claim7.holds Tryz.pinned (.plain (OpenSpec.upto replyNamesSpec)) replyNamesUptoCard
end Rows
end Go.Proofs.YtnaeeklnlddcaaaGreatDoor
