/-
  DERIVED. GIVEN WITH THE SEED: THE CARDS: each row of YtnnpnkmdhfjccaaGreatDoorRows.lean that lists a variable, with what it lists TIED to the program's text (the seventh form; the later family's looks); each row that meets fmt, with fmt's text TOLD by the authors' own Lean function (tested against real Go, not proved from fmt's source: count such statements apart). THE CARD IS WHAT COUNTS. Prove the row's statement (the work); the ties are given (YtnnpnkmdhfjccaaGreatDoorTie.lean); close each card by the builder's one call (the guide's Derived/Test/ToyasCard.lean, 'card_holds'). Laid BY PROGRAM, IN A SANDBOX (cutbox-door.mjs). By AI agents, Wed Nov 11 2026. No macro, syntax, notation, axiom, sorry.
-/
import Derived.Test.YtnnpnkmdhfjccaaGreatDoorRows
import GoSem.ClaimSeven
namespace Go.Proofs.YtnnpnkmdhfjccaaGreatDoor
namespace Rows

/-- THE TIED CARD OF 'bellowslaw26.RouteNames'. -/
def routeNamesCard : Claim7 := { stood := { row := routeNamesRow, standIns := [], harness := (true, "afd69b6474d064abcad9e4c1f5162b2495cd3c7bd815fceb64f22ece39a1ce83"), looks := true }, kinds := [], alts := [], laidByText := true, laidKinds := [.data, .data, .data, .data, .sentinel, .sentinel, .pinned], laidTests := true, laidLooks := .later }
def RouteNamesCardSaid : Prop := Claim7.holds Tryz.pinned (.plain (OpenSpec.ofChange routeNamesSpec)) routeNamesCard

/-- THE TIED CARD OF 'bellowslaw26.RouteFills'. -/
def routeFillsCard : Claim7 := { stood := { row := routeFillsRow, standIns := [], harness := (true, "afd69b6474d064abcad9e4c1f5162b2495cd3c7bd815fceb64f22ece39a1ce83"), looks := true }, kinds := [], alts := [], laidByText := true, laidKinds := [.data, .data, .data, .data, .sentinel, .sentinel, .pinned], laidTests := true, laidLooks := .later }
def RouteFillsCardSaid : Prop := Claim7.holds Tryz.pinned (.plain (OpenSpec.ofChange routeFillsSpec)) routeFillsCard

/-- THE TIED CARD OF 'bellowslaw29.ReplyBack'. -/
def replyBackCard : Claim7 := { stood := { row := replyBackRow, standIns := [], harness := (true, "afd69b6474d064abcad9e4c1f5162b2495cd3c7bd815fceb64f22ece39a1ce83"), looks := true }, kinds := [], alts := [], laidByText := true, laidKinds := [.data, .data, .data, .data, .sentinel, .sentinel, .pinned], laidTests := true, laidLooks := .later }
def ReplyBackCardSaid : Prop := Claim7.holds Tryz.pinned (.plain (OpenSpec.ofChange replyBackSpec)) replyBackCard

/-- THE TIED CARD OF 'bellowslaw29.ReplyFlushes'. -/
def replyFlushesCard : Claim7 := { stood := { row := replyFlushesRow, standIns := [], harness := (true, "afd69b6474d064abcad9e4c1f5162b2495cd3c7bd815fceb64f22ece39a1ce83"), looks := true }, kinds := [], alts := [], laidByText := true, laidKinds := [.data, .data, .data, .data, .sentinel, .sentinel, .pinned], laidTests := true, laidLooks := .later }
def ReplyFlushesCardSaid : Prop := Claim7.holds Tryz.pinned (.plain (OpenSpec.ofChange replyFlushesSpec)) replyFlushesCard

/-- THE TIED CARD OF 'bellowslaw29.ReplyBegins'. -/
def replyBeginsCard : Claim7 := { stood := { row := replyBeginsRow, standIns := [], harness := (true, "afd69b6474d064abcad9e4c1f5162b2495cd3c7bd815fceb64f22ece39a1ce83"), looks := true }, kinds := [], alts := [], laidByText := true, laidKinds := [.data, .data, .data, .data, .sentinel, .sentinel, .pinned], laidTests := true, laidLooks := .later }
def ReplyBeginsCardSaid : Prop := Claim7.holds Tryz.pinned (.plain (OpenSpec.ofChange replyBeginsSpec)) replyBeginsCard

/-- THE TIED CARD OF 'bellowslaw29.ReplyNames'. -/
def replyNamesCard : Claim7 := { stood := { row := replyNamesRow, standIns := [], harness := (true, "afd69b6474d064abcad9e4c1f5162b2495cd3c7bd815fceb64f22ece39a1ce83"), looks := true }, kinds := [], alts := [], laidByText := true, laidKinds := [.data, .data, .data, .data, .sentinel, .sentinel, .pinned], laidTests := true, laidLooks := .later }
def ReplyNamesCardSaid : Prop := Claim7.holds Tryz.pinned (.plain (OpenSpec.ofChange replyNamesSpec)) replyNamesCard

/-- THE SECOND FORM's CARD OF 'bellowslaw26.RouteNames'. -/
def routeNamesUptoCard : Claim7 := { stood := { row := routeNamesUptoRow, standIns := [], harness := (true, "afd69b6474d064abcad9e4c1f5162b2495cd3c7bd815fceb64f22ece39a1ce83"), looks := true }, kinds := [], alts := [], laidByText := true, laidKinds := [.data, .data, .data, .data, .sentinel, .sentinel, .pinned], laidTests := true, laidLooks := .later }
def RouteNamesUptoCardSaid : Prop := Claim7.holds Tryz.pinned (.plain (OpenSpec.upto routeNamesSpec)) routeNamesUptoCard

/-- THE SECOND FORM's CARD OF 'bellowslaw26.RouteFills'. -/
def routeFillsUptoCard : Claim7 := { stood := { row := routeFillsUptoRow, standIns := [], harness := (true, "afd69b6474d064abcad9e4c1f5162b2495cd3c7bd815fceb64f22ece39a1ce83"), looks := true }, kinds := [], alts := [], laidByText := true, laidKinds := [.data, .data, .data, .data, .sentinel, .sentinel, .pinned], laidTests := true, laidLooks := .later }
def RouteFillsUptoCardSaid : Prop := Claim7.holds Tryz.pinned (.plain (OpenSpec.upto routeFillsSpec)) routeFillsUptoCard

/-- THE SECOND FORM's CARD OF 'bellowslaw29.ReplyBack'. -/
def replyBackUptoCard : Claim7 := { stood := { row := replyBackUptoRow, standIns := [], harness := (true, "afd69b6474d064abcad9e4c1f5162b2495cd3c7bd815fceb64f22ece39a1ce83"), looks := true }, kinds := [], alts := [], laidByText := true, laidKinds := [.data, .data, .data, .data, .sentinel, .sentinel, .pinned], laidTests := true, laidLooks := .later }
def ReplyBackUptoCardSaid : Prop := Claim7.holds Tryz.pinned (.plain (OpenSpec.upto replyBackSpec)) replyBackUptoCard

/-- THE SECOND FORM's CARD OF 'bellowslaw29.ReplyFlushes'. -/
def replyFlushesUptoCard : Claim7 := { stood := { row := replyFlushesUptoRow, standIns := [], harness := (true, "afd69b6474d064abcad9e4c1f5162b2495cd3c7bd815fceb64f22ece39a1ce83"), looks := true }, kinds := [], alts := [], laidByText := true, laidKinds := [.data, .data, .data, .data, .sentinel, .sentinel, .pinned], laidTests := true, laidLooks := .later }
def ReplyFlushesUptoCardSaid : Prop := Claim7.holds Tryz.pinned (.plain (OpenSpec.upto replyFlushesSpec)) replyFlushesUptoCard

/-- THE SECOND FORM's CARD OF 'bellowslaw29.ReplyBegins'. -/
def replyBeginsUptoCard : Claim7 := { stood := { row := replyBeginsUptoRow, standIns := [], harness := (true, "afd69b6474d064abcad9e4c1f5162b2495cd3c7bd815fceb64f22ece39a1ce83"), looks := true }, kinds := [], alts := [], laidByText := true, laidKinds := [.data, .data, .data, .data, .sentinel, .sentinel, .pinned], laidTests := true, laidLooks := .later }
def ReplyBeginsUptoCardSaid : Prop := Claim7.holds Tryz.pinned (.plain (OpenSpec.upto replyBeginsSpec)) replyBeginsUptoCard

/-- THE SECOND FORM's CARD OF 'bellowslaw29.ReplyNames'. -/
def replyNamesUptoCard : Claim7 := { stood := { row := replyNamesUptoRow, standIns := [], harness := (true, "afd69b6474d064abcad9e4c1f5162b2495cd3c7bd815fceb64f22ece39a1ce83"), looks := true }, kinds := [], alts := [], laidByText := true, laidKinds := [.data, .data, .data, .data, .sentinel, .sentinel, .pinned], laidTests := true, laidLooks := .later }
def ReplyNamesUptoCardSaid : Prop := Claim7.holds Tryz.pinned (.plain (OpenSpec.upto replyNamesSpec)) replyNamesUptoCard
end Rows
end Go.Proofs.YtnnpnkmdhfjccaaGreatDoor
