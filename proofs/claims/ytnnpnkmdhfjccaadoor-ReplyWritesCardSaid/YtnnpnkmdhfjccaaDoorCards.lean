/-
  DERIVED. GIVEN WITH THE SEED: THE CARDS: each row of YtnnpnkmdhfjccaaDoorRows.lean that lists a variable, with what it lists TIED to the program's text (the seventh form; the later family's looks); each row that meets fmt, with fmt's text TOLD by the authors' own Lean function (tested against real Go, not proved from fmt's source: count such statements apart). THE CARD IS WHAT COUNTS. Prove the row's statement (the work); the ties are given (YtnnpnkmdhfjccaaDoorTie.lean); close each card by the builder's one call (the guide's Derived/Test/ToyasCard.lean, 'card_holds'). Laid BY PROGRAM, IN A SANDBOX (cutbox-door.mjs). By AI agents, Wed Nov 11 2026. No macro, syntax, notation, axiom, sorry.
-/
import Derived.Test.YtnnpnkmdhfjccaaDoorRows
import GoSem.ClaimSeven
namespace Go.Proofs.YtnnpnkmdhfjccaaDoor
namespace Rows

/-- THE TIED CARD OF 'bellowslaw29.ReplyWrites'. -/
def replyWritesCard : Claim7 := { stood := { row := replyWritesRow, standIns := [], harness := (true, "4d70029abd872a353a4dd804e6627dcc3b807aeff48d00a71fd94ea1dbb35da6"), looks := true }, kinds := [], alts := [], laidByText := true, laidKinds := [.data, .data, .data, .data, .pinned], laidTests := true, laidLooks := .later }
def ReplyWritesCardSaid : Prop := Claim7.holds Tryd.pinned (.plain (OpenSpec.ofChange replyWritesSpec)) replyWritesCard

/-- THE TIED CARD OF 'bellowslaw26.RouteOrder'. -/
def routeOrderCard : Claim7 := { stood := { row := routeOrderRow, standIns := [], harness := (true, "4d70029abd872a353a4dd804e6627dcc3b807aeff48d00a71fd94ea1dbb35da6"), looks := true }, kinds := [], alts := [], laidByText := true, laidKinds := [.data, .data, .data, .data, .sentinel, .sentinel, .pinned], laidTests := true, laidLooks := .later }
def RouteOrderCardSaid : Prop := Claim7.holds Tryd.pinned (.plain (OpenSpec.ofChange routeOrderSpec)) routeOrderCard

/-- THE TIED CARD OF 'bellowslaw26.RouteLiteral'. -/
def routeLiteralCard : Claim7 := { stood := { row := routeLiteralRow, standIns := [], harness := (true, "4d70029abd872a353a4dd804e6627dcc3b807aeff48d00a71fd94ea1dbb35da6"), looks := true }, kinds := [], alts := [], laidByText := true, laidKinds := [.data, .data, .data, .data, .sentinel, .sentinel, .pinned], laidTests := true, laidLooks := .later }
def RouteLiteralCardSaid : Prop := Claim7.holds Tryd.pinned (.plain (OpenSpec.ofChange routeLiteralSpec)) routeLiteralCard

/-- THE SECOND FORM's CARD OF 'bellowslaw29.ReplyWrites'. -/
def replyWritesUptoCard : Claim7 := { stood := { row := replyWritesUptoRow, standIns := [], harness := (true, "4d70029abd872a353a4dd804e6627dcc3b807aeff48d00a71fd94ea1dbb35da6"), looks := true }, kinds := [], alts := [], laidByText := true, laidKinds := [.data, .data, .data, .data, .pinned], laidTests := true, laidLooks := .later }
def ReplyWritesUptoCardSaid : Prop := Claim7.holds Tryd.pinned (.plain (OpenSpec.upto replyWritesSpec)) replyWritesUptoCard

/-- THE SECOND FORM's CARD OF 'bellowslaw26.RouteOrder'. -/
def routeOrderUptoCard : Claim7 := { stood := { row := routeOrderUptoRow, standIns := [], harness := (true, "4d70029abd872a353a4dd804e6627dcc3b807aeff48d00a71fd94ea1dbb35da6"), looks := true }, kinds := [], alts := [], laidByText := true, laidKinds := [.data, .data, .data, .data, .sentinel, .sentinel, .pinned], laidTests := true, laidLooks := .later }
def RouteOrderUptoCardSaid : Prop := Claim7.holds Tryd.pinned (.plain (OpenSpec.upto routeOrderSpec)) routeOrderUptoCard

/-- THE SECOND FORM's CARD OF 'bellowslaw26.RouteLiteral'. -/
def routeLiteralUptoCard : Claim7 := { stood := { row := routeLiteralUptoRow, standIns := [], harness := (true, "4d70029abd872a353a4dd804e6627dcc3b807aeff48d00a71fd94ea1dbb35da6"), looks := true }, kinds := [], alts := [], laidByText := true, laidKinds := [.data, .data, .data, .data, .sentinel, .sentinel, .pinned], laidTests := true, laidLooks := .later }
def RouteLiteralUptoCardSaid : Prop := Claim7.holds Tryd.pinned (.plain (OpenSpec.upto routeLiteralSpec)) routeLiteralUptoCard
end Rows
end Go.Proofs.YtnnpnkmdhfjccaaDoor
