/-
  DERIVED. GIVEN WITH THE SEED: THE CARDS: each row of YtnaeeklnlddcaaaDoorRows.lean that lists a variable, with what it lists TIED to the program's text (the seventh form; the later family's looks); each row that meets fmt, with fmt's text TOLD by the authors' own Lean function (tested against real Go, not proved from fmt's source: count such statements apart). THE CARD IS WHAT COUNTS. Prove the row's statement (the work); the ties are given (YtnaeeklnlddcaaaDoorTie.lean); close each card by the builder's one call (the guide's Derived/Test/ToyasCard.lean, 'card_holds'). Laid BY PROGRAM, IN A SANDBOX (cutbox-door.mjs). By AI agents, Wed Nov 11 2026. No macro, syntax, notation, axiom, sorry.
-/
import Derived.Test.YtnaeeklnlddcaaaDoorRows
import GoSem.ClaimSeven
namespace Go.Proofs.YtnaeeklnlddcaaaDoor
namespace Rows

/-- THE TIED CARD OF 'bellowslaw26.RouteOrder'. -/
def routeOrderCard : Claim7 := { stood := { row := routeOrderRow, standIns := [], harness := (true, "a6711265ee5163fce548f3e49c0816812f2792f1ec128f17847062bd068ed41e"), looks := true }, kinds := [], alts := [], laidByText := true, laidKinds := [.data, .data, .data, .data, .sentinel, .sentinel, .pinned], laidTests := true, laidLooks := .later }
def RouteOrderCardSaid : Prop := Claim7.holds Tryd.pinned (.plain (OpenSpec.ofChange routeOrderSpec)) routeOrderCard

/-- THE TIED CARD OF 'bellowslaw26.RouteLiteral'. -/
def routeLiteralCard : Claim7 := { stood := { row := routeLiteralRow, standIns := [], harness := (true, "a6711265ee5163fce548f3e49c0816812f2792f1ec128f17847062bd068ed41e"), looks := true }, kinds := [], alts := [], laidByText := true, laidKinds := [.data, .data, .data, .data, .sentinel, .sentinel, .pinned], laidTests := true, laidLooks := .later }
def RouteLiteralCardSaid : Prop := Claim7.holds Tryd.pinned (.plain (OpenSpec.ofChange routeLiteralSpec)) routeLiteralCard

/-- THE SECOND FORM's CARD OF 'bellowslaw26.RouteOrder'. -/
def routeOrderUptoCard : Claim7 := { stood := { row := routeOrderUptoRow, standIns := [], harness := (true, "a6711265ee5163fce548f3e49c0816812f2792f1ec128f17847062bd068ed41e"), looks := true }, kinds := [], alts := [], laidByText := true, laidKinds := [.data, .data, .data, .data, .sentinel, .sentinel, .pinned], laidTests := true, laidLooks := .later }
def RouteOrderUptoCardSaid : Prop := Claim7.holds Tryd.pinned (.plain (OpenSpec.upto routeOrderSpec)) routeOrderUptoCard

/-- THE SECOND FORM's CARD OF 'bellowslaw26.RouteLiteral'. -/
def routeLiteralUptoCard : Claim7 := { stood := { row := routeLiteralUptoRow, standIns := [], harness := (true, "a6711265ee5163fce548f3e49c0816812f2792f1ec128f17847062bd068ed41e"), looks := true }, kinds := [], alts := [], laidByText := true, laidKinds := [.data, .data, .data, .data, .sentinel, .sentinel, .pinned], laidTests := true, laidLooks := .later }
def RouteLiteralUptoCardSaid : Prop := Claim7.holds Tryd.pinned (.plain (OpenSpec.upto routeLiteralSpec)) routeLiteralUptoCard
end Rows
end Go.Proofs.YtnaeeklnlddcaaaDoor
