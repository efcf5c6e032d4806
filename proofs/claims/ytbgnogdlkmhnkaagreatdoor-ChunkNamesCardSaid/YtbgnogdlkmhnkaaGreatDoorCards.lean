/-
  DERIVED. GIVEN WITH THE SEED: THE CARDS: each row of YtbgnogdlkmhnkaaGreatDoorRows.lean that lists a variable, with what it lists TIED to the program's text (the seventh form; the later family's looks); each row that meets fmt, with fmt's text TOLD by the authors' own Lean function (tested against real Go, not proved from fmt's source: count such statements apart). THE CARD IS WHAT COUNTS. Prove the row's statement (the work); the ties are given (YtbgnogdlkmhnkaaGreatDoorTie.lean); close each card by the builder's one call (the guide's Derived/Test/ToyasCard.lean, 'card_holds'). Laid BY PROGRAM, IN A SANDBOX (cutbox-door.mjs). By AI agents, Wed Nov 11 2026. No macro, syntax, notation, axiom, sorry.
-/
import Derived.Test.YtbgnogdlkmhnkaaGreatDoorRows
import GoSem.ClaimSeven
namespace Go.Proofs.YtbgnogdlkmhnkaaGreatDoor
namespace Rows

/-- THE TIED CARD OF 'bellowslaw22.ChunkNames'. -/
def chunkNamesCard : Claim7 := { stood := { row := chunkNamesRow, standIns := [], harness := (true, "0810c86721197ce0595e99d794eb1ffdedeb854d9d600cae934ea2857ff4385b"), looks := true }, kinds := [], alts := [], laidByText := true, laidKinds := [.data, .data, .data, .data, .sentinel, .sentinel, .pinned], laidTests := true, laidLooks := .later }
def ChunkNamesCardSaid : Prop := Claim7.holds Tryz.pinned (.plain (OpenSpec.ofChange chunkNamesSpec)) chunkNamesCard

/-- THE TIED CARD OF 'bellowslaw22.ChunkFeeds'. -/
def chunkFeedsCard : Claim7 := { stood := { row := chunkFeedsRow, standIns := [], harness := (true, "0810c86721197ce0595e99d794eb1ffdedeb854d9d600cae934ea2857ff4385b"), looks := true }, kinds := [], alts := [], laidByText := true, laidKinds := [.data, .data, .data, .data, .sentinel, .sentinel, .pinned], laidTests := true, laidLooks := .later }
def ChunkFeedsCardSaid : Prop := Claim7.holds Tryz.pinned (.plain (OpenSpec.ofChange chunkFeedsSpec)) chunkFeedsCard

/-- THE SECOND FORM's CARD OF 'bellowslaw22.ChunkNames'. -/
def chunkNamesUptoCard : Claim7 := { stood := { row := chunkNamesUptoRow, standIns := [], harness := (true, "0810c86721197ce0595e99d794eb1ffdedeb854d9d600cae934ea2857ff4385b"), looks := true }, kinds := [], alts := [], laidByText := true, laidKinds := [.data, .data, .data, .data, .sentinel, .sentinel, .pinned], laidTests := true, laidLooks := .later }
def ChunkNamesUptoCardSaid : Prop := Claim7.holds Tryz.pinned (.plain (OpenSpec.upto chunkNamesSpec)) chunkNamesUptoCard

/-- THE SECOND FORM's CARD OF 'bellowslaw22.ChunkFeeds'. -/
def chunkFeedsUptoCard : Claim7 := { stood := { row := chunkFeedsUptoRow, standIns := [], harness := (true, "0810c86721197ce0595e99d794eb1ffdedeb854d9d600cae934ea2857ff4385b"), looks := true }, kinds := [], alts := [], laidByText := true, laidKinds := [.data, .data, .data, .data, .sentinel, .sentinel, .pinned], laidTests := true, laidLooks := .later }
def ChunkFeedsUptoCardSaid : Prop := Claim7.holds Tryz.pinned (.plain (OpenSpec.upto chunkFeedsSpec)) chunkFeedsUptoCard
end Rows
end Go.Proofs.YtbgnogdlkmhnkaaGreatDoor
