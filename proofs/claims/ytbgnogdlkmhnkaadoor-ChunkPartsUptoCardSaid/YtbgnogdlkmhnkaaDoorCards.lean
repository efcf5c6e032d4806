/-
  DERIVED. GIVEN WITH THE SEED: THE CARDS: each row of YtbgnogdlkmhnkaaDoorRows.lean that lists a variable, with what it lists TIED to the program's text (the seventh form; the later family's looks); each row that meets fmt, with fmt's text TOLD by the authors' own Lean function (tested against real Go, not proved from fmt's source: count such statements apart). THE CARD IS WHAT COUNTS. Prove the row's statement (the work); the ties are given (YtbgnogdlkmhnkaaDoorTie.lean); close each card by the builder's one call (the guide's Derived/Test/ToyasCard.lean, 'card_holds'). Laid BY PROGRAM, IN A SANDBOX (cutbox-door.mjs). By AI agents, Wed Nov 11 2026. No macro, syntax, notation, axiom, sorry.
-/
import Derived.Test.YtbgnogdlkmhnkaaDoorRows
import GoSem.ClaimSeven
namespace Go.Proofs.YtbgnogdlkmhnkaaDoor
namespace Rows

/-- THE TIED CARD OF 'bellowslaw29.ReplyWrites'. -/
def replyWritesCard : Claim7 := { stood := { row := replyWritesRow, standIns := [], harness := (true, "8c8f2b690ee316e5595a49f389f643e7d9de21ac69b2f1c4ba6bcab4c8f27fc5"), looks := true }, kinds := [], alts := [], laidByText := true, laidKinds := [.data, .data, .data, .data, .pinned], laidTests := true, laidLooks := .later }
def ReplyWritesCardSaid : Prop := Claim7.holds Tryd.pinned (.plain (OpenSpec.ofChange replyWritesSpec)) replyWritesCard

/-- THE TIED CARD OF 'bellowslaw22.ChunkParts'. -/
def chunkPartsCard : Claim7 := { stood := { row := chunkPartsRow, standIns := [], harness := (true, "8c8f2b690ee316e5595a49f389f643e7d9de21ac69b2f1c4ba6bcab4c8f27fc5"), looks := true }, kinds := [], alts := [], laidByText := true, laidKinds := [.data, .data, .data, .data, .sentinel, .sentinel, .pinned], laidTests := true, laidLooks := .later }
def ChunkPartsCardSaid : Prop := Claim7.holds Tryd.pinned (.plain (OpenSpec.ofChange chunkPartsSpec)) chunkPartsCard

/-- THE TIED CARD OF 'bellowslaw22.ChunkKeeps'. -/
def chunkKeepsCard : Claim7 := { stood := { row := chunkKeepsRow, standIns := [], harness := (true, "8c8f2b690ee316e5595a49f389f643e7d9de21ac69b2f1c4ba6bcab4c8f27fc5"), looks := true }, kinds := [], alts := [], laidByText := true, laidKinds := [.data, .data, .data, .data, .sentinel, .sentinel, .pinned], laidTests := true, laidLooks := .later }
def ChunkKeepsCardSaid : Prop := Claim7.holds Tryd.pinned (.plain (OpenSpec.ofChange chunkKeepsSpec)) chunkKeepsCard

/-- THE TIED CARD OF 'bellowslaw22.ChunkBack'. -/
def chunkBackCard : Claim7 := { stood := { row := chunkBackRow, standIns := [], harness := (true, "8c8f2b690ee316e5595a49f389f643e7d9de21ac69b2f1c4ba6bcab4c8f27fc5"), looks := true }, kinds := [], alts := [], laidByText := true, laidKinds := [.data, .data, .data, .data, .sentinel, .sentinel, .pinned], laidTests := true, laidLooks := .later }
def ChunkBackCardSaid : Prop := Claim7.holds Tryd.pinned (.plain (OpenSpec.ofChange chunkBackSpec)) chunkBackCard

/-- THE SECOND FORM's CARD OF 'bellowslaw29.ReplyWrites'. -/
def replyWritesUptoCard : Claim7 := { stood := { row := replyWritesUptoRow, standIns := [], harness := (true, "8c8f2b690ee316e5595a49f389f643e7d9de21ac69b2f1c4ba6bcab4c8f27fc5"), looks := true }, kinds := [], alts := [], laidByText := true, laidKinds := [.data, .data, .data, .data, .pinned], laidTests := true, laidLooks := .later }
def ReplyWritesUptoCardSaid : Prop := Claim7.holds Tryd.pinned (.plain (OpenSpec.upto replyWritesSpec)) replyWritesUptoCard

/-- THE SECOND FORM's CARD OF 'bellowslaw22.ChunkParts'. -/
def chunkPartsUptoCard : Claim7 := { stood := { row := chunkPartsUptoRow, standIns := [], harness := (true, "8c8f2b690ee316e5595a49f389f643e7d9de21ac69b2f1c4ba6bcab4c8f27fc5"), looks := true }, kinds := [], alts := [], laidByText := true, laidKinds := [.data, .data, .data, .data, .sentinel, .sentinel, .pinned], laidTests := true, laidLooks := .later }
def ChunkPartsUptoCardSaid : Prop := Claim7.holds Tryd.pinned (.plain (OpenSpec.upto chunkPartsSpec)) chunkPartsUptoCard

/-- THE SECOND FORM's CARD OF 'bellowslaw22.ChunkKeeps'. -/
def chunkKeepsUptoCard : Claim7 := { stood := { row := chunkKeepsUptoRow, standIns := [], harness := (true, "8c8f2b690ee316e5595a49f389f643e7d9de21ac69b2f1c4ba6bcab4c8f27fc5"), looks := true }, kinds := [], alts := [], laidByText := true, laidKinds := [.data, .data, .data, .data, .sentinel, .sentinel, .pinned], laidTests := true, laidLooks := .later }
def ChunkKeepsUptoCardSaid : Prop := Claim7.holds Tryd.pinned (.plain (OpenSpec.upto chunkKeepsSpec)) chunkKeepsUptoCard

/-- THE SECOND FORM's CARD OF 'bellowslaw22.ChunkBack'. -/
def chunkBackUptoCard : Claim7 := { stood := { row := chunkBackUptoRow, standIns := [], harness := (true, "8c8f2b690ee316e5595a49f389f643e7d9de21ac69b2f1c4ba6bcab4c8f27fc5"), looks := true }, kinds := [], alts := [], laidByText := true, laidKinds := [.data, .data, .data, .data, .sentinel, .sentinel, .pinned], laidTests := true, laidLooks := .later }
def ChunkBackUptoCardSaid : Prop := Claim7.holds Tryd.pinned (.plain (OpenSpec.upto chunkBackSpec)) chunkBackUptoCard
end Rows
end Go.Proofs.YtbgnogdlkmhnkaaDoor
