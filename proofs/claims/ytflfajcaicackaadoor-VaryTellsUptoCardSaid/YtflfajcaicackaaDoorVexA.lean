/- A walk by reckoning, part one: heaps of one's own as lists of blocks; regions that draw their order, taken in one order, where every other operation may make new memory. No program in sight. -/
import Derived.WalkKit
import Derived.Maps.AppendAt
import Derived.Lib.Hide
namespace Go.Proofs.YtflfajcaicackaaDoor.Vex
open Go Go.RowKit

abbrev Fr := List Value
/-- A text of these bytes. -/
abbrev str (l : List UInt8) : Value := .string ⟨⟨l⟩⟩
def L (s : ByteArray) : List UInt8 := s.data.toList
theorem str_L (s : ByteArray) : Value.string s = str (L s) := rfl

/-! ## Blocks of one's own -/
inductive Ent where
  | box (b : Nat) (vs : List Value) (t : TypeId)
  | row (v : Value) (e : TypeId) (size n : Nat) (xs : List Value)
  | obj (b : Nat) (o : Obj)
abbrev Hp := List Ent
def Ent.blk : Ent → Option Nat
  | .box b _ _ => some b
  | .row v _ _ _ _ => v.ownBlock
  | .obj b _ => some b
/-- The slice value v, of n elements (of type e, size cells each), has the cells xs in a row of its own, which may be written. -/
def RowH (w : World) (v : Value) (e size n : Nat) (xs : List Value) : Prop :=
  xs.length = n * size ∧ ((v = .slice none 0 0 ∧ n = 0) ∨
   ∃ g cap cur fz, v = .slice (some ⟨g, 0, none⟩) n cap ∧ w.heap[g]? = some (.cells cur e fz) ∧ n ≤ cap ∧ cap ≤ maxLen ∧ cur.size = cap * size ∧ cur.toList.take (n * size) = xs ∧ (fz.2 ≤ fz.1 ∨ cur.size ≤ fz.1))
def Ent.holds (w : World) : Ent → Prop
  | .box b vs t => w.heap[b]? = some (.cells ⟨vs⟩ t (0, 0))
  | .row v e size n xs => RowH w v e size n xs
  | .obj b o => w.heap[b]? = some o

/-- What is known of package-level variables: it hangs on the first blocks alone. -/
structure GI where
  n : Nat
  G : World → Prop
  keep : ∀ w w' : World, (∀ k, k < n → w'.heap[k]? = w.heap[k]?) → G w → G w'
  size : ∀ w, G w → n ≤ w.heap.size

structure Ctx where
  P : Program
  g : GI
  w0 : World
  M : List Nat
  hM : ∀ b ∈ M, g.n ≤ b
  hG : g.G w0

/-- w' is w but for new blocks and the blocks in M. -/
structure ModW (M : List Nat) (w w' : World) : Prop where
  os : w'.os = w.os
  tape : w'.tape = w.tape
  output : w'.output = w.output
  size : w.heap.size ≤ w'.heap.size
  block : ∀ k, k < w.heap.size → k ∉ M → w'.heap[k]? = w.heap[k]?

structure St (c : Ctx) (H : Hp) (w : World) : Prop where
  mod : ModW c.M c.w0 w
  own : ∀ x ∈ H, x.holds w ∧ ∀ b, x.blk = some b → b < w.heap.size ∧ (c.w0.heap.size ≤ b ∨ b ∈ c.M)
  apart : (H.filterMap Ent.blk).Nodup

theorem ModW.refl (M : List Nat) (w : World) : ModW M w w := ⟨rfl, rfl, rfl, Nat.le_refl _, fun _ _ _ => rfl⟩
theorem ModW.trans {M : List Nat} {a b d : World} (h : ModW M a b) (k : ModW M b d) : ModW M a d :=
  ⟨k.os.trans h.os, k.tape.trans h.tape, k.output.trans h.output, Nat.le_trans h.size k.size, fun i hi hm => (k.block i (Nat.lt_of_lt_of_le hi h.size) hm).trans (h.block i hi hm)⟩
theorem ModW.of_below {M : List Nat} {w w' : World} (h : Below w.heap.size w w') : ModW M w w' := ⟨h.os, h.tape, h.output, h.size, fun k hk _ => h.block k hk⟩
theorem ModW.below {w w' : World} (h : ModW [] w w') : Below w.heap.size w w' := ⟨h.os, h.tape, h.output, h.size, fun k hk => h.block k hk (by simp)⟩

theorem St.glob {c : Ctx} {H : Hp} {w : World} (h : St c H w) : c.g.G w :=
  c.g.keep c.w0 w (fun k hk => h.mod.block k (Nat.lt_of_lt_of_le hk (c.g.size _ c.hG)) fun hm => by have := c.hM k hm; omega) c.hG

/-- What a world holds hangs on the block alone. -/
theorem Ent.holds_of_block {x : Ent} {w w' : World} (h : x.holds w) (hb : ∀ b, x.blk = some b → w'.heap[b]? = w.heap[b]?) : x.holds w' := by
  cases x with
  | box b vs t => exact (hb b rfl).trans h
  | obj b o => exact (hb b rfl).trans h
  | row v e size n xs =>
    refine ⟨h.1, ?_⟩
    rcases h.2 with hn | ⟨g, cap, cur, fz, rfl, hh, r⟩
    · exact .inl hn
    · exact .inr ⟨g, cap, cur, fz, rfl, (hb g rfl).trans hh, r⟩

theorem St.start (c : Ctx) : St c [] c.w0 := ⟨ModW.refl _ _, fun _ h => (by cases h), List.nodup_nil⟩

/-- The relation of worlds behind an operation that makes new memory at most. -/
abbrev R (w w' : World) : Prop := Below w.heap.size w w'
theorem R.refl (w : World) : R w w := Below.refl _ _
theorem R.trans {a b d : World} (h : R a b) (k : R b d) : R a d := Below.trans h (k.mono h.size)

theorem St.far {c : Ctx} {H : Hp} {w w' : World} (h : St c H w) (hm : ModW c.M w w') (hb : ∀ x ∈ H, ∀ b, x.blk = some b → w'.heap[b]? = w.heap[b]?) : St c H w' :=
  ⟨h.mod.trans hm, fun x hx => ⟨Ent.holds_of_block (h.own x hx).1 (hb x hx), fun b e => ⟨Nat.lt_of_lt_of_le ((h.own x hx).2 b e).1 hm.size, ((h.own x hx).2 b e).2⟩⟩, h.apart⟩
theorem St.below {c : Ctx} {H : Hp} {w w' : World} (h : St c H w) (hb : R w w') : St c H w' :=
  h.far (ModW.of_below hb) fun x hx b e => hb.block b ((h.own x hx).2 b e).1
theorem St.perm {c : Ctx} {H H' : Hp} {w : World} (h : St c H w) (hs : H.Perm H') : St c H' w :=
  ⟨h.mod, fun x hx => h.own x (hs.mem_iff.2 hx), (hs.filterMap _).nodup_iff.1 h.apart⟩
theorem St.sub {c : Ctx} {H H' : Hp} {w : World} (h : St c H w) (hs : H'.Sublist H) : St c H' w :=
  ⟨h.mod, fun x hx => h.own x (hs.subset hx), h.apart.sublist (hs.filterMap _)⟩
theorem R.drew (w : World) : R w w.drew := (Below.refl _ _).drew

/-- A new block is laid: what stands at the head is it. -/
theorem St.push {c : Ctx} {H : Hp} {w : World} (h : St c H w) {x : Ent} (hx : x.holds w) (hb : ∀ b, x.blk = some b → b < w.heap.size ∧ (c.w0.heap.size ≤ b ∨ b ∈ c.M)) (hn : ∀ b, x.blk = some b → ∀ y ∈ H, y.blk ≠ some b) : St c (x :: H) w := by
  refine ⟨h.mod, fun y hy => ?_, ?_⟩
  · rcases List.mem_cons.1 hy with rfl | hy
    · exact ⟨hx, hb⟩
    · exact h.own y hy
  · rw [List.filterMap_cons]
    cases hxb : x.blk with
    | none => exact h.apart
    | some b =>
      refine List.nodup_cons.2 ⟨fun hm => ?_, h.apart⟩
      obtain ⟨y, hy, he⟩ := List.mem_filterMap.1 hm
      exact hn b hxb y hy he
theorem St.alloc {c : Ctx} {H : Hp} {w : World} (h : St c H w) (vs : List Value) (t : TypeId) : St c (.box w.heap.size vs t :: H) (w.alloc (.cells ⟨vs⟩ t)) := by
  have hb : R w (w.alloc (.cells ⟨vs⟩ t)) := (Below.refl _ _).alloc (Nat.le_refl _) _
  refine (h.below hb).push (heap_alloc_new w _) (fun b e => ?_) (fun b e y hy he => ?_)
  · cases e
    exact ⟨by simp, .inl h.mod.size⟩
  · cases e
    have := ((h.own y hy).2 _ he).1
    omega
end Go.Proofs.YtflfajcaicackaaDoor.Vex
