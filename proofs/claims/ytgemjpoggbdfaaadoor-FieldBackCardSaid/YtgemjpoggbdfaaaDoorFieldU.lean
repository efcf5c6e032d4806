/- A block of two cells; what Parse answers. -/
import Derived.Test.YtgemjpoggbdfaaaDoorFieldV
import Derived.Test.YtgemjpoggbdfaaaDoorTagR
namespace Go.Proofs.YtgemjpoggbdfaaaDoor
open Go.RowKit

/-- A block of two cells. -/
def Two (w : World) (b : Nat) (t : TypeId) (u v : Value) : Prop := w.heap[b]? = some (.cells #[u, v] t (0, 0))
theorem Two.lt {w : World} {b : Nat} {t : TypeId} {u v : Value} (h : Two w b t u v) : b < w.heap.size := lt_of_block h
theorem Two.c0 {w : World} {b : Nat} {t : TypeId} {u v : Value} (h : Two w b t u v) : w.cell? ⟨b, 0, none⟩ = some u := by unfold Two at h; simp [World.cell?, h]
theorem Two.c1 {w : World} {b : Nat} {t : TypeId} {u v : Value} (h : Two w b t u v) : w.cell? ⟨b, 1, none⟩ = some v := by unfold Two at h; simp [World.cell?, h]
theorem Two.f {w : World} {b : Nat} {t : TypeId} {u v : Value} (h : Two w b t u v) (i : Nat) : w.frozen? ⟨b, i, none⟩ = false := by unfold Two at h; simp [World.frozen?, h]
theorem Two.new (w : World) (t : TypeId) (u v : Value) : Two (w.alloc (.cells #[u, v] t)) w.heap.size t u v := World.alloc_heap_new w _
theorem Two.below {w w' : World} {b : Nat} {t : TypeId} {u v : Value} (h : Two w b t u v) (hb : Below w.heap.size w w') : Two w' b t u v := (hb.block b h.lt).trans h
theorem Two.drewN {w : World} {b : Nat} {t : TypeId} {u v : Value} (h : Two w b t u v) (n : Nat) : Two (w.drewN n) b t u v := h
theorem Two.alloc {w : World} {b : Nat} {t : TypeId} {u v : Value} (h : Two w b t u v) (o : Obj) : Two (w.alloc o) b t u v := (Below.heap_alloc w o b h.lt).trans h

theorem below_two {w a : World} (h : Below w.heap.size w a) (o : Obj) (u v : Value) : Below w.heap.size w (((a.alloc o).setCell ⟨w.heap.size, 0, none⟩ u).setCell ⟨w.heap.size, 1, none⟩ v) :=
  ((h.alloc h.size o).setCell (Nat.le_refl _) u).setCell (Nat.le_refl _) v
theorem below_set2 {w a : World} (h : Below w.heap.size w a) (u v : Value) : Below w.heap.size w ((a.setCell ⟨w.heap.size, 0, none⟩ u).setCell ⟨w.heap.size, 1, none⟩ v) :=
  (h.setCell (Nat.le_refl _) u).setCell (Nat.le_refl _) v
/-- A box of two cells has been laid, then other blocks. -/
theorem below_box0 {w a : World} {o : Obj} (h : Below (w.alloc o).heap.size (w.alloc o) a) : Below w.heap.size w a :=
  ((Below.refl w.heap.size w).alloc (Nat.le_refl _) o).trans (h.mono (by simp))
def ParsePost (s : ByteArray) (w : World) (e : Ending) (w' : World) : Prop :=
  ∃ n v, e = .returned (.tuple #[.agg #[.string n, .string v], .int .i64 (parseE (L s))]) ∧ n.size ≤ s.size ∧ v.size ≤ s.size ∧ Hid (L n = parseN (L s)) ∧ Hid (L v = parseV (L s)) ∧ Below w.heap.size w w'

theorem ParsePost.no {s : ByteArray} {w w' : World} (h : parseOK (L s) = false) (hb : Below w.heap.size w w') : ParsePost s w (.returned (.tuple #[.agg #[.string ⟨#[]⟩, .string ⟨#[]⟩], .int .i64 3])) w' :=
  ⟨⟨#[]⟩, ⟨#[]⟩, by unfold parseE; rw [h]; rfl, by simp [size_lit], by simp [size_lit], by show _ = _; unfold parseN; rw [h]; rfl, by show _ = _; unfold parseV; rw [h]; rfl, hb⟩

end Go.Proofs.YtgemjpoggbdfaaaDoor
