/- A row of bytes in memory: a string made bytes, written, and made a string again. -/
import Derived.Test.YtflfajcaicackaaDoorBase
import Derived.Lib.ConvBytes
import Derived.Laws.IdiomStrings
namespace Go.Proofs.YtflfajcaicackaaDoor
open Go.RowKit

/-- Block b holds these bytes from its head on, and they may be written. -/
def Row8 (w : World) (b : Nat) (l : List UInt8) : Prop :=
  b < w.heap.size ∧ ∀ (j : Nat) (x : UInt8), l[j]? = some x → w.cell? ⟨b, j, none⟩ = some (.int .u8 (x.toNat : Int)) ∧ w.frozen? ⟨b, j, none⟩ = false

theorem conv_bytes {P : Program} (w : World) (src dst e : TypeId) (s : ByteArray) {u : TypeDesc} (hs : P.underlying src = some u) (hd : P.underlying dst = some (.slice e)) (he : P.underlying e = some (.int .u8)) :
    ∃ cap w1, (convert src dst (.string s)).run P w = .ok (.slice (some ⟨w.heap.size, 0, none⟩) s.size cap) w1 ∧ Row8 w1 w.heap.size (L s) ∧ Below w.heap.size w w1 := by
  refine ⟨_, _, Lib.run_convert_string_bytes w src dst e s hs hd he, ⟨by rw [Lib.bytesWorld_size]; omega, fun j x hx => ⟨?_, ?_⟩⟩, ?_⟩
  · obtain ⟨hj, hv⟩ := List.getElem?_eq_some_iff.1 hx
    rw [L_length] at hj
    rw [Lib.bytesWorld_cell w e s j hj]
    have : s.data.toList.getD j 0 = x := by
      rw [List.getD_eq_getElem?_getD, show s.data.toList[j]? = some x from hx]; rfl
    rw [this]
  · have hj : j < s.size := by rw [← L_length]; exact (List.getElem?_eq_some_iff.1 hx).1
    have hc : s.size ≤ (Lib.bytesCells w e s).size := by simp [Lib.bytesCells]
    simp only [World.frozen?, Lib.bytesWorld_at_new]
    simp
    omega
  · exact ⟨rfl, rfl, rfl, by rw [Lib.bytesWorld_size]; omega, fun k hk => Lib.bytesWorld_at_old w e s k hk⟩

theorem Row8.set {w : World} {b : Nat} {l : List UInt8} (h : Row8 w b l) (j : Nat) (x : UInt8) (hj : j < l.length) : Row8 (w.setCell ⟨b, j, none⟩ (.int .u8 (x.toNat : Int))) b (l.set j x) := by
  refine ⟨by simpa [World.setCell] using h.1, fun i y hy => ?_⟩
  rw [World.frozen?_setCell]
  by_cases hij : j = i
  · subst hij
    rw [List.getElem?_set_self hj] at hy
    obtain rfl := Option.some.inj hy
    obtain ⟨hc, hf⟩ := h.2 j l[j] (List.getElem?_eq_getElem hj)
    exact ⟨World.cell?_setCell_same' _ _ _ (by rw [hc]; rfl), hf⟩
  · rw [List.getElem?_set_ne hij] at hy
    obtain ⟨hc, hf⟩ := h.2 i y hy
    exact ⟨(World.cell?_setCell_other _ _ _ _ (fun e => hij (by injection e))).trans hc, hf⟩
theorem Row8.back {P : Program} {w : World} {b : Nat} {l : List UInt8} (h : Row8 w b l) (src dst e : TypeId) (cap n : Nat) (hn : n = l.length) (hs : P.underlying src = some (.slice e)) (he : P.underlying e = some (.int .u8)) (hd : P.underlying dst = some .string) :
    (convert src dst (.slice (some ⟨b, 0, none⟩) n cap)).run P w = .ok (.string ⟨l.toArray⟩) w := by
  subst hn
  exact run_convert_bytes_back w src dst e ⟨b, 0, none⟩ cap l hs he hd fun j hj => by
    have := (h.2 j l[j] (List.getElem?_eq_getElem hj)).1
    rw [Addr.add_lit]
    simpa using this
theorem Row8.below {w w' : World} {b : Nat} {l : List UInt8} (h : Row8 w b l) {B : Nat} (hb : Below B w w') (hB : b < B) : Row8 w' b l :=
  ⟨Nat.lt_of_lt_of_le h.1 hb.size, fun j x hx => ⟨(hb.cell (p := ⟨b, j, none⟩) hB).trans (h.2 j x hx).1, (hb.frozen (p := ⟨b, j, none⟩) hB).trans (h.2 j x hx).2⟩⟩
end Go.Proofs.YtflfajcaicackaaDoor
