/- Arguments that come in, and what an UptoSaid's bound gives of them. -/
import Derived.Test.YtflfajcaicackaaDoorVO
import Derived.Test.YtflfajcaicackaaDoorRows
namespace Go.Proofs.YtflfajcaicackaaDoor.Vex
open Go Go.RowKit Go.ChangeShapes Go.WideShapes Go.Deep
set_option maxRecDepth 100000

theorem bulk_part {H : Type} {d : DataW H} {l : List (DataW H)} (h : d ∈ l) : Rows.uptoBulk d ≤ Rows.uptoBulkAll l := by
  induction l with
  | nil => cases h
  | cons x r ih =>
    simp only [Rows.uptoBulkAll]
    cases List.mem_cons.1 h with
    | inl e => subst e; omega
    | inr e => have := ih e; omega
theorem bulk_bound {H : Type} {l : List (DataW H)} (hk : Rows.uptoSmall H l = true) : Rows.uptoBulkAll l ≤ 1048576 := by
  simpa [Rows.uptoSmall] using hk
theorem bulk_of {H : Type} {l : List (DataW H)} {d : DataW H} (hk : Rows.uptoSmall H l = true) (h : d ∈ l) : Rows.uptoBulk d ≤ 1048576 := Nat.le_trans (bulk_part h) (bulk_bound hk)
theorem bulk_str {H : Type} (bytes : List UInt8) : Rows.uptoBulk (DataW.lit (H := H) (.string bytes)) = bytes.length + 1 := by simp [Rows.uptoBulk]
theorem bulk_strs {H : Type} : ∀ l : List (List UInt8), Rows.uptoBulkAll (l.map fun s => DataW.lit (H := H) (.string s)) = (l.map fun s => s.length + 1).sum
  | [] => by simp [Rows.uptoBulkAll]
  | x :: r => by simp only [List.map_cons, Rows.uptoBulkAll, bulk_str, bulk_strs r, List.sum_cons]
theorem sum_part (l : List (List UInt8)) (s : List UInt8) (h : s ∈ l) : s.length + 1 ≤ (l.map fun s => s.length + 1).sum := by
  induction l with
  | nil => cases h
  | cons x r ih =>
    simp only [List.map_cons, List.sum_cons]
    rcases List.mem_cons.1 h with rfl | h
    · omega
    · have := ih h; omega
theorem sum_length (l : List (List UInt8)) : l.length ≤ (l.map fun s => s.length + 1).sum := by
  induction l with
  | nil => simp
  | cons x r ih => simp only [List.map_cons, List.sum_cons, List.length_cons]; omega
/-- A list of texts. -/
theorem open_strings {H : Type} {enc : TypeId × Value → H} {W : World} {r : Reach} {base : Nat} {sp : Nat → Bool} {hd : Bool} {b0 : Nat} {v : Value} {d : DataW H} {p : List MemPlace} (hv : Value.okWide Tryd.prog W r base 33 v) (h : DataW.Trod enc Tryd.prog W b0 sp hd 33 v d p) :
    ∃ (A : Option Addr) (cp : Nat) (l : List (List UInt8)), v = .slice A l.length cp ∧ l.length ≤ cp ∧ Rdw W A (l.map str) ∧ (l.map fun s => s.length + 1).sum ≤ Rows.uptoBulk d := by
  obtain ⟨a, len, cap, rfl⟩ := okWide_slice Tryd.underlying33 hv
  obtain ⟨fuel, hf⟩ := h
  rcases open_slice1 Tryd.underlying33 (by kernel_rfl) hf with ⟨h1, h2⟩ | ⟨a', len', cap', m, n, V, D, Pl, hc, _, hl, hm, hmm, hx, hi⟩
  · have h1 : [Value.slice a len cap] = [.slice none 0 0] := h1
    cases h1
    exact ⟨none, 0, [], rfl, Nat.le_refl _, fun j u hj => by simp at hj, by simp⟩
  · have hc : [Value.slice a len cap] = [.slice (some a') len' cap'] := hc
    cases hc
    have hlm : len ≤ m := by rw [hmm]; split <;> omega
    have each : ∀ i, i < len → ∃ q : List UInt8, W.cell? (a'.add i) = some (str q) ∧ D i = .lit (.string q) := fun i hil => by
      obtain ⟨g0, t0⟩ := hi i (by omega)
      obtain ⟨s0, e0, f0, _⟩ := DataW.trod_string Tryd.underlying9 t0
      simp only [List.cons.injEq, and_true] at e0
      rw [e0] at g0
      exact ⟨L s0, g0, (Prod.mk.inj f0).1⟩
    obtain ⟨q, hq⟩ := choose_lt each
    refine ⟨some a', cap, (List.range len).map q, by rw [List.length_map, List.length_range], by rw [List.length_map, List.length_range]; exact hl, fun j u hj => ?_, ?_⟩
    · rw [List.map_map, List.getElem?_map] at hj
      cases hr : (List.range len)[j]? with
      | none => rw [hr] at hj; cases hj
      | some i =>
        rw [hr] at hj
        obtain ⟨hjl, rfl⟩ := List.getElem?_eq_some_iff.1 hr
        simp only [List.getElem_range, Option.map_some, Option.some.injEq, Function.comp] at hj
        rw [List.length_range] at hjl
        subst hj
        exact ⟨a', rfl, (hq j hjl).1⟩
    · rw [(Prod.mk.inj hx).1]
      have e : (List.range len).map D = ((List.range len).map q).map fun s => DataW.lit (.string s) := by
        rw [List.map_map]
        exact List.map_congr_left fun i hi => (hq i (List.mem_range.1 hi)).2
      rw [Rows.uptoBulk, e, bulk_strs]
      omega
theorem bulk_fields {H : Type} : ∀ l : List Fld, Rows.uptoBulkAll (l.map fun p => DataW.agg (H := H) [.lit (.string p.1), .lit (.string p.2)]) = (l.map fun p => p.1.length + p.2.length + 3).sum
  | [] => by simp [Rows.uptoBulkAll]
  | x :: r => by
    simp only [List.map_cons, Rows.uptoBulkAll, Rows.uptoBulk, bulk_fields r, List.sum_cons]
    omega
/-- A list of fields. -/
theorem open_fieldsU {H : Type} {enc : TypeId × Value → H} {W : World} {r : Reach} {base : Nat} {sp : Nat → Bool} {hd : Bool} {b0 : Nat} {v : Value} {d : DataW H} {p : List MemPlace} (hv : Value.okWide Tryd.prog W r base 22 v) (h : DataW.Trod enc Tryd.prog W b0 sp hd 22 v d p) :
    ∃ (A : Option Addr) (cp : Nat) (l : List Fld), v = .slice A l.length cp ∧ l.length ≤ cp ∧ Rdw W A (fcells l) ∧ (l.map fun p => p.1.length + p.2.length + 3).sum ≤ Rows.uptoBulk d := by
  obtain ⟨a, len, cap, rfl⟩ := okWide_slice Tryd.underlying22 hv
  obtain ⟨fuel, hf⟩ := h
  rcases open_slice_pairs Tryd.underlying22 Tryd.underlying43 (by kernel_rfl) rfl rfl (by kernel_rfl) (by kernel_rfl) hf with ⟨h1, _⟩ | ⟨a', len', cap', m, n, V0, V1, D0, D1, P0, P1, hc, _, hl, hm, hmm, hx, hi⟩
  · have h1 : [Value.slice a len cap] = [.slice none 0 0] := h1
    cases h1
    exact ⟨none, 0, [], rfl, Nat.le_refl _, fun j u hj => by simp [fcells] at hj, by simp⟩
  · have hc : [Value.slice a len cap] = [.slice (some a') len' cap'] := hc
    cases hc
    have hlm : len ≤ m := by rw [hmm]; split <;> omega
    have each : ∀ i, i < len → ∃ q : Fld, W.cell? (a'.add (i * 2)) = some (str q.1) ∧ W.cell? (a'.add (i * 2 + 1)) = some (str q.2) ∧ D0 i = .lit (.string q.1) ∧ D1 i = .lit (.string q.2) := fun i hil => by
      obtain ⟨g0, g1, t0, t1⟩ := hi i (by omega)
      obtain ⟨s0, e0, f0, _⟩ := DataW.trod_string Tryd.underlying9 t0
      obtain ⟨s1, e1, f1, _⟩ := DataW.trod_string Tryd.underlying9 t1
      simp only [List.cons.injEq, and_true] at e0 e1
      rw [e0] at g0
      rw [e1] at g1
      exact ⟨(L s0, L s1), g0, g1, (Prod.mk.inj f0).1, (Prod.mk.inj f1).1⟩
    obtain ⟨q, hq⟩ := choose_lt each
    refine ⟨some a', cap, (List.range len).map q, by rw [List.length_map, List.length_range], by rw [List.length_map, List.length_range]; exact hl, fun j u hj => ?_, ?_⟩
    · obtain ⟨i, hil, hcase⟩ := fcells_get _ j u hj
      have hil' : i < len := by simpa using hil
      have hqi := hq i hil'
      rcases hcase with ⟨rfl, rfl⟩ | ⟨rfl, rfl⟩
      · exact ⟨a', rfl, by rw [hqi.1]; simp⟩
      · exact ⟨a', rfl, by rw [hqi.2.1]; simp⟩
    · rw [(Prod.mk.inj hx).1]
      have e : (List.range len).map (fun i => DataW.agg [D0 i, D1 i]) = ((List.range len).map q).map fun p => DataW.agg (H := H) [.lit (.string p.1), .lit (.string p.2)] := by
        rw [List.map_map]
        exact List.map_congr_left fun i hi => by have := hq i (List.mem_range.1 hi); simp [this.2.2.1, this.2.2.2]
      rw [Rows.uptoBulk, e, bulk_fields]
      omega
end Go.Proofs.YtflfajcaicackaaDoor.Vex
