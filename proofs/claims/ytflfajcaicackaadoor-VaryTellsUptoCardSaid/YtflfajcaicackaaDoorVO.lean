/- A list of fields that comes in: what lies there, and how large it may be. -/
import Derived.Test.YtflfajcaicackaaDoorVL1
import Derived.Deep.SlicePairs
import Derived.Lib.SmallJoins
namespace Go.Proofs.YtflfajcaicackaaDoor.Vex
open Go Go.RowKit Go.ChangeShapes Go.WideShapes Go.Deep

set_option maxRecDepth 100000
set_option linter.unusedSectionVars false
variable {gI : GI} [HasMax gI]

theorem fcells_get : ∀ (l : List Fld) (j : Nat) (u : Value), (fcells l)[j]? = some u → ∃ i, ∃ h : i < l.length, (j = i * 2 ∧ u = str l[i].1) ∨ (j = i * 2 + 1 ∧ u = str l[i].2)
  | [], j, u, h => by simp [fcells] at h
  | p :: r, 0, u, h => ⟨0, by simp, .inl ⟨rfl, by simpa [fcells] using h.symm⟩⟩
  | p :: r, 1, u, h => ⟨0, by simp, .inr ⟨rfl, by simpa [fcells] using h.symm⟩⟩
  | p :: r, j + 2, u, h => by
    obtain ⟨i, hi, hx⟩ := fcells_get r j u (by simpa [fcells] using h)
    exact ⟨i + 1, by simp; omega, by rcases hx with ⟨h1, h2⟩ | ⟨h1, h2⟩; exact .inl ⟨by omega, h2⟩; exact .inr ⟨by omega, h2⟩⟩
theorem weights_all {H : Type} {P : Program} {e : TypeId} {d : DataW H} {x : Nat} : ∀ {ds : List (DataW H)}, d ∈ ds → x ∈ d.weights P e → x ∈ DataW.weightsAll P e ds
  | _ :: r, hd, hx => by
    rw [DataW.weightsAll]
    rcases List.mem_cons.1 hd with rfl | hd
    · exact List.mem_append_left _ hx
    · exact List.mem_append_right _ (weights_all hd hx)
theorem open_fields {H : Type} {enc : TypeId × Value → H} {W : World} {r : Reach} {base : Nat} {sp : Nat → Bool} {hd : Bool} {b0 : Nat} {v : Value} {d : DataW H} {p : List MemPlace} (hv : Value.okWide Tryd.prog W r base 22 v) (h : DataW.Trod enc Tryd.prog W b0 sp hd 22 v d p)
    (hw : ∀ x ∈ d.weights Tryd.prog 22, x ≤ reachBytes) :
    ∃ (A : Option Addr) (cp : Nat) (l : List Fld), v = .slice A l.length cp ∧ Rdw W A (fcells l) ∧ l.length * 32 ≤ 140737488355328 ∧ ∀ q ∈ l, q.1.length ≤ 140737488355328 := by
  obtain ⟨a, len, cap, rfl⟩ := okWide_slice Tryd.underlying22 hv
  obtain ⟨fuel, hf⟩ := h
  rcases open_slice_pairs Tryd.underlying22 Tryd.underlying43 (by kernel_rfl) rfl rfl (by kernel_rfl) (by kernel_rfl) hf with ⟨h1, _⟩ | ⟨a', len', cap', m, n, V0, V1, D0, D1, P0, P1, hc, _, hl, hm, hmm, hx, hi⟩
  · have h1 : [Value.slice a len cap] = [.slice none 0 0] := h1
    cases h1
    exact ⟨none, 0, [], rfl, fun j u hj => by simp [fcells] at hj, by simp, by simp⟩
  · have hc : [Value.slice a len cap] = [.slice (some a') len' cap'] := hc
    cases hc
    have hlm : len ≤ m := by rw [hmm]; split <;> omega
    have each : ∀ i, i < len → ∃ q : Fld, W.cell? (a'.add (i * 2)) = some (str q.1) ∧ W.cell? (a'.add (i * 2 + 1)) = some (str q.2) ∧ D0 i = .lit (.string q.1) := fun i hil => by
      obtain ⟨g0, g1, t0, t1⟩ := hi i (by omega)
      obtain ⟨s0, e0, f0, _⟩ := DataW.trod_string Tryd.underlying9 t0
      obtain ⟨s1, e1, _, _⟩ := DataW.trod_string Tryd.underlying9 t1
      simp only [List.cons.injEq, and_true] at e0 e1
      rw [e0] at g0
      rw [e1] at g1
      exact ⟨(L s0, L s1), g0, g1, (Prod.mk.inj f0).1⟩
    obtain ⟨q, hq⟩ := choose_lt each
    have hd : d = .slice ((List.range len).map fun i => .agg [D0 i, D1 i]) ((List.range (m - len)).map fun j => .agg [D0 (len + j), D1 (len + j)]) := (Prod.mk.inj hx).1
    have hb : Tryd.prog.bytesOf 43 = 32 := by kernel_rfl
    have hws : d.weights Tryd.prog 22 = (((List.range len).map fun i => DataW.agg [D0 i, D1 i]).length + ((List.range (m - len)).map fun j => DataW.agg [D0 (len + j), D1 (len + j)]).length) * 32 :: (DataW.weightsAll Tryd.prog 43 ((List.range len).map fun i => .agg [D0 i, D1 i]) ++ DataW.weightsAll Tryd.prog 43 ((List.range (m - len)).map fun j => .agg [D0 (len + j), D1 (len + j)])) := by
      rw [hd, DataW.weights, Tryd.underlying22]
      simp only [hb]
    rw [hws] at hw
    have hrb : reachBytes = 140737488351232 := by decide
    refine ⟨some a', cap, (List.range len).map q, by rw [List.length_map, List.length_range], fun j u hj => ?_, ?_, fun x hx' => ?_⟩
    · obtain ⟨i, hil, hcase⟩ := fcells_get _ j u hj
      have hil' : i < len := by simpa using hil
      have hqi := hq i hil'
      rcases hcase with ⟨rfl, rfl⟩ | ⟨rfl, rfl⟩
      · exact ⟨a', rfl, by rw [hqi.1]; simp⟩
      · exact ⟨a', rfl, by rw [hqi.2.1]; simp⟩
    · have := hw _ (List.mem_cons_self ..)
      simp only [List.length_map, List.length_range] at this ⊢
      omega
    · obtain ⟨i, hir, rfl⟩ := List.mem_map.1 hx'
      have hil := List.mem_range.1 hir
      have := hw (q i).1.length (List.mem_cons_of_mem _ (List.mem_append_left _ (weights_all (List.mem_map.2 ⟨i, hir, rfl⟩) (by
        rw [DataW.weights, Tryd.underlying43]
        simp [DataW.weightsEach, (hq i hil).2.2, DataW.weights]))))
      omega
end Go.Proofs.YtflfajcaicackaaDoor.Vex
