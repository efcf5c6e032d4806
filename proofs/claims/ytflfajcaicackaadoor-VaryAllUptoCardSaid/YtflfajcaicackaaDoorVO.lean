/- A list of fields that comes in: what lies there, and how large it may be. -/
import Derived.Test.YtflfajcaicackaaDoorVL1
import Derived.Deep.SlicePairs
import Derived.Lib.SmallJoins
namespace Go.Proofs.YtflfajcaicackaaDoor.Vex
open Go Go.RowKit Go.ChangeShapes Go.WideShapes Go.Deep

set_option maxRecDepth 100000
set_option linter.unusedSectionVars false
variable {gI : GI} [HasMax gI]

theorem fcells_get : ∀ (l : List Fld) (j : Nat) (u : Value), (fcells l)[j]? = some u → ∃ i, ∃ h : i < l.length, (j = i * 2 ∧ u = str l[i].1) ∨ (j = i * 2 + 1 ∧ u = str l[i].2)
  | [], j, u, h => by simp [fcells] at h
  | p :: r, 0, u, h => ⟨0, by simp, .inl ⟨rfl, by simpa [fcells] using h.symm⟩⟩
  | p :: r, 1, u, h => ⟨0, by simp, .inr ⟨rfl, by simpa [fcells] using h.symm⟩⟩
  | p :: r, j + 2, u, h => by
    obtain ⟨i, hi, hx⟩ := fcells_get r j u (by simpa [fcells] using h)
    exact ⟨i + 1, by simp; omega, by rcases hx with ⟨h1, h2⟩ | ⟨h1, h2⟩; exact .inl ⟨by omega, h2⟩; exact .inr ⟨by omega, h2⟩⟩
theorem weights_all {H : Type} {P : Program} {e : TypeId} {d : DataW H} {x : Nat} : ∀ {ds : List (DataW H)}, d ∈ ds → x ∈ d.weights P e → x ∈ DataW.weightsAll P e ds
  | _ :: r, hd, hx => by
    rw [DataW.weightsAll]
    rcases List.mem_cons.1 hd with rfl | hd
    · exact List.mem_append_left _ hx
    · exact List.mem_append_right _ (weights_all hd hx)
end Go.Proofs.YtflfajcaicackaaDoor.Vex
