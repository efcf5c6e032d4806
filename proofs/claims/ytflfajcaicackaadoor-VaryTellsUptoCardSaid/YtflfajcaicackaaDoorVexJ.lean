/- A walk by reckoning, part ten: functions that read slices, functions that give back slices of their own, min. No program in sight. -/
import Derived.Test.YtflfajcaicackaaDoorVexI
namespace Go.Proofs.YtflfajcaicackaaDoor.Vex
open Go Go.RowKit

/-- What lies at A in a world. -/
def Rdw (w : World) (A : Option Addr) (xs : List Value) : Prop := ∀ (j : Nat) (u : Value), xs[j]? = some u → ∃ a, A = some a ∧ w.cell? (a.add j) = some u
def RdL (w : World) : List (Option Addr × List Value) → Prop
  | [] => True
  | p :: r => Rdw w p.1 p.2 ∧ RdL w r
def RdsL (c : Ctx) (H : Hp) : List (Option Addr × List Value) → Prop
  | [] => True
  | p :: r => RdS c H p.1 p.2 ∧ RdsL c H r
theorem RdsL.at {c : Ctx} {H : Hp} {w : World} (hw : St c H w) : ∀ {L : List (Option Addr × List Value)}, RdsL c H L → RdL w L
  | [], _ => trivial
  | _ :: _, h => ⟨h.1 w hw, RdsL.at hw h.2⟩
theorem Rdw.now {P : Program} {g : GI} {w : World} {hG : g.G w} {H : Hp} {A : Option Addr} {xs : List Value} (h : Rdw w A xs) : RdS (mkC P g w hG) H A xs := RdS.old fun j u hj => by
  obtain ⟨a, ha, hc⟩ := h j u hj
  exact ⟨a, ha, hc, fun h => by cases h⟩
/-- A function that reads slices, and gives back one value that is known. -/
abbrev FnR (P : Program) (g : GI) (f : FuncId) (args : List Value) (L : List (Option Addr × List Value)) (v : Value) : Prop := FnE P g f args (fun w => RdL w L) (fun _ v' _ => v' = v)
/-- .. and gives back a slice of its own. -/
def rowPost (e sz n : Nat) (xs : List Value) (w : World) (v : Value) (w' : World) : Prop := RowH w' v e sz n xs ∧ ∀ b, v.ownBlock = some b → w.heap.size ≤ b ∧ b < w'.heap.size
abbrev FnS (P : Program) (g : GI) (f : FuncId) (args : List Value) (L : List (Option Addr × List Value)) (e sz n : Nat) (xs : List Value) : Prop := FnE P g f args (fun w => RdL w L) (rowPost e sz n xs)
theorem rowPost.of {P : Program} {g : GI} {w : World} {hG : g.G w} {H : Hp} {v : Value} {e sz n : Nat} {xs : List Value} (h : Ent.row v e sz n xs ∈ H) : ∀ w', St (mkC P g w hG) H w' → rowPost e sz n xs w v w' := fun w' hs => by
  have ho := hs.own _ h
  exact ⟨ho.1, fun b hb => ⟨(ho.2 b hb).2.elim id (fun h => by cases h), (ho.2 b hb).1⟩⟩
section
variable {c : Ctx} {H : Hp}
theorem CallK.fnR {m : Bool} {f : Nat} {args : List Value} {L : List (Option Addr × List Value)} {v : Value} {K : Value → Hp → Prop} (h : FnR c.P c.g f args L v) (hp : RdsL c H L) (k : K v H) : CallK c m f args H K :=
  CallK.fnE h (fun _ hw => hp.at hw) fun _ _ _ hw he hR => ⟨H, hw.below hR, by rw [he]; exact k⟩
theorem CallQ.fnR {f : Nat} {args : List Value} {L : List (Option Addr × List Value)} {v : Value} {K : Value → Prop} (h : FnR c.P c.g f args L v) (hp : RdsL c H L) (k : K v) : CallQ c f args H K :=
  ⟨h.can, v, k, fun w hw => (h.ok w hw.glob (hp.at hw)).mono fun _ w' ⟨v', he, hv, hR⟩ => ⟨by rw [he, hv], hR⟩⟩
theorem CallK.fnS {m : Bool} {f : Nat} {args : List Value} {L : List (Option Addr × List Value)} {e sz n : Nat} {xs : List Value} {K : Value → Hp → Prop} (h : FnS c.P c.g f args L e sz n xs) (hp : RdsL c H L) (k : ∀ A cp, K (.slice A n cp) (.row (.slice A n cp) e sz n xs :: H)) : CallK c m f args H K :=
  CallK.fnE h (fun _ hw => hp.at hw) fun w v w' hw ⟨hr, hb⟩ hR => by
    have hv : ∃ A cp, v = .slice A n cp := by
      rcases hr.2 with ⟨he, h0⟩ | ⟨g, cap, cur, fz, he, _⟩
      · exact ⟨none, 0, by rw [he, h0]⟩
      · exact ⟨_, _, he⟩
    obtain ⟨A, cp, rfl⟩ := hv
    refine ⟨_, (hw.below hR).push (x := .row (.slice A n cp) e sz n xs) hr (fun b hbe => ⟨(hb b hbe).2, .inl (Nat.le_trans hw.mod.size (hb b hbe).1)⟩) (fun b hbe y hy he => ?_), k A cp⟩
    have h1 := (hb b hbe).1
    have h2 := ((hw.own y hy).2 b he).1
    omega
theorem OthP.min2 {d : Option Nat} {x y : Operand} {ats : Array TypeId} {ty : TypeId} {pos : String} {after : Array Edge} {gd : Option (Nat × Bool)} {fr : Fr} {kd : IntKind} {a b : Int} {K : Value → Prop} (z : Int)
    (hx : evK fr x fun v => v = .int kd a) (hy : evK fr y fun v => v = .int kd b) (hz : min a b = z) (k : K (.int kd z)) : OthP c ⟨d, .call ⟨.builtin .min, #[x, y], ats⟩, ty, pos, after, gd⟩ fr H K := ⟨⟨_, k, fun w _ => by
  rw [evK_eq] at hx hy
  have hz' : z = if b < a then b else a := by subst hz; split <;> omega
  subst hz'
  simp only [go_sem, Builtin.min_]
  simp [hx, hy, Builtin.min2, List.foldlM]⟩⟩
end
end Go.Proofs.YtflfajcaicackaaDoor.Vex
