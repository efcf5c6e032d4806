/- A walk by reckoning, part two: a region that draws its order, taken in one order that is told: operations that yield a value that is known, in whatever world that has grown since, may be taken first. No program in sight. -/
import Derived.Test.YtflfajcaicackaaDoorVexA
import Derived.Still
namespace Go.Proofs.YtflfajcaicackaaDoor.Vex
open Go Go.RowKit

section
variable {P : Program} {ops : Array Oper} {md : Region.Mode} {Q : Exit → Act → World → Prop}

/-- The operation yields v; it makes new memory at most. -/
def quietUpon (P : Program) (w : World) (v : Value) : Result Next → Prop
  | .ok (.value u) w' => w' = w ∧ u = v
  | .ok (.enter f args) w' => w' = w ∧ Calls P f args w (fun e w'' => e = .returned v ∧ R w w'')
  | _ => False
def Quiet1 (P : Program) (o : Oper) (a : Act) (w : World) (v : Value) : Prop := quietUpon P w v ((execOp a.eval o).run P w)
def Yl (P : Program) (ops : Array Oper) (o : Oper) (v : Value) (a : Act) (w : World) : Prop :=
  (Region.wanted o (yielded ops a.tmps) = true ∧ Quiet1 P o a w v) ∨ (Region.wanted o (yielded ops a.tmps) = false ∧ v = undef)

theorem Yl.of_same {o : Oper} {v : Value} {a a' : Act} {w : World} (hy : Yl P ops o v a w) (h : execOp a'.eval o = execOp a.eval o ∧ Region.wanted o (yielded ops a'.tmps) = Region.wanted o (yielded ops a.tmps)) : Yl P ops o v a' w := by
  unfold Yl Quiet1 at *
  rw [h.1, h.2]
  exact hy

theorem Yl.wpOp {i : Nat} {o : Oper} {v : Value} {a : Act} {w : World} (hi : ops[i]? = some o) (hy : Yl P ops o v a w) {K : Act → World → Prop} (h : ∀ w', R w w' → K (a.put o.dst v) w') : wpOp P ops Q i K a w := by
  unfold Go.wpOp
  simp only [hi]
  rcases hy with ⟨hw, hv⟩ | ⟨hw, rfl⟩
  · simp only [hw, if_true]
    refine .inl ?_
    unfold Oper.wp
    unfold Quiet1 at hv
    generalize (execOp a.eval o).run P w = r at *
    cases r with
    | halt x w' => exact hv.elim
    | ok n w' =>
      cases n <;> simp only [quietUpon] at hv <;> simp only [Oper.upon]
      case value u => obtain ⟨rfl, rfl⟩ := hv; exact h _ (R.refl _)
      case enter f args =>
        obtain ⟨rfl, hc⟩ := hv
        exact hc.mono fun e w'' ⟨he, hw''⟩ => by subst he; exact h _ hw''
  · simp only [hw, Bool.false_eq_true, if_false]; exact h _ (R.refl _)

/-- One operation, with another one's value laid already, or not. -/
theorem wpOp_apart {j : Nat} {oi oj : Oper} {v : Value} (hj : ops[j]? = some oj) (hap : oi.apart ops oj = true)
    (hsi : ∀ cs b, oi.op ≠ .select cs b) (hsj : ∀ cs b, oj.op ≠ .select cs b)
    (hQ : ∀ c a w, Q (.panic c) (a.put oi.dst v) w → Q (.panic c) a w) {K : Act → World → Prop} {a : Act} {w : World}
    (h : wpOp P ops Q j K (a.put oi.dst v) w) :
    wpOp P ops Q j (fun a' w' => (execOp a'.eval oi = execOp a.eval oi ∧ Region.wanted oi (yielded ops a'.tmps) = Region.wanted oi (yielded ops a.tmps)) ∧ K (a'.put oi.dst v) w') a w := by
  obtain ⟨h1, h2, h3⟩ := Oper.apart_spec hap
  have keep : ∀ (a0 : Act) (u : Value), execOp a0.eval oi = execOp a.eval oi ∧ Region.wanted oi (yielded ops a0.tmps) = Region.wanted oi (yielded ops a.tmps) →
      execOp (a0.put oj.dst u).eval oi = execOp a.eval oi ∧ Region.wanted oi (yielded ops (a0.put oj.dst u).tmps) = Region.wanted oi (yielded ops a.tmps) := fun a0 u h0 =>
    ⟨(execOp_put oi hsi a0 oj.dst u h3).trans h0.1, (wanted_put oi a0 oj.dst u h3).trans h0.2⟩
  unfold wpOp at *
  simp only [hj] at *
  rw [wanted_put oj a oi.dst v h1] at h
  split
  · rename_i hw
    simp only [hw, if_true] at h
    rcases h with h | ⟨hasks, hlets⟩
    case inr => exact .inr ⟨by unfold Oper.asks at *; rw [execOp_put oj hsj a oi.dst v h1] at hasks; exact hasks, hlets⟩
    refine .inl ?_
    unfold Oper.wp at *
    rw [execOp_put oj hsj a oi.dst v h1] at h
    generalize (execOp a.eval oj).run P w = r at *
    cases r with
    | ok n w' =>
      cases n <;> simp only [Oper.upon] at h ⊢
      case value u => exact ⟨keep a u ⟨rfl, rfl⟩, by rw [← Act.put_comm a v u h2]; exact h⟩
      case skip => exact ⟨keep a _ ⟨rfl, rfl⟩, by rw [← Act.put_comm a v undef h2]; exact h⟩
      case defer d =>
        refine ⟨keep { a with defers := d :: a.defers } _ ⟨rfl, rfl⟩, ?_⟩
        rw [← Act.put_comm _ v undef h2, ← Act.put_defers]
        exact h
      case enter f args =>
        refine Calls.mono h fun e w'' he => ?_
        cases e with
        | returned u => exact ⟨keep a u ⟨rfl, rfl⟩, by rw [← Act.put_comm a v u h2]; exact he⟩
        | panicked c => exact hQ _ _ _ he
        | outgrown => exact he
      case row row args => exact Rows.mono h fun u w'' he => ⟨keep a u ⟨rfl, rfl⟩, by rw [← Act.put_comm a v u h2]; exact he⟩
    | halt x w' =>
      cases x <;> simp only [Oper.upon] at h ⊢
      case panic u => exact hQ _ _ _ h
  · rename_i hw
    simp only [hw] at h
    exact ⟨keep a _ ⟨rfl, rfl⟩, by rw [← Act.put_comm a v undef h2]; exact h⟩

/-- Whatever order is picked from here on, and whatever new memory is made between. -/
def wpAnyR (P : Program) (md : Region.Mode) (ops : Array Oper) (Wr : Nat → Bool) (Q : Exit → Act → World → Prop) : Nat → Array Bool → Act → World → Prop
  | 0, l, a, w => Region.ready md ops l = [] ∧ ∀ w', R w w' → Q .normal a w'
  | n + 1, l, a, w => ∀ w', R w w' → (Region.ready md ops l = [] → Q .normal a w') ∧
      ∀ i ∈ Region.ready md ops l, wpOp P ops Q i (fun a2 w2 => (Wr i = false → R w' w2) ∧ wpAnyR P md ops Wr Q n (l.setIfInBounds i true) a2 w2) a w'

theorem wpAnyR.on {Wr : Nat → Bool} : ∀ {n : Nat} {l : Array Bool} {a : Act} {w w' : World}, wpAnyR P md ops Wr Q n l a w → R w w' → wpAnyR P md ops Wr Q n l a w'
  | 0, _, _, _, _, h, hR => ⟨h.1, fun w2 h2 => h.2 w2 (hR.trans h2)⟩
  | _ + 1, _, _, _, _, h, hR => fun w2 h2 => h w2 (hR.trans h2)
theorem wpAny_of_R {Wr : Nat → Bool} : ∀ (n : Nat) (l : Array Bool) (a : Act) (w : World), wpAnyR P md ops Wr Q n l a w → wpAny P md ops Q n l a w
  | 0, _, _, _, h => ⟨h.1, h.2 _ (R.refl _)⟩
  | n + 1, _, _, _, h => ⟨(h _ (R.refl _)).1, fun i hi => wpOp_mono (fun a2 w2 h2 => wpAny_of_R n _ a2 w2 h2.2) ((h _ (R.refl _)).2 i hi)⟩

/-! ## Which operation waits for which -/
def closedL (md : Region.Mode) (ops : Array Oper) (l : Array Bool) : Prop :=
  ∀ (j : Nat) (o : Oper), l.getD j false = true → ops[j]? = some o → ∀ e ∈ o.after, Region.binds md e = true → l.getD e.on false = true
def anc (md : Region.Mode) (ops : Array Oper) : Nat → Nat → Nat → Bool
  | 0, _, _ => false
  | n + 1, j, i => match ops[j]? with
    | none => false
    | some o => o.after.any fun e => Region.binds md e && (e.on == i || anc md ops n e.on i)
theorem anc_step {n j i : Nat} (h : anc md ops (n + 1) j i = true) : ∃ o, ops[j]? = some o ∧ ∃ e ∈ o.after, Region.binds md e = true ∧ (e.on = i ∨ anc md ops n e.on i = true) := by
  unfold anc at h
  split at h
  · cases h
  · rename_i o ho
    obtain ⟨e, he, hb⟩ := Array.any_eq_true'.1 h
    simp only [Bool.and_eq_true, Bool.or_eq_true, beq_iff_eq] at hb
    exact ⟨o, ho, e, he, hb⟩
theorem anc_listed {l : Array Bool} (hc : closedL md ops l) : ∀ (n j i : Nat), l.getD j false = true → anc md ops n j i = true → l.getD i false = true
  | 0, _, _, _, h => by cases h
  | n + 1, j, i, hj, h => by
    obtain ⟨o, ho, e, he, hb, hi⟩ := anc_step h
    have hl := hc j o hj ho e he hb
    rcases hi with rfl | hi
    · exact hl
    · exact anc_listed hc n e.on i hl hi
theorem anc_ready {l : Array Bool} (hc : closedL md ops l) {n j i : Nat} (hj : j ∈ Region.ready md ops l) (h : anc md ops n j i = true) : l.getD i false = true := by
  cases n with
  | zero => cases h
  | succ n =>
    obtain ⟨o, ho, e, he, hb, hi⟩ := anc_step h
    obtain ⟨_, o', ho', hall⟩ := mem_ready.1 hj
    obtain rfl : o = o' := Option.some.inj (ho.symm.trans ho')
    have hl := hall e he hb
    rcases hi with rfl | hi
    · exact hl
    · exact anc_listed hc n e.on i hl hi
theorem closedL.set {l : Array Bool} (hc : closedL md ops l) {j : Nat} (hj : j ∈ Region.ready md ops l) : closedL md ops (l.setIfInBounds j true) := by
  intro k o hk ho e he hb
  by_cases hkj : k = j
  · subst hkj
    obtain ⟨_, o', ho', hall⟩ := mem_ready.1 hj
    obtain rfl : o = o' := Option.some.inj (ho.symm.trans ho')
    exact getD_set_true (hall e he hb)
  · rw [getD_set_ne false (Ne.symm hkj)] at hk
    exact getD_set_true (hc k o hk ho e he hb)
theorem closedL_start (m : Nat) : closedL md ops (Array.replicate m false) := by
  intro j o h
  have : (Array.replicate m false).getD j false = false := by
    simp only [Array.getD_eq_getD_getElem?, Array.getElem?_replicate]
    split <;> rfl
  rw [this] at h
  cases h

/-- **An operation that may come up may be taken first**, if in every world that has grown out of this one it yields its value, whatever stands free of it, and whatever writes waits for it. -/
theorem wpAnyR_first {Wr : Nat → Bool} {i : Nat} {oi : Oper} {v : Value} (hi : ops[i]? = some oi) (hsel : ∀ (j : Nat) (o : Oper) cs b, ops[j]? = some o → o.op ≠ .select cs b)
    (hQ : ∀ c a w, Q (.panic c) (a.put oi.dst v) w → Q (.panic c) a w) (hwi : Wr i = false) {m : Nat} :
    ∀ (fuel : Nat) (l : Array Bool) (a : Act) (w : World),
      closedL md ops l → (∀ j, Wr j = true → l.getD j true = false → anc md ops m j i = true) →
      (∀ j oj, ops[j]? = some oj → j ≠ i → l.getD j true = false → (∀ e ∈ oj.after, Region.binds md e = true → e.on ≠ i) → oi.apart ops oj = true) →
      i ∈ Region.ready md ops l → (∀ w', R w w' → Yl P ops oi v a w') →
      wpAnyR P md ops Wr Q fuel (l.setIfInBounds i true) (a.put oi.dst v) w → wpAnyR P md ops Wr Q (fuel + 1) l a w := by
  intro fuel
  have hun : ∀ {l : Array Bool}, i ∈ Region.ready md ops l → l.getD i false = false := fun {l} hr => by
    have h0 := (mem_ready.1 hr).1
    rcases Nat.lt_or_ge i l.size with h' | h'
    · simpa [h'] using h0
    · simp [Array.getElem?_eq_none h'] at h0
  have take : ∀ {n : Nat} {l : Array Bool} {a : Act} {w w' : World}, R w w' → (∀ w', R w w' → Yl P ops oi v a w') → wpAnyR P md ops Wr Q n (l.setIfInBounds i true) (a.put oi.dst v) w →
      wpOp P ops Q i (fun a2 w2 => (Wr i = false → R w' w2) ∧ wpAnyR P md ops Wr Q n (l.setIfInBounds i true) a2 w2) a w' := fun hR hY H =>
    (hY _ hR).wpOp hi fun w2 h2 => ⟨fun _ => h2, H.on (hR.trans h2)⟩
  induction fuel with
  | zero =>
    intro l a w _ _ _ hr hY H w' hR
    refine ⟨fun h => (by rw [h] at hr; cases hr), fun j hj => ?_⟩
    by_cases hji : j = i
    · subst hji; exact take hR hY H
    · have := ready_mono hj hji
      rw [H.1] at this
      cases this
  | succ fuel ih =>
    intro l a w hc hwr hfree hr hY H w' hR
    refine ⟨fun h => (by rw [h] at hr; cases hr), fun j hj => ?_⟩
    by_cases hji : j = i
    · subst hji; exact take hR hY H
    · have h1 := (H w' hR).2 j (ready_mono hj hji)
      obtain ⟨hjun, oj, hoj, hall⟩ := mem_ready.1 hj
      have hnot : ∀ e ∈ oj.after, Region.binds md e = true → e.on ≠ i := fun e he hb heq => by
        have h1 := hall e he hb
        rw [heq, hun hr] at h1
        cases h1
      have hwj : Wr j = false := by
        cases hw : Wr j with
        | false => rfl
        | true =>
          have := anc_ready hc hj (hwr j hw hjun)
          rw [hun hr] at this
          cases this
      have h2 := wpOp_apart hoj (hfree j oj hoj hji hjun hnot) (fun cs b => hsel i oi cs b hi) (fun cs b => hsel j oj cs b hoj) hQ h1
      have hfree' : ∀ k ok, ops[k]? = some ok → k ≠ i → (l.setIfInBounds j true).getD k true = false →
          (∀ e ∈ ok.after, Region.binds md e = true → e.on ≠ i) → oi.apart ops ok = true := fun k ok hk hki hun' hno => by
        refine hfree k ok hk hki ?_ hno
        by_cases hjk : j = k
        · subst hjk; exact hjun
        · rw [getD_set_ne true hjk] at hun'; exact hun'
      have hwr' : ∀ k, Wr k = true → (l.setIfInBounds j true).getD k true = false → anc md ops m k i = true := fun k hk hun' => by
        refine hwr k hk ?_
        by_cases hjk : j = k
        · subst hjk; exact hjun
        · rw [getD_set_ne true hjk] at hun'; exact hun'
      refine wpOp_mono (fun a' w2 h3 => ?_) h2
      obtain ⟨hs, hRj, hN⟩ := h3
      refine ⟨hRj, ih (l.setIfInBounds j true) a' w2 (hc.set hj) hwr' hfree' (ready_mono hr (Ne.symm hji)) (fun w3 h3 => (hY w3 (hR.trans ((hRj hwj).trans h3))).of_same hs) ?_⟩
      rw [Array.setIfInBounds_comm _ _ hji]
      exact hN

/-- An operation that may come up alone. -/
theorem wpAnyR_alone {Wr : Nat → Bool} {i : Nat} {n : Nat} {l : Array Bool} {a : Act} {w : World} (hr : Region.ready md ops l = [i])
    (h : ∀ w', R w w' → wpOp P ops Q i (fun a2 w2 => (Wr i = false → R w' w2) ∧ wpAnyR P md ops Wr Q n (l.setIfInBounds i true) a2 w2) a w') : wpAnyR P md ops Wr Q (n + 1) l a w :=
  fun w' hR => ⟨fun h0 => (by rw [hr] at h0; cases h0), fun j hj => by
    rw [hr] at hj
    obtain rfl := List.mem_singleton.1 hj
    exact h w' hR⟩
theorem wpAnyR_done {Wr : Nat → Bool} {n : Nat} {l : Array Bool} {a : Act} {w : World} (hr : Region.ready md ops l = []) (h : ∀ w', R w w' → Q .normal a w') : wpAnyR P md ops Wr Q n l a w := by
  cases n with
  | zero => exact ⟨hr, h⟩
  | succ n => exact fun w' hR => ⟨fun _ => h w' hR, fun j hj => by rw [hr] at hj; cases hj⟩

theorem wp_region_R {Wr : Nat → Bool} {id : Nat} {a : Act} {w : World} (hm : P.follows .mixedOrders = true)
    (h : wpAnyR P .any ops Wr Q ops.size (Array.replicate ops.size false) a w) : (Code.region id ops true).wp P Q a w :=
  wp_region_any hm (wpAny_of_R _ _ _ _ (h.on (R.drew w)))
end
end Go.Proofs.YtflfajcaicackaaDoor.Vex
