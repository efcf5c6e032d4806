/- A walk by reckoning, part six: statements, loops, functions. No program in sight. -/
import Derived.Test.YtflfajcaicackaaDoorVexE
import Derived.Scope
import Derived.OrdersIn
namespace Go.Proofs.YtflfajcaicackaaDoor.Vex
open Go Go.RowKit

/-- The slot of a guard. -/
noncomputable def guardT (l : List Oper) : Nat → Option Nat :=
  List.rec (motive := fun _ => Nat → Option Nat) (fun _ => none) (fun o _ ih n => Nat.rec (motive := fun _ => Option Nat) o.dst (fun m _ => ih m) n) l
theorem guardT_eq : ∀ (l : List Oper) (n : Nat), guardT l n = (l[n]?).bind (·.dst)
  | [], n => by simp [guardT]
  | o :: l, 0 => rfl
  | o :: l, n + 1 => by
    have : guardT (o :: l) (n + 1) = guardT l n := rfl
    rw [this, guardT_eq l n]; simp

/-- One operation with its guard; behind it 'ih'. -/
noncomputable def wstep (c : Ctx) (T : Ty) (m : Md) (ops : List Oper) (o : Oper) (fr : Fr) (H : Hp) (ih : Fr → Hp → Prop) : Prop :=
  match o.guard with
  | none => wop c T m o fr H fun v H' => setO fr o.dst v fun fr' => ih fr' H'
  | some (j, want) => match guardT ops j with
    | none => False
    | some t => getK fr t fun g => (match g with
      | .bool b => (match b with
        | true => (match want with | true => wop c T m o fr H fun v H' => setO fr o.dst v fun fr' => ih fr' H' | false => setO fr o.dst undef fun fr' => ih fr' H)
        | false => (match want with | false => wop c T m o fr H fun v H' => setO fr o.dst v fun fr' => ih fr' H' | true => setO fr o.dst undef fun fr' => ih fr' H))
      | .tuple _ => setO fr o.dst undef fun fr' => ih fr' H
      | _ => False)
noncomputable def wlist (c : Ctx) (T : Ty) (ops : List Oper) (l : List Oper) : (Fr → Hp → Prop) → Fr → Hp → Prop :=
  List.rec (motive := fun _ => (Fr → Hp → Prop) → Fr → Hp → Prop) (fun K fr H => K fr H) (fun o _ ih K fr H => wstep c T .plain ops o fr H (ih K)) l
noncomputable def nthK (l : List Oper) : Nat → (Oper → Prop) → Prop :=
  List.rec (motive := fun _ => Nat → (Oper → Prop) → Prop) (fun _ _ => False) (fun o _ ih n K => Nat.rec (motive := fun _ => Prop) (K o) (fun m _ => ih m K) n) l
/-- The operations in an order that is told: (number, quiet). -/
noncomputable def wdraw (c : Ctx) (T : Ty) (ops : List Oper) (l : List (Nat × Bool)) : (Fr → Hp → Prop) → Fr → Hp → Prop :=
  List.rec (motive := fun _ => (Fr → Hp → Prop) → Fr → Hp → Prop) (fun K fr H => K fr H)
    (fun p _ ih K fr H => nthK ops p.1 fun o => wstep c T (match p.2 with | true => .quiet | false => .act) ops o fr H (ih K)) l

structure LoopS (c : Ctx) (T : Ty) (body : Code) (Q : Exit → Fr → Hp → Prop) (fr : Fr) (H : Hp) : Prop where
  ok : ∀ ds w, St c H w → (Code.loop body).wp c.P (fun e a w => ∃ fr H, a = actD ds fr ∧ St c H w ∧ Q e fr H) (actD ds fr) w
structure DrawS (c : Ctx) (T : Ty) (id : Nat) (ops : List Oper) (K : Fr → Hp → Prop) (fr : Fr) (H : Hp) : Prop where
  ok : c.P.follows .mixedOrders = true ∧ (∀ (j : Nat) (o : Oper) (ca : Call), (⟨ops⟩ : Array Oper)[j]? = some o → o.op ≠ .defer ca) ∧ ∀ ds w, St c H w →
    wpAny c.P .any ⟨ops⟩ (fun e a w => ∃ fr H, a = actD ds fr ∧ St c H w ∧ e = .normal ∧ K fr H) ops.length (Array.replicate ops.length false) (actD ds fr) w.drew
structure OthC (c : Ctx) (T : Ty) (cd : Code) (Q : Exit → Fr → Hp → Prop) (fr : Fr) (H : Hp) : Prop where
  ok : ∀ ds w, St c H w → cd.wp c.P (fun e a w => ∃ fr H, a = actD ds fr ∧ St c H w ∧ Q e fr H) (actD ds fr) w

noncomputable def thenQ (next : Fr → Hp → Prop) (Q : Exit → Fr → Hp → Prop) (e : Exit) (fr : Fr) (H : Hp) : Prop := match e with | .normal => next fr H | e => Q e fr H
noncomputable def blockQ (id : Nat) (Q : Exit → Fr → Hp → Prop) (e : Exit) (fr : Fr) (H : Hp) : Prop := match e with | .exit id' => (match Nat.beq id' id with | true => Q .normal fr H | false => Q (.exit id') fr H) | e => Q e fr H
/-- A scope of labels: no jump comes up here. -/
noncomputable def scopeQ (Q : Exit → Fr → Hp → Prop) (e : Exit) (fr : Fr) (H : Hp) : Prop := match e with | .goto _ => False | e => Q e fr H
/-- A statement. -/
noncomputable def wc (c : Ctx) (T : Ty) (cd : Code) : (Exit → Fr → Hp → Prop) → Fr → Hp → Prop :=
  Code.rec (motive := fun _ => (Exit → Fr → Hp → Prop) → Fr → Hp → Prop)
    (fun Q fr H => Q .normal fr H)
    (fun id ops dr Q fr H => match dr with | false => wlist c T ops.toList ops.toList (Q .normal) fr H | true => DrawS c T id ops.toList (Q .normal) fr H)
    (fun _ _ iha ihb Q fr H => iha (thenQ (ihb Q) Q) fr H)
    (fun x _ _ iha ihb Q fr H => evK fr x fun x => (match x with | .bool t => (match t with | true => iha Q fr H | false => ihb Q fr H) | _ => False))
    (fun id _ ih Q fr H => ih (blockQ id Q) fr H)
    (fun body _ Q fr H => LoopS c T body Q fr H)
    (fun f ps as' body _ _ Q fr H => OthC c T (.rangeFunc f ps as' body) Q fr H)
    (fun id Q fr H => Q (.exit id) fr H)
    (fun _ ih Q fr H => ih (scopeQ Q) fr H)
    (fun _ Q fr H => Q .normal fr H)
    (fun l Q fr H => Q (.goto l) fr H)
    (fun Q fr H => Q .ret fr H)
    (fun _ _ _ _ => False) cd

/-- What is behind an exit, of a world. -/
abbrev Lift (c : Ctx) (ds : List Deferred) (Q : Exit → Fr → Hp → Prop) (e : Exit) (a : Act) (w : World) : Prop := ∃ fr H, a = actD ds fr ∧ St c H w ∧ Q e fr H

section
variable {c : Ctx} {T : Ty}
theorem setO_act {ds : List Deferred} {fr : Fr} {o : Option Nat} {v : Value} {K : Fr → Prop} (h : setO fr o v K) : ∃ fr', (actD ds fr).put o v = actD ds fr' ∧ K fr' := by
  rw [setO_eq] at h
  have e : (actD ds fr).put o v = { (act fr).put o v with defers := ds } := by cases o <;> rfl
  exact ⟨_, by rw [e, act_put]; rfl, h⟩
/-- A guard, read off the frame. -/
theorem yielded_eq {ops : List Oper} {fr : Fr} {j t : Nat} (ht : guardT ops j = some t) : yielded ⟨ops⟩ (act fr).tmps j = match fr.getD t undef with | .bool b => some b | _ => none := by
  rw [guardT_eq] at ht
  have h1 : ((⟨ops⟩ : Array Oper)[j]?).bind (·.dst) = some t := by simpa using ht
  unfold yielded
  rw [h1]
  simp only [Option.bind_some]
  have h2 : (act fr).tmps[t]? = fr[t]? := by simp [act]
  rw [h2]
  cases hf : fr[t]? with
  | none => simp [List.getD, hf, undef]
  | some v => cases v <;> simp [List.getD, hf]
/-- One guarded operation: carried out, or passed over. -/
theorem wstep_cases (hT : TOk c.P T) {m : Md} {ops : List Oper} {o : Oper} {fr : Fr} {H : Hp} {ih : Fr → Hp → Prop} (h : wstep c T m ops o fr H ih) :
    (Region.wanted o (yielded ⟨ops⟩ (act fr).tmps) = true ∧ (Did2 c m o fr H fun v H' => setO fr o.dst v fun fr' => ih fr' H') ∧ ∀ ca, o.op ≠ .defer ca) ∨
    (Region.wanted o (yielded ⟨ops⟩ (act fr).tmps) = false ∧ setO fr o.dst undef fun fr' => ih fr' H) := by
  unfold wstep at h
  unfold Region.wanted
  split at h
  · rename_i hg
    rw [hg]
    exact .inl ⟨rfl, wop_did hT o h, wop_noDefer o h⟩
  · rename_i j want hg
    rw [hg]
    simp only
    split at h
    · exact h.elim
    · rename_i t ht
      rw [getK_eq] at h
      rw [yielded_eq ht]
      split at h
      · rename_i b hb
        rw [hb]
        cases b <;> cases want <;> first | exact .inl ⟨rfl, wop_did hT o h, wop_noDefer o h⟩ | exact .inr ⟨rfl, h⟩
      · rename_i x hb
        rw [hb]
        exact .inr ⟨rfl, h⟩
      · exact h.elim
theorem Good.wp {ds : List Deferred} {o : Oper} {fr : Fr} {w : World} {r : Bool} {K : Value → Hp → Prop} {K' : Act → World → Prop} {Q : Exit → Act → World → Prop} (h : Good c r w K ((execOp (act fr).eval o).run c.P w))
    (hK : ∀ v H' w', St c H' w' → K v H' → (r = true → R w w') → K' ((actD ds fr).put o.dst v) w') : o.wp c.P (actD ds fr) w K' Q := by
  unfold Oper.wp
  rw [show (actD ds fr).eval = (act fr).eval from rfl]
  generalize (execOp (act fr).eval o).run c.P w = x at *
  cases x with
  | halt x w' => exact h.elim
  | ok n w' =>
    cases n <;> simp only [Good] at h <;> simp only [Oper.upon]
    case value v => obtain ⟨H', hs, hk, hr⟩ := h; exact hK _ _ _ hs hk hr
    case skip => obtain ⟨H', hs, hk, hr⟩ := h; exact hK _ _ _ hs hk hr
    case enter f args =>
      obtain ⟨rfl, h⟩ := h
      refine h.mono fun e w'' ⟨v, H', he, hs, hk, hr⟩ => ?_
      subst he
      exact hK _ _ _ hs hk hr
/-- The open fence, in a round or in none. -/
abbrev wideR (rd : Option Nat) : Fence := { Fence.wide with round := rd }
theorem Did2.wpIn {rd : Option Nat} {ds : List Deferred} {o : Oper} {fr : Fr} {H : Hp} {w : World} {K : Value → Hp → Prop} {K' : Act → World → Prop} {Q : Exit → Act → World → Prop} (hd : ∀ ca, o.op ≠ .defer ca) (h : Did2 c .plain o fr H K) (hw : St c H w)
    (hK : ∀ v H' w', St c H' w' → K v H' → K' ((actD ds fr).put o.dst v) w') : o.wpIn (wideR rd) 0 c.P (actD ds fr) w K' Q := by
  refine ⟨fun _ _ => trivial, ?_⟩
  rw [Oper.semAt_eq _ _ _ hd, show (actD ds fr).eval = (act fr).eval from rfl]
  rcases h with h | ⟨_, h⟩
  · have h : Good c (rOf .plain o.op) w K ((execOp (act fr).eval o).run c.P w) := h w hw
    generalize (execOp (act fr).eval o).run c.P w = x at *
    cases x with
    | halt x w' => exact h.elim
    | ok n w' =>
      cases n <;> simp only [Good] at h <;> simp only [Oper.uponIn]
      case value v => obtain ⟨H', hs, hk, _⟩ := h; exact hK _ _ _ hs hk
      case skip => obtain ⟨H', hs, hk, _⟩ := h; exact hK _ _ _ hs hk
      case enter f args =>
        obtain ⟨rfl, h⟩ := h
        refine ⟨fun h => (by cases h), ?_⟩
        have h2 : CallsIn (wideR rd) 0 c.P f args w' _ := callsIn_wide.2 h
        refine h2.mono fun e w'' ⟨v, H', he, hs, hk, _⟩ => ?_
        subst he
        exact hK _ _ _ hs hk
  · obtain ⟨l, fn, tmps, as', body, hy, hr⟩ := h w hw
    rw [hy, Oper.uponIn_round]
    refine ⟨fun h => (by cases h), ?_⟩
    have h2 : RoundIn (wideR rd) 0 c.P l fn tmps as' body w _ := hr
    refine h2.mono fun e w'' ⟨v, H', he, hs, hk⟩ => ?_
    subst he
    exact hK _ _ _ hs hk
theorem wlist_ok (hT : TOk c.P T) (rd : Option Nat) (ds : List Deferred) (ops : List Oper) : ∀ (l : List Oper) (k : Nat) (K : Fr → Hp → Prop) (fr : Fr) (H : Hp) (w : World), (∀ j, l[j]? = ops[k + j]?) → wlist c T ops l K fr H → St c H w →
    wpOpsIn (wideR rd) 0 c.P ⟨ops⟩ (fun e a w => ∃ fr H, a = actD ds fr ∧ St c H w ∧ e = .normal ∧ K fr H) (List.range' k l.length) (actD ds fr) w
  | [], _, K, fr, H, w, _, h, hw => ⟨fr, H, rfl, hw, rfl, h⟩
  | o :: l, k, K, fr, H, w, hl, h, hw => by
    have h0 : (⟨ops⟩ : Array Oper)[k]? = some o := by have := hl 0; simp at this; simp [← this]
    have hl' : ∀ j, l[j]? = ops[k + 1 + j]? := fun j => by have := hl (j + 1); simpa [Nat.add_assoc, Nat.add_comm 1 j] using this
    have h' : wstep c T .plain ops o fr H (wlist c T ops l K) := h
    rw [List.length_cons, List.range'_succ]
    unfold wpOpsIn
    simp only [h0]
    rw [show (actD ds fr).tmps = (act fr).tmps from rfl]
    rcases wstep_cases hT h' with ⟨hwd, hd, hnd⟩ | ⟨hwd, hs⟩
    · rw [if_pos hwd]
      refine Did2.wpIn hnd hd hw fun v H' w' hs hk => ?_
      obtain ⟨fr', e, hk⟩ := setO_act (ds := ds) hk
      rw [e]
      exact wlist_ok hT rd ds ops l (k + 1) K fr' H' w' hl' hk hs
    · rw [if_neg (by rw [hwd]; exact Bool.false_ne_true)]
      obtain ⟨fr', e, hk⟩ := setO_act (ds := ds) hs
      rw [e]
      exact ⟨fun _ _ => trivial, wlist_ok hT rd ds ops l (k + 1) K fr' H w hl' hk hw⟩
end
end Go.Proofs.YtflfajcaicackaaDoor.Vex
