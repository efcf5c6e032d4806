/- A walk by reckoning, part seven: the words are sound; how loops, draws, calls and functions are met. No program in sight. -/
import Derived.Test.YtflfajcaicackaaDoorVexF
import Derived.Deep.LoopGhost
namespace Go.Proofs.YtflfajcaicackaaDoor.Vex
open Go Go.RowKit

/-! ## A region that draws its order -/
def isWr (ops : Array Oper) (j : Nat) : Bool := match ops[j]? with | some o => wr o.op | none => false
/-- The order that is told may be taken. -/
def orderB (ops : Array Oper) : List (Nat × Bool) → Array Bool → Bool
  | [], l => (Region.ready .any ops l).isEmpty
  | (i, true) :: r, l => (Region.ready .any ops l).contains i && Region.free .any ops l i && !isWr ops i && ((List.range ops.size).all fun j => !isWr ops j || l.getD j true || anc .any ops ops.size j i) && orderB ops r (l.setIfInBounds i true)
  | (i, false) :: r, l => (Region.ready .any ops l == [i]) && orderB ops r (l.setIfInBounds i true)
def noDefer (o : Oper) : Bool := match o.op with | .defer _ => false | _ => true
def drawB (ops : List Oper) (order : List (Nat × Bool)) : Bool := ops.all noDefer && Region.noSelect ⟨ops⟩ && (order.length ≤ ops.length) && orderB ⟨ops⟩ order (Array.replicate ops.length false)

section
variable {c : Ctx} {T : Ty}
theorem nthK_some : ∀ {l : List Oper} {n : Nat} {K : Oper → Prop}, nthK l n K → ∃ o, l[n]? = some o ∧ K o
  | [], _, _, h => h.elim
  | o :: _, 0, _, h => ⟨o, rfl, h⟩
  | _ :: l, n + 1, K, h => by
    obtain ⟨o, ho, hk⟩ := nthK_some (l := l) (n := n) (K := K) h
    exact ⟨o, by simpa using ho, hk⟩
abbrev DrawQ (c : Ctx) (ds : List Deferred) (K : Fr → Hp → Prop) (e : Exit) (a : Act) (w : World) : Prop := ∃ fr H, a = actD ds fr ∧ St c H w ∧ e = .normal ∧ K fr H
theorem wdraw_ok (hT : TOk c.P T) (ds : List Deferred) (ops : List Oper) (hs : Region.noSelect ⟨ops⟩ = true) (K : Fr → Hp → Prop) : ∀ (order : List (Nat × Bool)) (n : Nat) (l : Array Bool) (fr : Fr) (H : Hp) (w : World),
    order.length ≤ n → closedL .any ⟨ops⟩ l → orderB ⟨ops⟩ order l = true → wdraw c T ops order K fr H → St c H w → wpAnyR c.P .any ⟨ops⟩ (isWr ⟨ops⟩) (DrawQ c ds K) n l (actD ds fr) w
  | [], n, l, fr, H, w, _, _, ho, h, hw => by
    simp only [orderB, List.isEmpty_iff] at ho
    exact wpAnyR_done ho fun w' hR => ⟨fr, H, rfl, hw.below hR, rfl, h⟩
  | (i, true) :: r, 0, _, _, _, _, hn, _, _, _, _ => by simp at hn
  | (i, false) :: r, 0, _, _, _, _, hn, _, _, _, _ => by simp at hn
  | (i, true) :: r, n + 1, l, fr, H, w, hn, hc, ho, h, hw => by
    simp only [orderB, Bool.and_eq_true, List.all_eq_true, List.mem_range, Bool.or_eq_true, Bool.not_eq_true'] at ho
    obtain ⟨⟨⟨⟨hr, hf⟩, hwi⟩, hall⟩, ho⟩ := ho
    have hr : i ∈ Region.ready .any ⟨ops⟩ l := by simpa using hr
    obtain ⟨o, hoi, h⟩ := nthK_some h
    have hoi' : (⟨ops⟩ : Array Oper)[i]? = some o := by simpa using hoi
    have hwr : ∀ j, isWr ⟨ops⟩ j = true → l.getD j true = false → anc .any ⟨ops⟩ (⟨ops⟩ : Array Oper).size j i = true := fun j hj hl => by
      have hlt : j < (⟨ops⟩ : Array Oper).size := by
        unfold isWr at hj
        rcases Nat.lt_or_ge j (⟨ops⟩ : Array Oper).size with h' | h'
        · exact h'
        · rw [Array.getElem?_eq_none h'] at hj; cases hj
      rcases hall j hlt with (h1 | h1) | h1
      · rw [hj] at h1; cases h1
      · rw [hl] at h1; cases h1
      · exact h1
    have hQ : ∀ (v : Value) (ch : List PanicEntry) (a : Act) (w : World), DrawQ c ds K (.panic ch) (a.put o.dst v) w → DrawQ c ds K (.panic ch) a w := fun v ch a w ⟨_, _, _, _, he, _⟩ => by cases he
    rcases wstep_cases hT h with ⟨hwd, ⟨v, hk, hq⟩ | ⟨he, _⟩, _⟩ | ⟨hwd, hk⟩
    · obtain ⟨fr', e, hk⟩ := setO_act (ds := ds) hk
      refine wpAnyR_first (v := v) hoi' (Region.noSelect_spec hs) (hQ v) hwi n l (actD ds fr) w hc hwr (Region.free_spec hoi' hf) hr (fun w' hR => .inl ⟨hwd, hq w' (hw.below hR)⟩) ?_
      rw [e]
      exact wdraw_ok hT ds ops hs K r n _ fr' H w (by simpa using hn) (hc.set hr) ho hk hw
    · cases he
    · obtain ⟨fr', e, hk⟩ := setO_act (ds := ds) hk
      refine wpAnyR_first (v := undef) hoi' (Region.noSelect_spec hs) (hQ _) hwi n l (actD ds fr) w hc hwr (Region.free_spec hoi' hf) hr (fun w' hR => .inr ⟨hwd, rfl⟩) ?_
      rw [e]
      exact wdraw_ok hT ds ops hs K r n _ fr' H w (by simpa using hn) (hc.set hr) ho hk hw
  | (i, false) :: r, n + 1, l, fr, H, w, hn, hc, ho, h, hw => by
    simp only [orderB, Bool.and_eq_true, beq_iff_eq] at ho
    obtain ⟨hr, ho⟩ := ho
    have hri : i ∈ Region.ready .any ⟨ops⟩ l := by rw [hr]; simp
    obtain ⟨o, hoi, h⟩ := nthK_some h
    have hoi' : (⟨ops⟩ : Array Oper)[i]? = some o := by simpa using hoi
    refine wpAnyR_alone hr fun w' hR => ?_
    have hw' := hw.below hR
    unfold wpOp
    simp only [hoi']
    rw [show (actD ds fr).tmps = (act fr).tmps from rfl]
    rcases wstep_cases hT h with ⟨hwd, hd | ⟨he, _⟩, _⟩ | ⟨hwd, hk⟩
    · rw [if_pos hwd]
      refine .inl (Good.wp (hd w' hw') fun v H' w2 hs2 hk hrr => ?_)
      obtain ⟨fr', e, hk⟩ := setO_act (ds := ds) hk
      rw [e]
      refine ⟨fun hi => hrr ?_, wdraw_ok hT ds ops hs K r n _ fr' H' w2 (by simpa using hn) (hc.set hri) ho hk hs2⟩
      have hwo : wr o.op = false := by
        have h2 : isWr ⟨ops⟩ i = wr o.op := by unfold isWr; rw [hoi']
        rw [← h2]; exact hi
      simp [rOf, hwo]
    · cases he
    · rw [if_neg (by rw [hwd]; exact Bool.false_ne_true)]
      obtain ⟨fr', e, hk⟩ := setO_act (ds := ds) hk
      rw [e]
      exact ⟨fun _ => R.refl _, wdraw_ok hT ds ops hs K r n _ fr' H w' (by simpa using hn) (hc.set hri) ho hk hw'⟩

/-- The order is told. -/
theorem DrawS.go {id : Nat} {ops : List Oper} {K : Fr → Hp → Prop} {fr : Fr} {H : Hp} (order : List (Nat × Bool)) (hT : TOk c.P T) (hm : c.P.follows .mixedOrders = true) (hB : drawB ops order = true) (h : wdraw c T ops order K fr H) : DrawS c T id ops K fr H := by
  simp only [drawB, Bool.and_eq_true, decide_eq_true_eq] at hB
  refine ⟨hm, fun j o ca hj e => ?_, fun ds w hw => wpAny_of_R (Wr := isWr ⟨ops⟩) _ _ _ _ ((wdraw_ok hT ds ops hB.1.1.2 K order _ _ fr H w hB.1.2 (closedL_start _) hB.2 h hw).on (R.drew w))⟩
  have h1 := List.all_eq_true.1 hB.1.1.1 o (List.mem_of_getElem? (by simpa using hj))
  unfold noDefer at h1
  rw [e] at h1
  cases h1
/-- .. in a round. -/
theorem wpOp_in {P : Program} {ops : Array Oper} {Q : Exit → Act → World → Prop} {rd : Option Nat} (hd : ∀ (j : Nat) (o : Oper) (ca : Call), ops[j]? = some o → o.op ≠ .defer ca) (hL : ¬ LetsOut Q) {i : Nat} {K K' : Act → World → Prop} {a : Act} {w : World}
    (hK : ∀ a w, K a w → K' a w) (h : wpOp P ops Q i K a w) : wpOpIn (wideR rd) 0 P ops Q i K' a w := by
  unfold wpOp at h
  unfold wpOpIn
  cases hi : ops[i]? with
  | none => rw [hi] at h; exact hK _ _ h
  | some o =>
    rw [hi] at h
    simp only at h ⊢
    split
    · rename_i hw
      rw [if_pos hw] at h
      rcases h with h | ⟨_, h⟩
      · refine ⟨fun _ _ => trivial, ?_⟩
        rw [Oper.semAt_eq _ _ _ (hd i o · hi)]
        unfold Oper.wp at h
        generalize (execOp a.eval o).run P w = r at *
        cases r with
        | halt x w' =>
          cases x <;> simp only [Oper.upon, Oper.uponIn] at h ⊢
          exact h
        | ok n w' =>
          cases n <;> simp only [Oper.upon, Oper.uponIn] at h ⊢
          case value v => exact hK _ _ h
          case skip => exact hK _ _ h
          case defer d => exact hK _ _ h
          case enter f args =>
            refine ⟨fun h => (by cases h), ?_⟩
            have h2 : CallsIn (wideR rd) 0 P f args w' _ := callsIn_wide.2 h
            refine h2.mono fun e w'' he => ?_
            cases e with
            | returned v => exact hK _ _ he
            | panicked ch => exact he
            | outgrown => exact he
          case row row args =>
            refine ⟨fun h => (by cases h), ?_⟩
            exact fun c cs _ => let ⟨v, w2, r, s⟩ := h c cs; ⟨v, w2, hK _ _ r, stepsIn_wide.2 s⟩
      · exact absurd h hL
    · rename_i hw
      rw [if_neg hw] at h
      exact ⟨fun _ _ => trivial, hK _ _ h⟩
theorem wpAny_in {P : Program} {ops : Array Oper} {Q : Exit → Act → World → Prop} {rd : Option Nat} (hd : ∀ (j : Nat) (o : Oper) (ca : Call), ops[j]? = some o → o.op ≠ .defer ca) (hL : ¬ LetsOut Q) : ∀ (n : Nat) (l : Array Bool) (a : Act) (w : World), wpAny P .any ops Q n l a w → wpAnyIn (wideR rd) 0 P .any ops Q n l a w
  | 0, _, _, _, h => h
  | n + 1, _, _, _, h => ⟨h.1, fun i hi => wpOp_in hd hL (fun a w => wpAny_in hd hL n _ a w) (h.2 i hi)⟩
theorem DrawS.wp {id : Nat} {ops : List Oper} {K : Fr → Hp → Prop} {fr : Fr} {H : Hp} (h : DrawS c T id ops K fr H) (ds : List Deferred) {w : World} (hw : St c H w) : (Code.region id ⟨ops⟩ true).wp c.P (DrawQ c ds K) (actD ds fr) w :=
  wp_region_any h.ok.1 (h.ok.2.2 ds w hw)
theorem DrawS.wpIn {id : Nat} {ops : List Oper} {K : Fr → Hp → Prop} {fr : Fr} {H : Hp} (h : DrawS c T id ops K fr H) (rd : Option Nat) (ds : List Deferred) {w : World} (hw : St c H w) : (Code.region id ⟨ops⟩ true).wpIn (wideR rd) 0 c.P (DrawQ c ds K) (actD ds fr) w :=
  wpIn_region_any h.ok.1 (wpAny_in h.ok.2.1 (by rintro ⟨_, _, _, _, _, _, he, _⟩; cases he) _ _ _ _ (h.ok.2.2 ds w hw))

/-! ## Statements -/
theorem wc_ok (hT : TOk c.P T) (ds : List Deferred) (cd : Code) : ∀ (Q : Exit → Fr → Hp → Prop) (fr : Fr) (H : Hp) (w : World), wc c T cd Q fr H → St c H w → cd.wp c.P (Lift c ds Q) (actD ds fr) w := by
  induction cd with
  | skip => exact fun Q fr H w h hw => wp_skip ⟨fr, H, rfl, hw, h⟩
  | region id ops dr =>
    intro Q fr H w h hw
    cases dr with
    | false =>
      refine Code.wp_mono (Q := DrawQ c ds (Q .normal)) (fun e a w ⟨fr, H, ha, hs, he, hq⟩ => ⟨fr, H, ha, hs, he ▸ hq⟩) (wpIn_wide.1 (wpIn_region (n := 0) ?_))
      have h1 : wlist c T ops.toList ops.toList (Q .normal) fr H := h
      have := wlist_ok hT none ds ops.toList ops.toList 0 (Q .normal) fr H w (fun j => by simp) h1 hw
      rw [List.range_eq_range']
      exact this
    | true =>
      have h1 : DrawS c T id ops.toList (Q .normal) fr H := h
      exact Code.wp_mono (Q := DrawQ c ds (Q .normal)) (fun e a w ⟨fr, H, ha, hs, he, hq⟩ => ⟨fr, H, ha, hs, he ▸ hq⟩) (h1.wp ds hw)
  | seq a b iha ihb =>
    intro Q fr H w h hw
    have h1 : wc c T a (thenQ (wc c T b Q) Q) fr H := h
    refine wp_seq (Code.wp_mono (fun e a w ⟨fr, H, ha, hs, hq⟩ => ?_) (iha _ fr H w h1 hw))
    cases e with
    | normal => subst ha; exact ihb Q fr H w hq hs
    | _ => exact ⟨fr, H, ha, hs, hq⟩
  | cond x a b iha ihb =>
    intro Q fr H w h hw
    have h1 : evK fr x fun x => (match x with | .bool t => (match t with | true => wc c T a Q fr H | false => wc c T b Q fr H) | _ => False) := h
    rw [evK_eq] at h1
    split at h1
    · rename_i t hx
      cases t with
      | true => exact wp_cond_true hx (iha Q fr H w h1 hw)
      | false => exact wp_cond_false hx (ihb Q fr H w h1 hw)
    · exact h1.elim
  | block id a ih =>
    intro Q fr H w h hw
    have h1 : wc c T a (blockQ id Q) fr H := h
    refine wp_block (Code.wp_mono (fun e a w ⟨fr, H, ha, hs, hq⟩ => ?_) (ih _ fr H w h1 hw))
    cases e with
    | exit id' =>
      unfold blockQ at hq
      simp only at hq
      unfold Exit.inBlock
      simp only
      cases hb : Nat.beq id' id with
      | true =>
        rw [hb] at hq
        rw [if_pos (Nat.eq_of_beq_eq_true hb)]
        exact ⟨fr, H, ha, hs, hq⟩
      | false =>
        rw [hb] at hq
        rw [if_neg (Nat.ne_of_beq_eq_false hb)]
        exact ⟨fr, H, ha, hs, hq⟩
    | _ => exact ⟨fr, H, ha, hs, hq⟩
  | loop a ih => exact fun Q fr H w h hw => (show LoopS c T a Q fr H from h).ok ds w hw
  | rangeFunc f ps as' body iha ihb => exact fun Q fr H w h hw => (show OthC c T (.rangeFunc f ps as' body) Q fr H from h).ok ds w hw
  | exit id => exact fun Q fr H w h hw => wp_exit ⟨fr, H, rfl, hw, h⟩
  | scope a ih =>
    intro Q fr H w h hw
    have h1 : wc c T a (scopeQ Q) fr H := h
    refine wp_scope_straight (Code.wp_mono (fun e a w ⟨fr, H, ha, hs, hq⟩ => ?_) (ih _ fr H w h1 hw))
    cases e with
    | goto l => exact hq.elim
    | _ => exact ⟨fr, H, ha, hs, hq⟩
  | label l => exact fun Q fr H w h hw => wp_label ⟨fr, H, rfl, hw, h⟩
  | goto l => exact fun Q fr H w h hw => wp_goto ⟨fr, H, rfl, hw, h⟩
  | ret => exact fun Q fr H w h hw => wp_ret ⟨fr, H, rfl, hw, h⟩
  | refuse s => exact fun Q fr H w h hw => (show False from h).elim

/-- Code without loops. -/
def strC : Code → Bool
  | .region _ _ _ => true
  | .seq a b => strC a && strC b
  | .cond _ a b => strC a && strC b
  | .block _ a => strC a
  | .loop _ => false
  | .rangeFunc _ _ _ _ => false
  | .scope _ => false
  | .refuse _ => false
  | _ => true
/-- .. in a round. -/
theorem wcR_ok (hT : TOk c.P T) (rd : Option Nat) (ds : List Deferred) (cd : Code) : strC cd = true → ∀ (Q : Exit → Fr → Hp → Prop) (fr : Fr) (H : Hp) (w : World), wc c T cd Q fr H → St c H w → cd.wpIn (wideR rd) 0 c.P (Lift c ds Q) (actD ds fr) w := by
  induction cd with
  | skip => exact fun _ Q fr H w h hw => wpIn_skip ⟨fr, H, rfl, hw, h⟩
  | region id ops dr =>
    intro hS Q fr H w h hw
    cases dr with
    | false =>
      refine wpIn_mono (Q := DrawQ c ds (Q .normal)) (wpIn_region ?_) (fun e a w ⟨fr, H, ha, hs, he, hq⟩ => ⟨fr, H, ha, hs, he ▸ hq⟩)
      have h1 : wlist c T ops.toList ops.toList (Q .normal) fr H := h
      have := wlist_ok hT rd ds ops.toList ops.toList 0 (Q .normal) fr H w (fun j => by simp) h1 hw
      rw [List.range_eq_range']
      exact this
    | true =>
      have h1 : DrawS c T id ops.toList (Q .normal) fr H := h
      exact wpIn_mono (Q := DrawQ c ds (Q .normal)) (h1.wpIn rd ds hw) (fun e a w ⟨fr, H, ha, hs, he, hq⟩ => ⟨fr, H, ha, hs, he ▸ hq⟩)
  | seq a b iha ihb =>
    intro hS Q fr H w h hw
    have hS : (strC a && strC b) = true := hS
    rw [Bool.and_eq_true] at hS
    have h1 : wc c T a (thenQ (wc c T b Q) Q) fr H := h
    refine wpIn_seq (wpIn_mono (iha hS.1 _ fr H w h1 hw) (fun e a w ⟨fr, H, ha, hs, hq⟩ => ?_))
    cases e with
    | normal => subst ha; exact ihb hS.2 Q fr H w hq hs
    | _ => exact ⟨fr, H, ha, hs, hq⟩
  | cond x a b iha ihb =>
    intro hS Q fr H w h hw
    have hS : (strC a && strC b) = true := hS
    rw [Bool.and_eq_true] at hS
    have h1 : evK fr x fun x => (match x with | .bool t => (match t with | true => wc c T a Q fr H | false => wc c T b Q fr H) | _ => False) := h
    rw [evK_eq] at h1
    split at h1
    · rename_i t hx
      cases t with
      | true => exact wpIn_cond_true hx (iha hS.1 Q fr H w h1 hw)
      | false => exact wpIn_cond_false hx (ihb hS.2 Q fr H w h1 hw)
    · exact h1.elim
  | block id a ih =>
    intro hS Q fr H w h hw
    have h1 : wc c T a (blockQ id Q) fr H := h
    refine wpIn_block (wpIn_mono (ih hS _ fr H w h1 hw) (fun e a w ⟨fr, H, ha, hs, hq⟩ => ?_))
    cases e with
    | exit id' =>
      unfold blockQ at hq
      simp only at hq
      unfold Exit.inBlock
      simp only
      cases hb : Nat.beq id' id with
      | true =>
        rw [hb] at hq
        rw [if_pos (Nat.eq_of_beq_eq_true hb)]
        exact ⟨fr, H, ha, hs, hq⟩
      | false =>
        rw [hb] at hq
        rw [if_neg (Nat.ne_of_beq_eq_false hb)]
        exact ⟨fr, H, ha, hs, hq⟩
    | _ => exact ⟨fr, H, ha, hs, hq⟩
  | exit id => exact fun _ Q fr H w h hw => wpIn_exit ⟨fr, H, rfl, hw, h⟩
  | label l => exact fun _ Q fr H w h hw => wpIn_label ⟨fr, H, rfl, hw, h⟩
  | goto l => exact fun _ Q fr H w h hw => wpIn_goto ⟨fr, H, rfl, hw, h⟩
  | ret => exact fun _ Q fr H w h hw => wpIn_ret ⟨fr, H, rfl, hw, h⟩
  | _ => exact fun hS => by cases hS

/-! ## Loops -/
noncomputable def loopQ {α : Type} (F : α → Fr) (G : α → Hp) (pre : α → Prop) (μ : α → Nat) (x : α) (Q : Exit → Fr → Hp → Prop) (e : Exit) (fr : Fr) (H : Hp) : Prop := match e with
  | .normal => ∃ x', pre x' ∧ fr = F x' ∧ (G x').Sublist H ∧ μ x' < μ x
  | e => Q e fr H
theorem LoopS.go {α : Type} {body : Code} {Q : Exit → Fr → Hp → Prop} {fr : Fr} {H : Hp} (hT : TOk c.P T) (F : α → Fr) (G : α → Hp) (pre : α → Prop) (μ : α → Nat) (x0 : α) (h0 : pre x0) (hF : fr = F x0) (hG : (G x0).Sublist H)
    (round : ∀ x, pre x → wc c T body (loopQ F G pre μ x Q) (F x) (G x)) : LoopS c T body Q fr H := by
  refine ⟨fun ds w hw => wp_loop_ghost (fun n a w => ∃ x, pre x ∧ a = actD ds (F x) ∧ St c (G x) w ∧ μ x = n) (μ x0) ⟨x0, h0, by rw [hF], hw.sub hG, rfl⟩ ?_⟩
  rintro n a w ⟨x, hx, rfl, hs, rfl⟩
  refine Code.wp_mono (fun e a w ⟨fr, H, ha, hs, hq⟩ => ?_) (wc_ok hT ds body _ _ _ w (round x hx) hs)
  cases e with
  | normal =>
    obtain ⟨x', hx', rfl, hG', hlt⟩ := hq
    exact ⟨μ x', hlt, x', hx', ha, hs.sub hG', rfl⟩
  | _ => exact ⟨fr, H, ha, hs, hq⟩
end
end Go.Proofs.YtflfajcaicackaaDoor.Vex
