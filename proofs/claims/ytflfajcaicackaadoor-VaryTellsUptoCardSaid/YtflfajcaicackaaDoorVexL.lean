/- A walk by reckoning, part twelve: a range over a function. No program in sight. -/
import Derived.Test.YtflfajcaicackaaDoorVexK
import Derived.RangeFuncLeaves
namespace Go.Proofs.YtflfajcaicackaaDoor.Vex
open Go Go.RowKit

abbrev QX := List Deferred → Exit → Fr → Hp → Prop
abbrev LiftX (c : Ctx) (Q : QX) (e : Exit) (a : Act) (w : World) : Prop := ∃ ds fr H, a = actD ds fr ∧ St c H w ∧ Q ds e fr H
/-- The statement 'for .. := range g': its deferred calls' mark is laid upon the activation. -/
structure RngS (c : Ctx) (g : Operand) (ps : Array Tmp) (as' body : Code) (Q : QX) (ds : List Deferred) (fr : Fr) (H : Hp) : Prop where
  ok : ∀ w, St c H w → (Code.rangeFunc g ps as' body).wp c.P (LiftX c Q) (actD ds fr) w
def thenX (next : List Deferred → Fr → Hp → Prop) (Q : QX) : QX := fun ds e fr H => match e with | .normal => next ds fr H | e => Q ds e fr H
def blockX (id : Nat) (Q : QX) : QX := fun ds e fr H => match e with | .exit id' => (match Nat.beq id' id with | true => Q ds .normal fr H | false => Q ds (.exit id') fr H) | e => Q ds e fr H
/-- A statement that may range over functions at its outer level. -/
noncomputable def wx (c : Ctx) (T : Ty) (cd : Code) : QX → List Deferred → Fr → Hp → Prop :=
  Code.rec (motive := fun _ => QX → List Deferred → Fr → Hp → Prop)
    (fun Q ds fr H => Q ds .normal fr H)
    (fun id ops dr Q ds fr H => wc c T (.region id ops dr) (Q ds) fr H)
    (fun _ _ iha ihb Q ds fr H => iha (thenX (ihb Q) Q) ds fr H)
    (fun x a b _ _ Q ds fr H => wc c T (.cond x a b) (Q ds) fr H)
    (fun id _ ih Q ds fr H => ih (blockX id Q) ds fr H)
    (fun body _ Q ds fr H => wc c T (.loop body) (Q ds) fr H)
    (fun f ps as' body _ _ Q ds fr H => RngS c f ps as' body Q ds fr H)
    (fun id Q ds fr H => Q ds (.exit id) fr H)
    (fun body _ Q ds fr H => wc c T (.scope body) (Q ds) fr H)
    (fun _ Q ds fr H => Q ds .normal fr H)
    (fun l Q ds fr H => Q ds (.goto l) fr H)
    (fun Q ds fr H => Q ds .ret fr H)
    (fun _ _ _ _ _ => False) cd
section
variable {c : Ctx} {T : Ty}
theorem wx_ok (hT : TOk c.P T) (cd : Code) : ∀ (Q : QX) (ds : List Deferred) (fr : Fr) (H : Hp) (w : World), wx c T cd Q ds fr H → St c H w → cd.wp c.P (LiftX c Q) (actD ds fr) w := by
  have base : ∀ (cd : Code) (Q : QX) (ds : List Deferred) (fr : Fr) (H : Hp) (w : World), wc c T cd (Q ds) fr H → St c H w → cd.wp c.P (LiftX c Q) (actD ds fr) w := fun cd Q ds fr H w h hw =>
    Code.wp_mono (fun e a w ⟨fr, H, ha, hs, hq⟩ => ⟨ds, fr, H, ha, hs, hq⟩) (wc_ok hT ds cd _ fr H w h hw)
  induction cd with
  | skip => exact fun Q ds fr H w h hw => wp_skip ⟨ds, fr, H, rfl, hw, h⟩
  | region id ops dr => exact fun Q ds fr H w h hw => base _ Q ds fr H w h hw
  | seq a b iha ihb =>
    intro Q ds fr H w h hw
    have h1 : wx c T a (thenX (wx c T b Q) Q) ds fr H := h
    refine wp_seq (Code.wp_mono (fun e a w ⟨ds, fr, H, ha, hs, hq⟩ => ?_) (iha _ ds fr H w h1 hw))
    cases e with
    | normal => subst ha; exact ihb Q ds fr H w hq hs
    | _ => exact ⟨ds, fr, H, ha, hs, hq⟩
  | cond x a b iha ihb => exact fun Q ds fr H w h hw => base _ Q ds fr H w h hw
  | block id a ih =>
    intro Q ds fr H w h hw
    have h1 : wx c T a (blockX id Q) ds fr H := h
    refine wp_block (Code.wp_mono (fun e a w ⟨ds, fr, H, ha, hs, hq⟩ => ?_) (ih _ ds fr H w h1 hw))
    cases e with
    | exit id' =>
      unfold blockX at hq
      simp only at hq
      unfold Exit.inBlock
      simp only
      cases hb : Nat.beq id' id with
      | true =>
        rw [hb] at hq
        rw [if_pos (Nat.eq_of_beq_eq_true hb)]
        exact ⟨ds, fr, H, ha, hs, hq⟩
      | false =>
        rw [hb] at hq
        rw [if_neg (Nat.ne_of_beq_eq_false hb)]
        exact ⟨ds, fr, H, ha, hs, hq⟩
    | _ => exact ⟨ds, fr, H, ha, hs, hq⟩
  | loop a ih => exact fun Q ds fr H w h hw => base _ Q ds fr H w h hw
  | rangeFunc f ps as' body iha ihb => exact fun Q ds fr H w h hw => (show RngS c f ps as' body Q ds fr H from h).ok w hw
  | exit id => exact fun Q ds fr H w h hw => wp_exit ⟨ds, fr, H, rfl, hw, h⟩
  | scope a ih => exact fun Q ds fr H w h hw => base _ Q ds fr H w h hw
  | label l => exact fun Q ds fr H w h hw => wp_label ⟨ds, fr, H, rfl, hw, h⟩
  | goto l => exact fun Q ds fr H w h hw => wp_goto ⟨ds, fr, H, rfl, hw, h⟩
  | ret => exact fun Q ds fr H w h hw => wp_ret ⟨ds, fr, H, rfl, hw, h⟩
  | refuse s => exact fun Q ds fr H w h hw => (show False from h).elim
/-- A block that is new is laid into the heap. -/
theorem St.allocObj {H : Hp} {w : World} (h : St c H w) (o : Obj) : St c (.obj w.heap.size o :: H) (w.alloc o) := by
  have hb : R w (w.alloc o) := (Below.refl w.heap.size w).alloc (Nat.le_refl _) o
  refine (h.below hb).push (x := .obj w.heap.size o) (World.alloc_heap_new w o) (fun b e => ?_) (fun b e y hy e2 => ?_)
  · cases e
    exact ⟨by simp, .inl h.mod.size⟩
  · cases e
    exact absurd ((h.own y hy).2 _ e2).1 (Nat.lt_irrefl _)
def ready (fn : FuncId) (fr : Fr) (ps : Array Tmp) (as' body : Code) (D : Nat) : Loop := { state := .ready, pending := none, fn, tmps := ⟨fr⟩, params := ps, assign := as', body, defers := D }
/-- The iterator's body is run where the loop stands; behind it the record is shut. -/
def rngQ (D : Nat) (Q : QX) (ds : List Deferred) (fr : Fr) (_v : Value) (H : Hp) : Prop :=
  ∃ r H3, Pick H (.obj (D + 1) (.loop r)) H3 ∧ r.state = .ready ∧ r.pending = none ∧ Q ({ target := .collected D, args := #[] } :: ds) .normal fr (.obj (D + 1) (.loop { r with state := .exhausted }) :: H3)
theorem RngS.go {g : Operand} {ps : Array Tmp} {as' body : Code} {Q : QX} {ds : List Deferred} {fr : Fr} {H : Hp} {gf : Nat} {lb : List Value} {fn : Func} {cd : Code} (hT : TOk c.P T)
    (hg : evK fr g fun v => v = .func (.func gf) ⟨[]⟩ ⟨lb⟩) (hf : c.P.funcs[gf]? = some fn) (hb : fn.body = some cd) (hn : (fn.name == "runtime.NumGoroutine") = false)
    (h : ∀ fno D, wc c T cd (retQ c T fn.results.toList (rngQ D Q ds fr)) ((.func (.yield (D + 1)) ⟨[]⟩ ⟨[]⟩ :: lb) ++ List.replicate (fn.ntmps - (lb.length + 1)) undef) (.obj (D + 1) (.loop (ready fno fr ps as' body D)) :: .obj D (.deferred (some [])) :: H)) :
    RngS c g ps as' body Q ds fr H := ⟨fun w hw => by
  rw [evK_eq] at hg
  have hg : (actD ds fr).eval g = .func (.func gf) ⟨[]⟩ ⟨lb⟩ := hg
  refine (wpIn_wide (n := 0)).1 (wpIn_rangeFunc fun fno _ => ?_)
  have hs1 := (hw.allocObj (.deferred (some []))).allocObj (.loop (ready fno fr ps as' body w.heap.size))
  rw [World.size_alloc] at hs1
  obtain ⟨W1, hW1⟩ : ∃ W1, (w.alloc (.deferred (some []))).alloc (.loop (ready fno fr ps as' body w.heap.size)) = W1 := ⟨_, rfl⟩
  rw [hW1] at hs1
  refine ⟨w.heap.size + 1, [{ target := .collected w.heap.size, args := #[] }], W1, { target := .fn (.func gf) ⟨lb⟩, args := #[.func (.yield (w.heap.size + 1)) #[] #[]] }, W1, gf, ⟨.func (.yield (w.heap.size + 1)) ⟨[]⟩ ⟨[]⟩ :: lb⟩, W1,
    by rw [← hW1]; exact run_enterLoop_outer _ _ _ _ _, ?_, fun _ _ => trivial, ?_, fun h => (by cases h), callsIn_wide.2 ((calls_of_wc hT hf hb hs1 (h fno w.heap.size)).mono ?_)⟩
  · simp only [resolve, hg]
    simp [go_sem]
  · have hn' : ¬ fn.name = "runtime.NumGoroutine" := by simpa using hn
    simp [invoke, callFunc, Sem.run_bind, run_program, hf, hb, hn']
  · rintro e w2 ⟨v, H2, rfl, hs2, r, H3, hp, hr, hpe, hq⟩
    have hs3 := hs2.perm hp.perm
    have hl := (hs3.own _ (List.mem_cons_self ..)).1
    refine ⟨r.pending, _, run_endLoop hl (by rw [hr]; decide), ?_⟩
    split
    · exact ⟨_, fr, _, rfl, hs3.putObj, hq⟩
    · rename_i h1
      rw [hpe] at h1
      cases h1⟩
/-- At the return: no mark, or one loop's mark, whose block holds no call. -/
def retX (c : Ctx) (T : Ty) (rs : List ResultVar) (K : Value → Hp → Prop) : QX := fun ds e fr H => match ds with
  | [] => retQ c T rs K e fr H
  | [d] => ∃ D H4, d = { target := .collected D, args := #[] } ∧ Pick H (.obj D (.deferred (some []))) H4 ∧ retQ c T rs K e fr (.obj D (.deferred none) :: H4)
  | _ => False
theorem calls_of_wx (hT : TOk c.P T) {f : FuncId} {fn : Func} {cd : Code} {args : List Value} {H : Hp} {K : Value → Hp → Prop} (hf : c.P.funcs[f]? = some fn) (hb : fn.body = some cd) {w : World} (hw : St c H w)
    (h : wx c T cd (retX c T fn.results.toList K) [] (args ++ List.replicate (fn.ntmps - args.length) undef) H) :
    Calls c.P f ⟨args⟩ w fun e w' => ∃ v H', e = .returned v ∧ St c H' w' ∧ K v H' := by
  refine (callsIn_wide (n := 0)).1 (callsIn_of_wp_marks hf hb trivial ?_ rfl)
  have ha : ({ tmps := (⟨args⟩ : Array Value) ++ Array.replicate (fn.ntmps - (⟨args⟩ : Array Value).size) undef, defers := [] } : Act) = actD [] (args ++ List.replicate (fn.ntmps - args.length) undef) := by
    unfold actD
    congr 1
    rw [← Array.toList_inj]; simp
  rw [ha]
  refine wpIn_wide.2 (Code.wp_mono (fun e a w ⟨ds, fr, H, ha, hs, hq⟩ => ?_) (wx_ok hT cd _ _ _ H w h hw))
  subst ha
  have fin : ∀ (fr : Fr) (H : Hp) (w : World), St c H w → resK c T fr H fn.results.toList (fun vs => oneK vs fun v => K v H) → ∃ v, (results fn (act fr).tmps).run c.P w = .ok v w ∧ ∃ v' H', Ending.returned v = .returned v' ∧ St c H' w ∧ K v' H' := fun fr H w hs hq => by
    obtain ⟨v, hk, hr⟩ := results_ok hT hq
    exact ⟨v, hr w hs, v, H, rfl, hs, hk⟩
  have key : ∀ e, (e = .normal ∨ e = .ret) → retX c T fn.results.toList K ds e fr H → LeavesInM Fence.wide 0 c.P fn (actD ds fr).tmps (fun e w' => ∃ v H', e = .returned v ∧ St c H' w' ∧ K v H') ds .returning w := fun e he hq => by
    unfold retX at hq
    split at hq
    · have hq : resK c T fr H fn.results.toList (fun vs => oneK vs fun v => K v H) := by rcases he with rfl | rfl <;> exact hq
      exact fin fr H w hs hq
    · obtain ⟨D, H4, rfl, hp, hq⟩ := hq
      have hs3 := hs.perm hp.perm
      have hl := (hs3.own _ (List.mem_cons_self ..)).1
      have hq : resK c T fr (.obj D (.deferred none) :: H4) fn.results.toList (fun vs => oneK vs fun v => K v (.obj D (.deferred none) :: H4)) := by rcases he with rfl | rfl <;> exact hq
      exact ⟨(by intro h; cases h), .inl ⟨D, _, rfl, run_takeDeferred hl, fin fr _ _ hs3.putObj hq⟩⟩
    · exact hq.elim
  have no : ∀ e, e ≠ .normal → e ≠ .ret → retX c T fn.results.toList K ds e fr H → False := fun e h1 h2 hq => by
    unfold retX at hq
    split at hq
    · cases e <;> first | exact hq.elim | exact h1 rfl | exact h2 rfl
    · obtain ⟨D, H4, _, _, hq⟩ := hq
      cases e <;> first | exact hq.elim | exact h1 rfl | exact h2 rfl
    · exact hq
  cases e with
  | normal => exact key _ (.inl rfl) hq
  | ret => exact key _ (.inr rfl) hq
  | _ => exact (no _ (by intro h; cases h) (by intro h; cases h) hq).elim
end
/-- A call, run inline. -/
theorem CallK.inl {c : Ctx} {T : Ty} {H : Hp} {f : Nat} {args : List Value} {K : Value → Hp → Prop} {fn : Func} {cd : Code} (hT : TOk c.P T) (hf : c.P.funcs[f]? = some fn) (hb : fn.body = some cd) (hn : (fn.name == "runtime.NumGoroutine") = false) {rs : List ResultVar} (hr : fn.results.toList = rs) {n : Nat} (hz : fn.ntmps - args.length = n)
    (h : wc c T cd (retQ c T rs K) (args ++ List.replicate n undef) H) : CallK c false f args H K :=
  ⟨callable hf hb hn, fun w hw => (calls_of_wc hT hf hb hw (by rw [hr, hz]; exact h)).mono fun _ _ ⟨v, H', he, hs, hk⟩ => ⟨v, H', he, hs, hk, fun h => by cases h⟩⟩
theorem FnE.ofX {P : Program} {g : GI} {T : Ty} (hT : TOk P T) {f : FuncId} {fn : Func} {cd : Code} {args : List Value} {pre : World → Prop} {post : World → Value → World → Prop} (hf : P.funcs[f]? = some fn) (hb : fn.body = some cd) (hn : (fn.name == "runtime.NumGoroutine") = false) {rs : List ResultVar} (hr : fn.results.toList = rs) {n : Nat} (hz : fn.ntmps - args.length = n)
    (h : ∀ w (hG : g.G w), pre w → wx (mkC P g w hG) T cd (retX (mkC P g w hG) T rs fun v H => ∀ w', St (mkC P g w hG) H w' → post w v w') [] (args ++ List.replicate n undef) []) : FnE P g f args pre post :=
  ⟨callable hf hb hn, fun w hG hp => (calls_of_wx (c := mkC P g w hG) (K := fun v H => ∀ w', St (mkC P g w hG) H w' → post w v w') hT hf hb (St.start _) (by rw [hr, hz]; exact h w hG hp)).mono fun e w' ⟨v', H', he, hs, hk⟩ => ⟨v', he, hk w' hs, hs.mod.below⟩⟩
end Go.Proofs.YtflfajcaicackaaDoor.Vex
