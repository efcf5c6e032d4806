/- A walk by reckoning, part eight: functions, and the rules by which the stops are met. No program in sight. -/
import Derived.Test.YtflfajcaicackaaDoorVexG
namespace Go.Proofs.YtflfajcaicackaaDoor.Vex
open Go Go.RowKit

/-! ## Functions -/
noncomputable def resK (c : Ctx) (T : Ty) (fr : Fr) (H : Hp) (l : List ResultVar) : (List Value → Prop) → Prop :=
  List.rec (motive := fun _ => (List Value → Prop) → Prop) (fun K => K [])
    (fun r _ ih K => match r with
      | .tmp t => getK fr t fun v => ih fun vs => K (v :: vs)
      | .cell a t => getK fr a fun p => (match (lookT T t).d with | .invalid => False | _ => Ld c H p (aggN (lookT T t)) fun v => ih fun vs => K (v :: vs))) l
noncomputable def oneK (vs : List Value) (K : Value → Prop) : Prop := match vs with | [v] => K v | vs => K (.tuple ⟨vs⟩)
noncomputable def retQ (c : Ctx) (T : Ty) (rs : List ResultVar) (K : Value → Hp → Prop) (e : Exit) (fr : Fr) (H : Hp) : Prop := match e with
  | .normal => resK c T fr H rs fun vs => oneK vs fun v => K v H
  | .ret => resK c T fr H rs fun vs => oneK vs fun v => K v H
  | _ => False

section
variable {c : Ctx} {T : Ty}
def resF (tmps : Array Value) : ResultVar → Sem Value
  | .tmp t => pure (tmps.getD t undef)
  | .cell a t => do loadVar t (← asAddr (tmps.getD a undef))
theorem results_eq (fn : Func) (tmps : Array Value) : results fn tmps = (do let vs ← fn.results.mapM (resF tmps); pure (if h : vs.size = 1 then vs[0] else .tuple vs)) := by
  unfold results
  congr 2
theorem resK_ok (hT : TOk c.P T) (fr : Fr) (H : Hp) : ∀ (l : List ResultVar) (K : List Value → Prop), resK c T fr H l K → ∃ vs, K vs ∧ ∀ w, St c H w →
    (l.mapM (resF (act fr).tmps)).run c.P w = .ok vs w
  | [], K, h => ⟨[], h, fun _ _ => rfl⟩
  | .tmp t :: l, K, h => by
    have h1 : getK fr t fun v => resK c T fr H l fun vs => K (v :: vs) := h
    rw [getK_eq] at h1
    obtain ⟨vs, hk, hr⟩ := resK_ok hT fr H l _ h1
    refine ⟨_, hk, fun w hw => ?_⟩
    rw [List.mapM_cons]
    simp only [resF, Sem.run_bind, Sem.run_pure, Result.andThen_ok, hr w hw]
    simp [act]
  | .cell a t :: l, K, h => by
    have h1 : getK fr a fun p => (match (lookT T t).d with | .invalid => False | _ => Ld c H p (aggN (lookT T t)) fun v => resK c T fr H l fun vs => K (v :: vs)) := h
    rw [getK_eq] at h1
    split at h1
    · exact h1.elim
    · rename_i hd
      obtain ⟨v, p, hp, hrd, h2⟩ := h1.ok
      obtain ⟨vs, hk, hr⟩ := resK_ok hT fr H l _ h2
      refine ⟨_, hk, fun w hw => ?_⟩
      have hv := rd_run (lookT_ok hT hd) (hrd w hw)
      have hp' : (act fr).tmps.getD a undef = .pointer (some p) := by rw [← hp]; simp [act]
      have ha : (asAddr ((act fr).tmps.getD a undef)).run c.P w = .ok p w := by rw [hp']; rfl
      rw [List.mapM_cons]
      simp only [resF, Sem.run_bind, ha, Sem.run_pure, Result.andThen_ok, hv, hr w hw]
theorem results_ok (hT : TOk c.P T) {fn : Func} {fr : Fr} {H : Hp} {K : Value → Prop} (h : resK c T fr H fn.results.toList fun vs => oneK vs K) : ∃ v, K v ∧ ∀ w, St c H w → (results fn (act fr).tmps).run c.P w = .ok v w := by
  obtain ⟨vs, hk, hr⟩ := resK_ok hT fr H _ _ h
  have hm : ∀ w, St c H w → (fn.results.mapM (resF (act fr).tmps)).run c.P w = .ok ⟨vs⟩ w := fun w hw => by
    rw [Array.mapM_eq_mapM_toList, Sem.run_map, hr w hw]
    rfl
  unfold oneK at hk
  split at hk
  · rename_i v
    refine ⟨v, hk, fun w hw => ?_⟩
    rw [results_eq, Sem.run_bind, hm w hw]
    rfl
  · rename_i hne
    refine ⟨_, hk, fun w hw => ?_⟩
    rw [results_eq, Sem.run_bind, hm w hw]
    have hs : ¬ (⟨vs⟩ : Array Value).size = 1 := fun h1 => by
      match vs, h1 with
      | [v], _ => exact hne v rfl
    simp only [Result.andThen_ok, dif_neg hs]
    rfl
/-- A function's body, walked, is what its call does. -/
theorem calls_of_wc (hT : TOk c.P T) {f : FuncId} {fn : Func} {cd : Code} {args : List Value} {H : Hp} {K : Value → Hp → Prop} (hf : c.P.funcs[f]? = some fn) (hb : fn.body = some cd) {w : World} (hw : St c H w)
    (h : wc c T cd (retQ c T fn.results.toList K) (args ++ List.replicate (fn.ntmps - args.length) undef) H) :
    Calls c.P f ⟨args⟩ w fun e w' => ∃ v H', e = .returned v ∧ St c H' w' ∧ K v H' := by
  refine calls_of_wp hf hb ?_
  have ha : ({ tmps := (⟨args⟩ : Array Value) ++ Array.replicate (fn.ntmps - (⟨args⟩ : Array Value).size) undef, defers := [] } : Act) = act (args ++ List.replicate (fn.ntmps - args.length) undef) := by
    unfold act
    congr 1
    rw [← Array.toList_inj]; simp
  rw [ha]
  refine Code.wp_mono (fun e a w ⟨fr, H, ha, hs, hq⟩ => ?_) (wc_ok hT [] cd _ _ H w h hw)
  subst ha
  have fin : resK c T fr H fn.results.toList (fun vs => oneK vs fun v => K v H) → ∃ v, (results fn (act fr).tmps).run c.P w = .ok v w ∧ ∃ v' H', Ending.returned v = .returned v' ∧ St c H' w ∧ K v' H' := fun hq => by
    obtain ⟨v, hk, hr⟩ := results_ok hT hq
    exact ⟨v, hr w hs, v, H, rfl, hs, hk⟩
  cases e with
  | normal => exact ⟨rfl, fin hq⟩
  | ret => exact ⟨rfl, fin hq⟩
  | exit id => exact hq.elim
  | goto l => exact hq.elim
  | panic ch => exact hq.elim
  | outgrown => exact hq.elim
end

/-- A function that gives back one value that is known, and makes new memory at most. -/
structure Fn (P : Program) (g : GI) (f : FuncId) (args : List Value) (v : Value) : Prop where
  can : Callable P f
  ok : ∀ w, g.G w → Calls P f ⟨args⟩ w fun e w' => e = .returned v ∧ R w w'
/-- A function of whose outcome something is known. -/
structure FnE (P : Program) (g : GI) (f : FuncId) (args : List Value) (pre : World → Prop) (post : World → Value → World → Prop) : Prop where
  can : Callable P f
  ok : ∀ w, g.G w → pre w → Calls P f ⟨args⟩ w fun e w' => ∃ v, e = .returned v ∧ post w v w' ∧ R w w'

abbrev mkC (P : Program) (g : GI) (w : World) (hG : g.G w) : Ctx := ⟨P, g, w, [], fun _ h => (by cases h), hG⟩
theorem callable {P : Program} {f : FuncId} {fn : Func} {cd : Code} (hf : P.funcs[f]? = some fn) (hb : fn.body = some cd) (hn : (fn.name == "runtime.NumGoroutine") = false) : Callable P f := ⟨fn, hf, hn, by rw [hb]; rfl⟩
theorem Fn.of {P : Program} {g : GI} {T : Ty} (hT : TOk P T) {f : FuncId} {fn : Func} {cd : Code} {args : List Value} {v : Value} (hf : P.funcs[f]? = some fn) (hb : fn.body = some cd) (hn : (fn.name == "runtime.NumGoroutine") = false) {rs : List ResultVar} (hr : fn.results.toList = rs) {n : Nat} (hz : fn.ntmps - args.length = n)
    (h : ∀ w (hG : g.G w), wc (mkC P g w hG) T cd (retQ (mkC P g w hG) T rs fun v' _ => v' = v) (args ++ List.replicate n undef) []) : Fn P g f args v :=
  ⟨callable hf hb hn, fun w hG => (calls_of_wc (c := mkC P g w hG) (K := fun v' _ => v' = v) hT hf hb (St.start _) (by rw [hr, hz]; exact h w hG)).mono fun e w' ⟨v', H', he, hs, hk⟩ => ⟨by rw [he, hk], hs.mod.below⟩⟩
theorem FnE.of {P : Program} {g : GI} {T : Ty} (hT : TOk P T) {f : FuncId} {fn : Func} {cd : Code} {args : List Value} {pre : World → Prop} {post : World → Value → World → Prop} (hf : P.funcs[f]? = some fn) (hb : fn.body = some cd) (hn : (fn.name == "runtime.NumGoroutine") = false) {rs : List ResultVar} (hr : fn.results.toList = rs) {n : Nat} (hz : fn.ntmps - args.length = n)
    (h : ∀ w (hG : g.G w), pre w → wc (mkC P g w hG) T cd (retQ (mkC P g w hG) T rs fun v H => ∀ w', St (mkC P g w hG) H w' → post w v w') (args ++ List.replicate n undef) []) : FnE P g f args pre post :=
  ⟨callable hf hb hn, fun w hG hp => (calls_of_wc (c := mkC P g w hG) (K := fun v H => ∀ w', St (mkC P g w hG) H w' → post w v w') hT hf hb (St.start _) (by rw [hr, hz]; exact h w hG hp)).mono fun e w' ⟨v', H', he, hs, hk⟩ => ⟨v', he, hk w' hs, hs.mod.below⟩⟩

/-! ## Stops -/
section
variable {c : Ctx} {H : Hp}
theorem CallK.fn {m : Bool} {f : Nat} {args : List Value} {v : Value} {K : Value → Hp → Prop} (h : Fn c.P c.g f args v) (k : K v H) : CallK c m f args H K :=
  ⟨h.can, fun w hw => (h.ok w hw.glob).mono fun _ _w' ⟨he, hR⟩ => ⟨v, H, he, hw.below hR, k, fun _ => hR⟩⟩
theorem CallQ.fn {f : Nat} {args : List Value} {v : Value} {K : Value → Prop} (h : Fn c.P c.g f args v) (k : K v) : CallQ c f args H K :=
  ⟨h.can, v, k, fun w hw => h.ok w hw.glob⟩
theorem CallK.fnE {m : Bool} {f : Nat} {args : List Value} {pre : World → Prop} {post : World → Value → World → Prop} {K : Value → Hp → Prop} (h : FnE c.P c.g f args pre post) (hp : ∀ w, St c H w → pre w)
    (k : ∀ w v w', St c H w → post w v w' → R w w' → ∃ H', St c H' w' ∧ K v H') : CallK c m f args H K :=
  ⟨h.can, fun w hw => (h.ok w hw.glob (hp w hw)).mono fun _ w' ⟨v, he, hpo, hR⟩ => by
    obtain ⟨H', hs, hk⟩ := k w v w' hw hpo hR
    exact ⟨v, H', he, hs, hk, fun _ => hR⟩⟩

theorem Ar.in64 {z : Int} {K : Value → Prop} (h : -9223372036854775808 ≤ z) (h' : z ≤ 9223372036854775807) (k : K (.int .i64 z)) : Ar .i64 z K :=
  ⟨z, by rw [IntKind.wrap]; simp [IntKind.bits, IntKind.signed]; omega, k⟩
theorem Ar.in8 {z : Int} {K : Value → Prop} (h : 0 ≤ z) (h' : z ≤ 255) (k : K (.int .u8 z)) : Ar .u8 z K :=
  ⟨z, by rw [IntKind.wrap]; simp [IntKind.bits, IntKind.signed]; omega, k⟩
theorem Ar.any {kd : IntKind} {z : Int} {K : Value → Prop} (k : K (.int kd (kd.wrap z))) : Ar kd z K := ⟨_, rfl, k⟩
theorem Cmp.t {p : Prop} {K : Value → Prop} (h : p) (k : K (.bool true)) : Cmp p K := ⟨fun c hc => by rw [hc.2 h]; exact k⟩
theorem Cmp.f {p : Prop} {K : Value → Prop} (h : ¬ p) (k : K (.bool false)) : Cmp p K := ⟨fun c hc => by
  cases c with
  | false => exact k
  | true => exact absurd (hc.1 rfl) h⟩
theorem Cmp.cases {p : Prop} {K : Value → Prop} (h1 : p → K (.bool true)) (h0 : ¬ p → K (.bool false)) : Cmp p K := ⟨fun c hc => by
  cases c with
  | false => exact h0 fun h => by have := hc.2 h; cases this
  | true => exact h1 (hc.1 rfl)⟩
theorem Cmp.of {p : Prop} {K : Value → Prop} (b : Bool) (h : b = true ↔ p) (k : K (.bool b)) : Cmp p K := ⟨fun c hc => by
  have : c = b := Bool.eq_iff_iff.2 (hc.trans h.symm)
  rw [this]; exact k⟩
theorem IdxS.at {l : List UInt8} {i : Int} {K : Value → Prop} (x : UInt8) (h : l[i.toNat]? = some x) (h0 : 0 ≤ i) (k : K (.int .u8 x.toNat)) : IdxS l i K := ⟨h0, x, h, k⟩
theorem SlcS.at {l : List UInt8} {lo hi : Int} {K : Value → Prop} (h0 : 0 ≤ lo) (h1 : lo ≤ hi) (h2 : hi ≤ l.length) (k : K (str ((l.take hi.toNat).drop lo.toNat))) : SlcS l lo hi K := ⟨h0, h1, h2, k⟩
theorem CatS.at {a b : List UInt8} {K : Value → Prop} (h : a.length + b.length ≤ 9223372036854775807) (k : K (str (a ++ b))) : CatS a b K := ⟨h, k⟩

theorem Ld.here {b i : Nat} {vs : List Value} {t : TypeId} {v : Value} {K : Value → Prop} (h : vs[i]? = some v) (k : K v) : Ld c (.box b vs t :: H) (.pointer (some ⟨b, i, none⟩)) none K :=
  ⟨v, _, rfl, fun w hw => by
    have := (hw.own _ (List.mem_cons_self ..)).1
    have hb : w.heap[b]? = some (.cells ⟨vs⟩ t (0, 0)) := this
    show w.cell? ⟨b, i, none⟩ = some v
    rw [cell_of_row w b i _ _ _ hb]
    simpa using h, k⟩
theorem Ld.whole {b n : Nat} {vs : List Value} {t : TypeId} {K : Value → Prop} (h : vs.length = n) (k : K (.agg ⟨vs⟩)) : Ld c (.box b vs t :: H) (.pointer (some ⟨b, 0, none⟩)) (some n) K :=
  ⟨_, _, rfl, fun w hw => ⟨vs, rfl, h, fun j u hu => by
    have := (hw.own _ (List.mem_cons_self ..)).1
    have hb : w.heap[b]? = some (.cells ⟨vs⟩ t (0, 0)) := this
    rw [Addr.add_lit, Nat.zero_add, cell_of_row w b j _ _ _ hb]
    simpa using hu⟩, k⟩
theorem Ld.skip {x : Ent} {a : Value} {n : Option Nat} {K : Value → Prop} (h : Ld c H a n K) : Ld c (x :: H) a n K := by
  obtain ⟨v, p, ha, hr, k⟩ := h.ok
  exact ⟨v, p, ha, fun w hw => hr w (hw.sub (List.sublist_cons_self _ _)), k⟩
/-- A cell that lay there ahead of the call. -/
theorem Ld.old {p : Addr} {v : Value} {K : Value → Prop} (h : c.w0.cell? p = some v) (hM : p.block ∉ c.M) (k : K v) : Ld c H (.pointer (some p)) none K :=
  ⟨v, p, rfl, fun _w hw => (World.cell?_of_block (hw.mod.block p.block (World.block_lt_of_cell? _ _ h) hM)).trans h, k⟩
theorem Ld.oldN {p : Addr} {vs : List Value} {n : Nat} {K : Value → Prop} (hn : vs.length = n) (h : ∀ j u, vs[j]? = some u → c.w0.cell? (p.add j) = some u) (hM : p.block ∉ c.M) (k : K (.agg ⟨vs⟩)) : Ld c H (.pointer (some p)) (some n) K :=
  ⟨_, p, rfl, fun w hw => ⟨vs, rfl, hn, fun j u hu => by
    have h1 := h j u hu
    have hb : (p.add j).block = p.block := by unfold Addr.add; split <;> rfl
    refine (World.cell?_of_block (hw.mod.block _ ?_ ?_)).trans h1
    · exact World.block_lt_of_cell? _ _ h1
    · rw [hb]; exact hM⟩, k⟩

theorem St.setRow {b : Nat} {vs vs' : List Value} {t : TypeId} {w : World} (hw : St c (.box b vs t :: H) w) : St c (.box b vs' t :: H) (w.setRow b ⟨vs'⟩) := by
  have hb : w.heap[b]? = some (.cells ⟨vs⟩ t (0, 0)) := (hw.own _ (List.mem_cons_self ..)).1
  have hk := (hw.own _ (List.mem_cons_self ..)).2 b rfl
  have hn : ∀ y ∈ H, y.blk ≠ some b := fun y hy he => by
    have := hw.apart
    rw [List.filterMap_cons] at this
    exact (List.nodup_cons.1 this).1 (List.mem_filterMap.2 ⟨y, hy, he⟩)
  have h1 : St c H w := hw.sub (List.sublist_cons_self _ _)
  have hm : ModW c.M c.w0 (w.setRow b ⟨vs'⟩) := ⟨h1.mod.os, h1.mod.tape, h1.mod.output, by rw [setRow_size]; exact h1.mod.size, fun k hk' hM => by
    rw [setRow_other w b k _ (fun e => by subst e; rcases hk.2 with h2 | h2; exact absurd hk' (by omega); exact hM h2)]
    exact h1.mod.block k hk' hM⟩
  refine St.push ⟨hm, fun y hy => ⟨Ent.holds_of_block (h1.own y hy).1 fun b' e => setRow_other w b b' _ (fun e' => by subst e'; exact hn y hy e), fun b' e => by rw [setRow_size]; exact (h1.own y hy).2 b' e⟩, h1.apart⟩ (setRow_heap w b _ _ t _ hb) (fun b' e => ?_) (fun b' e y hy => ?_)
  · cases e; rw [setRow_size]; exact hk
  · cases e; exact hn y hy
theorem Sto.here {b i : Nat} {vs : List Value} {t : TypeId} {v : Value} {K : Hp → Prop} (hi : i < vs.length) (h1 : v.oneCell' = true) (k : K (.box b (vs.set i v) t :: H)) : Sto c (.box b vs t :: H) (.pointer (some ⟨b, i, none⟩)) v 1 K := by
  have hc : v.cells = #[v] := by cases v <;> first | rfl | cases h1
  refine ⟨_, _, rfl, by rw [hc]; rfl, k, rfl, fun w hw => ⟨by simp [Ent.blk], _, ?_, hw.setRow, by rw [setRow_size]; exact Nat.le_refl _, fun k hk => setRow_other w b k _ hk⟩⟩
  have hb : w.heap[b]? = some (.cells ⟨vs⟩ t (0, 0)) := (hw.own _ (List.mem_cons_self ..)).1
  rw [hc, run_storeCells_at c.P b i t [v] 0 ⟨vs⟩ w hb (by simp; omega) (by simpa using h1)]
  congr 2
  rw [← Array.toList_inj]
  simp only [Nat.add_zero, List.length_singleton, List.append_assoc, List.singleton_append]
  rw [List.set_eq_take_append_cons_drop, if_pos hi]
theorem Sto.whole {b n : Nat} {vs xs : List Value} {t : TypeId} {K : Hp → Prop} (hn : xs.length = n) (hv : vs.length = n) (h1 : ∀ x ∈ xs, x.oneCell' = true) (k : K (.box b xs t :: H)) : Sto c (.box b vs t :: H) (.pointer (some ⟨b, 0, none⟩)) (.agg ⟨xs⟩) n K := by
  refine ⟨_, _, rfl, hn, k, rfl, fun w hw => ⟨by simp [Ent.blk], _, ?_, hw.setRow, by rw [setRow_size]; exact Nat.le_refl _, fun k hk => setRow_other w b k _ hk⟩⟩
  have hb : w.heap[b]? = some (.cells ⟨vs⟩ t (0, 0)) := (hw.own _ (List.mem_cons_self ..)).1
  show (storeCells ⟨b, 0, none⟩ xs).run c.P w = _
  rw [run_storeCells_at c.P b 0 t xs 0 ⟨vs⟩ w hb (by simp; omega) h1]
  have e : (List.take (0 + 0) (⟨vs⟩ : Array Value).toList ++ xs ++ List.drop (0 + 0 + xs.length) (⟨vs⟩ : Array Value).toList).toArray = ⟨xs⟩ := by
    have e1 : List.drop (0 + 0 + xs.length) (⟨vs⟩ : Array Value).toList = [] := List.drop_eq_nil_of_le (by show vs.length ≤ _; omega)
    rw [e1, ← Array.toList_inj]; simp
  rw [e]
theorem Sto.skip {x : Ent} {a v : Value} {n : Nat} {K : Hp → Prop} (h : Sto c H a v n fun H' => K (x :: H')) : Sto c (x :: H) a v n K := by
  obtain ⟨p, H', ha, hz, k, hf, hr⟩ := h.ok
  refine ⟨p, x :: H', ha, hz, k, by rw [List.filterMap_cons, List.filterMap_cons, hf], fun w hw => ?_⟩
  obtain ⟨hp, w', hrun, hs, hsz, hfar⟩ := hr w (hw.sub (List.sublist_cons_self _ _))
  refine ⟨?_, ?_⟩
  · rw [List.filterMap_cons]
    cases x.blk with
    | none => exact hp
    | some b => exact List.mem_cons_of_mem _ hp
  · have hx := hw.own x (List.mem_cons_self ..)
    have hne : ∀ b, x.blk = some b → b ≠ p.block := fun b hb e => by
      subst e
      have := hw.apart
      rw [List.filterMap_cons, hb] at this
      exact (List.nodup_cons.1 this).1 hp
    refine ⟨w', hrun, hs.push (Ent.holds_of_block hx.1 fun b hb => hfar b (hne b hb)) (fun b hb => ⟨Nat.lt_of_lt_of_le (hx.2 b hb).1 hsz, (hx.2 b hb).2⟩) (fun b hb y hy he => ?_), hsz, hfar⟩
    have := hw.apart
    rw [List.filterMap_cons, hb] at this
    refine (List.nodup_cons.1 this).1 ?_
    rw [← hf]
    exact List.mem_filterMap.2 ⟨y, hy, he⟩
end
end Go.Proofs.YtflfajcaicackaaDoor.Vex
