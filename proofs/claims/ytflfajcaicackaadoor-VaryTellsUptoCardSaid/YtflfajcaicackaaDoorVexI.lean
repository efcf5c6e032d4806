/- A walk by reckoning, part nine: rows: how they are read, written and appended to. No program in sight. -/
import Derived.Test.YtflfajcaicackaaDoorVexH
namespace Go.Proofs.YtflfajcaicackaaDoor.Vex
open Go Go.RowKit

theorem add_add (a : Addr) (i j : Nat) : (a.add i).add j = a.add (i + j) := by
  unfold Addr.add
  by_cases hi : i = 0
  · subst hi; simp
  · by_cases hj : j = 0
    · subst hj; simp [hi]
    · simp [hi, hj, Nat.add_assoc]
theorem add_block (a : Addr) (i : Nat) : (a.add i).block = a.block := by unfold Addr.add; split <;> rfl

/-- In every world with this heap the slice that lies at A reads xs. -/
def RdS (c : Ctx) (H : Hp) (A : Option Addr) (xs : List Value) : Prop := ∀ w, St c H w → ∀ (j : Nat) (u : Value), xs[j]? = some u → ∃ a, A = some a ∧ w.cell? (a.add j) = some u
section
variable {c : Ctx} {H : Hp}
theorem RowH.read {w : World} {A : Option Addr} {cp e size n n' : Nat} {xs : List Value} (h : RowH w (.slice A n' cp) e size n xs) (j : Nat) (u : Value) (hj : xs[j]? = some u) : ∃ g cur fz, A = some ⟨g, 0, none⟩ ∧ n' = n ∧ w.heap[g]? = some (.cells cur e fz) ∧ cur.toList[j]? = some u ∧ n ≤ cp ∧ xs.length ≤ cur.size ∧ (fz.2 ≤ fz.1 ∨ cur.size ≤ fz.1) := by
  rcases h.2 with ⟨he, rfl⟩ | ⟨g, cap, cur, fz, he, hg, hnc, hcm, hcs, htake, hfz⟩
  · have : xs = [] := List.eq_nil_of_length_eq_zero (by simpa using h.1)
    subst this
    simp at hj
  · cases he
    refine ⟨g, cur, fz, rfl, rfl, hg, ?_, hnc, ?_, hfz⟩
    · rw [← htake, List.getElem?_take] at hj
      split at hj
      · exact hj
      · cases hj
    · rw [h.1, hcs]; exact Nat.mul_le_mul_right _ hnc
theorem RdS.here {A : Option Addr} {cp e size n n' : Nat} {xs : List Value} : RdS c (.row (.slice A n' cp) e size n xs :: H) A xs := fun w hw j u hj => by
  have h : RowH w (.slice A n' cp) e size n xs := (hw.own _ (List.mem_cons_self ..)).1
  obtain ⟨g, cur, fz, rfl, _, hg, hc, _⟩ := h.read j u hj
  exact ⟨_, rfl, by rw [Addr.add_lit, Nat.zero_add, cell_of_row w g j cur e fz hg]; simpa using hc⟩
theorem RdS.skip {A : Option Addr} {xs : List Value} {x : Ent} (h : RdS c H A xs) : RdS c (x :: H) A xs := fun w hw => h w (hw.sub (List.sublist_cons_self _ _))
theorem RdS.sub {A : Option Addr} {xs : List Value} {H' : Hp} (h : RdS c H A xs) (hs : H.Sublist H') : RdS c H' A xs := fun w hw => h w (hw.sub hs)
theorem RdS.nil {A : Option Addr} : RdS c H A [] := fun _ _ j u hj => by simp at hj
/-- A slice that came in. -/
theorem RdS.old {A : Option Addr} {xs : List Value} (h : ∀ (j : Nat) (u : Value), xs[j]? = some u → ∃ a, A = some a ∧ c.w0.cell? (a.add j) = some u ∧ a.block ∉ c.M) : RdS c H A xs := fun w hw j u hj => by
  obtain ⟨a, ha, hc, hM⟩ := h j u hj
  exact ⟨a, ha, (World.cell?_of_block (hw.mod.block _ (World.block_lt_of_cell? _ _ hc) (by rw [add_block]; exact hM))).trans hc⟩
/-- A piece of it. -/
theorem RdS.piece {A : Option Addr} {xs : List Value} {cp sz : Nat} {lo : Int} (h : RdS c H A xs) (_h0 : 0 ≤ lo) (hc : (cp : Int) = lo → xs.length ≤ lo.toNat * sz) : RdS c H (if (cp : Int) = lo then A else A.map (·.add (lo.toNat * sz))) (xs.drop (lo.toNat * sz)) := fun w hw j u hj => by
  rw [List.getElem?_drop] at hj
  by_cases hl : (cp : Int) = lo
  · have := hc hl
    rw [List.getElem?_eq_none (by omega)] at hj
    cases hj
  · obtain ⟨a, ha, hcell⟩ := h w hw _ u hj
    rw [if_neg hl, ha]
    exact ⟨_, rfl, by rw [add_add]; exact hcell⟩
theorem RdS.take {A : Option Addr} {xs : List Value} (h : RdS c H A xs) (n : Nat) : RdS c H A (xs.take n) := fun w hw j u hj => by
  rw [List.getElem?_take] at hj
  split at hj
  · exact h w hw j u hj
  · cases hj

theorem IdxA.rd {A : Option Addr} {n sz : Nat} {i : Int} {K : Value → Prop} {xs : List Value} (h : RdS c H A xs) (hx : 0 < xs.length) (h0 : 0 ≤ i) (h1 : i < n) (k : K (.pointer (some ((A.getD at0).add (i.toNat * sz))))) : IdxA c H A n i sz K :=
  ⟨h0, h1, fun w hw => by
    obtain ⟨a, ha, _⟩ := h w hw 0 xs[0] (List.getElem?_eq_getElem hx)
    rw [ha]; rfl, k⟩
theorem Ld.rd {A : Option Addr} {j : Nat} {xs : List Value} {v : Value} {K : Value → Prop} (h : RdS c H A xs) (hj : xs[j]? = some v) (k : K v) : Ld c H (.pointer (some ((A.getD at0).add j))) none K :=
  ⟨v, _, rfl, fun w hw => by
    obtain ⟨a, ha, hc⟩ := h w hw j v hj
    subst ha
    exact hc, k⟩
theorem Ld.rdF {A : Option Addr} {j o : Nat} {xs : List Value} {v : Value} {K : Value → Prop} (h : RdS c H A xs) (hj : xs[j + o]? = some v) (k : K v) : Ld c H (.pointer (some (((A.getD at0).add j).add o))) none K := by
  rw [add_add]; exact Ld.rd h hj k
theorem Ld.rdN {A : Option Addr} {j n : Nat} {xs vs : List Value} {K : Value → Prop} (h : RdS c H A xs) (hv : (xs.drop j).take n = vs) (hn : vs.length = n) (k : K (.agg ⟨vs⟩)) : Ld c H (.pointer (some ((A.getD at0).add j))) (some n) K :=
  ⟨_, _, rfl, fun w hw => ⟨vs, rfl, hn, fun i u hi => by
    rw [← hv, List.getElem?_take] at hi
    split at hi
    · rw [List.getElem?_drop] at hi
      obtain ⟨a, ha, hc⟩ := h w hw _ u hi
      subst ha
      rw [add_add]; exact hc
    · cases hi⟩, k⟩
theorem B2S.rd {A : Option Addr} {n : Nat} {l : List UInt8} {K : Value → Prop} (h : RdS c H A (l.map byteV)) (hl : l.length = n) (k : K (str l)) : B2S c H A n K :=
  ⟨l, hl, fun w hw j x hj => h w hw j _ (by rw [List.getElem?_map, hj]; rfl), k⟩
theorem S2B.go {l : List UInt8} {e : Nat} {K : Value → Hp → Prop} (h : l.length ≤ 9223372036854775807) (k : ∀ b cp, K (.slice (some ⟨b, 0, none⟩) l.length cp) (.row (.slice (some ⟨b, 0, none⟩) l.length cp) e 1 l.length (l.map byteV) :: H)) : S2B l e H K := ⟨h, k⟩
theorem BSl.go {vs : List Value} {e sz n : Nat} {K : Value → Hp → Prop} (h : vs.length = n * sz) (h1 : n * sz ≤ 16777216) (h2 : n ≤ 16777216) (k : ∀ b, K (.slice (some ⟨b, 0, none⟩) n n) (.row (.slice (some ⟨b, 0, none⟩) n n) e sz n vs :: H)) : BSl vs e sz n H K := ⟨h, h1, h2, k⟩

inductive Pick : Hp → Ent → Hp → Prop
  | here {x : Ent} {H : Hp} : Pick (x :: H) x H
  | skip {x y : Ent} {H H2 : Hp} : Pick H x H2 → Pick (y :: H) x (y :: H2)
theorem Pick.perm {x : Ent} {H H2 : Hp} (h : Pick H x H2) : H.Perm (x :: H2) := by
  induction h with
  | here => exact .refl _
  | skip _ ih => exact (ih.cons _).trans (.swap ..)
theorem SrcK.rd {A : Option Addr} {m cp : Nat} {news : List Value} (h : RdS c H A news) : SrcK c H (.slice A m cp) m news := ⟨rfl, h⟩
theorem SrcK.str (l : List UInt8) : SrcK c H (str l) l.length (l.map byteV) := ⟨rfl, rfl⟩
theorem AppS.go {v x : Value} {e sz bytes n m : Nat} {K : Value → Hp → Prop} {xs news : List Value} {H2 : Hp} (hp : Pick H (.row v e sz n xs) H2) (hs : SrcK c H x m news) (hl : news.length = m * sz) (h1 : ∀ u ∈ news, u.oneCell' = true) (h0 : 0 < sz) (h63 : n + m ≤ 9223372036854775807) (hb : (n + m) * bytes ≤ 140737488355328)
    (k : ∀ A cp, K (.slice A (n + m) cp) (.row (.slice A (n + m) cp) e sz (n + m) (xs ++ news) :: H2)) : AppS c v x e sz bytes H K := ⟨h0, n, xs, m, news, H2, fun _w hw => hw.perm hp.perm, hs, hl, h1, h63, hb, k⟩
/-- A nil slice owns nothing: it may stand among the rows at any time. -/
theorem St.nilRow {w : World} (h : St c H w) (e size : Nat) : St c (.row (.slice none 0 0) e size 0 [] :: H) w :=
  h.push ⟨by simp, .inl ⟨rfl, rfl⟩⟩ (fun _ e => by cases e) (fun _ e => by cases e)
theorem AppS.nil {x : Value} {e sz bytes : Nat} {K : Value → Hp → Prop} {m : Nat} {news : List Value} (hs : SrcK c H x m news) (hl : news.length = m * sz) (h1 : ∀ u ∈ news, u.oneCell' = true) (h0 : 0 < sz) (h63 : m ≤ 9223372036854775807) (hb : m * bytes ≤ 140737488355328)
    (k : ∀ A cp, K (.slice A (0 + m) cp) (.row (.slice A (0 + m) cp) e sz (0 + m) ([] ++ news) :: H)) : AppS c (.slice none 0 0) x e sz bytes H K :=
  ⟨h0, 0, [], m, news, H, fun w hw => hw.nilRow e sz, hs, hl, h1, by omega, by rw [Nat.zero_add]; exact hb, k⟩
theorem Sto.row {A : Option Addr} {cp e sz n j : Nat} {xs : List Value} {v : Value} {K : Hp → Prop} (hj : j < xs.length) (h1 : v.oneCell' = true) (k : K (.row (.slice A n cp) e sz n (xs.set j v) :: H)) : Sto c (.row (.slice A n cp) e sz n xs :: H) (.pointer (some ((A.getD at0).add j))) v 1 K := by
  have hc : v.cells = #[v] := by cases v <;> first | rfl | cases h1
  refine ⟨_, _, rfl, by rw [hc]; rfl, k, rfl, fun w hw => ?_⟩
  have hr : RowH w (.slice A n cp) e sz n xs := (hw.own _ (List.mem_cons_self ..)).1
  have hk := (hw.own _ (List.mem_cons_self ..)).2
  rcases hr.2 with ⟨he, h0⟩ | ⟨g, cap, cur, fz, he, hg, hnc, hcm, hcs, htake, hfz⟩
  · subst h0
    have : xs = [] := List.eq_nil_of_length_eq_zero (by simpa using hr.1)
    subst this
    simp at hj
  · cases he
    have hjc : j < cur.size := by
      have := hr.1
      rw [hcs]
      exact Nat.lt_of_lt_of_le (by omega) (Nat.mul_le_mul_right sz hnc)
    have hadd : ((some (⟨g, 0, none⟩ : Addr)).getD at0).add j = ⟨g, j, none⟩ := by simp [Addr.add_lit]
    have hcell : w.cell? ⟨g, j, none⟩ = some cur[j] := by rw [cell_of_row w g j cur e fz hg]; simp [hjc]
    have hfro : w.frozen? ⟨g, j, none⟩ = false := by
      simp only [World.frozen?, hg]
      simp; omega
    obtain ⟨h2, h3, h4, h5, h6⟩ := setCells_fields g [v] j w
    have hh := heap_setCells g e fz [v] j cur.toList w (by simpa using hg) (by simp; omega)
    have hrun : (storeCells (((some (⟨g, 0, none⟩ : Addr)).getD at0).add j) v.cells.toList).run c.P w = .ok () (w.setCells g j [v]) := by
      have hst : (store ⟨g, j, none⟩ v).run c.P w = .ok () (w.setCell ⟨g, j, none⟩ v) := by
        rw [run_store c.P w _ v _ h1, hcell]
        simp [hfro]
      rw [hadd, hc]
      show (storeCells ⟨g, j, none⟩ [v]).run c.P w = _
      simp only [storeCells, Sem.run_bind, Addr.add_lit, Nat.add_zero, hst, Result.andThen_ok, Sem.run_pure]
      rfl
    have hbl : (((some (⟨g, 0, none⟩ : Addr)).getD at0).add j).block = g := by rw [hadd]
    refine ⟨by rw [hbl]; simp [Ent.blk, Value.ownBlock], _, hrun, ?_, by rw [h5]; exact Nat.le_refl _, fun k hk => h6 k (by rw [← hbl]; exact hk)⟩
    have hrest : St c H w := hw.sub (List.sublist_cons_self _ _)
    have hkg := hk g rfl
    have hn : ∀ y ∈ H, y.blk ≠ some g := fun y hy he => by
      have := hw.apart
      rw [List.filterMap_cons] at this
      exact (List.nodup_cons.1 this).1 (List.mem_filterMap.2 ⟨y, hy, he⟩)
    have hm : ModW c.M c.w0 (w.setCells g j [v]) := ⟨h2.trans hw.mod.os, h3.trans hw.mod.tape, h4.trans hw.mod.output, by rw [h5]; exact hw.mod.size, fun k hk' hM => by
      rw [h6 k (fun e' => by subst e'; rcases hkg.2 with h | h; omega; exact hM h)]
      exact hw.mod.block k hk' hM⟩
    refine St.push ⟨hm, fun y hy => ⟨Ent.holds_of_block (hrest.own y hy).1 fun b' e' => h6 b' (fun e2 => by subst e2; exact hn y hy e'), fun b' e' => by rw [h5]; exact (hrest.own y hy).2 b' e'⟩, hrest.apart⟩ ⟨by rw [List.length_set]; exact hr.1, .inr ⟨g, _, _, fz, rfl, hh, hnc, hcm, ?_, ?_, ?_⟩⟩ (fun b' e' => ?_) (fun b' e' y hy => ?_)
    · simp only [List.size_toArray, List.length_append, List.length_take, List.length_drop, List.length_singleton, Array.length_toList]
      omega
    · show (cur.toList.take j ++ [v] ++ cur.toList.drop (j + 1)).take (n * sz) = xs.set j v
      have e1 : cur.toList.take j ++ [v] ++ cur.toList.drop (j + 1) = cur.toList.set j v := by
        rw [List.set_eq_take_append_cons_drop, if_pos (by simpa using hjc)]
        simp
      rw [e1, ← htake, List.take_set]
    · rcases hfz with h | h
      · exact .inl h
      · right
        simp only [List.size_toArray, List.length_append, List.length_take, List.length_drop, List.length_singleton, Array.length_toList]
        omega
    · obtain rfl : g = b' := Option.some.inj e'
      rw [h5]; exact hkg
    · obtain rfl : g = b' := Option.some.inj e'
      exact hn y hy

/-! ## Loops, again: slots that nobody reads are left open -/
def jk (fr : Fr) (i : Nat) : Value := fr.getD i undef
noncomputable def lpQ {β : Type} (F : β → (Nat → Value) → Fr) (G : β → Hp) (pre : β → Prop) (μ : β → Nat) (x : β) (Q : Exit → Fr → Hp → Prop) (e : Exit) (fr : Fr) (H : Hp) : Prop := match e with
  | .normal => ∃ x', pre x' ∧ fr = F x' (jk fr) ∧ (G x').Sublist H ∧ μ x' < μ x
  | e => Q e fr H
theorem LoopS.lp {T : Ty} {β : Type} {body : Code} {Q : Exit → Fr → Hp → Prop} {fr : Fr} (hT : TOk c.P T) (F : β → (Nat → Value) → Fr) (G : β → Hp) (pre : β → Prop) (μ : β → Nat) (x0 : β) (h0 : pre x0) (hF : fr = F x0 (jk fr)) (hG : (G x0).Sublist H)
    (round : ∀ x u, pre x → wc c T body (lpQ F G pre μ x Q) (F x u) (G x)) : LoopS c T body Q fr H := by
  refine ⟨fun ds w hw => wp_loop_ghost (fun n a w => ∃ x u, pre x ∧ a = actD ds (F x u) ∧ St c (G x) w ∧ μ x = n) (μ x0) ⟨x0, jk fr, h0, by rw [← hF], hw.sub hG, rfl⟩ ?_⟩
  rintro n a w ⟨x, u, hx, rfl, hs, rfl⟩
  refine Code.wp_mono (fun e a w ⟨fr, H, ha, hs, hq⟩ => ?_) (wc_ok hT ds body _ _ _ w (round x u hx) hs)
  cases e with
  | normal =>
    obtain ⟨x', hx', hF', hG', hlt⟩ := hq
    exact ⟨μ x', hlt, x', jk fr, hx', by rw [ha, ← hF'], hs.sub hG', rfl⟩
  | _ => exact ⟨fr, H, ha, hs, hq⟩
end
end Go.Proofs.YtflfajcaicackaaDoor.Vex
