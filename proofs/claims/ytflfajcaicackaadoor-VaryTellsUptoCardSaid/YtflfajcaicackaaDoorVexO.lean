/- A walk by reckoning, part fifteen: rows that are cut, cleared, written with several cells at once; nil slices. No program in sight. -/
import Derived.Test.YtflfajcaicackaaDoorVexN
import Derived.Laws.Cover3
namespace Go.Proofs.YtflfajcaicackaaDoor.Vex
open Go Go.RowKit

theorem run_storeCells_from (P : Program) (g e o : Nat) (fz : Nat × Nat) : ∀ (vs : List Value) (i : Nat) (cur : List Value) (w : World), w.heap[g]? = some (.cells ⟨cur⟩ e fz) → o + i + vs.length ≤ cur.length → (fz.2 ≤ fz.1 ∨ cur.length ≤ fz.1) → (∀ v ∈ vs, v.oneCell' = true) →
    (storeCells ⟨g, o, none⟩ vs i).run P w = .ok () (w.setCells g (o + i) vs)
  | [], _, _, _, _, _, _, _ => rfl
  | v :: r, i, cur, w, h, hl, hf, h1 => by
    simp only [List.length_cons] at hl
    have hcell : w.cell? ⟨g, o + i, none⟩ = some cur[o + i] := by rw [cell_of_row w g (o + i) _ e fz h]; simp
    have hfro : w.frozen? ⟨g, o + i, none⟩ = false := by
      simp only [World.frozen?, h]
      simp; omega
    have hst : (store ⟨g, o + i, none⟩ v).run P w = .ok () (w.setCell ⟨g, o + i, none⟩ v) := by
      rw [run_store P w _ v _ (h1 v (List.mem_cons_self ..)), hcell]
      simp [hfro]
    have h2 : (w.setCell ⟨g, o + i, none⟩ v).heap[g]? = some (.cells ⟨cur.set (o + i) v⟩ e fz) := by
      simp only [World.setCell, Array.getElem?_modify, if_true, h, Option.map_some]
      simp
    have ih := run_storeCells_from P g e o fz r (i + 1) (cur.set (o + i) v) _ h2 (by rw [List.length_set]; omega) (by rw [List.length_set]; exact hf) fun x hx => h1 x (List.mem_cons_of_mem _ hx)
    simp only [storeCells, Sem.run_bind, Addr.add_lit, hst, Result.andThen_ok]
    exact ih
theorem run_storeCells_row (P : Program) (g e : Nat) (fz : Nat × Nat) (vs : List Value) (o : Nat) (cur : List Value) (w : World) (h : w.heap[g]? = some (.cells ⟨cur⟩ e fz)) (hl : o + vs.length ≤ cur.length) (hf : fz.2 ≤ fz.1 ∨ cur.length ≤ fz.1) (h1 : ∀ v ∈ vs, v.oneCell' = true) :
    (storeCells ⟨g, o, none⟩ vs).run P w = .ok () (w.setCells g o vs) := run_storeCells_from P g e o fz vs 0 cur w h hl hf h1
section
variable {c : Ctx} {H : Hp}
/-- Cells of a row are written: the world behind holds the row anew. -/
theorem St.setRowCells {A : Option Addr} {cp e sz n j : Nat} {xs vs : List Value} {w : World} (hw : St c (.row (.slice A n cp) e sz n xs :: H) w) (hj : j + vs.length ≤ xs.length) (h1 : ∀ v ∈ vs, v.oneCell' = true) (hv : 0 < vs.length) :
    ∃ g, A = some ⟨g, 0, none⟩ ∧ n ≤ cp ∧ (storeCells ⟨g, j, none⟩ vs).run c.P w = .ok () (w.setCells g j vs) ∧ St c (.row (.slice A n cp) e sz n (xs.take j ++ vs ++ xs.drop (j + vs.length)) :: H) (w.setCells g j vs) ∧ w.heap.size ≤ (w.setCells g j vs).heap.size ∧ ∀ k, k ≠ g → (w.setCells g j vs).heap[k]? = w.heap[k]? := by
  have hr : RowH w (.slice A n cp) e sz n xs := (hw.own _ (List.mem_cons_self ..)).1
  have hk := (hw.own _ (List.mem_cons_self ..)).2
  rcases hr.2 with ⟨he, h0⟩ | ⟨g, cap, cur, fz, he, hg, hnc, hcm, hcs, htake, hfz⟩
  · subst h0
    have : xs = [] := List.eq_nil_of_length_eq_zero (by simpa using hr.1)
    subst this
    exfalso
    simp only [List.length_nil] at hj
    omega
  · cases he
    have hxl : xs.length ≤ cur.toList.length := by rw [← htake, List.length_take]; omega
    have hjc : j + vs.length ≤ cur.toList.length := Nat.le_trans hj hxl
    obtain ⟨h2, h3, h4, h5, h6⟩ := setCells_fields g vs j w
    have hg' : w.heap[g]? = some (.cells ⟨cur.toList⟩ e fz) := by simpa using hg
    have hh := heap_setCells g e fz vs j cur.toList w hg' hjc
    have hrun := run_storeCells_row c.P g e fz vs j cur.toList w hg' hjc (by simpa using hfz) h1
    refine ⟨g, rfl, hnc, hrun, ?_, by rw [h5]; exact Nat.le_refl _, h6⟩
    have hrest : St c H w := hw.sub (List.sublist_cons_self _ _)
    have hkg := hk g rfl
    have hn : ∀ y ∈ H, y.blk ≠ some g := fun y hy he => by
      have := hw.apart
      rw [List.filterMap_cons] at this
      exact (List.nodup_cons.1 this).1 (List.mem_filterMap.2 ⟨y, hy, he⟩)
    have hm : ModW c.M c.w0 (w.setCells g j vs) := ⟨h2.trans hw.mod.os, h3.trans hw.mod.tape, h4.trans hw.mod.output, by rw [h5]; exact hw.mod.size, fun k hk' hM => by
      rw [h6 k (fun e' => by subst e'; rcases hkg.2 with h | h; omega; exact hM h)]
      exact hw.mod.block k hk' hM⟩
    refine St.push ⟨hm, fun y hy => ⟨Ent.holds_of_block (hrest.own y hy).1 fun b' e' => h6 b' (fun e2 => by subst e2; exact hn y hy e'), fun b' e' => by rw [h5]; exact (hrest.own y hy).2 b' e'⟩, hrest.apart⟩ ⟨?_, .inr ⟨g, _, _, fz, rfl, hh, hnc, hcm, ?_, ?_, ?_⟩⟩ (fun b' e' => ?_) (fun b' e' y hy => ?_)
    · rw [← hr.1]
      simp only [List.length_append, List.length_take, List.length_drop]
      omega
    · simp only [List.size_toArray, List.length_append, List.length_take, List.length_drop, Array.length_toList] at hjc ⊢
      omega
    · show (cur.toList.take j ++ vs ++ cur.toList.drop (j + vs.length)).take (n * sz) = _
      have hnl : n * sz = xs.length := hr.1.symm
      rw [List.take_append, List.take_of_length_le (by simp; omega)]
      congr 1
      · congr 1
        rw [← htake, List.take_take, Nat.min_eq_left (by omega)]
      · simp only [List.length_append, List.length_take]
        rw [← htake, List.drop_take, Nat.min_eq_left (by omega)]
    · rcases hfz with h | h
      · exact .inl h
      · right
        simp only [List.size_toArray, List.length_append, List.length_take, List.length_drop, Array.length_toList] at hjc ⊢
        omega
    · obtain rfl : g = b' := Option.some.inj e'
      rw [h5]; exact hkg
    · obtain rfl : g = b' := Option.some.inj e'
      exact hn y hy
/-- Several cells of a row are stored. -/
theorem Sto.rowN {A : Option Addr} {cp e sz n j k : Nat} {xs vs : List Value} {K : Hp → Prop} (hk : vs.length = k) (h0 : 0 < k) (hj : j + k ≤ xs.length) (h1 : ∀ v ∈ vs, v.oneCell' = true) (kk : K (.row (.slice A n cp) e sz n (xs.take j ++ vs ++ xs.drop (j + k)) :: H)) : Sto c (.row (.slice A n cp) e sz n xs :: H) (.pointer (some ((A.getD at0).add j))) (.agg ⟨vs⟩) k K := by
  subst hk
  refine ⟨_, _, rfl, rfl, kk, rfl, fun w hw => ?_⟩
  obtain ⟨g, rfl, _, hrun, hs, hz, hf⟩ := hw.setRowCells hj h1 h0
  have hadd : ((some (⟨g, 0, none⟩ : Addr)).getD at0).add j = ⟨g, j, none⟩ := by simp [Addr.add_lit]
  rw [hadd]
  exact ⟨by simp [Ent.blk, Value.ownBlock], _, hrun, hs, hz, hf⟩
theorem Sto.trN {A : Option Addr} {cp e sz n j k : Nat} {xs vs xs' : List Value} {f : List Value → Hp} {K : Hp → Prop} [h : RowAt A H cp e sz n n xs f] (hv : xs.take j ++ vs ++ xs.drop (j + k) = xs') (hk : vs.length = k) (h0 : 0 < k) (hj : j + k ≤ xs.length) (h1 : ∀ v ∈ vs, v.oneCell' = true) (kk : K (f xs')) : Sto c H (.pointer (some ((A.getD at0).add j))) (.agg ⟨vs⟩) k K := by
  obtain ⟨H1, H2, rfl, hf⟩ := h.ok
  refine Sto.skips H1 (Sto.rowN hk h0 hj h1 ?_)
  rw [hv, ← hf]; exact kk
/-- A field of a row's element is stored. -/
theorem Sto.trF {A : Option Addr} {cp e sz n j o : Nat} {xs xs' : List Value} {f : List Value → Hp} {v : Value} {K : Hp → Prop} [h : RowAt A H cp e sz n n xs f] (hv : xs.set (j + o) v = xs') (hj : j + o < xs.length) (h1 : v.oneCell' = true) (k : K (f xs')) : Sto c H (.pointer (some (((A.getD at0).add j).add o))) v 1 K := by
  rw [add_add]
  exact Sto.tr hv hj h1 k
theorem RowAt.cap {A : Option Addr} {cp e sz n n' : Nat} {xs : List Value} {f : List Value → Hp} (h : RowAt A H cp e sz n n' xs f) {w : World} (hw : St c H w) : n' = n ∧ n ≤ cp := by
  obtain ⟨H1, H2, rfl, _⟩ := h.ok
  have hr : RowH w (.slice A n' cp) e sz n xs := (hw.own (.row (.slice A n' cp) e sz n xs) (by simp)).1
  rcases hr.2 with ⟨he, h0⟩ | ⟨g, cap, cur, fz, he, _, hn, _⟩
  · cases he; exact ⟨h0.symm, by omega⟩
  · cases he; exact ⟨rfl, hn⟩
/-- A row's first elements. -/
theorem RowH.cut {w : World} {A : Option Addr} {cp e sz n k : Nat} {xs : List Value} (h : RowH w (.slice A n cp) e sz n xs) (hk : k ≤ n) : RowH w (.slice A k cp) e sz k (xs.take (k * sz)) := by
  have hks : k * sz ≤ n * sz := Nat.mul_le_mul_right _ hk
  refine ⟨by rw [List.length_take, h.1]; omega, ?_⟩
  rcases h.2 with ⟨he, h0⟩ | ⟨g, cap, cur, fz, he, hg, hnc, hcm, hcs, htake, hfz⟩
  · cases he
    obtain rfl : k = 0 := by omega
    exact .inl ⟨rfl, rfl⟩
  · cases he
    exact .inr ⟨g, _, cur, fz, rfl, hg, by omega, hcm, hcs, by rw [← htake, List.take_take, Nat.min_eq_left hks], hfz⟩
theorem St.cut {A : Option Addr} {cp e sz n k : Nat} {xs : List Value} {w : World} (hw : St c (.row (.slice A n cp) e sz n xs :: H) w) (hk : k ≤ n) : St c (.row (.slice A k cp) e sz k (xs.take (k * sz)) :: H) w := by
  have hb : (Ent.row (.slice A k cp) e sz k (xs.take (k * sz))).blk = (Ent.row (.slice A n cp) e sz n xs).blk := by cases A <;> rfl
  exact ⟨hw.mod, fun y hy => by
    rcases List.mem_cons.1 hy with rfl | hy
    · have ho := hw.own _ (List.mem_cons_self ..)
      exact ⟨RowH.cut ho.1 hk, by rw [hb]; exact ho.2⟩
    · exact hw.own y (List.mem_cons_of_mem _ hy), by
    have := hw.apart
    rw [List.filterMap_cons] at this ⊢
    rw [hb]
    exact this⟩
/-- x[:h]: the elements are there. -/
theorem SlcV.to {A : Option Addr} {n cp sz : Nat} {h : Int} {K : Value → Prop} {e sz' n0 n' : Nat} {xs : List Value} {f : List Value → Hp} [hr : RowAt A H cp e sz' n0 n' xs f] (h0 : 0 ≤ h) (h1 : h ≤ n0) (k : K (.slice A h.toNat cp)) : SlcV c H A n cp 0 (some h) sz K := by
  refine ⟨Int.le_refl _, h0, fun h' e w hw => ?_, ?_⟩
  · cases e
    have := (hr.cap hw).2
    omega
  · have : A.map (·.add ((0 : Int).toNat * sz)) = A := by
      cases A with
      | none => rfl
      | some a =>
        simp only [Option.map_some, Int.toNat_zero, Nat.zero_mul, Option.some.injEq]
        unfold Addr.add
        split <;> simp_all
    simp only [this, ite_self, Option.getD_some]
    exact k
/-- x[lo:], of any slice. -/
theorem SlcV.from {A : Option Addr} {n cp sz : Nat} {lo : Int} {K : Value → Prop} (h0 : 0 ≤ lo) (h1 : lo ≤ n) (k : K (.slice (if (cp : Int) = lo then A else A.map (·.add (lo.toNat * sz))) (n - lo.toNat) (cp - lo.toNat))) : SlcV c H A n cp lo none sz K :=
  ⟨h0, by simpa using h1, (fun h' e => (by cases e)), by simpa using k⟩
/-- A slice, held against nil. -/
theorem OthP.nilEq {T : Ty} {d : Option Nat} {t e yt ty : TypeId} {x : Operand} {pos : String} {after : Array Edge} {gd : Option (Nat × Bool)} {fr : Fr} {A : Option Addr} {n cp : Nat} {K : Value → Prop} (hT : TOk c.P T) (ht : (lookT T t).d = .slice e)
    (hx : evK fr x fun v => v = .slice A n cp) (k : K (.bool A.isNone)) : OthP c ⟨d, .binOp .eql t x (.const (.slice none 0 0)) yt, ty, pos, after, gd⟩ fr H K := ⟨⟨_, k, fun w _ => by
  rw [evK_eq] at hx
  have hu := (lookT_ok hT (t := t) (by rw [ht]; intro h; cases h)).1
  rw [ht] at hu
  have hy : (act fr).eval (.const (.slice none 0 0)) = .slice none 0 0 := rfl
  have hr := run_equal_slice_nil (P := c.P) (w := w) t e A n cp hu
  generalize (act fr).eval = ρ at *
  have hg : (eqGuard .eql t x (.const (.slice none 0 0)) (.slice A n cp) (.slice none 0 0)).run c.P w = .ok () w := rfl
  have hb : (binOp .eql t (.slice A n cp) (.slice none 0 0)).run c.P w = .ok (.bool A.isNone) w := by
    show (do pure (.bool (← Op.equal t (.slice A n cp) (.slice none 0 0))) : Sem Value).run c.P w = _
    rw [Sem.run_bind, hr]
    rfl
  simp only [execOp, hx, hy, Sem.run_bind, hg, Result.andThen_ok, hb]
  rfl⟩⟩
theorem zero_one {z : Array Value} (h : ∀ v ∈ z.toList, v.oneCell' = true) (n : Nat) : ∀ v ∈ (Builtin.zeroCells z n).toList, v.oneCell' = true := by
  intro v hv
  simp only [Builtin.zeroCells, Array.toList_map, List.mem_map] at hv
  obtain ⟨i, _, rfl⟩ := hv
  by_cases hz : z.size = 0
  · rename_i hi
    simp [hz] at hi
  · have hlt : i % z.size < z.size := Nat.mod_lt _ (by omega)
    rw [getElem!_pos z _ hlt]
    exact h _ (by simp)
/-- clear(x[lo:]). -/
theorem Oth.clear {T : Ty} {d : Option Nat} {t e ty : TypeId} {x : Operand} {pos : String} {after : Array Edge} {gd : Option (Nat × Bool)} {fr : Fr} {A : Option Addr} {cp sz n lo : Nat} {xs : List Value} {f : List Value → Hp} {K : Value → Hp → Prop} [hr : RowAt A H cp e sz n n xs f] (hT : TOk c.P T)
    (ht : (lookT T t).d = .slice e) (he : (lookT T e).d ≠ .invalid) (hz : (lookT T e).zero.cells.size = sz) (h0 : 0 < sz) (h1 : ∀ v ∈ (lookT T e).zero.cells.toList, v.oneCell' = true) (hlo : lo ≤ n)
    (hx : evK fr x fun v => v = .slice (if (cp : Int) = (lo : Int) then A else A.map (·.add ((lo : Int).toNat * sz))) (n - (lo : Int).toNat) (cp - (lo : Int).toNat))
    (k : ∀ ys, ys.length = xs.length → ys.take (lo * sz) = xs.take (lo * sz) → K (.tuple ⟨[]⟩) (f ys)) : Oth c false ⟨d, .call ⟨.builtin .clear, #[x], #[t]⟩, ty, pos, after, gd⟩ fr H K := ⟨fun w hw => by
  rw [evK_eq] at hx
  have hu := (lookT_ok hT (t := t) (by rw [ht]; intro h; cases h)).1
  rw [ht] at hu
  have hzv := run_zeroValue (lookT_ok hT (t := e) he)
  have hcap := (hr.cap hw).2
  obtain ⟨H1, H2, rfl, hf⟩ := hr.ok
  have hw1 : St c (.row (.slice A n cp) e sz n xs :: (H1 ++ H2)) w := hw.perm List.perm_middle
  have hrow : RowH w (.slice A n cp) e sz n xs := (hw1.own _ (List.mem_cons_self ..)).1
  by_cases hn : n - lo = 0
  · refine ⟨.tuple ⟨[]⟩, w, f xs, ?_, by rw [hf]; exact hw, k xs rfl rfl, fun h => by cases h⟩
    generalize (act fr).eval = ρ at *
    rw [Int.toNat_natCast, hn] at hx
    simp only [go_sem, Builtin.clear_]
    simp [hx, run_underlying hu]
    split <;> simp_all
  · have hlen : (Builtin.zeroCells (lookT T e).zero.cells (n - lo)).toList.length = (n - lo) * sz := by simp [Builtin.zeroCells, hz]
    have hpos : 0 < (n - lo) * sz := Nat.mul_pos (by omega) h0
    have hsum : lo * sz + (n - lo) * sz = n * sz := by rw [← Nat.add_mul]; congr 1; omega
    obtain ⟨g, rfl, _, hrun, hs, _, _⟩ := hw1.setRowCells (j := lo * sz) (vs := (Builtin.zeroCells (lookT T e).zero.cells (n - lo)).toList) (by rw [hlen, hrow.1, hsum]; exact Nat.le_refl _) (zero_one h1 _) (by rw [hlen]; exact hpos)
    refine ⟨.tuple ⟨[]⟩, _, f (xs.take (lo * sz) ++ (Builtin.zeroCells (lookT T e).zero.cells (n - lo)).toList ++ xs.drop (lo * sz + (Builtin.zeroCells (lookT T e).zero.cells (n - lo)).toList.length)), ?_, by rw [hf]; exact hs.perm List.perm_middle.symm, k _ ?_ ?_, fun h => by cases h⟩
    · rw [if_neg (by omega)] at hx
      simp only [Int.toNat_natCast, Option.map_some, Addr.add_lit, Nat.zero_add] at hx
      obtain ⟨q, hq⟩ : ∃ q, n - lo = q + 1 := ⟨n - lo - 1, by omega⟩
      generalize (act fr).eval = ρ at *
      simp only [go_sem, Builtin.clear_]
      simp [hx, run_underlying hu]
      rw [hq] at hrun ⊢
      simp only [Sem.run_bind, hzv, Result.andThen_ok, Sem.run_pure]
      erw [hrun]
      rfl
    · simp only [List.length_append, List.length_take, List.length_drop, hlen, hrow.1]
      omega
    · rw [List.append_assoc, List.take_left' (by rw [List.length_take, hrow.1]; omega)]⟩
/-- What is known behind a call may be turned. -/
theorem CallK.post {m : Bool} {f : Nat} {args : List Value} {K : Value → Hp → Prop} (h : CallK c m f args H fun v H' => ∃ H2, (∀ w, St c H' w → St c H2 w) ∧ K v H2) : CallK c m f args H K :=
  ⟨h.can, fun w hw => (h.ok w hw).mono fun _ w' ⟨v, _, he, hs, ⟨H2, hx, hk⟩, hr⟩ => ⟨v, H2, he, hx w' hs, hk, hr⟩⟩
/-- A function that gives back a slice of its own, in a form; it has room. -/
theorem CallK.fnG {m : Bool} {f : Nat} {args : List Value} {pre : World → Prop} {G : Value → Value} {e sz n : Nat} {xs : List Value} {K : Value → Hp → Prop} (h : FnE c.P c.g f args pre fun w v w' => ∃ u, v = G u ∧ rowPost e sz n xs w u w') (hp : ∀ w, St c H w → pre w)
    (k : ∀ A cp, n ≤ cp → K (G (.slice A n cp)) (.row (.slice A n cp) e sz n xs :: H)) : CallK c m f args H K :=
  CallK.fnE h hp fun w v w' hw ⟨u, hv, hr, hb⟩ hR => by
    have hu : ∃ A cp, u = .slice A n cp ∧ n ≤ cp := by
      rcases hr.2 with ⟨he, h0⟩ | ⟨g, cap, cur, fz, he, _, hn, _⟩
      · exact ⟨none, 0, by rw [he, h0], by omega⟩
      · exact ⟨_, _, he, hn⟩
    obtain ⟨A, cp, rfl, hc⟩ := hu
    refine ⟨_, (hw.below hR).push (x := .row (.slice A n cp) e sz n xs) hr (fun b hbe => ⟨(hb b hbe).2, .inl (Nat.le_trans hw.mod.size (hb b hbe).1)⟩) (fun b hbe y hy he => ?_), hv ▸ k A cp hc⟩
    have h1 := (hb b hbe).1
    have h2 := ((hw.own y hy).2 b he).1
    omega
theorem FnE.G {P : Program} {g : GI} {f : FuncId} {args : List Value} {L : List (Option Addr × List Value)} {e sz n : Nat} {xs : List Value} (h : FnS P g f args L e sz n xs) : FnE P g f args (fun w => RdL w L) fun w v w' => ∃ u, v = u ∧ rowPost e sz n xs w u w' :=
  ⟨h.can, fun w hG hp => (h.ok w hG hp).mono fun _ _ ⟨v, he, hv, hr⟩ => ⟨v, he, ⟨v, rfl, hv⟩, hr⟩⟩
theorem CallK.fnSc {m : Bool} {f : Nat} {args : List Value} {L : List (Option Addr × List Value)} {e sz n : Nat} {xs : List Value} {K : Value → Hp → Prop} (h : FnS c.P c.g f args L e sz n xs) (hp : RdsL c H L) (k : ∀ A cp, n ≤ cp → K (.slice A n cp) (.row (.slice A n cp) e sz n xs :: H)) : CallK c m f args H K :=
  CallK.fnG (G := fun u => u) h.G (fun _ hw => hp.at hw) k
theorem rowPost.nil {P : Program} {g : GI} {w : World} {hG : g.G w} {H : Hp} (e sz : Nat) : ∀ w', St (mkC P g w hG) H w' → rowPost e sz 0 [] w (.slice none 0 0) w' := fun _ _ => ⟨⟨by simp, .inl ⟨rfl, rfl⟩⟩, fun _ h => by cases h⟩
end
end Go.Proofs.YtflfajcaicackaaDoor.Vex
