/- A walk by reckoning, part fifteen: rows that are cut, cleared, written with several cells at once; nil slices. No program in sight. -/
import Derived.Test.YtnaeeklnlddcaaaDoorMRouteOrder1
import Derived.Laws.Cover3
import Derived.Test.YtnaeeklnlddcaaaDoorRows
import Derived.Deep.Slices
import Derived.Lib.LaidTab
import Derived.ProofKit
import Derived.Test.YtnaeeklnlddcaaaDoorProg
import Derived.Shelf.Strings.Builder1
import Derived.Shelf.Strings.Builder2
import Derived.Shelf.Strings.OnBuilder
import Derived.Shelf.Strings.Trim
import Derived.Shelf.Small.Utf8
import Derived.Shelf.Small.Strs
import Derived.Shelf.Strings.BuilderF
import Derived.Shelf.Strconv.Itoa0
import Derived.Shelf.Strconv.Itoa1
import Derived.Shelf.LaysM
import Derived.Shelf.Strconv.Itoa2
import Derived.Shelf.Strconv.Itoa3
import Derived.Shelf.Strconv.Clone
import Derived.Shelf.Strconv.SyntaxError
import Derived.Shelf.LaysC
import Derived.Shelf.Strconv.ToError
import Derived.Shelf.Strconv.Lower
import Derived.Shelf.Strconv.RangeError
import Derived.Shelf.Strconv.ToErrorRange
import Derived.Shelf.Strings.Search1
import Derived.Shelf.Strings.Search2
import Derived.Shelf.Strings.Search3
import Derived.Shelf.Strings.Count
import Derived.Shelf.Strings.Shaped
import Derived.Shelf.Strings.Prefix
import Derived.Shelf.Strings.Split
import Derived.Shelf.Strings.Runes
import Derived.Shelf.Strings.AsciiSet
import Derived.Shelf.Unicode.DecodeSlow
import Derived.Shelf.Unicode.DecodeAny
import Derived.Shelf.Unicode.DecodeLast
import Derived.Shelf.Slices.Turned
import Derived.Shelf.Strings.SlTrimAscii
import Derived.Lib.ConvBytes
import Derived.Laws.IdiomStrings
import Derived.Lib.IndexMore
import Derived.Lib.LaidU8
import Derived.LaidLaws
import Derived.MakeChecks
import Derived.WideKeyRuns
import Derived.Lib.ItoaNum
import Derived.Lib.Join
namespace Go.Proofs.YtnaeeklnlddcaaaDoor.Vex
open Go Go.RowKit

theorem run_storeCells_from (P : Program) (g e o : Nat) (fz : Nat × Nat) : ∀ (vs : List Value) (i : Nat) (cur : List Value) (w : World), w.heap[g]? = some (.cells ⟨cur⟩ e fz) → o + i + vs.length ≤ cur.length → (fz.2 ≤ fz.1 ∨ cur.length ≤ fz.1) → (∀ v ∈ vs, v.oneCell' = true) →
    (storeCells ⟨g, o, none⟩ vs i).run P w = .ok () (w.setCells g (o + i) vs)
  | [], _, _, _, _, _, _, _ => rfl
  | v :: r, i, cur, w, h, hl, hf, h1 => by
    simp only [List.length_cons] at hl
    have hcell : w.cell? ⟨g, o + i, none⟩ = some cur[o + i] := by rw [cell_of_row w g (o + i) _ e fz h]; simp
    have hfro : w.frozen? ⟨g, o + i, none⟩ = false := by
      simp only [World.frozen?, h]
      simp; omega
    have hst : (store ⟨g, o + i, none⟩ v).run P w = .ok () (w.setCell ⟨g, o + i, none⟩ v) := by
      rw [run_store P w _ v _ (h1 v (List.mem_cons_self ..)), hcell]
      simp [hfro]
    have h2 : (w.setCell ⟨g, o + i, none⟩ v).heap[g]? = some (.cells ⟨cur.set (o + i) v⟩ e fz) := by
      simp only [World.setCell, Array.getElem?_modify, if_true, h, Option.map_some]
      simp
    have ih := run_storeCells_from P g e o fz r (i + 1) (cur.set (o + i) v) _ h2 (by rw [List.length_set]; omega) (by rw [List.length_set]; exact hf) fun x hx => h1 x (List.mem_cons_of_mem _ hx)
    simp only [storeCells, Sem.run_bind, Addr.add_lit, hst, Result.andThen_ok]
    exact ih
theorem run_storeCells_row (P : Program) (g e : Nat) (fz : Nat × Nat) (vs : List Value) (o : Nat) (cur : List Value) (w : World) (h : w.heap[g]? = some (.cells ⟨cur⟩ e fz)) (hl : o + vs.length ≤ cur.length) (hf : fz.2 ≤ fz.1 ∨ cur.length ≤ fz.1) (h1 : ∀ v ∈ vs, v.oneCell' = true) :
    (storeCells ⟨g, o, none⟩ vs).run P w = .ok () (w.setCells g o vs) := run_storeCells_from P g e o fz vs 0 cur w h hl hf h1
section
variable {c : Ctx} {H : Hp}
/-- Cells of a row are written: the world behind holds the row anew. -/
theorem St.setRowCells {A : Option Addr} {cp e sz n j : Nat} {xs vs : List Value} {w : World} (hw : St c (.row (.slice A n cp) e sz n xs :: H) w) (hj : j + vs.length ≤ xs.length) (h1 : ∀ v ∈ vs, v.oneCell' = true) (hv : 0 < vs.length) :
    ∃ g, A = some ⟨g, 0, none⟩ ∧ n ≤ cp ∧ (storeCells ⟨g, j, none⟩ vs).run c.P w = .ok () (w.setCells g j vs) ∧ St c (.row (.slice A n cp) e sz n (xs.take j ++ vs ++ xs.drop (j + vs.length)) :: H) (w.setCells g j vs) ∧ w.heap.size ≤ (w.setCells g j vs).heap.size ∧ ∀ k, k ≠ g → (w.setCells g j vs).heap[k]? = w.heap[k]? := by
  have hr : RowH w (.slice A n cp) e sz n xs := (hw.own _ (List.mem_cons_self ..)).1
  have hk := (hw.own _ (List.mem_cons_self ..)).2
  rcases hr.2 with ⟨he, h0⟩ | ⟨g, cap, cur, fz, he, hg, hnc, hcm, hcs, htake, hfz⟩
  · subst h0
    have : xs = [] := List.eq_nil_of_length_eq_zero (by simpa using hr.1)
    subst this
    exfalso
    simp only [List.length_nil] at hj
    omega
  · cases he
    have hxl : xs.length ≤ cur.toList.length := by rw [← htake, List.length_take]; omega
    have hjc : j + vs.length ≤ cur.toList.length := Nat.le_trans hj hxl
    obtain ⟨h2, h3, h4, h5, h6⟩ := setCells_fields g vs j w
    have hg' : w.heap[g]? = some (.cells ⟨cur.toList⟩ e fz) := by simpa using hg
    have hh := heap_setCells g e fz vs j cur.toList w hg' hjc
    have hrun := run_storeCells_row c.P g e fz vs j cur.toList w hg' hjc (by simpa using hfz) h1
    refine ⟨g, rfl, hnc, hrun, ?_, by rw [h5]; exact Nat.le_refl _, h6⟩
    have hrest : St c H w := hw.sub (List.sublist_cons_self _ _)
    have hkg := hk g rfl
    have hn : ∀ y ∈ H, y.blk ≠ some g := fun y hy he => by
      have := hw.apart
      rw [List.filterMap_cons] at this
      exact (List.nodup_cons.1 this).1 (List.mem_filterMap.2 ⟨y, hy, he⟩)
    have hm : ModW c.M c.w0 (w.setCells g j vs) := ⟨h2.trans hw.mod.os, h3.trans hw.mod.tape, h4.trans hw.mod.output, by rw [h5]; exact hw.mod.size, fun k hk' hM => by
      rw [h6 k (fun e' => by subst e'; rcases hkg.2 with h | h; omega; exact hM h)]
      exact hw.mod.block k hk' hM⟩
    refine St.push ⟨hm, fun y hy => ⟨Ent.holds_of_block (hrest.own y hy).1 fun b' e' => h6 b' (fun e2 => by subst e2; exact hn y hy e'), fun b' e' => by rw [h5]; exact (hrest.own y hy).2 b' e'⟩, hrest.apart⟩ ⟨?_, .inr ⟨g, _, _, fz, rfl, hh, hnc, hcm, ?_, ?_, ?_⟩⟩ (fun b' e' => ?_) (fun b' e' y hy => ?_)
    · rw [← hr.1]
      simp only [List.length_append, List.length_take, List.length_drop]
      omega
    · simp only [List.size_toArray, List.length_append, List.length_take, List.length_drop, Array.length_toList] at hjc ⊢
      omega
    · show (cur.toList.take j ++ vs ++ cur.toList.drop (j + vs.length)).take (n * sz) = _
      have hnl : n * sz = xs.length := hr.1.symm
      rw [List.take_append, List.take_of_length_le (by simp; omega)]
      congr 1
      · congr 1
        rw [← htake, List.take_take, Nat.min_eq_left (by omega)]
      · simp only [List.length_append, List.length_take]
        rw [← htake, List.drop_take, Nat.min_eq_left (by omega)]
    · rcases hfz with h | h
      · exact .inl h
      · right
        simp only [List.size_toArray, List.length_append, List.length_take, List.length_drop, Array.length_toList] at hjc ⊢
        omega
    · obtain rfl : g = b' := Option.some.inj e'
      rw [h5]; exact hkg
    · obtain rfl : g = b' := Option.some.inj e'
      exact hn y hy
/-- Several cells of a row are stored. -/
theorem Sto.rowN {A : Option Addr} {cp e sz n j k : Nat} {xs vs : List Value} {K : Hp → Prop} (hk : vs.length = k) (h0 : 0 < k) (hj : j + k ≤ xs.length) (h1 : ∀ v ∈ vs, v.oneCell' = true) (kk : K (.row (.slice A n cp) e sz n (xs.take j ++ vs ++ xs.drop (j + k)) :: H)) : Sto c (.row (.slice A n cp) e sz n xs :: H) (.pointer (some ((A.getD at0).add j))) (.agg ⟨vs⟩) k K := by
  subst hk
  refine ⟨_, _, rfl, rfl, kk, rfl, fun w hw => ?_⟩
  obtain ⟨g, rfl, _, hrun, hs, hz, hf⟩ := hw.setRowCells hj h1 h0
  have hadd : ((some (⟨g, 0, none⟩ : Addr)).getD at0).add j = ⟨g, j, none⟩ := by simp [Addr.add_lit]
  rw [hadd]
  exact ⟨by simp [Ent.blk, Value.ownBlock], _, hrun, hs, hz, hf⟩
theorem Sto.trN {A : Option Addr} {cp e sz n j k : Nat} {xs vs xs' : List Value} {f : List Value → Hp} {K : Hp → Prop} [h : RowAt A H cp e sz n n xs f] (hv : xs.take j ++ vs ++ xs.drop (j + k) = xs') (hk : vs.length = k) (h0 : 0 < k) (hj : j + k ≤ xs.length) (h1 : ∀ v ∈ vs, v.oneCell' = true) (kk : K (f xs')) : Sto c H (.pointer (some ((A.getD at0).add j))) (.agg ⟨vs⟩) k K := by
  obtain ⟨H1, H2, rfl, hf⟩ := h.ok
  refine Sto.skips H1 (Sto.rowN hk h0 hj h1 ?_)
  rw [hv, ← hf]; exact kk
/-- A field of a row's element is stored. -/
theorem Sto.trF {A : Option Addr} {cp e sz n j o : Nat} {xs xs' : List Value} {f : List Value → Hp} {v : Value} {K : Hp → Prop} [h : RowAt A H cp e sz n n xs f] (hv : xs.set (j + o) v = xs') (hj : j + o < xs.length) (h1 : v.oneCell' = true) (k : K (f xs')) : Sto c H (.pointer (some (((A.getD at0).add j).add o))) v 1 K := by
  rw [add_add]
  exact Sto.tr hv hj h1 k
theorem RowAt.cap {A : Option Addr} {cp e sz n n' : Nat} {xs : List Value} {f : List Value → Hp} (h : RowAt A H cp e sz n n' xs f) {w : World} (hw : St c H w) : n' = n ∧ n ≤ cp := by
  obtain ⟨H1, H2, rfl, _⟩ := h.ok
  have hr : RowH w (.slice A n' cp) e sz n xs := (hw.own (.row (.slice A n' cp) e sz n xs) (by simp)).1
  rcases hr.2 with ⟨he, h0⟩ | ⟨g, cap, cur, fz, he, _, hn, _⟩
  · cases he; exact ⟨h0.symm, by omega⟩
  · cases he; exact ⟨rfl, hn⟩
/-- A row's first elements. -/
theorem RowH.cut {w : World} {A : Option Addr} {cp e sz n k : Nat} {xs : List Value} (h : RowH w (.slice A n cp) e sz n xs) (hk : k ≤ n) : RowH w (.slice A k cp) e sz k (xs.take (k * sz)) := by
  have hks : k * sz ≤ n * sz := Nat.mul_le_mul_right _ hk
  refine ⟨by rw [List.length_take, h.1]; omega, ?_⟩
  rcases h.2 with ⟨he, h0⟩ | ⟨g, cap, cur, fz, he, hg, hnc, hcm, hcs, htake, hfz⟩
  · cases he
    obtain rfl : k = 0 := by omega
    exact .inl ⟨rfl, rfl⟩
  · cases he
    exact .inr ⟨g, _, cur, fz, rfl, hg, by omega, hcm, hcs, by rw [← htake, List.take_take, Nat.min_eq_left hks], hfz⟩
theorem St.cut {A : Option Addr} {cp e sz n k : Nat} {xs : List Value} {w : World} (hw : St c (.row (.slice A n cp) e sz n xs :: H) w) (hk : k ≤ n) : St c (.row (.slice A k cp) e sz k (xs.take (k * sz)) :: H) w := by
  have hb : (Ent.row (.slice A k cp) e sz k (xs.take (k * sz))).blk = (Ent.row (.slice A n cp) e sz n xs).blk := by cases A <;> rfl
  exact ⟨hw.mod, fun y hy => by
    rcases List.mem_cons.1 hy with rfl | hy
    · have ho := hw.own _ (List.mem_cons_self ..)
      exact ⟨RowH.cut ho.1 hk, by rw [hb]; exact ho.2⟩
    · exact hw.own y (List.mem_cons_of_mem _ hy), by
    have := hw.apart
    rw [List.filterMap_cons] at this ⊢
    rw [hb]
    exact this⟩
/-- x[:h]: the elements are there. -/
theorem SlcV.to {A : Option Addr} {n cp sz : Nat} {h : Int} {K : Value → Prop} {e sz' n0 n' : Nat} {xs : List Value} {f : List Value → Hp} [hr : RowAt A H cp e sz' n0 n' xs f] (h0 : 0 ≤ h) (h1 : h ≤ n0) (k : K (.slice A h.toNat cp)) : SlcV c H A n cp 0 (some h) sz K := by
  refine ⟨Int.le_refl _, h0, fun h' e w hw => ?_, ?_⟩
  · cases e
    have := (hr.cap hw).2
    omega
  · have : A.map (·.add ((0 : Int).toNat * sz)) = A := by
      cases A with
      | none => rfl
      | some a =>
        simp only [Option.map_some, Int.toNat_zero, Nat.zero_mul, Option.some.injEq]
        unfold Addr.add
        split <;> simp_all
    simp only [this, ite_self, Option.getD_some]
    exact k
/-- x[lo:], of any slice. -/
theorem SlcV.from {A : Option Addr} {n cp sz : Nat} {lo : Int} {K : Value → Prop} (h0 : 0 ≤ lo) (h1 : lo ≤ n) (k : K (.slice (if (cp : Int) = lo then A else A.map (·.add (lo.toNat * sz))) (n - lo.toNat) (cp - lo.toNat))) : SlcV c H A n cp lo none sz K :=
  ⟨h0, by simpa using h1, (fun h' e => (by cases e)), by simpa using k⟩
/-- A slice, held against nil. -/
theorem OthP.nilEq {T : Ty} {d : Option Nat} {t e yt ty : TypeId} {x : Operand} {pos : String} {after : Array Edge} {gd : Option (Nat × Bool)} {fr : Fr} {A : Option Addr} {n cp : Nat} {K : Value → Prop} (hT : TOk c.P T) (ht : (lookT T t).d = .slice e)
    (hx : evK fr x fun v => v = .slice A n cp) (k : K (.bool A.isNone)) : OthP c ⟨d, .binOp .eql t x (.const (.slice none 0 0)) yt, ty, pos, after, gd⟩ fr H K := ⟨⟨_, k, fun w _ => by
  rw [evK_eq] at hx
  have hu := (lookT_ok hT (t := t) (by rw [ht]; intro h; cases h)).1
  rw [ht] at hu
  have hy : (act fr).eval (.const (.slice none 0 0)) = .slice none 0 0 := rfl
  have hr := run_equal_slice_nil (P := c.P) (w := w) t e A n cp hu
  generalize (act fr).eval = ρ at *
  have hg : (eqGuard .eql t x (.const (.slice none 0 0)) (.slice A n cp) (.slice none 0 0)).run c.P w = .ok () w := rfl
  have hb : (binOp .eql t (.slice A n cp) (.slice none 0 0)).run c.P w = .ok (.bool A.isNone) w := by
    show (do pure (.bool (← Op.equal t (.slice A n cp) (.slice none 0 0))) : Sem Value).run c.P w = _
    rw [Sem.run_bind, hr]
    rfl
  simp only [execOp, hx, hy, Sem.run_bind, hg, Result.andThen_ok, hb]
  rfl⟩⟩
theorem zero_one {z : Array Value} (h : ∀ v ∈ z.toList, v.oneCell' = true) (n : Nat) : ∀ v ∈ (Builtin.zeroCells z n).toList, v.oneCell' = true := by
  intro v hv
  simp only [Builtin.zeroCells, Array.toList_map, List.mem_map] at hv
  obtain ⟨i, _, rfl⟩ := hv
  by_cases hz : z.size = 0
  · rename_i hi
    simp [hz] at hi
  · have hlt : i % z.size < z.size := Nat.mod_lt _ (by omega)
    rw [getElem!_pos z _ hlt]
    exact h _ (by simp)
/-- clear(x[lo:]). -/
theorem Oth.clear {T : Ty} {d : Option Nat} {t e ty : TypeId} {x : Operand} {pos : String} {after : Array Edge} {gd : Option (Nat × Bool)} {fr : Fr} {A : Option Addr} {cp sz n lo : Nat} {xs : List Value} {f : List Value → Hp} {K : Value → Hp → Prop} [hr : RowAt A H cp e sz n n xs f] (hT : TOk c.P T)
    (ht : (lookT T t).d = .slice e) (he : (lookT T e).d ≠ .invalid) (hz : (lookT T e).zero.cells.size = sz) (h0 : 0 < sz) (h1 : ∀ v ∈ (lookT T e).zero.cells.toList, v.oneCell' = true) (hlo : lo ≤ n)
    (hx : evK fr x fun v => v = .slice (if (cp : Int) = (lo : Int) then A else A.map (·.add ((lo : Int).toNat * sz))) (n - (lo : Int).toNat) (cp - (lo : Int).toNat))
    (k : ∀ ys, ys.length = xs.length → ys.take (lo * sz) = xs.take (lo * sz) → K (.tuple ⟨[]⟩) (f ys)) : Oth c false ⟨d, .call ⟨.builtin .clear, #[x], #[t]⟩, ty, pos, after, gd⟩ fr H K := ⟨fun w hw => by
  rw [evK_eq] at hx
  have hu := (lookT_ok hT (t := t) (by rw [ht]; intro h; cases h)).1
  rw [ht] at hu
  have hzv := run_zeroValue (lookT_ok hT (t := e) he)
  have hcap := (hr.cap hw).2
  obtain ⟨H1, H2, rfl, hf⟩ := hr.ok
  have hw1 : St c (.row (.slice A n cp) e sz n xs :: (H1 ++ H2)) w := hw.perm List.perm_middle
  have hrow : RowH w (.slice A n cp) e sz n xs := (hw1.own _ (List.mem_cons_self ..)).1
  by_cases hn : n - lo = 0
  · refine ⟨.tuple ⟨[]⟩, w, f xs, ?_, by rw [hf]; exact hw, k xs rfl rfl, fun h => by cases h⟩
    generalize (act fr).eval = ρ at *
    rw [Int.toNat_natCast, hn] at hx
    simp only [go_sem, Builtin.clear_]
    simp [hx, run_underlying hu]
    split <;> simp_all
  · have hlen : (Builtin.zeroCells (lookT T e).zero.cells (n - lo)).toList.length = (n - lo) * sz := by simp [Builtin.zeroCells, hz]
    have hpos : 0 < (n - lo) * sz := Nat.mul_pos (by omega) h0
    have hsum : lo * sz + (n - lo) * sz = n * sz := by rw [← Nat.add_mul]; congr 1; omega
    obtain ⟨g, rfl, _, hrun, hs, _, _⟩ := hw1.setRowCells (j := lo * sz) (vs := (Builtin.zeroCells (lookT T e).zero.cells (n - lo)).toList) (by rw [hlen, hrow.1, hsum]; exact Nat.le_refl _) (zero_one h1 _) (by rw [hlen]; exact hpos)
    refine ⟨.tuple ⟨[]⟩, _, f (xs.take (lo * sz) ++ (Builtin.zeroCells (lookT T e).zero.cells (n - lo)).toList ++ xs.drop (lo * sz + (Builtin.zeroCells (lookT T e).zero.cells (n - lo)).toList.length)), ?_, by rw [hf]; exact hs.perm List.perm_middle.symm, k _ ?_ ?_, fun h => by cases h⟩
    · rw [if_neg (by omega)] at hx
      simp only [Int.toNat_natCast, Option.map_some, Addr.add_lit, Nat.zero_add] at hx
      obtain ⟨q, hq⟩ : ∃ q, n - lo = q + 1 := ⟨n - lo - 1, by omega⟩
      generalize (act fr).eval = ρ at *
      simp only [go_sem, Builtin.clear_]
      simp [hx, run_underlying hu]
      rw [hq] at hrun ⊢
      simp only [hzv, Result.andThen_ok]
      erw [hrun]
      rfl
    · simp only [List.length_append, List.length_take, List.length_drop, hlen, hrow.1]
      omega
    · rw [List.append_assoc, List.take_left' (by rw [List.length_take, hrow.1]; omega)]⟩
/-- What is known behind a call may be turned. -/
theorem CallK.post {m : Bool} {f : Nat} {args : List Value} {K : Value → Hp → Prop} (h : CallK c m f args H fun v H' => ∃ H2, (∀ w, St c H' w → St c H2 w) ∧ K v H2) : CallK c m f args H K :=
  ⟨h.go.imp (fun h => ⟨h.1, fun w hw => (h.2 w hw).mono fun _ w' ⟨v, _, he, hs, ⟨H2, hx, hk⟩, hr⟩ => ⟨v, H2, he, hx w' hs, hk, hr⟩⟩) fun h w hw => by
    obtain ⟨v, w', _, he, hs, ⟨H2, hx, hk⟩, hr⟩ := h w hw
    exact ⟨v, w', H2, he, hx w' hs, hk, hr⟩⟩
/-- A function that gives back a slice of its own, in a form; it has room. -/
theorem CallK.fnG {m : Bool} {f : Nat} {args : List Value} {pre : World → Prop} {G : Value → Value} {e sz n : Nat} {xs : List Value} {K : Value → Hp → Prop} (h : FnE c.P c.g f args pre fun w v w' => ∃ u, v = G u ∧ rowPost e sz n xs w u w') (hp : ∀ w, St c H w → pre w)
    (k : ∀ A cp, n ≤ cp → K (G (.slice A n cp)) (.row (.slice A n cp) e sz n xs :: H)) : CallK c m f args H K :=
  CallK.fnE h hp fun w v w' hw ⟨u, hv, hr, hb⟩ hR => by
    have hu : ∃ A cp, u = .slice A n cp ∧ n ≤ cp := by
      rcases hr.2 with ⟨he, h0⟩ | ⟨g, cap, cur, fz, he, _, hn, _⟩
      · exact ⟨none, 0, by rw [he, h0], by omega⟩
      · exact ⟨_, _, he, hn⟩
    obtain ⟨A, cp, rfl, hc⟩ := hu
    refine ⟨_, (hw.below hR).push (x := .row (.slice A n cp) e sz n xs) hr (fun b hbe => ⟨(hb b hbe).2, .inl (Nat.le_trans hw.mod.size (hb b hbe).1)⟩) (fun b hbe y hy he => ?_), hv ▸ k A cp hc⟩
    have h1 := (hb b hbe).1
    have h2 := ((hw.own y hy).2 b he).1
    omega
theorem FnE.G {P : Program} {g : GI} {f : FuncId} {args : List Value} {L : List (Option Addr × List Value)} {e sz n : Nat} {xs : List Value} (h : FnS P g f args L e sz n xs) : FnE P g f args (fun w => RdL w L) fun w v w' => ∃ u, v = u ∧ rowPost e sz n xs w u w' :=
  ⟨h.can, fun w hG hp => (h.ok w hG hp).mono fun _ _ ⟨v, he, hv, hr⟩ => ⟨v, he, ⟨v, rfl, hv⟩, hr⟩⟩
theorem CallK.fnSc {m : Bool} {f : Nat} {args : List Value} {L : List (Option Addr × List Value)} {e sz n : Nat} {xs : List Value} {K : Value → Hp → Prop} (h : FnS c.P c.g f args L e sz n xs) (hp : RdsL c H L) (k : ∀ A cp, n ≤ cp → K (.slice A n cp) (.row (.slice A n cp) e sz n xs :: H)) : CallK c m f args H K :=
  CallK.fnG (G := fun u => u) h.G (fun _ hw => hp.at hw) k
theorem rowPost.nil {P : Program} {g : GI} {w : World} {hG : g.G w} {H : Hp} (e sz : Nat) : ∀ w', St (mkC P g w hG) H w' → rowPost e sz 0 [] w (.slice none 0 0) w' := fun _ _ => ⟨⟨by simp, .inl ⟨rfl, rfl⟩⟩, fun _ h => by cases h⟩
/-- Is a value of an interface's type nil? -/
def isNilI : Value → Option Bool | .nilIface => some true | .iface _ _ => some false | _ => none
theorem run_eqNilI {P : Program} {t : TypeId} {ms : Array (String × TypeId)} {v : Value} {b : Bool} (hu : P.underlying t = some (.interface ms)) (hv : isNilI v = some b) (w : World) : (Op.equal t v .nilIface).run P w = .ok b w := by
  have e : Op.equal t v .nilIface = Op.equalIn (9999 + 1) t v .nilIface := rfl
  rw [e, Op.equalIn, Sem.run_bind, run_underlying hu]
  cases v <;> simp only [isNilI, Option.some.injEq, reduceCtorEq] at hv
  · subst hv; rfl
  · subst hv; rfl
theorem eqGuard_nilI {P : Program} {op : BinOp} {t : TypeId} {x : Operand} {v : Value} (w : World) : (eqGuard op t x (.const .nilIface) v .nilIface).run P w = .ok () w := by
  cases op <;> cases v <;> first | rfl | (cases x <;> rfl)
theorem OthP.ifEq {T : Ty} {d : Option Nat} {t yt ty : TypeId} {x : Operand} {pos : String} {after : Array Edge} {gd : Option (Nat × Bool)} {fr : Fr} {ms : Array (String × TypeId)} {v : Value} {b : Bool} {K : Value → Prop} (hT : TOk c.P T) (ht : (lookT T t).d = .interface ms)
    (hx : evK fr x fun u => u = v) (hv : isNilI v = some b) (k : K (.bool b)) : OthP c ⟨d, .binOp .eql t x (.const .nilIface) yt, ty, pos, after, gd⟩ fr H K := ⟨⟨_, k, fun w _ => by
  rw [evK_eq] at hx
  have hu := (lookT_ok hT (t := t) (by rw [ht]; intro h; cases h)).1
  rw [ht] at hu
  have hy : (act fr).eval (.const .nilIface) = .nilIface := rfl
  generalize (act fr).eval = ρ at *
  have hb : (binOp .eql t v .nilIface).run c.P w = .ok (.bool b) w := by
    have e : binOp .eql t v .nilIface = (do pure (.bool (← Op.equal t v .nilIface)) : Sem Value) := by cases v <;> first | rfl | (simp [isNilI] at hv)
    rw [e, Sem.run_bind, run_eqNilI hu hv]
    rfl
  simp only [execOp, hx, hy, Sem.run_bind, eqGuard_nilI, Result.andThen_ok, hb]
  rfl⟩⟩
theorem OthP.ifNe {T : Ty} {d : Option Nat} {t yt ty : TypeId} {x : Operand} {pos : String} {after : Array Edge} {gd : Option (Nat × Bool)} {fr : Fr} {ms : Array (String × TypeId)} {v : Value} {b : Bool} {K : Value → Prop} (hT : TOk c.P T) (ht : (lookT T t).d = .interface ms)
    (hx : evK fr x fun u => u = v) (hv : isNilI v = some b) (k : K (.bool (!b))) : OthP c ⟨d, .binOp .neq t x (.const .nilIface) yt, ty, pos, after, gd⟩ fr H K := ⟨⟨_, k, fun w _ => by
  rw [evK_eq] at hx
  have hu := (lookT_ok hT (t := t) (by rw [ht]; intro h; cases h)).1
  rw [ht] at hu
  have hy : (act fr).eval (.const .nilIface) = .nilIface := rfl
  generalize (act fr).eval = ρ at *
  have hb : (binOp .neq t v .nilIface).run c.P w = .ok (.bool (!b)) w := by
    have e : binOp .neq t v .nilIface = (do pure (.bool (!(← Op.equal t v .nilIface))) : Sem Value) := by cases v <;> first | rfl | (simp [isNilI] at hv)
    rw [e, Sem.run_bind, run_eqNilI hu hv]
    rfl
  simp only [execOp, hx, hy, Sem.run_bind, eqGuard_nilI, Result.andThen_ok, hb]
  rfl⟩⟩
/-- A value is wrapped into an interface's. -/
theorem OthP.mkI {T : Ty} {d : Option Nat} {xt ty : TypeId} {x : Operand} {pos : String} {after : Array Edge} {gd : Option (Nat × Bool)} {fr : Fr} {v : Value} {K : Value → Prop} (hT : TOk c.P T) (ht : (match (lookT T xt).d with | .interface _ => false | .invalid => false | _ => true) = true)
    (hx : evK fr x fun u => u = v) (k : K (.iface xt v)) : OthP c ⟨d, .makeInterface xt x, ty, pos, after, gd⟩ fr H K := ⟨⟨_, k, fun w _ => by
  rw [evK_eq] at hx
  have hu := (lookT_ok hT (t := xt) (by intro h; rw [h] at ht; cases ht)).1
  generalize (act fr).eval = ρ at *
  have hr : (Instr.makeInterface xt v).run c.P w = .ok (.iface xt v) w := by
    unfold Instr.makeInterface
    rw [Sem.run_bind, run_underlying hu]
    cases hd : (lookT T xt).d <;> rw [hd] at ht <;> first | rfl | cases ht
  simp only [execOp, hx, Sem.run_bind, hr, Result.andThen_ok, Sem.run_pure]⟩⟩
/-- Any operation on two integers, by its own run. -/
theorem OthP.ints {d : Option Nat} {op : BinOp} {t yt ty : TypeId} {x y : Operand} {pos : String} {after : Array Edge} {gd : Option (Nat × Bool)} {fr : Fr} {k k' : IntKind} {a b : Int} {v : Value} {K : Value → Prop}
    (hx : evK fr x fun u => u = .int k a) (hy : evK fr y fun u => u = .int k' b) (hr : ∀ w, (binOp op t (.int k a) (.int k' b)).run c.P w = .ok v w) (kk : K v) : OthP c ⟨d, .binOp op t x y yt, ty, pos, after, gd⟩ fr H K := ⟨⟨_, kk, fun w _ => by
  rw [evK_eq] at hx hy
  generalize (act fr).eval = ρ at *
  have hg : (eqGuard op t x y (.int k a) (.int k' b)).run c.P w = .ok () w := by
    unfold eqGuard
    split <;> rfl
  simp only [execOp, hx, hy, Sem.run_bind, hg, Result.andThen_ok, hr]
  rfl⟩⟩
end
/-! The steps that a walk takes by itself, in short: what they ask is shown in passing. -/
section
variable {c : Ctx} {H : Hp}
theorem tk1 {b i : Nat} {vs : List Value} {t : TypeId} {f : List Value → Hp} {v : Value} {K : Value → Prop} [h : BoxAt b H vs t f] (k : K v) (hv : vs[i]? = some v := by exact rfl) : Ld c H (.pointer (some ⟨b, i, none⟩)) none K := Ld.tc hv k
theorem tk2 {b n : Nat} {vs : List Value} {t : TypeId} {f : List Value → Hp} {K : Value → Prop} [h : BoxAt b H vs t f] (k : K (.agg ⟨vs⟩)) (hn : vs.length = n := by exact rfl) : Ld c H (.pointer (some ⟨b, 0, none⟩)) (some n) K := Ld.tv hn k
theorem tk3 {b i n : Nat} {vs us : List Value} {t : TypeId} {f : List Value → Hp} {K : Value → Prop} [h : BoxAt b H vs t f] (k : K (.agg ⟨us⟩)) (hu : (vs.drop i).take n = us := by exact rfl) (hn : us.length = n := by exact rfl) : Ld c H (.pointer (some ⟨b, i, none⟩)) (some n) K := Ld.tw hu hn k
theorem tk4 {z : Int} {K : Value → Prop} (k : K (.int .i64 z)) (h : -9223372036854775808 ≤ z := by first | omega | decide | (simp only [List.length_cons, List.length_nil, List.length_append]; omega)) (h' : z ≤ 9223372036854775807 := by first | omega | decide | (simp only [List.length_cons, List.length_nil, List.length_append]; omega)) : Ar .i64 z K := Ar.in64 h h' k
theorem tk5 {p : Prop} {K : Value → Prop} (k : K (.bool true)) (h : p := by first | omega | decide | (simp only [List.length_cons, List.length_nil, List.length_append]; omega)) : Cmp p K := Cmp.t h k
theorem tk6 {p : Prop} {K : Value → Prop} (k : K (.bool false)) (h : ¬ p := by first | omega | decide | (simp only [List.length_cons, List.length_nil, List.length_append]; omega)) : Cmp p K := Cmp.f h k
theorem tk7 {b n : Nat} {vs xs : List Value} {t : TypeId} {f : List Value → Hp} {K : Hp → Prop} [h : BoxAt b H vs t f] (k : K (f xs)) (hn : xs.length = n := by exact rfl) (hv : vs.length = n := by exact rfl) (h1 : ∀ x ∈ xs, x.oneCell' = true := by simp [Value.oneCell']) : Sto c H (.pointer (some ⟨b, 0, none⟩)) (.agg ⟨xs⟩) n K := Sto.tv hn hv h1 k
theorem tk8 {b i : Nat} {vs vs' : List Value} {t : TypeId} {f : List Value → Hp} {v : Value} {K : Hp → Prop} [h : BoxAt b H vs t f] (k : K (f vs')) (hv : vs.set i v = vs' := by exact rfl) (hi : i < vs.length := by exact Nat.le_of_ble_eq_true (by exact rfl)) (h1 : v.oneCell' = true := by exact rfl) : Sto c H (.pointer (some ⟨b, i, none⟩)) v 1 K := Sto.tc hv hi h1 k
theorem tk9 {b i n : Nat} {vs xs vs' : List Value} {t : TypeId} {f : List Value → Hp} {K : Hp → Prop} [h : BoxAt b H vs t f] (k : K (f vs')) (hv : vs.take i ++ xs ++ vs.drop (i + n) = vs' := by exact rfl) (hn : xs.length = n := by exact rfl) (hi : i + n ≤ vs.length := by exact Nat.le_of_ble_eq_true (by exact rfl)) (h1 : ∀ x ∈ xs, x.oneCell' = true := by simp [Value.oneCell']) : Sto c H (.pointer (some ⟨b, i, none⟩)) (.agg ⟨xs⟩) n K := Sto.tw hv hn hi h1 k
theorem tk10 {l : List UInt8} {e : Nat} {K : Value → Hp → Prop} (k : ∀ b cp, K (.slice (some ⟨b, 0, none⟩) l.length cp) (.row (.slice (some ⟨b, 0, none⟩) l.length cp) e 1 l.length (l.map byteV) :: H)) (h : l.length ≤ 9223372036854775807 := by omega) : S2B l e H K := S2B.go h k
theorem tk11 {vs : List Value} {e sz n : Nat} {K : Value → Hp → Prop} (k : ∀ b, K (.slice (some ⟨b, 0, none⟩) n n) (.row (.slice (some ⟨b, 0, none⟩) n n) e sz n vs :: H)) (h : vs.length = n * sz := by exact rfl) (h1 : n * sz ≤ 16777216 := by decide) (h2 : n ≤ 16777216 := by decide) : BSl vs e sz n H K := BSl.go h h1 h2 k
theorem tk12 {vs : List Value} {t : Nat} {K : Value → Hp → Prop} (k : ∀ b, K (.pointer (some ⟨b, 0, none⟩)) (.box b vs t :: H)) : Alc vs t H K := Alc.mk k
theorem slc {l : List UInt8} {lo hi : Int} {K : Value → Prop} (k : K (str ((l.take hi.toNat).drop lo.toNat))) (h0 : 0 ≤ lo := by first | omega | decide | (simp only [List.length_cons, List.length_nil, List.length_append]; omega)) (h1 : lo ≤ hi := by first | omega | decide | (simp only [List.length_cons, List.length_nil, List.length_append]; omega)) (h2 : hi ≤ l.length := by first | omega | decide | (simp only [List.length_cons, List.length_nil, List.length_append]; omega)) : SlcS l lo hi K := SlcS.at h0 h1 h2 k
end
theorem Fn.to {P : Program} {g : GI} {f : FuncId} {args : List Value} {v v' : Value} (h : Fn P g f args v) (e : v = v') : Fn P g f args v' := e ▸ h
theorem FnE.toV {P : Program} {g : GI} {f : FuncId} {args : List Value} {pre : World → Prop} {v v' : Value} (h : FnE P g f args pre fun _ x _ => x = v) (e : v = v') : FnE P g f args pre fun _ x _ => x = v' := e ▸ h
theorem CallK.fnAny {c : Ctx} {H : Hp} {m : Bool} {f : Nat} {args : List Value} {pre : World → Prop} {K : Value → Hp → Prop} (h : FnE c.P c.g f args pre fun _ v _ => ∃ b, v = .bool b) (hp : ∀ w, St c H w → pre w) (k : ∀ b, K (.bool b) H) : CallK c m f args H K :=
  CallK.fnE h hp fun _ _ _ hs hv hr => by
    obtain ⟨b, rfl⟩ := hv
    exact ⟨_, hs.below hr, k b⟩
theorem FnE.toS {P : Program} {g : GI} {f : FuncId} {args : List Value} {L : List (Option Addr × List Value)} {e sz n n' : Nat} {xs xs' : List Value} (h : FnS P g f args L e sz n xs) (e1 : n = n') (e2 : xs = xs') : FnS P g f args L e sz n' xs' := e1 ▸ e2 ▸ h
end Go.Proofs.YtnaeeklnlddcaaaDoor.Vex
/- Arguments of any readable type: what their cells are, and what they lean on in the memory; what an UptoSaid's bound gives of them. -/
namespace Go.Proofs.YtnaeeklnlddcaaaDoor.Vex
open Go Go.RowKit Go.ChangeShapes Go.WideShapes Go.Deep

/-- A kind of data: its cells, what it asks of a world, and how much it weighs at least. -/
structure Shape where
  α : Type
  n : Nat
  f : α → List Value
  ok : World → α → Prop
  wt : α → Nat
/-- Cells of type t that can be read are data of this kind. -/
def Opens (P : Program) (t : TypeId) (S : Shape) : Prop := P.cellsOf t = S.n ∧ ∀ {H : Type} {enc : TypeId × Value → H} {W : World} {fuel : Nat} {cs : List Value} {d : DataW H} {p : List MemPlace},
  DataW.trod enc P W 0 (fun _ => true) true fuel t cs = some (d, p) → ∃ x : S.α, cs = S.f x ∧ S.ok W x ∧ S.wt x ≤ Rows.uptoBulk d ∧ (S.f x).length = S.n
/-- Some fields of a struct, from one place on. -/
def OpensL (P : Program) (fl : List Field) (o : Nat) (S : Shape) : Prop := ∀ {H : Type} {enc : TypeId × Value → H} {W : World} {fuel : Nat} {cs : List Value} {xs : List (DataW H × List MemPlace)},
  xs.length = fl.length → (∀ (i : Nat) (f : Field), fl[i]? = some f → DataW.trod enc P W 0 (fun _ => true) true fuel f.type ((cs.drop f.offset).take (P.cellsOf f.type)) = xs[i]?) →
  ∃ x : S.α, (cs.drop o).take S.n = S.f x ∧ S.ok W x ∧ S.wt x ≤ Rows.uptoBulkAll (xs.map (·.1)) ∧ (S.f x).length = S.n

abbrev strShape : Shape := ⟨List UInt8, 1, fun l => [str l], fun _ l => l.length ≤ 9223372036854775807, fun l => l.length + 1⟩
abbrev intShape (k : IntKind) : Shape := ⟨Int, 1, fun n => [.int k n], fun _ n => k.min ≤ n ∧ n ≤ k.max, fun _ => 1⟩
abbrev boolShape : Shape := ⟨Bool, 1, fun b => [.bool b], fun _ _ => True, fun _ => 1⟩
abbrev unitShape : Shape := ⟨Unit, 0, fun _ => [], fun _ _ => True, fun _ => 0⟩
abbrev pairShape (S T : Shape) : Shape := ⟨S.α × T.α, S.n + T.n, fun x => S.f x.1 ++ T.f x.2, fun w x => S.ok w x.1 ∧ T.ok w x.2, fun x => S.wt x.1 + T.wt x.2⟩
/-- A slice that came in. -/
structure Sl (α : Type) where
  A : Option Addr
  cp : Nat
  l : List α
abbrev sliceShape (S : Shape) : Shape := ⟨Sl S.α, 1, fun x => [.slice x.A x.l.length x.cp], fun w x => x.l.length ≤ x.cp ∧ Rdw w x.A (x.l.flatMap S.f) ∧ ∀ e ∈ x.l, S.ok w e, fun x => (x.l.map S.wt).sum + 1⟩

section
variable {P : Program}
theorem opens_str {t : TypeId} (ht : P.underlying t = some .string) (hc : P.cellsOf t = 1) : Opens P t strShape := ⟨hc, fun h => by
  obtain ⟨s, rfl, hx, hs⟩ := DataW.trod_string ht h
  refine ⟨s.data.toList, rfl, ?_, ?_, rfl⟩
  · unfold maxLen at hs
    exact (show s.data.toList.length ≤ _ by rw [Array.length_toList]; exact hs)
  · rw [(Prod.mk.inj hx).1]
    simp [Rows.uptoBulk]⟩
theorem opens_int {t : TypeId} {k : IntKind} (ht : P.underlying t = some (.int k)) (hc : P.cellsOf t = 1) : Opens P t (intShape k) := ⟨hc, fun h => by
  obtain ⟨n, rfl, hx, hw⟩ := DataW.trod_int ht h
  refine ⟨n, rfl, by simpa [Lit.wf] using hw, ?_, rfl⟩
  rw [(Prod.mk.inj hx).1]
  simp [Rows.uptoBulk]⟩
theorem opens_bool {t : TypeId} (ht : P.underlying t = some .bool) (hc : P.cellsOf t = 1) : Opens P t boolShape := ⟨hc, fun h => by
  obtain ⟨n, rfl, hx⟩ := DataW.trod_bool ht h
  refine ⟨n, rfl, trivial, ?_, rfl⟩
  rw [(Prod.mk.inj hx).1]
  simp [Rows.uptoBulk]⟩
theorem opensL_nil (o : Nat) : OpensL P [] o unitShape := fun {H enc W fuel cs xs} hl _ => by
  obtain rfl : xs = [] := List.eq_nil_of_length_eq_zero hl
  exact ⟨(), by simp, trivial, by simp [Rows.uptoBulkAll], rfl⟩
theorem opensL_cons {f : Field} {r : List Field} {o : Nat} {S T : Shape} (ho : f.offset = o) (h1 : Opens P f.type S) (h2 : OpensL P r (o + S.n) T) : OpensL P (f :: r) o (pairShape S T) := fun {H enc W fuel cs xs} hl h => by
  cases xs with
  | nil => simp at hl
  | cons x xs =>
    have h0 := h 0 f rfl
    rw [ho, h1.1] at h0
    obtain ⟨a, ha, ka, wa, la⟩ := h1.2 (show DataW.trod enc P W 0 (fun _ => true) true fuel f.type ((cs.drop o).take S.n) = some (x.1, x.2) from h0)
    obtain ⟨b, hb, kb, wb, lb⟩ := h2 (xs := xs) (by simpa using hl) (fun i g hg => by simpa using h (i + 1) g (by simpa using hg))
    refine ⟨(a, b), ?_, ⟨ka, kb⟩, ?_, ?_⟩
    · show (cs.drop o).take (S.n + T.n) = S.f a ++ T.f b
      rw [List.take_add, ha, List.drop_drop, hb]
    · show S.wt a + T.wt b ≤ _
      simp only [List.map_cons, Rows.uptoBulkAll]
      omega
    · show (S.f a ++ T.f b).length = _
      rw [List.length_append, la, lb]
theorem opens_struct {t : TypeId} {fs : Array Field} {S : Shape} (ht : P.underlying t = some (.struct fs)) (hc : P.cellsOf t = S.n) (h : OpensL P fs.toList 0 S) : Opens P t ⟨S.α, S.n, S.f, S.ok, fun x => S.wt x + 1⟩ := ⟨hc, fun {H enc W fuel cs d p} hd => by
  obtain ⟨xs, n, rfl, hx, hl, hxl, hall⟩ := DataW.trod_struct ht hd
  obtain ⟨x, h1, h2, h3, h4⟩ := h (cs := cs) (xs := xs) (by simpa using hxl) (fun i f hf => hall i f (by simpa using hf))
  refine ⟨x, ?_, h2, ?_, h4⟩
  · rw [List.drop_zero, List.take_of_length_le (by rw [hl, hc]; exact Nat.le_refl _)] at h1
    exact h1
  · rw [(Prod.mk.inj hx).1]
    simp only [Rows.uptoBulk]
    omega⟩
theorem flat_get {α : Type} (f : α → List Value) (n : Nat) : ∀ (l : List α), (∀ e ∈ l, (f e).length = n) → ∀ (j : Nat) (u : Value), (l.flatMap f)[j]? = some u → ∃ (i : Nat) (h : i < l.length), i * n ≤ j ∧ j < i * n + n ∧ (f l[i])[j - i * n]? = some u
  | [], _, j, u, h => by simp at h
  | a :: r, hn, j, u, h => by
    have ha := hn a (by simp)
    rw [List.flatMap_cons] at h
    by_cases hj : j < n
    · rw [List.getElem?_append_left (by omega)] at h
      exact ⟨0, by simp, by omega, by omega, by simpa using h⟩
    · rw [List.getElem?_append_right (by omega), ha] at h
      obtain ⟨i, hi, h1, h2, h3⟩ := flat_get f n r (fun e he => hn e (by simp [he])) _ _ h
      refine ⟨i + 1, by simp; omega, by rw [Nat.add_mul]; omega, by rw [Nat.add_mul]; omega, ?_⟩
      rw [show j - (i + 1) * n = j - n - i * n by rw [Nat.add_mul]; omega]
      simpa using h3
theorem cells_get {w : World} {a : Addr} : ∀ {n : Nat} {cs : List Value}, w.cells? 0 a n = some cs → cs.length = n ∧ ∀ (j : Nat) (u : Value), cs[j]? = some u → w.cell? (a.add j) = some u := by
  intro n cs h
  unfold World.cells? at h
  rw [if_pos (Nat.zero_le _)] at h
  have hm := h
  have hml := Lib.mapM_length hm
  simp only [List.length_range] at hml
  refine ⟨hml, fun j u hj => ?_⟩
  have hjn : j < n := by
    have := (List.getElem?_eq_some_iff.1 hj).1
    omega
  obtain ⟨b, hb, hf⟩ := Lib.mapM_at hm j j (by simp [hjn])
  rw [hj] at hb
  cases hb
  exact hf
theorem choose_list {α : Type} : ∀ {n : Nat} {p : Nat → α → Prop}, (∀ i, i < n → ∃ x, p i x) → ∃ l : List α, l.length = n ∧ ∀ (i : Nat) (h : i < l.length), p i l[i]
  | 0, _, _ => ⟨[], rfl, fun _ h => absurd h (by simp)⟩
  | n + 1, p, h => by
    obtain ⟨x, hx⟩ := h 0 (by omega)
    obtain ⟨l, hl, hp⟩ := choose_list (n := n) (p := fun i => p (i + 1)) (fun i hi => h (i + 1) (by omega))
    refine ⟨x :: l, by simp [hl], fun i hi => ?_⟩
    cases i with
    | zero => exact hx
    | succ i => exact hp i (by simpa using hi)
theorem sum_map_le {α : Type} {f : α → Nat} {g : Nat → Nat} : ∀ (l : List α) (o : Nat), (∀ (i : Nat) (h : i < l.length), f l[i] ≤ g (o + i)) → (l.map f).sum ≤ ((List.range' o l.length).map g).sum
  | [], o, _ => by simp
  | a :: r, o, h => by
    have h0 := h 0 (by simp)
    have ih := sum_map_le r (o + 1) (fun i hi => by
      have := h (i + 1) (by simpa using hi)
      rw [show o + (i + 1) = o + 1 + i by omega] at this
      exact this)
    simp only [List.length_cons, List.range'_succ, List.map_cons, List.sum_cons]
    simp at h0
    omega
theorem opens_slice {t e : TypeId} {S : Shape} (ht : P.underlying t = some (.slice e)) (hc : P.cellsOf t = 1) (h : Opens P e S) : Opens P t (sliceShape S) := ⟨hc, fun {H enc W fuel cs d p} hd => by
  rcases open_slice ht hd with ⟨rfl, hx⟩ | ⟨a, len, cap, m, n, D, Pl, rfl, _, hl, hm, hmm, hx, hi⟩
  · refine ⟨⟨none, 0, []⟩, rfl, ⟨Nat.le_refl _, fun j u hj => by simp at hj, fun e he => by cases he⟩, ?_, rfl⟩
    rw [(Prod.mk.inj hx).1]
    simp [Rows.uptoBulk]
  · have hlm : len ≤ m := by rw [hmm]; split <;> omega
    have each : ∀ i, i < len → ∃ x : S.α, (∃ cs', W.cells? 0 (a.add (i * S.n)) S.n = some cs' ∧ cs' = S.f x) ∧ S.ok W x ∧ S.wt x ≤ Rows.uptoBulk (D i) ∧ (S.f x).length = S.n := fun i hil => by
      obtain ⟨cs', hcs, htr⟩ := hi i (by omega)
      rw [h.1] at hcs
      obtain ⟨x, hx1, hx2, hx3, hx4⟩ := h.2 htr
      exact ⟨x, ⟨cs', hcs, hx1⟩, hx2, hx3, hx4⟩
    obtain ⟨q, hlen, hq⟩ := choose_list each
    refine ⟨⟨some a, cap, q⟩, ?_, ⟨?_, ?_, ?_⟩, ?_, rfl⟩
    · show _ = [Value.slice (some a) q.length cap]
      rw [hlen]
    · show q.length ≤ cap
      rw [hlen]; exact hl
    · intro j u hj
      obtain ⟨i, hil, h1, h2, h3⟩ := flat_get S.f S.n _ (fun e he => by
        obtain ⟨i, hi', rfl⟩ := List.mem_iff_getElem.1 he
        exact (hq i hi').2.2.2) j u hj
      obtain ⟨⟨cs', hcs, rfl⟩, _⟩ := hq i hil
      have h5 := (cells_get hcs).2 _ _ h3
      rw [add_add, show i * S.n + (j - i * S.n) = j by omega] at h5
      exact ⟨a, rfl, h5⟩
    · intro e he
      obtain ⟨i, hi', rfl⟩ := List.mem_iff_getElem.1 he
      exact (hq i hi').2.1
    · have h1 := sum_map_le (f := S.wt) (g := fun i => Rows.uptoBulk (D i)) q 0 (fun i hi' => by rw [Nat.zero_add]; exact (hq i hi').2.2.1)
      have h2 : ∀ r : List Nat, Rows.uptoBulkAll (r.map D) = (r.map fun i => Rows.uptoBulk (D i)).sum := fun r => by
        induction r with
        | nil => simp [Rows.uptoBulkAll]
        | cons i r ih => simp only [List.map_cons, List.sum_cons, Rows.uptoBulkAll, ih]
      rw [(Prod.mk.inj hx).1]
      simp only [Rows.uptoBulk, h2]
      rw [hlen, ← List.range_eq_range'] at h1
      omega⟩
theorem opens_as {t : TypeId} {S T : Shape} (h : Opens P t S) (he : S = T) : Opens P t T := he ▸ h
end

/-- An argument that is one cell. -/
theorem open_cell {H : Type} {r : Reach} {b0 : Nat} {P : Program} {enc : TypeId × Value → H} {W : World} {t : TypeId} {v : Value} {d : DataW H} {p : List MemPlace} {S : Shape} (hS : Opens P t S) (hn : match P.underlying t with | some (.struct _) => false | some (.array _ _) => false | _ => true)
    (hv : Value.okWide P W r b0 t v) (h : DataW.Trod enc P W 0 (fun _ => true) true t v d p) : ∃ x : S.α, [v] = S.f x ∧ S.ok W x ∧ S.wt x ≤ Rows.uptoBulk d := by
  obtain ⟨fuel, hf⟩ := h
  obtain ⟨x, h1, h2, h3, _⟩ := hS.2 hf
  have hc : v.cells.toList = [v] := by
    unfold Value.okWide at hv
    split at hv
    · rename_i hu; rw [hu] at hn; cases hn
    · rename_i hu; rw [hu] at hn; cases hn
    · cases v <;> first | rfl | (exfalso; simp [Cell.okWide, Cell.ok] at hv)
  exact ⟨x, by rw [← hc]; exact h1, h2, h3⟩
/-- An argument that is a struct. -/
theorem open_whole {H : Type} {r : Reach} {b0 : Nat} {P : Program} {enc : TypeId × Value → H} {W : World} {t : TypeId} {fs : Array Field} {v : Value} {d : DataW H} {p : List MemPlace} {S : Shape} (hS : Opens P t S) (hu : P.underlying t = some (.struct fs))
    (hv : Value.okWide P W r b0 t v) (h : DataW.Trod enc P W 0 (fun _ => true) true t v d p) : ∃ x : S.α, v = .agg ⟨S.f x⟩ ∧ S.ok W x ∧ S.wt x ≤ Rows.uptoBulk d := by
  obtain ⟨cs, rfl, _⟩ := okWide_struct hu hv
  obtain ⟨fuel, hf⟩ := h
  obtain ⟨x, h1, h2, h3, _⟩ := hS.2 hf
  refine ⟨x, ?_, h2, h3⟩
  have : cs.toList = S.f x := h1
  rw [← this]
theorem done_F {P : Program} {g : GI} {f : FuncId} {args : List Value} {W : World} (h : Fn P g f args (.bool true)) (hG : g.G W) : Calls P f ⟨args⟩ W fun e W' => e = .returned (.bool true) ∧ Below W.heap.size W W' :=
  (h.ok W hG).mono fun _ _ ⟨he, hR⟩ => ⟨he, hR⟩
theorem done_E {P : Program} {g : GI} {f : FuncId} {args : List Value} {pre : World → Prop} {W : World} (h : FnE P g f args pre fun _ v _ => v = .bool true) (hG : g.G W) (hp : pre W) : Calls P f ⟨args⟩ W fun e W' => e = .returned (.bool true) ∧ Below W.heap.size W W' :=
  (h.ok W hG hp).mono fun _ _ ⟨_, he, hv, hR⟩ => ⟨by rw [he, hv], hR⟩
theorem bulk_part2 {H : Type} {d : DataW H} {l : List (DataW H)} (h : d ∈ l) : Rows.uptoBulk d ≤ Rows.uptoBulkAll l := by
  induction l with
  | nil => cases h
  | cons x r ih =>
    simp only [Rows.uptoBulkAll]
    cases List.mem_cons.1 h with
    | inl e => subst e; omega
    | inr e => have := ih e; omega
theorem bulk_of2 {H : Type} {l : List (DataW H)} (hk : Rows.uptoSmall H l = true) : Rows.uptoBulkAll l ≤ 1048576 := by simpa [Rows.uptoSmall] using hk
end Go.Proofs.YtnaeeklnlddcaaaDoor.Vex
/- The table of types of this seat's program, each row read off the program by the kernel. (Written by vextys.py.) -/
namespace Go.Proofs.YtnaeeklnlddcaaaDoor.Vex
open Go Go.RowKit

def tys : Ty := [
  (1, ⟨(TypeDesc.func #[] #[] false), .nilFunc, 1, 8, []⟩),
  (2, ⟨(TypeDesc.int IntKind.i64), .int .i64 0, 1, 8, []⟩),
  (3, ⟨(TypeDesc.int IntKind.i64), .int .i64 0, 1, 8, []⟩),
  (4, ⟨TypeDesc.bool, .bool false, 1, 1, []⟩),
  (5, ⟨(TypeDesc.int IntKind.u8), .int .u8 0, 1, 1, []⟩),
  (6, ⟨(TypeDesc.int IntKind.u8), .int .u8 0, 1, 1, []⟩),
  (7, ⟨(TypeDesc.struct #[{ name := "x", type := 2, offset := 0, embedded := false, tag := "", pkgPath := "runtime", byteOffset := 0 }, { name := "y", type := 3, offset := 1, embedded := false, tag := "", pkgPath := "runtime", byteOffset := 8 }, { name := "signed", type := 4, offset := 2, embedded := false, tag := "", pkgPath := "runtime", byteOffset := 16 }, { name := "code", type := 6, offset := 3, embedded := false, tag := "", pkgPath := "runtime", byteOffset := 17 }]), .agg ⟨[.int .i64 0, .int .i64 0, .bool false, .int .u8 0]⟩, 4, 24, [(0, 1), (1, 1), (2, 1), (3, 1)]⟩),
  (8, ⟨(TypeDesc.struct #[{ name := "x", type := 2, offset := 0, embedded := false, tag := "", pkgPath := "runtime", byteOffset := 0 }, { name := "y", type := 3, offset := 1, embedded := false, tag := "", pkgPath := "runtime", byteOffset := 8 }, { name := "signed", type := 4, offset := 2, embedded := false, tag := "", pkgPath := "runtime", byteOffset := 16 }, { name := "code", type := 6, offset := 3, embedded := false, tag := "", pkgPath := "runtime", byteOffset := 17 }]), .agg ⟨[.int .i64 0, .int .i64 0, .bool false, .int .u8 0]⟩, 4, 24, [(0, 1), (1, 1), (2, 1), (3, 1)]⟩),
  (9, ⟨TypeDesc.string, str [], 1, 16, []⟩),
  (10, ⟨TypeDesc.string, str [], 1, 16, []⟩),
  (11, ⟨TypeDesc.string, str [], 1, 16, []⟩),
  (12, ⟨(TypeDesc.int IntKind.u64), .int .u64 0, 1, 8, []⟩),
  (13, ⟨(TypeDesc.struct #[{ name := "msg", type := 9, offset := 0, embedded := false, tag := "", pkgPath := "runtime", byteOffset := 0 }, { name := "addr", type := 12, offset := 1, embedded := false, tag := "", pkgPath := "runtime", byteOffset := 16 }]), .agg ⟨[str [], .int .u64 0]⟩, 2, 24, [(0, 1), (1, 1)]⟩),
  (14, ⟨(TypeDesc.struct #[{ name := "msg", type := 9, offset := 0, embedded := false, tag := "", pkgPath := "runtime", byteOffset := 0 }, { name := "addr", type := 12, offset := 1, embedded := false, tag := "", pkgPath := "runtime", byteOffset := 16 }]), .agg ⟨[str [], .int .u64 0]⟩, 2, 24, [(0, 1), (1, 1)]⟩),
  (15, ⟨(TypeDesc.pointer 149), .pointer none, 1, 8, []⟩),
  (16, ⟨(TypeDesc.pointer 152), .pointer none, 1, 8, []⟩),
  (17, ⟨(TypeDesc.pointer 160), .pointer none, 1, 8, []⟩),
  (18, ⟨(TypeDesc.struct #[{ name := "typ", type := 17, offset := 0, embedded := false, tag := "", pkgPath := "internal/runtime/maps", byteOffset := 0 }]), .agg ⟨[.pointer none]⟩, 1, 8, [(0, 1)]⟩),
  (19, ⟨(TypeDesc.struct #[{ name := "typ", type := 17, offset := 0, embedded := false, tag := "", pkgPath := "internal/runtime/maps", byteOffset := 0 }]), .agg ⟨[.pointer none]⟩, 1, 8, [(0, 1)]⟩),
  (20, ⟨(TypeDesc.interface #[]), .nilIface, 1, 16, []⟩),
  (21, ⟨(TypeDesc.int IntKind.i32), .int .i32 0, 1, 4, []⟩),
  (22, ⟨(TypeDesc.slice 28), .slice none 0 0, 1, 24, []⟩),
  (23, ⟨(TypeDesc.func #[] #[4] false), .nilFunc, 1, 8, []⟩),
  (24, ⟨(TypeDesc.func #[22] #[4] false), .nilFunc, 1, 8, []⟩),
  (25, ⟨(TypeDesc.slice 55), .slice none 0 0, 1, 24, []⟩),
  (26, ⟨(TypeDesc.slice 162), .slice none 0 0, 1, 24, []⟩),
  (27, ⟨(TypeDesc.struct #[{ name := "Method", type := 9, offset := 0, embedded := false, tag := "", pkgPath := "", byteOffset := 0 }, { name := "Pattern", type := 9, offset := 1, embedded := false, tag := "", pkgPath := "", byteOffset := 16 }, { name := "Status", type := 3, offset := 2, embedded := false, tag := "", pkgPath := "", byteOffset := 32 }, { name := "Fields", type := 25, offset := 3, embedded := false, tag := "", pkgPath := "", byteOffset := 40 }, { name := "Tag", type := 9, offset := 4, embedded := false, tag := "", pkgPath := "", byteOffset := 64 }, { name := "Press", type := 4, offset := 5, embedded := false, tag := "", pkgPath := "", byteOffset := 80 }, { name := "Pieces", type := 26, offset := 6, embedded := false, tag := "", pkgPath := "", byteOffset := 88 }]), .agg ⟨[str [], str [], .int .i64 0, .slice none 0 0, str [], .bool false, .slice none 0 0]⟩, 7, 112, [(0, 1), (1, 1), (2, 1), (3, 1), (4, 1), (5, 1), (6, 1)]⟩),
  (28, ⟨(TypeDesc.struct #[{ name := "Method", type := 9, offset := 0, embedded := false, tag := "", pkgPath := "", byteOffset := 0 }, { name := "Pattern", type := 9, offset := 1, embedded := false, tag := "", pkgPath := "", byteOffset := 16 }, { name := "Status", type := 3, offset := 2, embedded := false, tag := "", pkgPath := "", byteOffset := 32 }, { name := "Fields", type := 25, offset := 3, embedded := false, tag := "", pkgPath := "", byteOffset := 40 }, { name := "Tag", type := 9, offset := 4, embedded := false, tag := "", pkgPath := "", byteOffset := 64 }, { name := "Press", type := 4, offset := 5, embedded := false, tag := "", pkgPath := "", byteOffset := 80 }, { name := "Pieces", type := 26, offset := 6, embedded := false, tag := "", pkgPath := "", byteOffset := 88 }]), .agg ⟨[str [], str [], .int .i64 0, .slice none 0 0, str [], .bool false, .slice none 0 0]⟩, 7, 112, [(0, 1), (1, 1), (2, 1), (3, 1), (4, 1), (5, 1), (6, 1)]⟩),
  (29, ⟨(TypeDesc.int IntKind.i64), .int .i64 0, 1, 8, []⟩),
  (31, ⟨(TypeDesc.func #[22, 9, 9] #[3, 25, 3, 29] false), .nilFunc, 1, 8, []⟩),
  (32, ⟨(TypeDesc.func #[25, 25] #[4] false), .nilFunc, 1, 8, []⟩),
  (33, ⟨(TypeDesc.func #[22, 9, 9, 3] #[4] false), .nilFunc, 1, 8, []⟩),
  (34, ⟨(TypeDesc.func #[22] #[29] false), .nilFunc, 1, 8, []⟩),
  (35, ⟨(TypeDesc.func #[22, 3] #[4] false), .nilFunc, 1, 8, []⟩),
  (36, ⟨(TypeDesc.func #[9, 9, 3, 3, 9, 9] #[4] false), .nilFunc, 1, 8, []⟩),
  (37, ⟨(TypeDesc.pointer 47), .pointer none, 1, 8, []⟩),
  (39, ⟨(TypeDesc.func #[22] #[37, 29] false), .nilFunc, 1, 8, []⟩),
  (40, ⟨(TypeDesc.slice 9), .slice none 0 0, 1, 24, []⟩),
  (42, ⟨(TypeDesc.func #[9] #[40, 29] false), .nilFunc, 1, 8, []⟩),
  (43, ⟨(TypeDesc.func #[40, 49] #[4] false), .nilFunc, 1, 8, []⟩),
  (44, ⟨(TypeDesc.map 9 3), .map none, 1, 8, []⟩),
  (45, ⟨(TypeDesc.map 67 37), .map none, 1, 8, []⟩),
  (46, ⟨(TypeDesc.struct #[{ name := "pages", type := 44, offset := 0, embedded := false, tag := "", pkgPath := "bellows/route", byteOffset := 0 }, { name := "next", type := 45, offset := 1, embedded := false, tag := "", pkgPath := "bellows/route", byteOffset := 8 }]), .agg ⟨[.map none, .map none]⟩, 2, 16, [(0, 1), (1, 1)]⟩),
  (47, ⟨(TypeDesc.struct #[{ name := "pages", type := 44, offset := 0, embedded := false, tag := "", pkgPath := "bellows/route", byteOffset := 0 }, { name := "next", type := 45, offset := 1, embedded := false, tag := "", pkgPath := "bellows/route", byteOffset := 8 }]), .agg ⟨[.map none, .map none]⟩, 2, 16, [(0, 1), (1, 1)]⟩),
  (49, ⟨(TypeDesc.func #[37] #[4] false), .nilFunc, 1, 8, []⟩),
  (50, ⟨(TypeDesc.slice 67), .slice none 0 0, 1, 24, []⟩),
  (52, ⟨(TypeDesc.func #[9] #[50, 4] false), .nilFunc, 1, 8, []⟩),
  (53, ⟨(TypeDesc.func #[50, 40] #[25] false), .nilFunc, 1, 8, []⟩),
  (54, ⟨(TypeDesc.struct #[{ name := "Name", type := 9, offset := 0, embedded := false, tag := "", pkgPath := "", byteOffset := 0 }, { name := "Value", type := 9, offset := 1, embedded := false, tag := "", pkgPath := "", byteOffset := 16 }]), .agg ⟨[str [], str []]⟩, 2, 32, [(0, 1), (1, 1)]⟩),
  (55, ⟨(TypeDesc.struct #[{ name := "Name", type := 9, offset := 0, embedded := false, tag := "", pkgPath := "", byteOffset := 0 }, { name := "Value", type := 9, offset := 1, embedded := false, tag := "", pkgPath := "", byteOffset := 16 }]), .agg ⟨[str [], str []]⟩, 2, 32, [(0, 1), (1, 1)]⟩),
  (56, ⟨(TypeDesc.func #[] #[22] false), .nilFunc, 1, 8, []⟩),
  (57, ⟨(TypeDesc.slice 50), .slice none 0 0, 1, 24, []⟩),
  (58, ⟨(TypeDesc.func #[40, 9] #[4] false), .nilFunc, 1, 8, []⟩),
  (59, ⟨(TypeDesc.func #[] #[37] false), .nilFunc, 1, 8, []⟩),
  (60, ⟨(TypeDesc.func #[3, 9, 50] #[4] false), .nilFunc, 1, 8, []⟩),
  (61, ⟨(TypeDesc.func #[9] #[4] false), .nilFunc, 1, 8, []⟩),
  (62, ⟨(TypeDesc.func #[61] #[] false), .nilFunc, 1, 8, []⟩),
  (63, ⟨(TypeDesc.func #[61] #[] false), .nilFunc, 1, 8, []⟩),
  (64, ⟨(TypeDesc.func #[9, 9] #[63] false), .nilFunc, 1, 8, []⟩),
  (65, ⟨(TypeDesc.func #[9] #[9] false), .nilFunc, 1, 8, []⟩),
  (66, ⟨(TypeDesc.struct #[{ name := "kind", type := 3, offset := 0, embedded := false, tag := "", pkgPath := "bellows/route", byteOffset := 0 }, { name := "text", type := 9, offset := 1, embedded := false, tag := "", pkgPath := "bellows/route", byteOffset := 8 }]), .agg ⟨[.int .i64 0, str []]⟩, 2, 24, [(0, 1), (1, 1)]⟩),
  (67, ⟨(TypeDesc.struct #[{ name := "kind", type := 3, offset := 0, embedded := false, tag := "", pkgPath := "bellows/route", byteOffset := 0 }, { name := "text", type := 9, offset := 1, embedded := false, tag := "", pkgPath := "bellows/route", byteOffset := 8 }]), .agg ⟨[.int .i64 0, str []]⟩, 2, 24, [(0, 1), (1, 1)]⟩),
  (68, ⟨(TypeDesc.func #[9, 9] #[40] false), .nilFunc, 1, 8, []⟩),
  (69, ⟨(TypeDesc.func #[9, 9] #[4] false), .nilFunc, 1, 8, []⟩),
  (70, ⟨(TypeDesc.func #[40, 9] #[9] false), .nilFunc, 1, 8, []⟩),
  (71, ⟨(TypeDesc.func #[40, 9] #[3] false), .nilFunc, 1, 8, []⟩),
  (72, ⟨(TypeDesc.func #[9, 9, 3] #[63] false), .nilFunc, 1, 8, []⟩),
  (73, ⟨(TypeDesc.slice 5), .slice none 0 0, 1, 24, []⟩),
  (75, ⟨(TypeDesc.func #[9] #[5, 4] false), .nilFunc, 1, 8, []⟩),
  (76, ⟨(TypeDesc.func #[9, 9, 3, 3] #[40] false), .nilFunc, 1, 8, []⟩),
  (77, ⟨(TypeDesc.func #[9, 9] #[9] false), .nilFunc, 1, 8, []⟩),
  (78, ⟨(TypeDesc.pointer 80), .pointer none, 1, 8, []⟩),
  (79, ⟨(TypeDesc.struct #[{ name := "addr", type := 78, offset := 0, embedded := false, tag := "", pkgPath := "strings", byteOffset := 0 }, { name := "buf", type := 73, offset := 1, embedded := false, tag := "", pkgPath := "strings", byteOffset := 8 }]), .agg ⟨[.pointer none, .slice none 0 0]⟩, 2, 32, [(0, 1), (1, 1)]⟩),
  (80, ⟨(TypeDesc.struct #[{ name := "addr", type := 78, offset := 0, embedded := false, tag := "", pkgPath := "strings", byteOffset := 0 }, { name := "buf", type := 73, offset := 1, embedded := false, tag := "", pkgPath := "strings", byteOffset := 8 }]), .agg ⟨[.pointer none, .slice none 0 0]⟩, 2, 32, [(0, 1), (1, 1)]⟩),
  (81, ⟨(TypeDesc.func #[3] #[] false), .nilFunc, 1, 8, []⟩),
  (82, ⟨(TypeDesc.interface #[("Error", 86)]), .nilIface, 1, 16, []⟩),
  (83, ⟨(TypeDesc.interface #[("Error", 86)]), .nilIface, 1, 16, []⟩),
  (85, ⟨(TypeDesc.func #[9] #[3, 83] false), .nilFunc, 1, 8, []⟩),
  (86, ⟨(TypeDesc.func #[] #[9] false), .nilFunc, 1, 8, []⟩),
  (87, ⟨(TypeDesc.func #[5, 9] #[4] false), .nilFunc, 1, 8, []⟩),
  (89, ⟨(TypeDesc.func #[9] #[21, 3] false), .nilFunc, 1, 8, []⟩),
  (90, ⟨(TypeDesc.func #[9, 9] #[3] false), .nilFunc, 1, 8, []⟩),
  (91, ⟨(TypeDesc.int IntKind.u64), .int .u64 0, 1, 8, []⟩),
  (93, ⟨(TypeDesc.func #[9, 3, 3] #[91, 83] false), .nilFunc, 1, 8, []⟩),
  (94, ⟨(TypeDesc.func #[9, 3] #[40] false), .nilFunc, 1, 8, []⟩),
  (95, ⟨(TypeDesc.func #[9, 5] #[9] false), .nilFunc, 1, 8, []⟩),
  (96, ⟨(TypeDesc.array 256 4), .agg ⟨List.replicate 256 (.bool false)⟩, 256, 256, []⟩),
  (97, ⟨(TypeDesc.array 256 4), .agg ⟨List.replicate 256 (.bool false)⟩, 256, 256, []⟩),
  (99, ⟨(TypeDesc.func #[9] #[97, 4] false), .nilFunc, 1, 8, []⟩),
  (100, ⟨(TypeDesc.func #[9, 101] #[9] false), .nilFunc, 1, 8, []⟩),
  (101, ⟨(TypeDesc.pointer 97), .pointer none, 1, 8, []⟩),
  (102, ⟨(TypeDesc.pointer 5), .pointer none, 1, 8, []⟩),
  (103, ⟨(TypeDesc.func #[9, 5] #[3] false), .nilFunc, 1, 8, []⟩),
  (104, ⟨(TypeDesc.func #[9, 9, 3, 3, 83] #[83] false), .nilFunc, 1, 8, []⟩),
  (105, ⟨(TypeDesc.func #[9] #[3] false), .nilFunc, 1, 8, []⟩),
  (106, ⟨(TypeDesc.func #[5] #[4] false), .nilFunc, 1, 8, []⟩),
  (107, ⟨(TypeDesc.func #[9, 21] #[4] false), .nilFunc, 1, 8, []⟩),
  (108, ⟨TypeDesc.unsafePointer, .pointer none, 1, 8, []⟩),
  (109, ⟨(TypeDesc.func #[108] #[108] false), .nilFunc, 1, 8, []⟩),
  (110, ⟨(TypeDesc.func #[3] #[73] false), .nilFunc, 1, 8, []⟩),
  (111, ⟨(TypeDesc.array 256 5), .agg ⟨List.replicate 256 (.int .u8 0)⟩, 256, 256, []⟩),
  (112, ⟨(TypeDesc.int IntKind.u64), .int .u64 0, 1, 8, []⟩),
  (113, ⟨(TypeDesc.struct #[{ name := "lo", type := 5, offset := 0, embedded := false, tag := "", pkgPath := "unicode/utf8", byteOffset := 0 }, { name := "hi", type := 5, offset := 1, embedded := false, tag := "", pkgPath := "unicode/utf8", byteOffset := 1 }]), .agg ⟨[.int .u8 0, .int .u8 0]⟩, 2, 2, [(0, 1), (1, 1)]⟩),
  (114, ⟨(TypeDesc.struct #[{ name := "lo", type := 5, offset := 0, embedded := false, tag := "", pkgPath := "unicode/utf8", byteOffset := 0 }, { name := "hi", type := 5, offset := 1, embedded := false, tag := "", pkgPath := "unicode/utf8", byteOffset := 1 }]), .agg ⟨[.int .u8 0, .int .u8 0]⟩, 2, 2, [(0, 1), (1, 1)]⟩),
  (115, ⟨(TypeDesc.array 16 114), .agg ⟨[.int .u8 0, .int .u8 0, .int .u8 0, .int .u8 0, .int .u8 0, .int .u8 0, .int .u8 0, .int .u8 0, .int .u8 0, .int .u8 0, .int .u8 0, .int .u8 0, .int .u8 0, .int .u8 0, .int .u8 0, .int .u8 0, .int .u8 0, .int .u8 0, .int .u8 0, .int .u8 0, .int .u8 0, .int .u8 0, .int .u8 0, .int .u8 0, .int .u8 0, .int .u8 0, .int .u8 0, .int .u8 0, .int .u8 0, .int .u8 0, .int .u8 0, .int .u8 0]⟩, 32, 32, []⟩),
  (116, ⟨(TypeDesc.func #[3] #[3] false), .nilFunc, 1, 8, []⟩),
  (117, ⟨(TypeDesc.int IntKind.i64), .int .i64 0, 1, 8, []⟩),
  (118, ⟨(TypeDesc.func #[5] #[5] false), .nilFunc, 1, 8, []⟩),
  (119, ⟨(TypeDesc.pointer 127), .pointer none, 1, 8, []⟩),
  (120, ⟨(TypeDesc.func #[9, 9] #[119] false), .nilFunc, 1, 8, []⟩),
  (121, ⟨(TypeDesc.func #[9, 9, 3] #[119] false), .nilFunc, 1, 8, []⟩),
  (122, ⟨(TypeDesc.func #[9, 21] #[3] false), .nilFunc, 1, 8, []⟩),
  (123, ⟨(TypeDesc.int IntKind.u32), .int .u32 0, 1, 4, []⟩),
  (125, ⟨(TypeDesc.func #[9] #[123, 123] false), .nilFunc, 1, 8, []⟩),
  (126, ⟨(TypeDesc.struct #[{ name := "Func", type := 9, offset := 0, embedded := false, tag := "", pkgPath := "", byteOffset := 0 }, { name := "Num", type := 9, offset := 1, embedded := false, tag := "", pkgPath := "", byteOffset := 16 }, { name := "Err", type := 83, offset := 2, embedded := false, tag := "", pkgPath := "", byteOffset := 32 }]), .agg ⟨[str [], str [], .nilIface]⟩, 3, 48, [(0, 1), (1, 1), (2, 1)]⟩),
  (127, ⟨(TypeDesc.struct #[{ name := "Func", type := 9, offset := 0, embedded := false, tag := "", pkgPath := "", byteOffset := 0 }, { name := "Num", type := 9, offset := 1, embedded := false, tag := "", pkgPath := "", byteOffset := 16 }, { name := "Err", type := 83, offset := 2, embedded := false, tag := "", pkgPath := "", byteOffset := 32 }]), .agg ⟨[str [], str [], .nilIface]⟩, 3, 48, [(0, 1), (1, 1), (2, 1)]⟩),
  (128, ⟨(TypeDesc.func #[9] #[83] false), .nilFunc, 1, 8, []⟩),
  (129, ⟨(TypeDesc.func #[3] #[9] false), .nilFunc, 1, 8, []⟩),
  (130, ⟨(TypeDesc.func #[21] #[4] false), .nilFunc, 1, 8, []⟩),
  (131, ⟨(TypeDesc.pointer 133), .pointer none, 1, 8, []⟩),
  (132, ⟨(TypeDesc.struct #[{ name := "s", type := 9, offset := 0, embedded := false, tag := "", pkgPath := "errors", byteOffset := 0 }]), .agg ⟨[str []]⟩, 1, 16, [(0, 1)]⟩),
  (133, ⟨(TypeDesc.struct #[{ name := "s", type := 9, offset := 0, embedded := false, tag := "", pkgPath := "errors", byteOffset := 0 }]), .agg ⟨[str []]⟩, 1, 16, [(0, 1)]⟩),
  (134, ⟨(TypeDesc.func #[2, 3] #[9] false), .nilFunc, 1, 8, []⟩),
  (135, ⟨(TypeDesc.array 24 5), .agg ⟨[.int .u8 0, .int .u8 0, .int .u8 0, .int .u8 0, .int .u8 0, .int .u8 0, .int .u8 0, .int .u8 0, .int .u8 0, .int .u8 0, .int .u8 0, .int .u8 0, .int .u8 0, .int .u8 0, .int .u8 0, .int .u8 0, .int .u8 0, .int .u8 0, .int .u8 0, .int .u8 0, .int .u8 0, .int .u8 0, .int .u8 0, .int .u8 0]⟩, 24, 24, []⟩),
  (136, ⟨(TypeDesc.func #[91] #[3] false), .nilFunc, 1, 8, []⟩),
  (137, ⟨(TypeDesc.func #[73, 91] #[] false), .nilFunc, 1, 8, []⟩),
  (139, ⟨(TypeDesc.func #[73, 91, 3, 4, 4] #[73, 9] false), .nilFunc, 1, 8, []⟩),
  (140, ⟨(TypeDesc.func #[4] #[3] false), .nilFunc, 1, 8, []⟩),
  (141, ⟨(TypeDesc.array 20 91), .agg ⟨[.int .u64 0, .int .u64 0, .int .u64 0, .int .u64 0, .int .u64 0, .int .u64 0, .int .u64 0, .int .u64 0, .int .u64 0, .int .u64 0, .int .u64 0, .int .u64 0, .int .u64 0, .int .u64 0, .int .u64 0, .int .u64 0, .int .u64 0, .int .u64 0, .int .u64 0, .int .u64 0]⟩, 20, 160, []⟩),
  (142, ⟨(TypeDesc.array 65 5), .agg ⟨List.replicate 65 (.int .u8 0)⟩, 65, 65, []⟩),
  (143, ⟨(TypeDesc.func #[3] #[4] false), .nilFunc, 1, 8, []⟩),
  (144, ⟨(TypeDesc.func #[112] #[3] false), .nilFunc, 1, 8, []⟩),
  (145, ⟨(TypeDesc.func #[123] #[3] false), .nilFunc, 1, 8, []⟩),
  (146, ⟨(TypeDesc.array 32 5), .agg ⟨[.int .u8 0, .int .u8 0, .int .u8 0, .int .u8 0, .int .u8 0, .int .u8 0, .int .u8 0, .int .u8 0, .int .u8 0, .int .u8 0, .int .u8 0, .int .u8 0, .int .u8 0, .int .u8 0, .int .u8 0, .int .u8 0, .int .u8 0, .int .u8 0, .int .u8 0, .int .u8 0, .int .u8 0, .int .u8 0, .int .u8 0, .int .u8 0, .int .u8 0, .int .u8 0, .int .u8 0, .int .u8 0, .int .u8 0, .int .u8 0, .int .u8 0, .int .u8 0]⟩, 32, 32, []⟩),
  (147, ⟨(TypeDesc.array 64 5), .agg ⟨[.int .u8 0, .int .u8 0, .int .u8 0, .int .u8 0, .int .u8 0, .int .u8 0, .int .u8 0, .int .u8 0, .int .u8 0, .int .u8 0, .int .u8 0, .int .u8 0, .int .u8 0, .int .u8 0, .int .u8 0, .int .u8 0, .int .u8 0, .int .u8 0, .int .u8 0, .int .u8 0, .int .u8 0, .int .u8 0, .int .u8 0, .int .u8 0, .int .u8 0, .int .u8 0, .int .u8 0, .int .u8 0, .int .u8 0, .int .u8 0, .int .u8 0, .int .u8 0, .int .u8 0, .int .u8 0, .int .u8 0, .int .u8 0, .int .u8 0, .int .u8 0, .int .u8 0, .int .u8 0, .int .u8 0, .int .u8 0, .int .u8 0, .int .u8 0, .int .u8 0, .int .u8 0, .int .u8 0, .int .u8 0, .int .u8 0, .int .u8 0, .int .u8 0, .int .u8 0, .int .u8 0, .int .u8 0, .int .u8 0, .int .u8 0, .int .u8 0, .int .u8 0, .int .u8 0, .int .u8 0, .int .u8 0, .int .u8 0, .int .u8 0, .int .u8 0]⟩, 64, 64, []⟩),
  (148, ⟨(TypeDesc.struct #[{ name := "_interface", type := 17, offset := 0, embedded := false, tag := "", pkgPath := "runtime", byteOffset := 0 }, { name := "concrete", type := 17, offset := 1, embedded := false, tag := "", pkgPath := "runtime", byteOffset := 8 }, { name := "asserted", type := 17, offset := 2, embedded := false, tag := "", pkgPath := "runtime", byteOffset := 16 }, { name := "missingMethod", type := 9, offset := 3, embedded := false, tag := "", pkgPath := "runtime", byteOffset := 24 }]), .agg ⟨[.pointer none, .pointer none, .pointer none, str []]⟩, 4, 40, [(0, 1), (1, 1), (2, 1), (3, 1)]⟩),
  (149, ⟨(TypeDesc.struct #[{ name := "_interface", type := 17, offset := 0, embedded := false, tag := "", pkgPath := "runtime", byteOffset := 0 }, { name := "concrete", type := 17, offset := 1, embedded := false, tag := "", pkgPath := "runtime", byteOffset := 8 }, { name := "asserted", type := 17, offset := 2, embedded := false, tag := "", pkgPath := "runtime", byteOffset := 16 }, { name := "missingMethod", type := 9, offset := 3, embedded := false, tag := "", pkgPath := "runtime", byteOffset := 24 }]), .agg ⟨[.pointer none, .pointer none, .pointer none, str []]⟩, 4, 40, [(0, 1), (1, 1), (2, 1), (3, 1)]⟩),
  (150, ⟨(TypeDesc.array 0 16), .agg ⟨[]⟩, 0, 0, []⟩),
  (151, ⟨(TypeDesc.struct #[{ name := "_", type := 150, offset := 0, embedded := false, tag := "", pkgPath := "runtime", byteOffset := 0 }]), .agg ⟨[]⟩, 0, 0, [(0, 0)]⟩),
  (152, ⟨(TypeDesc.struct #[{ name := "_", type := 150, offset := 0, embedded := false, tag := "", pkgPath := "runtime", byteOffset := 0 }]), .agg ⟨[]⟩, 0, 0, [(0, 0)]⟩),
  (153, ⟨(TypeDesc.func #[] #[3] false), .nilFunc, 1, 8, []⟩),
  (154, ⟨(TypeDesc.int IntKind.u8), .int .u8 0, 1, 1, []⟩),
  (155, ⟨(TypeDesc.int IntKind.u8), .int .u8 0, 1, 1, []⟩),
  (156, ⟨(TypeDesc.func #[108, 108] #[4] false), .nilFunc, 1, 8, []⟩),
  (157, ⟨(TypeDesc.int IntKind.i32), .int .i32 0, 1, 4, []⟩),
  (158, ⟨(TypeDesc.int IntKind.i32), .int .i32 0, 1, 4, []⟩),
  (159, ⟨(TypeDesc.struct #[{ name := "Size_", type := 12, offset := 0, embedded := false, tag := "", pkgPath := "", byteOffset := 0 }, { name := "PtrBytes", type := 12, offset := 1, embedded := false, tag := "", pkgPath := "", byteOffset := 8 }, { name := "Hash", type := 123, offset := 2, embedded := false, tag := "", pkgPath := "", byteOffset := 16 }, { name := "TFlag", type := 154, offset := 3, embedded := false, tag := "", pkgPath := "", byteOffset := 20 }, { name := "Align_", type := 5, offset := 4, embedded := false, tag := "", pkgPath := "", byteOffset := 21 }, { name := "FieldAlign_", type := 5, offset := 5, embedded := false, tag := "", pkgPath := "", byteOffset := 22 }, { name := "Kind_", type := 155, offset := 6, embedded := false, tag := "", pkgPath := "", byteOffset := 23 }, { name := "Equal", type := 156, offset := 7, embedded := false, tag := "", pkgPath := "", byteOffset := 24 }, { name := "GCData", type := 102, offset := 8, embedded := false, tag := "", pkgPath := "", byteOffset := 32 }, { name := "Str", type := 157, offset := 9, embedded := false, tag := "", pkgPath := "", byteOffset := 40 }, { name := "PtrToThis", type := 158, offset := 10, embedded := false, tag := "", pkgPath := "", byteOffset := 44 }]), .agg ⟨[.int .u64 0, .int .u64 0, .int .u32 0, .int .u8 0, .int .u8 0, .int .u8 0, .int .u8 0, .nilFunc, .pointer none, .int .i32 0, .int .i32 0]⟩, 11, 48, [(0, 1), (1, 1), (2, 1), (3, 1), (4, 1), (5, 1), (6, 1), (7, 1), (8, 1), (9, 1), (10, 1)]⟩),
  (160, ⟨(TypeDesc.struct #[{ name := "Size_", type := 12, offset := 0, embedded := false, tag := "", pkgPath := "", byteOffset := 0 }, { name := "PtrBytes", type := 12, offset := 1, embedded := false, tag := "", pkgPath := "", byteOffset := 8 }, { name := "Hash", type := 123, offset := 2, embedded := false, tag := "", pkgPath := "", byteOffset := 16 }, { name := "TFlag", type := 154, offset := 3, embedded := false, tag := "", pkgPath := "", byteOffset := 20 }, { name := "Align_", type := 5, offset := 4, embedded := false, tag := "", pkgPath := "", byteOffset := 21 }, { name := "FieldAlign_", type := 5, offset := 5, embedded := false, tag := "", pkgPath := "", byteOffset := 22 }, { name := "Kind_", type := 155, offset := 6, embedded := false, tag := "", pkgPath := "", byteOffset := 23 }, { name := "Equal", type := 156, offset := 7, embedded := false, tag := "", pkgPath := "", byteOffset := 24 }, { name := "GCData", type := 102, offset := 8, embedded := false, tag := "", pkgPath := "", byteOffset := 32 }, { name := "Str", type := 157, offset := 9, embedded := false, tag := "", pkgPath := "", byteOffset := 40 }, { name := "PtrToThis", type := 158, offset := 10, embedded := false, tag := "", pkgPath := "", byteOffset := 44 }]), .agg ⟨[.int .u64 0, .int .u64 0, .int .u32 0, .int .u8 0, .int .u8 0, .int .u8 0, .int .u8 0, .nilFunc, .pointer none, .int .i32 0, .int .i32 0]⟩, 11, 48, [(0, 1), (1, 1), (2, 1), (3, 1), (4, 1), (5, 1), (6, 1), (7, 1), (8, 1), (9, 1), (10, 1)]⟩),
  (161, ⟨(TypeDesc.struct #[{ name := "Kind", type := 5, offset := 0, embedded := false, tag := "", pkgPath := "", byteOffset := 0 }, { name := "Text", type := 9, offset := 1, embedded := false, tag := "", pkgPath := "", byteOffset := 8 }, { name := "Many", type := 3, offset := 2, embedded := false, tag := "", pkgPath := "", byteOffset := 24 }, { name := "Flush", type := 4, offset := 3, embedded := false, tag := "", pkgPath := "", byteOffset := 32 }]), .agg ⟨[.int .u8 0, str [], .int .i64 0, .bool false]⟩, 4, 40, [(0, 1), (1, 1), (2, 1), (3, 1)]⟩),
  (162, ⟨(TypeDesc.struct #[{ name := "Kind", type := 5, offset := 0, embedded := false, tag := "", pkgPath := "", byteOffset := 0 }, { name := "Text", type := 9, offset := 1, embedded := false, tag := "", pkgPath := "", byteOffset := 8 }, { name := "Many", type := 3, offset := 2, embedded := false, tag := "", pkgPath := "", byteOffset := 24 }, { name := "Flush", type := 4, offset := 3, embedded := false, tag := "", pkgPath := "", byteOffset := 32 }]), .agg ⟨[.int .u8 0, str [], .int .i64 0, .bool false]⟩, 4, 40, [(0, 1), (1, 1), (2, 1), (3, 1)]⟩)]
set_option maxRecDepth 100000 in
theorem tys_ok : TOk Tryd.prog tys :=
  TOk.cons ⟨Tryd.underlying1, by kernel_rfl, trivial⟩
  (TOk.cons ⟨Tryd.underlying2, by kernel_rfl, trivial⟩
  (TOk.cons ⟨Tryd.underlying3, by kernel_rfl, trivial⟩
  (TOk.cons ⟨Tryd.underlying4, by kernel_rfl, trivial⟩
  (TOk.cons ⟨Tryd.underlying5, by kernel_rfl, trivial⟩
  (TOk.cons ⟨Tryd.underlying6, by kernel_rfl, trivial⟩
  (TOk.cons ⟨Tryd.underlying7, by kernel_rfl, by show (_ : List (Nat × Option Nat)) = _; kernel_rfl⟩
  (TOk.cons ⟨Tryd.underlying8, by kernel_rfl, by show (_ : List (Nat × Option Nat)) = _; kernel_rfl⟩
  (TOk.cons ⟨Tryd.underlying9, by kernel_rfl, trivial⟩
  (TOk.cons ⟨Tryd.underlying10, by kernel_rfl, trivial⟩
  (TOk.cons ⟨Tryd.underlying11, by kernel_rfl, trivial⟩
  (TOk.cons ⟨Tryd.underlying12, by kernel_rfl, trivial⟩
  (TOk.cons ⟨Tryd.underlying13, by kernel_rfl, by show (_ : List (Nat × Option Nat)) = _; kernel_rfl⟩
  (TOk.cons ⟨Tryd.underlying14, by kernel_rfl, by show (_ : List (Nat × Option Nat)) = _; kernel_rfl⟩
  (TOk.cons ⟨Tryd.underlying15, by kernel_rfl, trivial⟩
  (TOk.cons ⟨Tryd.underlying16, by kernel_rfl, trivial⟩
  (TOk.cons ⟨Tryd.underlying17, by kernel_rfl, trivial⟩
  (TOk.cons ⟨Tryd.underlying18, by kernel_rfl, by show (_ : List (Nat × Option Nat)) = _; kernel_rfl⟩
  (TOk.cons ⟨Tryd.underlying19, by kernel_rfl, by show (_ : List (Nat × Option Nat)) = _; kernel_rfl⟩
  (TOk.cons ⟨Tryd.underlying20, by kernel_rfl, trivial⟩
  (TOk.cons ⟨Tryd.underlying21, by kernel_rfl, trivial⟩
  (TOk.cons ⟨Tryd.underlying22, by kernel_rfl, trivial⟩
  (TOk.cons ⟨Tryd.underlying23, by kernel_rfl, trivial⟩
  (TOk.cons ⟨Tryd.underlying24, by kernel_rfl, trivial⟩
  (TOk.cons ⟨Tryd.underlying25, by kernel_rfl, trivial⟩
  (TOk.cons ⟨Tryd.underlying26, by kernel_rfl, trivial⟩
  (TOk.cons ⟨Tryd.underlying27, by kernel_rfl, by show (_ : List (Nat × Option Nat)) = _; kernel_rfl⟩
  (TOk.cons ⟨Tryd.underlying28, by kernel_rfl, by show (_ : List (Nat × Option Nat)) = _; kernel_rfl⟩
  (TOk.cons ⟨Tryd.underlying29, by kernel_rfl, trivial⟩
  (TOk.cons ⟨Tryd.underlying31, by kernel_rfl, trivial⟩
  (TOk.cons ⟨Tryd.underlying32, by kernel_rfl, trivial⟩
  (TOk.cons ⟨Tryd.underlying33, by kernel_rfl, trivial⟩
  (TOk.cons ⟨Tryd.underlying34, by kernel_rfl, trivial⟩
  (TOk.cons ⟨Tryd.underlying35, by kernel_rfl, trivial⟩
  (TOk.cons ⟨Tryd.underlying36, by kernel_rfl, trivial⟩
  (TOk.cons ⟨Tryd.underlying37, by kernel_rfl, trivial⟩
  (TOk.cons ⟨Tryd.underlying39, by kernel_rfl, trivial⟩
  (TOk.cons ⟨Tryd.underlying40, by kernel_rfl, trivial⟩
  (TOk.cons ⟨Tryd.underlying42, by kernel_rfl, trivial⟩
  (TOk.cons ⟨Tryd.underlying43, by kernel_rfl, trivial⟩
  (TOk.cons ⟨Tryd.underlying44, by kernel_rfl, trivial⟩
  (TOk.cons ⟨Tryd.underlying45, by kernel_rfl, trivial⟩
  (TOk.cons ⟨Tryd.underlying46, by kernel_rfl, by show (_ : List (Nat × Option Nat)) = _; kernel_rfl⟩
  (TOk.cons ⟨Tryd.underlying47, by kernel_rfl, by show (_ : List (Nat × Option Nat)) = _; kernel_rfl⟩
  (TOk.cons ⟨Tryd.underlying49, by kernel_rfl, trivial⟩
  (TOk.cons ⟨Tryd.underlying50, by kernel_rfl, trivial⟩
  (TOk.cons ⟨Tryd.underlying52, by kernel_rfl, trivial⟩
  (TOk.cons ⟨Tryd.underlying53, by kernel_rfl, trivial⟩
  (TOk.cons ⟨Tryd.underlying54, by kernel_rfl, by show (_ : List (Nat × Option Nat)) = _; kernel_rfl⟩
  (TOk.cons ⟨Tryd.underlying55, by kernel_rfl, by show (_ : List (Nat × Option Nat)) = _; kernel_rfl⟩
  (TOk.cons ⟨Tryd.underlying56, by kernel_rfl, trivial⟩
  (TOk.cons ⟨Tryd.underlying57, by kernel_rfl, trivial⟩
  (TOk.cons ⟨Tryd.underlying58, by kernel_rfl, trivial⟩
  (TOk.cons ⟨Tryd.underlying59, by kernel_rfl, trivial⟩
  (TOk.cons ⟨Tryd.underlying60, by kernel_rfl, trivial⟩
  (TOk.cons ⟨Tryd.underlying61, by kernel_rfl, trivial⟩
  (TOk.cons ⟨Tryd.underlying62, by kernel_rfl, trivial⟩
  (TOk.cons ⟨Tryd.underlying63, by kernel_rfl, trivial⟩
  (TOk.cons ⟨Tryd.underlying64, by kernel_rfl, trivial⟩
  (TOk.cons ⟨Tryd.underlying65, by kernel_rfl, trivial⟩
  (TOk.cons ⟨Tryd.underlying66, by kernel_rfl, by show (_ : List (Nat × Option Nat)) = _; kernel_rfl⟩
  (TOk.cons ⟨Tryd.underlying67, by kernel_rfl, by show (_ : List (Nat × Option Nat)) = _; kernel_rfl⟩
  (TOk.cons ⟨Tryd.underlying68, by kernel_rfl, trivial⟩
  (TOk.cons ⟨Tryd.underlying69, by kernel_rfl, trivial⟩
  (TOk.cons ⟨Tryd.underlying70, by kernel_rfl, trivial⟩
  (TOk.cons ⟨Tryd.underlying71, by kernel_rfl, trivial⟩
  (TOk.cons ⟨Tryd.underlying72, by kernel_rfl, trivial⟩
  (TOk.cons ⟨Tryd.underlying73, by kernel_rfl, trivial⟩
  (TOk.cons ⟨Tryd.underlying75, by kernel_rfl, trivial⟩
  (TOk.cons ⟨Tryd.underlying76, by kernel_rfl, trivial⟩
  (TOk.cons ⟨Tryd.underlying77, by kernel_rfl, trivial⟩
  (TOk.cons ⟨Tryd.underlying78, by kernel_rfl, trivial⟩
  (TOk.cons ⟨Tryd.underlying79, by kernel_rfl, by show (_ : List (Nat × Option Nat)) = _; kernel_rfl⟩
  (TOk.cons ⟨Tryd.underlying80, by kernel_rfl, by show (_ : List (Nat × Option Nat)) = _; kernel_rfl⟩
  (TOk.cons ⟨Tryd.underlying81, by kernel_rfl, trivial⟩
  (TOk.cons ⟨Tryd.underlying82, by kernel_rfl, trivial⟩
  (TOk.cons ⟨Tryd.underlying83, by kernel_rfl, trivial⟩
  (TOk.cons ⟨Tryd.underlying85, by kernel_rfl, trivial⟩
  (TOk.cons ⟨Tryd.underlying86, by kernel_rfl, trivial⟩
  (TOk.cons ⟨Tryd.underlying87, by kernel_rfl, trivial⟩
  (TOk.cons ⟨Tryd.underlying89, by kernel_rfl, trivial⟩
  (TOk.cons ⟨Tryd.underlying90, by kernel_rfl, trivial⟩
  (TOk.cons ⟨Tryd.underlying91, by kernel_rfl, trivial⟩
  (TOk.cons ⟨Tryd.underlying93, by kernel_rfl, trivial⟩
  (TOk.cons ⟨Tryd.underlying94, by kernel_rfl, trivial⟩
  (TOk.cons ⟨Tryd.underlying95, by kernel_rfl, trivial⟩
  (TOk.cons ⟨Tryd.underlying96, by kernel_rfl, trivial⟩
  (TOk.cons ⟨Tryd.underlying97, by kernel_rfl, trivial⟩
  (TOk.cons ⟨Tryd.underlying99, by kernel_rfl, trivial⟩
  (TOk.cons ⟨Tryd.underlying100, by kernel_rfl, trivial⟩
  (TOk.cons ⟨Tryd.underlying101, by kernel_rfl, trivial⟩
  (TOk.cons ⟨Tryd.underlying102, by kernel_rfl, trivial⟩
  (TOk.cons ⟨Tryd.underlying103, by kernel_rfl, trivial⟩
  (TOk.cons ⟨Tryd.underlying104, by kernel_rfl, trivial⟩
  (TOk.cons ⟨Tryd.underlying105, by kernel_rfl, trivial⟩
  (TOk.cons ⟨Tryd.underlying106, by kernel_rfl, trivial⟩
  (TOk.cons ⟨Tryd.underlying107, by kernel_rfl, trivial⟩
  (TOk.cons ⟨Tryd.underlying108, by kernel_rfl, trivial⟩
  (TOk.cons ⟨Tryd.underlying109, by kernel_rfl, trivial⟩
  (TOk.cons ⟨Tryd.underlying110, by kernel_rfl, trivial⟩
  (TOk.cons ⟨Tryd.underlying111, by kernel_rfl, trivial⟩
  (TOk.cons ⟨Tryd.underlying112, by kernel_rfl, trivial⟩
  (TOk.cons ⟨Tryd.underlying113, by kernel_rfl, by show (_ : List (Nat × Option Nat)) = _; kernel_rfl⟩
  (TOk.cons ⟨Tryd.underlying114, by kernel_rfl, by show (_ : List (Nat × Option Nat)) = _; kernel_rfl⟩
  (TOk.cons ⟨Tryd.underlying115, by kernel_rfl, trivial⟩
  (TOk.cons ⟨Tryd.underlying116, by kernel_rfl, trivial⟩
  (TOk.cons ⟨Tryd.underlying117, by kernel_rfl, trivial⟩
  (TOk.cons ⟨Tryd.underlying118, by kernel_rfl, trivial⟩
  (TOk.cons ⟨Tryd.underlying119, by kernel_rfl, trivial⟩
  (TOk.cons ⟨Tryd.underlying120, by kernel_rfl, trivial⟩
  (TOk.cons ⟨Tryd.underlying121, by kernel_rfl, trivial⟩
  (TOk.cons ⟨Tryd.underlying122, by kernel_rfl, trivial⟩
  (TOk.cons ⟨Tryd.underlying123, by kernel_rfl, trivial⟩
  (TOk.cons ⟨Tryd.underlying125, by kernel_rfl, trivial⟩
  (TOk.cons ⟨Tryd.underlying126, by kernel_rfl, by show (_ : List (Nat × Option Nat)) = _; kernel_rfl⟩
  (TOk.cons ⟨Tryd.underlying127, by kernel_rfl, by show (_ : List (Nat × Option Nat)) = _; kernel_rfl⟩
  (TOk.cons ⟨Tryd.underlying128, by kernel_rfl, trivial⟩
  (TOk.cons ⟨Tryd.underlying129, by kernel_rfl, trivial⟩
  (TOk.cons ⟨Tryd.underlying130, by kernel_rfl, trivial⟩
  (TOk.cons ⟨Tryd.underlying131, by kernel_rfl, trivial⟩
  (TOk.cons ⟨Tryd.underlying132, by kernel_rfl, by show (_ : List (Nat × Option Nat)) = _; kernel_rfl⟩
  (TOk.cons ⟨Tryd.underlying133, by kernel_rfl, by show (_ : List (Nat × Option Nat)) = _; kernel_rfl⟩
  (TOk.cons ⟨Tryd.underlying134, by kernel_rfl, trivial⟩
  (TOk.cons ⟨Tryd.underlying135, by kernel_rfl, trivial⟩
  (TOk.cons ⟨Tryd.underlying136, by kernel_rfl, trivial⟩
  (TOk.cons ⟨Tryd.underlying137, by kernel_rfl, trivial⟩
  (TOk.cons ⟨Tryd.underlying139, by kernel_rfl, trivial⟩
  (TOk.cons ⟨Tryd.underlying140, by kernel_rfl, trivial⟩
  (TOk.cons ⟨Tryd.underlying141, by kernel_rfl, trivial⟩
  (TOk.cons ⟨Tryd.underlying142, by kernel_rfl, trivial⟩
  (TOk.cons ⟨Tryd.underlying143, by kernel_rfl, trivial⟩
  (TOk.cons ⟨Tryd.underlying144, by kernel_rfl, trivial⟩
  (TOk.cons ⟨Tryd.underlying145, by kernel_rfl, trivial⟩
  (TOk.cons ⟨Tryd.underlying146, by kernel_rfl, trivial⟩
  (TOk.cons ⟨Tryd.underlying147, by kernel_rfl, trivial⟩
  (TOk.cons ⟨Tryd.underlying148, by kernel_rfl, by show (_ : List (Nat × Option Nat)) = _; kernel_rfl⟩
  (TOk.cons ⟨Tryd.underlying149, by kernel_rfl, by show (_ : List (Nat × Option Nat)) = _; kernel_rfl⟩
  (TOk.cons ⟨Tryd.underlying150, by kernel_rfl, trivial⟩
  (TOk.cons ⟨Tryd.underlying151, by kernel_rfl, by show (_ : List (Nat × Option Nat)) = _; kernel_rfl⟩
  (TOk.cons ⟨Tryd.underlying152, by kernel_rfl, by show (_ : List (Nat × Option Nat)) = _; kernel_rfl⟩
  (TOk.cons ⟨Tryd.underlying153, by kernel_rfl, trivial⟩
  (TOk.cons ⟨Tryd.underlying154, by kernel_rfl, trivial⟩
  (TOk.cons ⟨Tryd.underlying155, by kernel_rfl, trivial⟩
  (TOk.cons ⟨Tryd.underlying156, by kernel_rfl, trivial⟩
  (TOk.cons ⟨Tryd.underlying157, by kernel_rfl, trivial⟩
  (TOk.cons ⟨Tryd.underlying158, by kernel_rfl, trivial⟩
  (TOk.cons ⟨Tryd.underlying159, by kernel_rfl, by show (_ : List (Nat × Option Nat)) = _; kernel_rfl⟩
  (TOk.cons ⟨Tryd.underlying160, by kernel_rfl, by show (_ : List (Nat × Option Nat)) = _; kernel_rfl⟩
  (TOk.cons ⟨Tryd.underlying161, by kernel_rfl, by show (_ : List (Nat × Option Nat)) = _; kernel_rfl⟩
  (TOk.cons ⟨Tryd.underlying162, by kernel_rfl, by show (_ : List (Nat × Option Nat)) = _; kernel_rfl⟩
  (TOk.nil _))))))))))))))))))))))))))))))))))))))))))))))))))))))))))))))))))))))))))))))))))))))))))))))))))))))))))))))))))))))))))))))))))))))))))))))))))))))
theorem mixed : Tryd.prog.follows .mixedOrders = true := by kernel_rfl
end Go.Proofs.YtnaeeklnlddcaaaDoor.Vex
/- The library's contracts, laid at this seat's dump by the kit's tools lay-shelf and lay-plain: each holds for whatever its own premises allow. -/
/-
  DERIVED: THE SHELF's CONTRACTS AT THIS DUMP, IN PLAIN WORDS (tools/lay-plain.mjs out of 'TrydShelf.lean', which tools/lay-shelf.mjs wrote): THE SAME DECLARATIONS UNDER THE SAME NAMES: 'import', 'namespace', 'open', 'def', 'theorem' AND NOTHING ELSE: no command of the shelf's: FOR A HAND-IN. Each laying: the table of numbers ('.._ren') and one theorem, a field a fact of the dump's own or the kernel's comparison; each contract: ONE APPLICATION.
-/
namespace Go.Proofs
open Go.Shelf
def Tryd.lays156_ren : Go.Shelf.Ren := ⟨fun | 156 => 27 | 165 => 35 | 166 => 36 | 169 => 37 | 240 => 52 | 241 => 53 | 276 => 64 | 277 => 65 | n => n, fun | 31 => 40 | 9 => 9 | 3 => 3 | 4 => 4 | 0 => 0 | 20 => 20 | 72 => 80 | 76 => 84 | 70 => 78 | 37 => 73 | 75 => 83 | 127 => 102 | 164 => 108 | 5 => 5 | 80 => 86 | n => n, fun | n => n⟩
theorem Tryd.lays156 : Go.Proofs.Lays.n156 Tryd.prog Tryd.lays156_ren := {
  mixed := by kernel_rfl
  f156 := Tryd.func27.trans (congrArg some (by kernel_rfl))
  f165 := Tryd.func35.trans (congrArg some (by kernel_rfl))
  f166 := Tryd.func36.trans (congrArg some (by kernel_rfl))
  f169 := Tryd.func37.trans (congrArg some (by kernel_rfl))
  f240 := Tryd.func52.trans (congrArg some (by kernel_rfl))
  f241 := Tryd.func53.trans (congrArg some (by kernel_rfl))
  f276 := Tryd.func64.trans (congrArg some (by kernel_rfl))
  f277 := Tryd.func65.trans (congrArg some (by kernel_rfl))
  t0 := Tryd.underlying0
  a0 := Tryd.isAgg0
  z0 := Tryd.sizeOf0
  v0 := Tryd.zeroValue0
  t3 := Tryd.underlying3
  a3 := Tryd.isAgg3
  z3 := Tryd.sizeOf3
  v3 := Tryd.zeroValue3
  t4 := Tryd.underlying4
  a4 := Tryd.isAgg4
  z4 := Tryd.sizeOf4
  v4 := Tryd.zeroValue4
  t9 := Tryd.underlying9
  a9 := Tryd.isAgg9
  z9 := Tryd.sizeOf9
  v9 := Tryd.zeroValue9
  t20 := Tryd.underlying20
  a20 := Tryd.isAgg20
  z20 := Tryd.sizeOf20
  v20 := Tryd.zeroValue20
  t31 := Tryd.underlying40
  a31 := Tryd.isAgg40
  z31 := Tryd.sizeOf40
  v31 := Tryd.zeroValue40
  t37 := Tryd.underlying73
  a37 := Tryd.isAgg73
  z37 := Tryd.sizeOf73
  v37 := Tryd.zeroValue73
  t70 := Tryd.underlying78
  a70 := Tryd.isAgg78
  z70 := Tryd.sizeOf78
  v70 := Tryd.zeroValue78
  t72 := Tryd.underlying80
  a72 := Tryd.isAgg80
  z72 := Tryd.sizeOf80
  v72 := Tryd.zeroValue80
  t75 := Tryd.underlying83
  a75 := Tryd.isAgg83
  z75 := Tryd.sizeOf83
  v75 := Tryd.zeroValue83
  t76 := Tryd.underlying84
  a76 := Tryd.isAgg84
  z76 := Tryd.sizeOf84
  v76 := Tryd.zeroValue84
  t127 := Tryd.underlying102
  a127 := Tryd.isAgg102
  z127 := Tryd.sizeOf102
  v127 := Tryd.zeroValue102
  t164 := Tryd.underlying108
  a164 := Tryd.isAgg108
  z164 := Tryd.sizeOf108
  v164 := Tryd.zeroValue108 }
theorem Tryd.Builder_Extra_156 : Builder.Extra Tryd.prog Tryd.lays156_ren := {
  sizeBuilder := by kernel_rfl
  liesBuilder := by kernel_rfl
  t5 := Tryd.underlying5
  a5 := Tryd.isAgg5
  z5 := Tryd.sizeOf5
  v5 := Tryd.zeroValue5
  infoByte := by kernel_rfl
  cellsByte := by kernel_rfl
  sizeByte := by kernel_rfl
  neB5 := by decide }
open Go.RowKit in
/-- No element: the empty string; the world is as it was. (Whatever the slice's address and capacity: a nil slice too.) (LAID: no walk: one application.) -/
theorem Tryd.strings_Join_none (a : Option Addr) (c : Nat) (sep : ByteArray) (w : World) :
    Calls Tryd.prog 27 #[.slice a 0 c, .string sep] w fun e w' => e = .returned (.string ⟨#[]⟩) ∧ w' = w := Any.strings_Join_none Tryd.lays156 Tryd.Builder_Extra_156 a c sep w
open Go.RowKit in
/-- strings.Join: "Join concatenates the elements of its first argument to create a single string. The separator string sep is placed between elements in the resulting string.": HOWEVER MANY ELEMENTS. Below the heap's end the world is as it was. (LAID: no walk: one application.) -/
theorem Tryd.strings_Join (bk o c : Nat) (xs : List ByteArray) (sep : ByteArray) (w : World) (hcells : ∀ (j : Nat) x, xs[j]? = some x → w.cell? ⟨bk, o + j, none⟩ = some (.string x)) (hbk : bk < w.heap.size) (hN : xs.length ≤ 140737488355328) (hcap : xs.length ≤ c) (hlen : (Lib.join (xs.map (·.data.toList)) sep.data.toList).length ≤ 140737488355328) :
    Calls Tryd.prog 27 #[.slice (some ⟨bk, o, none⟩) xs.length c, .string sep] w fun e w' => e = .returned (.string ⟨(Lib.join (xs.map (·.data.toList)) sep.data.toList).toArray⟩) ∧ Below w.heap.size w w' := Any.strings_Join Tryd.lays156 Tryd.Builder_Extra_156 bk o c xs sep w hcells hbk hN hcap hlen
def Tryd.lays160_ren : Go.Shelf.Ren := ⟨fun | 160 => 34 | 232 => 46 | 231 => 45 | 227 => 47 | 234 => 49 | 233 => 48 | 236 => 51 | 235 => 50 | 228 => 61 | 271 => 63 | 151 => 62 | 197 => 40 | 120 => 77 | 152 => 76 | 260 => 55 | 137 => 54 | 119 => 83 | 224 => 68 | 225 => 67 | 217 => 66 | 266 => 78 | n => n, fun | 9 => 9 | 4 => 4 | 3 => 3 | 5 => 5 | 117 => 98 | 116 => 97 | 0 => 0 | 124 => 101 | 21 => 21 | 105 => 88 | 46 => 112 | 119 => 111 | 139 => 115 | 138 => 114 | n => n, fun | 3 => 0 | 4 => 1 | n => n⟩
theorem Tryd.lays160 : Go.Proofs.Lays.n160 Tryd.prog Tryd.lays160_ren := {
  mixed := by kernel_rfl
  f119 := Tryd.func83.trans (congrArg some (by kernel_rfl))
  f120 := Tryd.func77.trans (congrArg some (by kernel_rfl))
  f137 := Tryd.func54.trans (congrArg some (by kernel_rfl))
  f151 := Tryd.func62.trans (congrArg some (by kernel_rfl))
  f152 := Tryd.func76.trans (congrArg some (by kernel_rfl))
  f160 := Tryd.func34.trans (congrArg some (by kernel_rfl))
  f197 := Tryd.func40.trans (congrArg some (by kernel_rfl))
  f217 := Tryd.func66.trans (congrArg some (by kernel_rfl))
  f224 := Tryd.func68.trans (congrArg some (by kernel_rfl))
  f225 := Tryd.func67.trans (congrArg some (by kernel_rfl))
  f227 := Tryd.func47.trans (congrArg some (by kernel_rfl))
  f228 := Tryd.func61.trans (congrArg some (by kernel_rfl))
  f231 := Tryd.func45.trans (congrArg some (by kernel_rfl))
  f232 := Tryd.func46.trans (congrArg some (by kernel_rfl))
  f233 := Tryd.func48.trans (congrArg some (by kernel_rfl))
  f234 := Tryd.func49.trans (congrArg some (by kernel_rfl))
  f235 := Tryd.func50.trans (congrArg some (by kernel_rfl))
  f236 := Tryd.func51.trans (congrArg some (by kernel_rfl))
  f260 := Tryd.func55.trans (congrArg some (by kernel_rfl))
  f266 := Tryd.func78.trans (congrArg some (by kernel_rfl))
  f271 := Tryd.func63.trans (congrArg some (by kernel_rfl))
  t0 := Tryd.underlying0
  a0 := Tryd.isAgg0
  z0 := Tryd.sizeOf0
  v0 := Tryd.zeroValue0
  t3 := Tryd.underlying3
  a3 := Tryd.isAgg3
  z3 := Tryd.sizeOf3
  v3 := Tryd.zeroValue3
  t4 := Tryd.underlying4
  a4 := Tryd.isAgg4
  z4 := Tryd.sizeOf4
  v4 := Tryd.zeroValue4
  t5 := Tryd.underlying5
  a5 := Tryd.isAgg5
  z5 := Tryd.sizeOf5
  v5 := Tryd.zeroValue5
  t9 := Tryd.underlying9
  a9 := Tryd.isAgg9
  z9 := Tryd.sizeOf9
  v9 := Tryd.zeroValue9
  t21 := Tryd.underlying21
  a21 := Tryd.isAgg21
  z21 := Tryd.sizeOf21
  v21 := Tryd.zeroValue21
  t46 := Tryd.underlying112
  a46 := Tryd.isAgg112
  z46 := Tryd.sizeOf112
  v46 := Tryd.zeroValue112
  t105 := Tryd.underlying88
  a105 := Tryd.isAgg88
  z105 := Tryd.sizeOf88
  v105 := Tryd.zeroValue88
  t116 := Tryd.underlying97
  a116 := Tryd.isAgg97
  z116 := Tryd.sizeOf97
  t117 := Tryd.underlying98
  a117 := Tryd.isAgg98
  z117 := Tryd.sizeOf98
  v117 := Tryd.zeroValue98
  t119 := Tryd.underlying111
  a119 := Tryd.isAgg111
  z119 := Tryd.sizeOf111
  t124 := Tryd.underlying101
  a124 := Tryd.isAgg101
  z124 := Tryd.sizeOf101
  v124 := Tryd.zeroValue101
  t138 := Tryd.underlying114
  a138 := Tryd.isAgg114
  z138 := Tryd.sizeOf114
  v138 := Tryd.zeroValue114
  t139 := Tryd.underlying115
  a139 := Tryd.isAgg115
  z139 := Tryd.sizeOf115
  v139 := Tryd.zeroValue115
  g3 := by kernel_rfl
  g4 := by kernel_rfl }
def Tryd.lays137_ren : Go.Shelf.Ren := ⟨fun | 137 => 54 | 217 => 66 | 266 => 78 | n => n, fun | 9 => 9 | 5 => 5 | 3 => 3 | n => n, fun | n => n⟩
theorem Tryd.lays137 : Go.Proofs.Lays.n137 Tryd.prog Tryd.lays137_ren := {
  mixed := by kernel_rfl
  f137 := Tryd.func54.trans (congrArg some (by kernel_rfl))
  f217 := Tryd.func66.trans (congrArg some (by kernel_rfl))
  f266 := Tryd.func78.trans (congrArg some (by kernel_rfl))
  t3 := Tryd.underlying3
  a3 := Tryd.isAgg3
  z3 := Tryd.sizeOf3
  v3 := Tryd.zeroValue3
  t5 := Tryd.underlying5
  a5 := Tryd.isAgg5
  z5 := Tryd.sizeOf5
  v5 := Tryd.zeroValue5
  t9 := Tryd.underlying9
  a9 := Tryd.isAgg9
  z9 := Tryd.sizeOf9
  v9 := Tryd.zeroValue9 }
open Go.RowKit in
/-- strings.IndexByte: "IndexByte returns the index of the first instance of c in s, or -1 if c is not present in s.": IT RETURNS 'Lib.indexByte s c'; the world is as it was. (LAID: no walk: one application.) -/
theorem Tryd.strings_IndexByte (s : ByteArray) (c : Int) (w : World) :
    Calls Tryd.prog 54 #[.string s, .int .u8 c] w fun e w' => e = .returned (.int .i64 (Lib.indexByte s.data.toList c.toNat.toUInt8)) ∧ w' = w := Any.strings_IndexByte Tryd.lays137 s c w
def Tryd.laysM171_ren : Go.Shelf.Ren := ⟨fun | 171 => 82 | 243 => 84 | 246 => 85 | 283 => 86 | 284 => 87 | 285 => 88 | 286 => 89 | 129 => 91 | 317 => 90 | 318 => 92 | 319 => 93 | 320 => 94 | 337 => 95 | 338 => 96 | n => n, fun | 3 => 3 | 9 => 9 | 2 => 2 | 4 => 4 | 171 => 135 | 0 => 0 | 53 => 91 | 37 => 73 | 5 => 5 | 173 => 138 | 212 => 141 | 51 => 123 | 20 => 20 | 213 => 142 | 46 => 112 | 232 => 146 | 233 => 147 | n => n, fun | 17 => 5 | 18 => 6 | 19 => 7 | n => n⟩
theorem Tryd.laysM171 : Go.Proofs.LaysM.n171 Tryd.prog Tryd.laysM171_ren := {
  mixed := by kernel_rfl
  f129 := Tryd.func91.trans (congrArg some (by kernel_rfl))
  f171 := Tryd.func82.trans (congrArg some (by kernel_rfl))
  f243 := Tryd.func84.trans (congrArg some (by kernel_rfl))
  f246 := Tryd.func85.trans (congrArg some (by kernel_rfl))
  f283 := Tryd.func86.trans (congrArg some (by kernel_rfl))
  f284 := Tryd.func87.trans (congrArg some (by kernel_rfl))
  f285 := Tryd.func88.trans (congrArg some (by kernel_rfl))
  f286 := Tryd.func89.trans (congrArg some (by kernel_rfl))
  f317 := Tryd.func90.trans (congrArg some (by kernel_rfl))
  f318 := Tryd.func92.trans (congrArg some (by kernel_rfl))
  f319 := Tryd.func93.trans (congrArg some (by kernel_rfl))
  f320 := Tryd.func94.trans (congrArg some (by kernel_rfl))
  f337 := Tryd.func95.trans (congrArg some (by kernel_rfl))
  f338 := Tryd.func96.trans (congrArg some (by kernel_rfl))
  t0 := Tryd.underlying0
  a0 := Tryd.isAgg0
  z0 := Tryd.sizeOf0
  v0 := Tryd.zeroValue0
  t2 := Tryd.underlying2
  a2 := Tryd.isAgg2
  z2 := Tryd.sizeOf2
  v2 := Tryd.zeroValue2
  t3 := Tryd.underlying3
  a3 := Tryd.isAgg3
  z3 := Tryd.sizeOf3
  v3 := Tryd.zeroValue3
  t4 := Tryd.underlying4
  a4 := Tryd.isAgg4
  z4 := Tryd.sizeOf4
  v4 := Tryd.zeroValue4
  t5 := Tryd.underlying5
  a5 := Tryd.isAgg5
  z5 := Tryd.sizeOf5
  v5 := Tryd.zeroValue5
  t9 := Tryd.underlying9
  a9 := Tryd.isAgg9
  z9 := Tryd.sizeOf9
  v9 := Tryd.zeroValue9
  t20 := Tryd.underlying20
  a20 := Tryd.isAgg20
  z20 := Tryd.sizeOf20
  v20 := Tryd.zeroValue20
  t37 := Tryd.underlying73
  a37 := Tryd.isAgg73
  z37 := Tryd.sizeOf73
  v37 := Tryd.zeroValue73
  t46 := Tryd.underlying112
  a46 := Tryd.isAgg112
  z46 := Tryd.sizeOf112
  v46 := Tryd.zeroValue112
  t51 := Tryd.underlying123
  a51 := Tryd.isAgg123
  z51 := Tryd.sizeOf123
  v51 := Tryd.zeroValue123
  t53 := Tryd.underlying91
  a53 := Tryd.isAgg91
  z53 := Tryd.sizeOf91
  v53 := Tryd.zeroValue91
  t171 := Tryd.underlying135
  a171 := Tryd.isAgg135
  z171 := Tryd.sizeOf135
  v171 := Tryd.zeroValue135
  t173 := Tryd.underlying138
  a173 := Tryd.isAgg138
  z173 := Tryd.sizeOf138
  v173 := Tryd.zeroValue138
  t212 := Tryd.underlying141
  a212 := Tryd.isAgg141
  z212 := Tryd.sizeOf141
  v212 := Tryd.zeroValue141
  t213 := Tryd.underlying142
  a213 := Tryd.isAgg142
  z213 := Tryd.sizeOf142
  t232 := Tryd.underlying146
  a232 := Tryd.isAgg146
  z232 := Tryd.sizeOf146
  v232 := Tryd.zeroValue146
  t233 := Tryd.underlying147
  a233 := Tryd.isAgg147
  z233 := Tryd.sizeOf147
  v233 := Tryd.zeroValue147
  g17 := by kernel_rfl
  g18 := by kernel_rfl
  g19 := by kernel_rfl
  i0 := by kernel_rfl
  i2 := by kernel_rfl
  i3 := by kernel_rfl
  i4 := by kernel_rfl
  i5 := by kernel_rfl
  i9 := by kernel_rfl
  i20 := by kernel_rfl
  i37 := by kernel_rfl
  i46 := by kernel_rfl
  i51 := by kernel_rfl
  i53 := by kernel_rfl
  i171 := by kernel_rfl
  i173 := by kernel_rfl
  i212 := by kernel_rfl
  i232 := by kernel_rfl
  i233 := by kernel_rfl
  m17 := by kernel_rfl
  m18 := by kernel_rfl
  m19 := by kernel_rfl }
open Go.RowKit Go.Sort Go.Lib in
/-- strconv.Itoa: "Itoa is equivalent to FormatInt(int64(i), 10).": i's DECIMAL NUMERAL ('Lib.itoa': a '-' where i is negative, then the digits), FOR EVERY int. The world behind the call: the world before it, new blocks behind the heap (the library's 'var a [24]byte'), draws. (LAID: no walk: one application.) -/
theorem Tryd.strconv_Itoa (n : Int) (h0 : -9223372036854775808 ≤ n) (h1 : n ≤ 9223372036854775807) (w : World) (htab : Lib.TabIs Tryd.prog w "internal/strconv.uint64pow10" .u64 Lib.pow10Tab) :
    Calls Tryd.prog 82 #[.int .i64 n] w fun e w' => e = .returned (.string ⟨(Lib.itoa n).toArray⟩) ∧ ∃ k os, w' = grow (w.drewN k) os := Any.strconv_Itoa Tryd.laysM171 n h0 h1 w htab
def Tryd.laysC245_ren : Go.Shelf.Ren := ⟨fun | 245 => 58 | 279 => 72 | 280 => 73 | 281 => 74 | 282 => 75 | 316 => 80 | 171 => 82 | 205 => 81 | 243 => 84 | 246 => 85 | 283 => 86 | 284 => 87 | 285 => 88 | 286 => 89 | 129 => 91 | 317 => 90 | 318 => 92 | 319 => 93 | 320 => 94 | 337 => 95 | 338 => 96 | n => n, fun | 9 => 9 | 3 => 3 | 75 => 83 | 167 => 117 | 4 => 4 | 168 => 119 | 210 => 127 | 37 => 73 | 0 => 0 | 127 => 102 | 145 => 133 | 143 => 131 | 2 => 2 | 171 => 135 | 53 => 91 | 5 => 5 | 173 => 138 | 212 => 141 | 51 => 123 | 20 => 20 | 213 => 142 | 46 => 112 | 232 => 146 | 233 => 147 | 80 => 86 | n => n, fun | 15 => 3 | 16 => 4 | 17 => 5 | 18 => 6 | 19 => 7 | n => n⟩
theorem Tryd.laysC245 : Go.Proofs.LaysC.n245 Tryd.prog Tryd.laysC245_ren := {
  mixed := by kernel_rfl
  f129 := Tryd.func91.trans (congrArg some (by kernel_rfl))
  f171 := Tryd.func82.trans (congrArg some (by kernel_rfl))
  f205 := Tryd.func81.trans (congrArg some (by kernel_rfl))
  f243 := Tryd.func84.trans (congrArg some (by kernel_rfl))
  f245 := Tryd.func58.trans (congrArg some (by kernel_rfl))
  f246 := Tryd.func85.trans (congrArg some (by kernel_rfl))
  f279 := Tryd.func72.trans (congrArg some (by kernel_rfl))
  f280 := Tryd.func73.trans (congrArg some (by kernel_rfl))
  f281 := Tryd.func74.trans (congrArg some (by kernel_rfl))
  f282 := Tryd.func75.trans (congrArg some (by kernel_rfl))
  f283 := Tryd.func86.trans (congrArg some (by kernel_rfl))
  f284 := Tryd.func87.trans (congrArg some (by kernel_rfl))
  f285 := Tryd.func88.trans (congrArg some (by kernel_rfl))
  f286 := Tryd.func89.trans (congrArg some (by kernel_rfl))
  f316 := Tryd.func80.trans (congrArg some (by kernel_rfl))
  f317 := Tryd.func90.trans (congrArg some (by kernel_rfl))
  f318 := Tryd.func92.trans (congrArg some (by kernel_rfl))
  f319 := Tryd.func93.trans (congrArg some (by kernel_rfl))
  f320 := Tryd.func94.trans (congrArg some (by kernel_rfl))
  f337 := Tryd.func95.trans (congrArg some (by kernel_rfl))
  f338 := Tryd.func96.trans (congrArg some (by kernel_rfl))
  t0 := Tryd.underlying0
  a0 := Tryd.isAgg0
  z0 := Tryd.sizeOf0
  v0 := Tryd.zeroValue0
  t2 := Tryd.underlying2
  a2 := Tryd.isAgg2
  z2 := Tryd.sizeOf2
  v2 := Tryd.zeroValue2
  t3 := Tryd.underlying3
  a3 := Tryd.isAgg3
  z3 := Tryd.sizeOf3
  v3 := Tryd.zeroValue3
  t4 := Tryd.underlying4
  a4 := Tryd.isAgg4
  z4 := Tryd.sizeOf4
  v4 := Tryd.zeroValue4
  t5 := Tryd.underlying5
  a5 := Tryd.isAgg5
  z5 := Tryd.sizeOf5
  v5 := Tryd.zeroValue5
  t9 := Tryd.underlying9
  a9 := Tryd.isAgg9
  z9 := Tryd.sizeOf9
  v9 := Tryd.zeroValue9
  t20 := Tryd.underlying20
  a20 := Tryd.isAgg20
  z20 := Tryd.sizeOf20
  v20 := Tryd.zeroValue20
  t37 := Tryd.underlying73
  a37 := Tryd.isAgg73
  z37 := Tryd.sizeOf73
  v37 := Tryd.zeroValue73
  t46 := Tryd.underlying112
  a46 := Tryd.isAgg112
  z46 := Tryd.sizeOf112
  v46 := Tryd.zeroValue112
  t51 := Tryd.underlying123
  a51 := Tryd.isAgg123
  z51 := Tryd.sizeOf123
  v51 := Tryd.zeroValue123
  t53 := Tryd.underlying91
  a53 := Tryd.isAgg91
  z53 := Tryd.sizeOf91
  v53 := Tryd.zeroValue91
  t75 := Tryd.underlying83
  a75 := Tryd.isAgg83
  z75 := Tryd.sizeOf83
  v75 := Tryd.zeroValue83
  t127 := Tryd.underlying102
  a127 := Tryd.isAgg102
  z127 := Tryd.sizeOf102
  v127 := Tryd.zeroValue102
  t143 := Tryd.underlying131
  a143 := Tryd.isAgg131
  z143 := Tryd.sizeOf131
  v143 := Tryd.zeroValue131
  t145 := Tryd.underlying133
  a145 := Tryd.isAgg133
  z145 := Tryd.sizeOf133
  v145 := Tryd.zeroValue133
  t167 := Tryd.underlying117
  a167 := Tryd.isAgg117
  z167 := Tryd.sizeOf117
  v167 := Tryd.zeroValue117
  t168 := Tryd.underlying119
  a168 := Tryd.isAgg119
  z168 := Tryd.sizeOf119
  v168 := Tryd.zeroValue119
  t171 := Tryd.underlying135
  a171 := Tryd.isAgg135
  z171 := Tryd.sizeOf135
  v171 := Tryd.zeroValue135
  t173 := Tryd.underlying138
  a173 := Tryd.isAgg138
  z173 := Tryd.sizeOf138
  v173 := Tryd.zeroValue138
  t210 := Tryd.underlying127
  a210 := Tryd.isAgg127
  z210 := Tryd.sizeOf127
  v210 := Tryd.zeroValue127
  t212 := Tryd.underlying141
  a212 := Tryd.isAgg141
  z212 := Tryd.sizeOf141
  v212 := Tryd.zeroValue141
  t213 := Tryd.underlying142
  a213 := Tryd.isAgg142
  z213 := Tryd.sizeOf142
  t232 := Tryd.underlying146
  a232 := Tryd.isAgg146
  z232 := Tryd.sizeOf146
  v232 := Tryd.zeroValue146
  t233 := Tryd.underlying147
  a233 := Tryd.isAgg147
  z233 := Tryd.sizeOf147
  v233 := Tryd.zeroValue147
  g15 := by kernel_rfl
  g16 := by kernel_rfl
  g17 := by kernel_rfl
  g18 := by kernel_rfl
  g19 := by kernel_rfl
  t80 := Tryd.underlying86
  a80 := Tryd.isAgg86
  z80 := Tryd.sizeOf86
  v80 := Tryd.zeroValue86
  i0 := by kernel_rfl
  i2 := by kernel_rfl
  i3 := by kernel_rfl
  i4 := by kernel_rfl
  i5 := by kernel_rfl
  i9 := by kernel_rfl
  i20 := by kernel_rfl
  i37 := by kernel_rfl
  i46 := by kernel_rfl
  i51 := by kernel_rfl
  i53 := by kernel_rfl
  i75 := by kernel_rfl
  i80 := by kernel_rfl
  i127 := by kernel_rfl
  i143 := by kernel_rfl
  i145 := by kernel_rfl
  i167 := by kernel_rfl
  i168 := by kernel_rfl
  i171 := by kernel_rfl
  i173 := by kernel_rfl
  i210 := by kernel_rfl
  i212 := by kernel_rfl
  i232 := by kernel_rfl
  i233 := by kernel_rfl
  m15 := by kernel_rfl
  m16 := by kernel_rfl
  m17 := by kernel_rfl
  m18 := by kernel_rfl
  m19 := by kernel_rfl
  c0 := by kernel_rfl
  c2 := by kernel_rfl
  c3 := by kernel_rfl
  c4 := by kernel_rfl
  c5 := by kernel_rfl
  c9 := by kernel_rfl
  c20 := by kernel_rfl
  c37 := by kernel_rfl
  c46 := by kernel_rfl
  c51 := by kernel_rfl
  c53 := by kernel_rfl
  c75 := by kernel_rfl
  c80 := by kernel_rfl
  c127 := by kernel_rfl
  c143 := by kernel_rfl
  c145 := by kernel_rfl
  c167 := by kernel_rfl
  c168 := by kernel_rfl
  c171 := by kernel_rfl
  c173 := by kernel_rfl
  c210 := by kernel_rfl
  c212 := by kernel_rfl
  c213 := by kernel_rfl
  c232 := by kernel_rfl
  c233 := by kernel_rfl }
open Go.RowKit in
/-- strconv.toError, at the inner package's ErrSyntax: 'syntaxError(fn, s)' as an error: A *NumError IN A NEW BLOCK. (LAID: no walk: one application.) -/
theorem Tryd.strconv_toError_syntax (fn s : ByteArray) (base bits : Int) (ev : Value) (w : World) (hlim : s.size ≤ 281474976710656) (hv : w.cell? ⟨3, 0, none⟩ = some ev) (hev : ev = .nilIface ∨ ∃ te pe, ev = .iface te pe) :
    Calls Tryd.prog 58 #[.string fn, .string s, .int .i64 base, .int .i64 bits, .iface 117 (.int .i64 2)] w fun e w' => ∃ N, e = .returned (.iface 119 (.pointer (some ⟨N, 0, none⟩))) ∧ w.heap.size ≤ N ∧ w'.heap[N]? = some (.cells #[.string fn, .string s, ev] 127 (0, 0)) ∧ Below w.heap.size w w' := Any.strconv_toError_syntax Tryd.laysC245 fn s base bits ev w hlim hv hev
def Tryd.lays321_ren : Go.Shelf.Ren := ⟨fun | 321 => 70 | n => n, fun | 5 => 5 | n => n, fun | n => n⟩
theorem Tryd.lays321 : Go.Proofs.Lays.n321 Tryd.prog Tryd.lays321_ren := {
  mixed := by kernel_rfl
  f321 := Tryd.func70.trans (congrArg some (by kernel_rfl))
  t5 := Tryd.underlying5
  a5 := Tryd.isAgg5
  z5 := Tryd.sizeOf5
  v5 := Tryd.zeroValue5 }
open Go.RowKit in
/-- internal/strconv.lower: 'c | ('x' - 'X')': the bit 32 set. The world is as it was. (LAID: no walk: one application.) -/
theorem Tryd.internal_strconv_lower (c : Int) (w : World) :
    Calls Tryd.prog 70 #[.int .u8 c] w fun e w' => e = .returned (.int .u8 (bits .or .u8 c 32)) ∧ w' = w := Any.internal_strconv_lower Tryd.lays321 c w
open Go.RowKit in
/-- strconv.toError, at the inner package's ErrRange: 'rangeError(fn, s)' as an error: A *NumError IN A NEW BLOCK. (LAID: no walk: one application.) -/
theorem Tryd.strconv_toError_range (fn s : ByteArray) (base bits : Int) (ev : Value) (w : World) (hlim : s.size ≤ 281474976710656) (hv : w.cell? ⟨4, 0, none⟩ = some ev) (hev : ev = .nilIface ∨ ∃ te pe, ev = .iface te pe) :
    Calls Tryd.prog 58 #[.string fn, .string s, .int .i64 base, .int .i64 bits, .iface 117 (.int .i64 1)] w fun e w' => ∃ N, e = .returned (.iface 119 (.pointer (some ⟨N, 0, none⟩))) ∧ w.heap.size ≤ N ∧ w'.heap[N]? = some (.cells #[.string fn, .string s, ev] 127 (0, 0)) ∧ Below w.heap.size w w' := Any.strconv_toError_range Tryd.laysC245 fn s base bits ev w hlim hv hev
def Tryd.lays143_ren : Go.Shelf.Ren := ⟨fun | 143 => 41 | 219 => 56 | 217 => 66 | 225 => 67 | 224 => 68 | 267 => 69 | 266 => 78 | 314 => 79 | n => n, fun | 9 => 9 | 3 => 3 | 4 => 4 | 5 => 5 | 46 => 112 | 146 => 124 | 51 => 123 | n => n, fun | 1 => 2 | n => n⟩
theorem Tryd.lays143 : Go.Proofs.Lays.n143 Tryd.prog Tryd.lays143_ren := {
  mixed := by kernel_rfl
  f143 := Tryd.func41.trans (congrArg some (by kernel_rfl))
  f217 := Tryd.func66.trans (congrArg some (by kernel_rfl))
  f219 := Tryd.func56.trans (congrArg some (by kernel_rfl))
  f224 := Tryd.func68.trans (congrArg some (by kernel_rfl))
  f225 := Tryd.func67.trans (congrArg some (by kernel_rfl))
  f266 := Tryd.func78.trans (congrArg some (by kernel_rfl))
  f267 := Tryd.func69.trans (congrArg some (by kernel_rfl))
  f314 := Tryd.func79.trans (congrArg some (by kernel_rfl))
  t3 := Tryd.underlying3
  a3 := Tryd.isAgg3
  z3 := Tryd.sizeOf3
  v3 := Tryd.zeroValue3
  t4 := Tryd.underlying4
  a4 := Tryd.isAgg4
  z4 := Tryd.sizeOf4
  v4 := Tryd.zeroValue4
  t5 := Tryd.underlying5
  a5 := Tryd.isAgg5
  z5 := Tryd.sizeOf5
  v5 := Tryd.zeroValue5
  t9 := Tryd.underlying9
  a9 := Tryd.isAgg9
  z9 := Tryd.sizeOf9
  v9 := Tryd.zeroValue9
  t46 := Tryd.underlying112
  a46 := Tryd.isAgg112
  z46 := Tryd.sizeOf112
  v46 := Tryd.zeroValue112
  t51 := Tryd.underlying123
  a51 := Tryd.isAgg123
  z51 := Tryd.sizeOf123
  v51 := Tryd.zeroValue123
  t146 := Tryd.underlying124
  a146 := Tryd.isAgg124
  z146 := Tryd.sizeOf124
  v146 := Tryd.zeroValue124
  g1 := by kernel_rfl }
open Go.RowKit Go.Lib in
/-- strings.Index: "Index returns the index of the first instance of substr in s, or -1 if substr is not present in s.": IT RETURNS 'Lib.index s substr'; the world is as it was. (LAID: no walk: one application.) -/
theorem Tryd.strings_Index (s sub : ByteArray) (m : Int) (w : World) (hs : s.size < 4294967281) (hm : w.cell? ⟨2, 0, none⟩ = some (.int .i64 m)) :
    Calls Tryd.prog 41 #[.string s, .string sub] w fun e w' => e = .returned (.int .i64 (Lib.index s.data.toList sub.data.toList)) ∧ w' = w := Any.strings_Index Tryd.lays143 s sub m w hs hm
def Tryd.lays99_ren : Go.Shelf.Ren := ⟨fun | 99 => 25 | 206 => 33 | n => n, fun | 9 => 9 | 4 => 4 | 3 => 3 | n => n, fun | n => n⟩
theorem Tryd.lays99 : Go.Proofs.Lays.n99 Tryd.prog Tryd.lays99_ren := {
  mixed := by kernel_rfl
  f99 := Tryd.func25.trans (congrArg some (by kernel_rfl))
  f206 := Tryd.func33.trans (congrArg some (by kernel_rfl))
  t3 := Tryd.underlying3
  a3 := Tryd.isAgg3
  z3 := Tryd.sizeOf3
  v3 := Tryd.zeroValue3
  t4 := Tryd.underlying4
  a4 := Tryd.isAgg4
  z4 := Tryd.sizeOf4
  v4 := Tryd.zeroValue4
  t9 := Tryd.underlying9
  a9 := Tryd.isAgg9
  z9 := Tryd.sizeOf9
  v9 := Tryd.zeroValue9 }
open Go.RowKit Go.Lib in
/-- strings.HasPrefix: "HasPrefix reports whether the string s begins with prefix.": IT RETURNS 'Lib.hasPrefix s prefix'; the world is as it was. (LAID: no walk: one application.) -/
theorem Tryd.strings_HasPrefix (s p : ByteArray) (w : World) :
    Calls Tryd.prog 25 #[.string s, .string p] w fun e w' => e = .returned (.bool (Lib.hasPrefix s.data.toList p.data.toList)) ∧ w' = w := Any.strings_HasPrefix Tryd.lays99 s p w
def Tryd.lays146_ren : Go.Shelf.Ren := ⟨fun | 146 => 24 | 221 => 32 | 268 => 43 | 138 => 44 | 143 => 41 | 195 => 59 | 197 => 40 | 218 => 60 | 219 => 56 | 260 => 55 | 217 => 66 | 225 => 67 | 224 => 68 | 267 => 69 | 266 => 78 | 314 => 79 | n => n, fun | 9 => 9 | 31 => 40 | 3 => 3 | 4 => 4 | 0 => 0 | 105 => 88 | 21 => 21 | 5 => 5 | 46 => 112 | 119 => 111 | 139 => 115 | 138 => 114 | 146 => 124 | 51 => 123 | n => n, fun | 1 => 2 | 3 => 0 | 4 => 1 | n => n⟩
theorem Tryd.lays146 : Go.Proofs.Lays.n146 Tryd.prog Tryd.lays146_ren := {
  mixed := by kernel_rfl
  f138 := Tryd.func44.trans (congrArg some (by kernel_rfl))
  f143 := Tryd.func41.trans (congrArg some (by kernel_rfl))
  f146 := Tryd.func24.trans (congrArg some (by kernel_rfl))
  f195 := Tryd.func59.trans (congrArg some (by kernel_rfl))
  f197 := Tryd.func40.trans (congrArg some (by kernel_rfl))
  f217 := Tryd.func66.trans (congrArg some (by kernel_rfl))
  f218 := Tryd.func60.trans (congrArg some (by kernel_rfl))
  f219 := Tryd.func56.trans (congrArg some (by kernel_rfl))
  f221 := Tryd.func32.trans (congrArg some (by kernel_rfl))
  f224 := Tryd.func68.trans (congrArg some (by kernel_rfl))
  f225 := Tryd.func67.trans (congrArg some (by kernel_rfl))
  f260 := Tryd.func55.trans (congrArg some (by kernel_rfl))
  f266 := Tryd.func78.trans (congrArg some (by kernel_rfl))
  f267 := Tryd.func69.trans (congrArg some (by kernel_rfl))
  f268 := Tryd.func43.trans (congrArg some (by kernel_rfl))
  f314 := Tryd.func79.trans (congrArg some (by kernel_rfl))
  t0 := Tryd.underlying0
  a0 := Tryd.isAgg0
  z0 := Tryd.sizeOf0
  v0 := Tryd.zeroValue0
  t3 := Tryd.underlying3
  a3 := Tryd.isAgg3
  z3 := Tryd.sizeOf3
  v3 := Tryd.zeroValue3
  t4 := Tryd.underlying4
  a4 := Tryd.isAgg4
  z4 := Tryd.sizeOf4
  v4 := Tryd.zeroValue4
  t5 := Tryd.underlying5
  a5 := Tryd.isAgg5
  z5 := Tryd.sizeOf5
  v5 := Tryd.zeroValue5
  t9 := Tryd.underlying9
  a9 := Tryd.isAgg9
  z9 := Tryd.sizeOf9
  v9 := Tryd.zeroValue9
  t21 := Tryd.underlying21
  a21 := Tryd.isAgg21
  z21 := Tryd.sizeOf21
  v21 := Tryd.zeroValue21
  t31 := Tryd.underlying40
  a31 := Tryd.isAgg40
  z31 := Tryd.sizeOf40
  v31 := Tryd.zeroValue40
  t46 := Tryd.underlying112
  a46 := Tryd.isAgg112
  z46 := Tryd.sizeOf112
  v46 := Tryd.zeroValue112
  t51 := Tryd.underlying123
  a51 := Tryd.isAgg123
  z51 := Tryd.sizeOf123
  v51 := Tryd.zeroValue123
  t105 := Tryd.underlying88
  a105 := Tryd.isAgg88
  z105 := Tryd.sizeOf88
  v105 := Tryd.zeroValue88
  t119 := Tryd.underlying111
  a119 := Tryd.isAgg111
  z119 := Tryd.sizeOf111
  t138 := Tryd.underlying114
  a138 := Tryd.isAgg114
  z138 := Tryd.sizeOf114
  v138 := Tryd.zeroValue114
  t139 := Tryd.underlying115
  a139 := Tryd.isAgg115
  z139 := Tryd.sizeOf115
  v139 := Tryd.zeroValue115
  t146 := Tryd.underlying124
  a146 := Tryd.isAgg124
  z146 := Tryd.sizeOf124
  v146 := Tryd.zeroValue124
  g1 := by kernel_rfl
  g3 := by kernel_rfl
  g4 := by kernel_rfl }
open Go.RowKit Go.Lib in
/-- strings.Split. (LAID: no walk: one application.) -/
theorem Tryd.strings_Split (s sep : ByteArray) (m : Int) (w : World) (hs : s.size < 4294967281) (hm : w.cell? ⟨2, 0, none⟩ = some (.int .i64 m)) (h1 : 1 ≤ sep.size) :
    Calls Tryd.prog 24 #[.string s, .string sep] w fun e w' =>
      e = .returned (.slice (some ⟨w.heap.size, 0, none⟩) (Lib.countB s sep + 1) (Lib.countB s sep + 1)) ∧ w' = w.alloc (.cells ((Lib.splitB sep 0 (Lib.countB s sep) s).map Value.string).toArray 9) := Any.strings_Split Tryd.lays146 (by kernel_rfl) s sep m w hs hm h1
def Tryd.lays110_ren : Go.Shelf.Ren := ⟨fun | 110 => 18 | 109 => 28 | n => n, fun | 31 => 40 | 9 => 9 | 4 => 4 | 3 => 3 | 0 => 0 | n => n, fun | n => n⟩
theorem Tryd.lays110 : Go.Proofs.Lays.n110 Tryd.prog Tryd.lays110_ren := {
  mixed := by kernel_rfl
  f109 := Tryd.func28.trans (congrArg some (by kernel_rfl))
  f110 := Tryd.func18.trans (congrArg some (by kernel_rfl))
  t0 := Tryd.underlying0
  a0 := Tryd.isAgg0
  z0 := Tryd.sizeOf0
  v0 := Tryd.zeroValue0
  t3 := Tryd.underlying3
  a3 := Tryd.isAgg3
  z3 := Tryd.sizeOf3
  v3 := Tryd.zeroValue3
  t4 := Tryd.underlying4
  a4 := Tryd.isAgg4
  z4 := Tryd.sizeOf4
  v4 := Tryd.zeroValue4
  t9 := Tryd.underlying9
  a9 := Tryd.isAgg9
  z9 := Tryd.sizeOf9
  v9 := Tryd.zeroValue9
  t31 := Tryd.underlying40
  a31 := Tryd.isAgg40
  z31 := Tryd.sizeOf40
  v31 := Tryd.zeroValue40 }
open Go.Lib in
/-- slices.Contains at []string: "Contains reports whether v is present in s.": IT RETURNS 'Lib.containsS (the elements) v', which is true just where v is among them ('Lib.containsS_iff'); the world is as it was. ITS CALLEE slices.Index IS MET BY ITS OWN CONTRACT OFF THE SHELF (lay that first): no loop is walked here. (LAID: no walk: one application.) -/
theorem Tryd.slices_Contains_string (b off n c : Nat) (zs : List ByteArray) (x : ByteArray) (w : World) (hz : n ≤ zs.length) (hbig : n ≤ 9223372036854775807) (hc : ∀ j, j < zs.length → w.cell? ⟨b, off + j, none⟩ = some (.string (zs.getD j ByteArray.empty))) :
    Calls Tryd.prog 18 #[.slice (some ⟨b, off, none⟩) n c, .string x] w fun e w' => e = .returned (.bool (Lib.containsS (zs.take n) x)) ∧ w' = w := Any.slices_Contains_string Tryd.lays110 b off n c zs x w hz hbig hc
open Go.Lib in
/-- The same at a slice of length 0, a nil one too. (LAID: no walk: one application.) -/
theorem Tryd.slices_Contains_string_empty (a : Option Addr) (c : Nat) (x : ByteArray) (w : World) :
    Calls Tryd.prog 18 #[.slice a 0 c, .string x] w fun e w' => e = .returned (.bool false) ∧ w' = w := Any.slices_Contains_string_empty Tryd.lays110 a c x w
end Go.Proofs
/- The library's functions, restated over byte lists: what each call computes, and that nothing that lay before has turned. -/
namespace Go.Proofs.YtnaeeklnlddcaaaDoor
open Go.RowKit

theorem dropWhile_le (p : UInt8 → Bool) (l : List UInt8) : (l.dropWhile p).length ≤ l.length := (List.dropWhile_sublist p).length_le
theorem trimLS_le (l c : List UInt8) : (Lib.trimLeftS l c).length ≤ l.length := dropWhile_le _ _
theorem trimRS_le (l c : List UInt8) : (Lib.trimRightS l c).length ≤ l.length := by
  unfold Lib.trimRightS
  have := dropWhile_le (c.contains ·) l.reverse
  simpa using this
theorem trimS_le (l c : List UInt8) : (Lib.trimS l c).length ≤ l.length := Nat.le_trans (trimLS_le _ _) (trimRS_le _ _)

theorem Trim_c (s : ByteArray) (w : World) (hs : s.size ≤ 9223372036854775807) :
    Calls Tryd.prog 34 #[.string s, .string ⟨#[32, 9]⟩] w fun e w' => ∃ r, e = .returned (.string r) ∧ r.size ≤ s.size ∧ Hid (L r = trimB (L s)) ∧ Below w.heap.size w w' :=
  (Any.strings_Trim_laid Tryd.lays160 (by kernel_rfl) s ⟨#[32, 9]⟩ w hs (by decide) (ascii_of_all (by decide))).mono fun e w' ⟨he, hb⟩ =>
    ⟨_, he, by rw [← L_length, L_mk, ← L_length]; exact trimS_le _ _, L_mk _, hb⟩
end Go.Proofs.YtnaeeklnlddcaaaDoor
/- What of the program's variables the walks lean on; the library's functions, restated over byte lists. -/
namespace Go.Proofs.YtnaeeklnlddcaaaDoor.Vex
open Go Go.RowKit

/-- What a walk may know of the program's variables. -/
class HasMax (g : GI) : Prop where
  ok : ∀ w, g.G w → ∃ m, w.cell? ⟨2, 0, none⟩ = some (.int .i64 m)
/-- A variable of an interface's type. -/
def ErrCell (g : Nat) (w : World) : Prop := ∃ ev, w.cell? ⟨g, 0, none⟩ = some ev ∧ (ev = .nilIface ∨ ∃ te pe, ev = .iface te pe)
theorem ErrCell.keep {g : Nat} {w w' : World} (h : ErrCell g w) (hb : w'.heap[g]? = w.heap[g]?) : ErrCell g w' := by
  obtain ⟨ev, h1, h2⟩ := h
  exact ⟨ev, (World.cell?_of_block hb).trans h1, h2⟩
theorem ErrCell.lt {g : Nat} {w : World} (h : ErrCell g w) : g < w.heap.size := by
  obtain ⟨ev, h1, _⟩ := h
  exact World.block_lt_of_cell? _ _ h1
class HasErr (g : GI) : Prop where
  ok : ∀ w, g.G w → ErrCell 3 w ∧ ErrCell 4 w
class HasPow (g : GI) : Prop where
  ok : ∀ w, g.G w → Lib.TabIs Tryd.prog w "internal/strconv.uint64pow10" .u64 Lib.pow10Tab
def gB : GI where
  n := 2 + 1
  G w := ∃ m, w.cell? ⟨2, 0, none⟩ = some (.int .i64 m)
  keep w w' h := fun ⟨m, h2⟩ => ⟨m, (World.cell?_of_block (h 2 (by omega))).trans h2⟩
  size w := fun ⟨_, h⟩ => World.block_lt_of_cell? _ _ h
instance : HasMax gB := ⟨fun _ h => h⟩
def gE : GI where
  n := max (2 + 1) (max (3 + 1) (4 + 1))
  G w := gB.G w ∧ ErrCell 3 w ∧ ErrCell 4 w
  keep w w' h := fun ⟨h1, h2, h3⟩ => ⟨gB.keep w w' (fun k hk => h k (Nat.lt_of_lt_of_le hk (Nat.le_max_left _ _))) h1, h2.keep (h _ (by omega)), h3.keep (h _ (by omega))⟩
  size w := fun ⟨h1, h2, h3⟩ => Nat.max_le.2 ⟨gB.size w h1, Nat.max_le.2 ⟨h2.lt, h3.lt⟩⟩
instance : HasMax gE := ⟨fun _ h => h.1⟩
instance : HasErr gE := ⟨fun _ h => h.2⟩
theorem pow_name : Tryd.prog.globalNamed "internal/strconv.uint64pow10" = some 5 := by kernel_rfl
def gP : GI where
  n := max gE.n (5 + 1)
  G w := gE.G w ∧ Lib.TabIs Tryd.prog w "internal/strconv.uint64pow10" .u64 Lib.pow10Tab
  keep w w' h := fun ⟨h1, h2⟩ => ⟨gE.keep w w' (fun k hk => h k (Nat.lt_of_lt_of_le hk (Nat.le_max_left _ _))) h1, by
    unfold Lib.TabIs World.var? at *
    rw [pow_name] at *
    simp only [Option.bind_some] at *
    rw [h 5 (by omega)]
    exact h2⟩
  size w := fun ⟨h1, h2⟩ => Nat.max_le.2 ⟨gE.size w h1, by
    have := h2.cell pow_name 0 (by decide)
    exact World.block_lt_of_cell? _ _ this⟩
instance : HasMax gP := ⟨fun _ h => h.1.1⟩
instance : HasErr gP := ⟨fun _ h => h.1.2⟩
instance : HasPow gP := ⟨fun _ h => h.2⟩
set_option linter.unusedSectionVars false
variable {gI : GI} [HasMax gI]
abbrev qs (n : Nat) : List (Nat × Bool) := (List.range n).map fun i => (i, true)
theorem b2b {w w' : World} (h : Below w.heap.size w w') : R w w' := h

theorem Trim_f (l : List UInt8) (hs : l.length ≤ 9223372036854775807) : Fn Tryd.prog gI 34 [str l, str [32, 9]] (str (trimB l)) :=
  ⟨callable Tryd.func34 rfl (by kernel_rfl), fun w _ => (Trim_c ⟨⟨l⟩⟩ w hs).mono fun e w' ⟨r, he, _, hr, hb⟩ => ⟨by rw [he, str_L]; exact congrArg (fun x => Ending.returned (str x)) hr.out, hb⟩⟩
theorem IndexByte_f (l : List UInt8) (x : Int) : Fn Tryd.prog gI 54 [str l, .int .u8 x] (.int .i64 (Lib.indexByte l x.toNat.toUInt8)) :=
  ⟨callable Tryd.func54 rfl (by kernel_rfl), fun w _ => (Tryd.strings_IndexByte ⟨⟨l⟩⟩ x w).mono fun _ _ ⟨he, hw⟩ => ⟨he, by rw [hw]; exact R.refl _⟩⟩
theorem Index_f (l p : List UInt8) (hs : l.length < 4294967281) : Fn Tryd.prog gI 41 [str l, str p] (.int .i64 (Lib.index l p)) :=
  ⟨callable Tryd.func41 rfl (by kernel_rfl), fun w hG => by
    obtain ⟨m, hm⟩ := HasMax.ok w hG
    exact (Tryd.strings_Index ⟨⟨l⟩⟩ ⟨⟨p⟩⟩ m w hs hm).mono fun _ _ ⟨he, hw⟩ => ⟨he, by rw [hw]; exact R.refl _⟩⟩
end Go.Proofs.YtnaeeklnlddcaaaDoor.Vex
/- Plain definitions on fields, as byte lists: tokens, values, small letters, lines. No program in sight. -/
namespace Go.Proofs.YtnaeeklnlddcaaaDoor

def smallI (x : Int) : Bool := (decide (97 ≤ x) && decide (x ≤ 122)) || (decide (48 ≤ x) && decide (x ≤ 57))
def greatI (x : Int) : Bool := decide (65 ≤ x) && decide (x ≤ 90)
def marksL : List UInt8 := [33, 35, 36, 37, 38, 39, 42, 43, 45, 46, 94, 95, 96, 124, 126]
def markI (x : Int) : Bool := marksL.any fun m => ((m.toNat : Nat) : Int) == x
def tokI (x : Int) : Bool := smallI x || greatI x || markI x
def tokB (x : UInt8) : Bool := tokI x.toNat
def valI (x : Int) : Bool := (decide (32 ≤ x) && x != 127) || x == 9
def valB (x : UInt8) : Bool := valI x.toNat
def tokenOf (l : List UInt8) : Bool := !l.isEmpty && l.all tokB
def valueOf (l : List UInt8) : Bool := (trimB l == l) && l.all valB
def lowI (x : Int) : Int := if greatI x then x + 32 else x
def lowB (x : UInt8) : UInt8 := if greatI x.toNat then x + 32 else x
def smallOf (l : List UInt8) : List UInt8 := l.map lowB
def fieldOK (n v : List UInt8) : Bool := decide (n.length ≤ 4096) && (decide (v.length ≤ 4096) && (tokenOf n && ((smallOf n == n) && valueOf v)))
def fieldE (n v : List UInt8) : Int := if fieldOK n v then 0 else 3
/-- What stands ahead of the first colon, what behind it, and whether there is one. -/
def cutC : List UInt8 → List UInt8 × List UInt8 × Bool
  | [] => ([], [], false)
  | x :: r => if x.toNat = 58 then ([], r, true) else (x :: (cutC r).1, (cutC r).2.1, (cutC r).2.2)
def parseOK (l : List UInt8) : Bool := decide (l.length ≤ 4096) && ((cutC l).2.2 && fieldOK (smallOf (cutC l).1) (trimB (cutC l).2.1))
def parseE (l : List UInt8) : Int := if parseOK l then 0 else 3
def parseN (l : List UInt8) : List UInt8 := if parseOK l then smallOf (cutC l).1 else []
def parseV (l : List UInt8) : List UInt8 := if parseOK l then trimB (cutC l).2.1 else []
def lineOf (n v : List UInt8) : List UInt8 := if fieldOK n v then n ++ [58, 32] ++ v else []

theorem lowB_toNat (x : UInt8) : (((lowB x).toNat : Nat) : Int) = lowI x.toNat := by
  unfold lowB lowI
  split
  · rename_i h
    simp [greatI] at h
    have h1 : x.toNat + 32 < 256 := by omega
    rw [UInt8.toNat_add]
    simp only [UInt8.reduceToNat]
    rw [Nat.mod_eq_of_lt (by omega)]
    omega
  · rfl
theorem smallOf_length (l : List UInt8) : (smallOf l).length = l.length := by simp [smallOf]
end Go.Proofs.YtnaeeklnlddcaaaDoor
/- The program's functions on fields: small, great, all, Token, Value, Small. -/
namespace Go.Proofs.YtnaeeklnlddcaaaDoor
open Go.RowKit

theorem IndexByte_c (s : ByteArray) (c : Int) (w : World) : Calls Tryd.prog 54 #[.string s, .int .u8 c] w fun e w' => e = .returned (.int .i64 (Lib.indexByte (L s) c.toNat.toUInt8)) ∧ w = w' :=
  (Tryd.strings_IndexByte s c w).mono fun _ _ ⟨he, hw⟩ => ⟨he, hw.symm⟩
theorem marks_index (x : Int) (h0 : 0 ≤ x) (h1 : x ≤ 255) : decide (0 ≤ Lib.indexByte marksL x.toNat.toUInt8) = markI x := by
  have : ∀ n : Fin 256, decide (0 ≤ Lib.indexByte marksL n.val.toUInt8) = markI (n.val : Int) := by decide +kernel
  have h := this ⟨x.toNat, by omega⟩
  simpa [show ((x.toNat : Nat) : Int) = x from by omega] using h
theorem u8_range (x : UInt8) : 0 ≤ ((x.toNat : Nat) : Int) ∧ ((x.toNat : Nat) : Int) ≤ 255 := by have := x.toNat_lt; omega
end Go.Proofs.YtnaeeklnlddcaaaDoor
/- A row of bytes in memory: a string made bytes, written, and made a string again. -/
namespace Go.Proofs.YtnaeeklnlddcaaaDoor
open Go.RowKit

/-- Block b holds these bytes from its head on, and they may be written. -/
def Row8 (w : World) (b : Nat) (l : List UInt8) : Prop :=
  b < w.heap.size ∧ ∀ (j : Nat) (x : UInt8), l[j]? = some x → w.cell? ⟨b, j, none⟩ = some (.int .u8 (x.toNat : Int)) ∧ w.frozen? ⟨b, j, none⟩ = false

theorem conv_bytes {P : Program} (w : World) (src dst e : TypeId) (s : ByteArray) {u : TypeDesc} (hs : P.underlying src = some u) (hd : P.underlying dst = some (.slice e)) (he : P.underlying e = some (.int .u8)) :
    ∃ cap w1, (convert src dst (.string s)).run P w = .ok (.slice (some ⟨w.heap.size, 0, none⟩) s.size cap) w1 ∧ Row8 w1 w.heap.size (L s) ∧ Below w.heap.size w w1 := by
  refine ⟨_, _, Lib.run_convert_string_bytes w src dst e s hs hd he, ⟨by rw [Lib.bytesWorld_size]; omega, fun j x hx => ⟨?_, ?_⟩⟩, ?_⟩
  · obtain ⟨hj, hv⟩ := List.getElem?_eq_some_iff.1 hx
    rw [L_length] at hj
    rw [Lib.bytesWorld_cell w e s j hj]
    have : s.data.toList.getD j 0 = x := by
      rw [List.getD_eq_getElem?_getD, show s.data.toList[j]? = some x from hx]; rfl
    rw [this]
  · have hj : j < s.size := by rw [← L_length]; exact (List.getElem?_eq_some_iff.1 hx).1
    have hc : s.size ≤ (Lib.bytesCells w e s).size := by simp [Lib.bytesCells]
    simp only [World.frozen?, Lib.bytesWorld_at_new]
    simp
    omega
  · exact ⟨rfl, rfl, rfl, by rw [Lib.bytesWorld_size]; omega, fun k hk => Lib.bytesWorld_at_old w e s k hk⟩

theorem Row8.set {w : World} {b : Nat} {l : List UInt8} (h : Row8 w b l) (j : Nat) (x : UInt8) (hj : j < l.length) : Row8 (w.setCell ⟨b, j, none⟩ (.int .u8 (x.toNat : Int))) b (l.set j x) := by
  refine ⟨by simpa [World.setCell] using h.1, fun i y hy => ?_⟩
  rw [World.frozen?_setCell]
  by_cases hij : j = i
  · subst hij
    rw [List.getElem?_set_self hj] at hy
    obtain rfl := Option.some.inj hy
    obtain ⟨hc, hf⟩ := h.2 j l[j] (List.getElem?_eq_getElem hj)
    exact ⟨World.cell?_setCell_same' _ _ _ (by rw [hc]; rfl), hf⟩
  · rw [List.getElem?_set_ne hij] at hy
    obtain ⟨hc, hf⟩ := h.2 i y hy
    exact ⟨(World.cell?_setCell_other _ _ _ _ (fun e => hij (by injection e))).trans hc, hf⟩
theorem Row8.back {P : Program} {w : World} {b : Nat} {l : List UInt8} (h : Row8 w b l) (src dst e : TypeId) (cap n : Nat) (hn : n = l.length) (hs : P.underlying src = some (.slice e)) (he : P.underlying e = some (.int .u8)) (hd : P.underlying dst = some .string) :
    (convert src dst (.slice (some ⟨b, 0, none⟩) n cap)).run P w = .ok (.string ⟨l.toArray⟩) w := by
  subst hn
  exact run_convert_bytes_back w src dst e ⟨b, 0, none⟩ cap l hs he hd fun j hj => by
    have := (h.2 j l[j] (List.getElem?_eq_getElem hj)).1
    rw [Addr.add_lit]
    simpa using this
theorem Row8.below {w w' : World} {b : Nat} {l : List UInt8} (h : Row8 w b l) {B : Nat} (hb : Below B w w') (hB : b < B) : Row8 w' b l :=
  ⟨Nat.lt_of_lt_of_le h.1 hb.size, fun j x hx => ⟨(hb.cell (p := ⟨b, j, none⟩) hB).trans (h.2 j x hx).1, (hb.frozen (p := ⟨b, j, none⟩) hB).trans (h.2 j x hx).2⟩⟩
end Go.Proofs.YtnaeeklnlddcaaaDoor
/- The program's functions on fields: Token, Value, Small. -/
namespace Go.Proofs.YtnaeeklnlddcaaaDoor
open Go.RowKit

/-- A text of which the first k letters have been made small. -/
def mid (l : List UInt8) (k : Nat) : List UInt8 := smallOf (l.take k) ++ l.drop k
theorem mid_length (l : List UInt8) (k : Nat) : (mid l k).length = l.length := by
  unfold mid smallOf; simp; omega
theorem mid_at (s : ByteArray) (k : Nat) (h : k < s.size) : (mid (L s) k)[k]? = some s[k] := by
  unfold mid
  have h1 : (smallOf ((L s).take k)).length = k := by rw [smallOf_length, List.length_take, L_length]; omega
  rw [List.getElem?_append_right (by omega), h1, Nat.sub_self, List.getElem?_drop, Nat.add_zero, L_get? s k h]
theorem mid_next (s : ByteArray) (k : Nat) (h : k < s.size) : mid (L s) (k + 1) = (mid (L s) k).set k (lowB s[k]) := by
  have h1 : (smallOf ((L s).take k)).length = k := by rw [smallOf_length, List.length_take, L_length]; omega
  unfold mid
  rw [L_take s k h, L_drop s k h, List.set_append_right _ _ (by omega), h1, Nat.sub_self, List.set_cons_zero]
  simp [smallOf]
theorem mid_same (s : ByteArray) (k : Nat) (h : k < s.size) (hg : greatI s[k].toNat = false) : mid (L s) (k + 1) = mid (L s) k := by
  have h1 : (smallOf ((L s).take k)).length = k := by rw [smallOf_length, List.length_take, L_length]; omega
  unfold mid
  rw [L_take s k h, L_drop s k h]
  simp [smallOf, lowB, hg]

end Go.Proofs.YtnaeeklnlddcaaaDoor
/- Plain facts on fields: what a value is, by its ends; the cut at a colon. -/
namespace Go.Proofs.YtnaeeklnlddcaaaDoor

theorem trimLB_short (l : List UInt8) : (trimLB l).length ≤ l.length := trimLB_le l
theorem trimRB_short (l : List UInt8) : (trimRB l).length ≤ l.length := by
  unfold trimRB Lib.trimRightS
  have := (List.dropWhile_sublist (([32, 9] : List UInt8).contains ·) (l := l.reverse)).length_le
  simpa using this
/-- A text is its own trimmed one just where it is empty, or no blank stands at an end. -/
theorem trimB_self (x : UInt8) (l : List UInt8) (m : List UInt8) (y : UInt8) (h : x :: l = m ++ [y]) : (trimB (x :: l) == x :: l) = (!blankB x && !blankB y) := by
  rw [Bool.eq_iff_iff]
  simp only [beq_iff_eq, Bool.and_eq_true, Bool.not_eq_true']
  rw [trimB_eq]
  constructor
  · intro he
    cases hx : blankB x
    · refine ⟨rfl, ?_⟩
      cases hy : blankB y
      · rfl
      · rw [trimLB_other x l hx, h, trimRB_blank y m hy] at he
        have := trimRB_short m
        rw [he] at this
        simp at this
        omega
    · rw [trimLB_blank x l hx] at he
      have h1 := trimRB_short (trimLB l)
      have h2 := trimLB_short l
      rw [he] at h1
      simp at h1
      omega
  · intro ⟨hx, hy⟩
    rw [trimLB_other x l hx, h, trimRB_other y m hy]
theorem valueOf_nil : valueOf [] = true := rfl
theorem valueOf_ends (x : UInt8) (l m : List UInt8) (y : UInt8) (h : x :: l = m ++ [y]) : valueOf (x :: l) = ((x :: l).all valB && (!blankB x && !blankB y)) := by
  unfold valueOf
  rw [trimB_self x l m y h, Bool.and_comm]
/-! The cut at a colon. -/
theorem index_colon (x : UInt8) (l : List UInt8) : Lib.index (x :: l) [58] = if x.toNat = 58 then 0 else (if Lib.index l [58] = -1 then -1 else Lib.index l [58] + 1) := by
  rw [Lib.index]
  by_cases hx : x.toNat = 58
  · have hx' : x = 58 := b8 (n := 58) (by decide) hx
    subst hx'
    simp
  · have hx' : ¬ (58 : UInt8) = x := fun h => hx (by rw [← h]; rfl)
    rw [if_neg (by simp [hx']), if_neg hx]
    simp only [beq_iff_eq]
theorem cut_colon : ∀ l : List UInt8, Lib.cut l [58] = cutC l
  | [] => rfl
  | x :: l => by
    have ih := cut_colon l
    have hge := Lib.index_ge l [58]
    unfold Lib.cut at ih ⊢
    rw [index_colon, cutC]
    by_cases hx : x.toNat = 58
    · simp [hx]
    · rw [if_neg hx, if_neg hx]
      by_cases hi : Lib.index l [58] = -1
      · rw [if_pos hi]
        rw [hi] at ih
        simp only [show ¬ (0 : Int) ≤ -1 by omega, if_false] at ih ⊢
        rw [← ih]
      · rw [if_neg hi]
        have h0 : 0 ≤ Lib.index l [58] := by omega
        rw [if_pos h0] at ih
        rw [if_pos (by omega), ← ih]
        have e : (Lib.index l [58] + 1).toNat = (Lib.index l [58]).toNat + 1 := by omega
        rw [e]
        simp only [List.take_succ_cons, List.length_cons, List.length_nil, Nat.zero_add, List.drop_succ_cons]
theorem cutC_at : ∀ (l : List UInt8) (k : Nat), (∀ j (x : UInt8), j < k → l[j]? = some x → ¬ x.toNat = 58) → ∀ x, l[k]? = some x → x.toNat = 58 → cutC l = (l.take k, l.drop (k + 1), true)
  | [], k, _, x, hx, _ => by simp at hx
  | y :: l, 0, _, x, hx, h58 => by
    simp at hx
    subst hx
    rw [cutC, if_pos h58]
    rfl
  | y :: l, k + 1, h, x, hx, h58 => by
    have hy := h 0 y (by omega) rfl
    have ih := cutC_at l k (fun j x hj hx => h (j + 1) x (by omega) (by simpa using hx)) x (by simpa using hx) h58
    rw [cutC, if_neg hy, ih]
    rfl
theorem cutC_none : ∀ (l : List UInt8), (∀ x ∈ l, ¬ x.toNat = 58) → (cutC l).2.2 = false
  | [], _ => rfl
  | y :: l, h => by
    rw [cutC, if_neg (h y (by simp))]
    exact cutC_none l fun x hx => h x (by simp [hx])
end Go.Proofs.YtnaeeklnlddcaaaDoor
/- Plain laws on fields: a field's line tells it. No program in sight. -/
namespace Go.Proofs.YtnaeeklnlddcaaaDoor

theorem tok_no_colon (x : UInt8) (h : tokB x = true) : ¬ x.toNat = 58 := by
  intro h58
  have : x = 58 := b8 (n := 58) (by decide) h58
  subst this
  revert h
  decide
theorem cutC_token (n r : List UInt8) (h : n.all tokB = true) : cutC (n ++ 58 :: r) = (n, r, true) := by
  induction n with
  | nil => rw [List.nil_append, cutC, if_pos (by decide)]
  | cons x n ih =>
    rw [List.all_cons, Bool.and_eq_true] at h
    rw [List.cons_append, cutC, if_neg (tok_no_colon x h.1), ih h.2]
theorem fieldOK_parts {n v : List UInt8} (h : fieldOK n v = true) : n.length ≤ 4096 ∧ v.length ≤ 4096 ∧ tokenOf n = true ∧ smallOf n = n ∧ valueOf v = true := by
  unfold fieldOK at h
  simpa using h
theorem token_all {n : List UInt8} (h : tokenOf n = true) : n.all tokB = true := by
  unfold tokenOf at h
  rw [Bool.and_eq_true] at h
  exact h.2
theorem value_trim {v : List UInt8} (h : valueOf v = true) : trimB v = v := by
  unfold valueOf at h
  rw [Bool.and_eq_true, beq_iff_eq] at h
  exact h.1
theorem trimB_front (x : UInt8) (l : List UInt8) (h : blankB x = true) : trimB (x :: l) = trimB l := by rw [trimB_eq, trimB_eq, trimLB_blank x l h]
theorem trimB_back (x : UInt8) (l : List UInt8) (h : blankB x = true) : trimB (l ++ [x]) = trimB l := by
  unfold trimB Lib.trimS
  have : Lib.trimRightS (l ++ [x]) [32, 9] = Lib.trimRightS l [32, 9] := trimRB_blank x l h
  rw [this]
theorem trimB_blanks (k : Nat) (l : List UInt8) : trimB (List.replicate k 32 ++ l) = trimB l := by
  induction k with
  | zero => rfl
  | succ k ih => rw [List.replicate_succ, List.cons_append, trimB_front _ _ (by decide), ih]
/-- A line of a field, with blanks about its value, is read as that field. -/
theorem parse_line (n v l : List UInt8) (h : fieldOK n v = true) (hl : (n ++ 58 :: l).length ≤ 4096) (ht : trimB l = v) : parseOK (n ++ 58 :: l) = true ∧ parseN (n ++ 58 :: l) = n ∧ parseV (n ++ 58 :: l) = v := by
  obtain ⟨_, _, h3, h4, h5⟩ := fieldOK_parts h
  have hc := cutC_token n l (token_all h3)
  have hok : parseOK (n ++ 58 :: l) = true := by
    unfold parseOK
    rw [hc]
    simp only [Bool.and_eq_true, decide_eq_true_eq]
    exact ⟨hl, trivial, by rw [h4, ht]; exact h⟩
  refine ⟨hok, ?_, ?_⟩
  · unfold parseN; rw [if_pos hok, hc]; exact h4
  · unfold parseV; rw [if_pos hok, hc]; exact ht
theorem parse_plain (n v : List UInt8) (h : fieldOK n v = true) (hl : n.length + v.length ≤ 4000) : parseOK (lineOf n v) = true ∧ parseN (lineOf n v) = n ∧ parseV (lineOf n v) = v := by
  have e : lineOf n v = n ++ 58 :: (32 :: v) := by unfold lineOf; rw [if_pos h]; simp
  rw [e]
  exact parse_line n v _ h (by simp; omega) (by rw [trimB_front _ _ (by decide), value_trim (fieldOK_parts h).2.2.2.2])
theorem parse_wide (n v : List UInt8) (k : Nat) (h : fieldOK n v = true) (hl : n.length + v.length ≤ 4000) (hk : k ≤ 9) :
    parseOK (n ++ [58] ++ List.replicate k 32 ++ v ++ [9]) = true ∧ parseN (n ++ [58] ++ List.replicate k 32 ++ v ++ [9]) = n ∧ parseV (n ++ [58] ++ List.replicate k 32 ++ v ++ [9]) = v := by
  have e : n ++ [58] ++ List.replicate k 32 ++ v ++ [9] = n ++ 58 :: (List.replicate k 32 ++ (v ++ [9])) := by simp
  rw [e]
  refine parse_line n v _ h (by simp; omega) ?_
  rw [trimB_blanks, trimB_back _ _ (by decide), value_trim (fieldOK_parts h).2.2.2.2]
theorem cutC_length : ∀ l : List UInt8, (cutC l).1.length + (cutC l).2.1.length ≤ l.length
  | [] => by simp [cutC]
  | x :: l => by
    have ih := cutC_length l
    rw [cutC]
    split
    · simp
    · simp only [List.length_cons]; omega
theorem trimB_length (l : List UInt8) : (trimB l).length ≤ l.length := by
  rw [trimB_eq]
  exact Nat.le_trans (trimRB_short _) (trimLB_short _)
theorem parse_field {l : List UInt8} (h : parseOK l = true) : fieldOK (parseN l) (parseV l) = true ∧ (parseN l).length + (parseV l).length ≤ l.length := by
  have hN : parseN l = smallOf (cutC l).1 := by unfold parseN; rw [if_pos h]
  have hV : parseV l = trimB (cutC l).2.1 := by unfold parseV; rw [if_pos h]
  rw [hN, hV]
  constructor
  · unfold parseOK at h
    rw [Bool.and_eq_true, Bool.and_eq_true] at h
    exact h.2.2
  · have h1 := cutC_length l
    have h2 := trimB_length (cutC l).2.1
    rw [smallOf_length]
    omega
end Go.Proofs.YtnaeeklnlddcaaaDoor
/- The program's functions on fields, reckoned. -/
namespace Go.Proofs.YtnaeeklnlddcaaaDoor.Vex
open Go Go.RowKit
set_option maxRecDepth 100000
set_option linter.unusedSectionVars false
variable {gI : GI} [HasMax gI]

/-- A text of which the first k letters have been made small. -/
theorem midl (l : List UInt8) (k : Nat) (h : k < l.length) : (mid l k)[k]? = some l[k] ∧ mid l (k + 1) = (mid l k).set k (lowB l[k]) :=
  ⟨mid_at ⟨⟨l⟩⟩ k h, mid_next ⟨⟨l⟩⟩ k h⟩
theorem byteV_map_set (l : List UInt8) (k : Nat) (x : UInt8) : (l.map byteV).set k (byteV x) = (l.set k x).map byteV := by rw [List.map_set]
end Go.Proofs.YtnaeeklnlddcaaaDoor.Vex
/- The program's functions on fields, reckoned. -/
namespace Go.Proofs.YtnaeeklnlddcaaaDoor.Vex
open Go Go.RowKit
set_option maxRecDepth 100000
set_option linter.unusedSectionVars false
variable {gI : GI} [HasMax gI]

end Go.Proofs.YtnaeeklnlddcaaaDoor.Vex
/- The references' functions on texts, reckoned. -/
namespace Go.Proofs.YtnaeeklnlddcaaaDoor.Vex
open Go Go.RowKit
set_option maxRecDepth 100000
set_option linter.unusedSectionVars false
variable {gI : GI} [HasMax gI]

theorem byte_le (x : UInt8) : ((x.toNat : Nat) : Int) ≤ 255 := by have := x.toNat_lt; omega
theorem blank_is (x : UInt8) : (((x.toNat : Nat) : Int) == 32 || ((x.toNat : Nat) : Int) == 9) = blankB x := by
  unfold blankB blankI
  rw [Bool.eq_iff_iff]
theorem valB_is (x : UInt8) : valB x = !((decide (((x.toNat : Nat) : Int) < 32) && ((x.toNat : Nat) : Int) != 9) || ((x.toNat : Nat) : Int) == 127) := by
  have : ∀ n : Fin 256, valI ((n.val : Nat) : Int) = !((decide (((n.val : Nat) : Int) < 32) && ((n.val : Nat) : Int) != 9) || ((n.val : Nat) : Int) == 127) := by decide +kernel
  exact this ⟨x.toNat, x.toNat_lt⟩
theorem last_of (t : List UInt8) (h : 0 < t.length) : t = t.take (t.length - 1) ++ [t[t.length - 1]'(by omega)] := by
  have := List.take_append_drop (t.length - 1) t
  rw [List.drop_eq_getElem_cons (by omega), List.drop_eq_nil_of_le (by omega)] at this
  exact this.symm
end Go.Proofs.YtnaeeklnlddcaaaDoor.Vex
/- The references' functions on fields, reckoned. -/
namespace Go.Proofs.YtnaeeklnlddcaaaDoor.Vex
open Go Go.RowKit
set_option maxRecDepth 100000
set_option linter.unusedSectionVars false
variable {gI : GI} [HasMax gI]

end Go.Proofs.YtnaeeklnlddcaaaDoor.Vex
/- Functions on lists of fields, reckoned. -/
namespace Go.Proofs.YtnaeeklnlddcaaaDoor.Vex
open Go Go.RowKit
set_option maxRecDepth 100000
set_option linter.unusedSectionVars false
variable {gI : GI} [HasMax gI]

abbrev Fld := List UInt8 × List UInt8
/-- The cells of a list of fields. -/
def fcells : List Fld → List Value
  | [] => []
  | p :: r => str p.1 :: str p.2 :: fcells r
theorem fcells_length : ∀ l : List Fld, (fcells l).length = 2 * l.length
  | [] => rfl
  | _ :: r => by simp [fcells, fcells_length r]; omega
theorem fcells_drop : ∀ (l : List Fld) (k : Nat), (fcells l).drop (k * 2) = fcells (l.drop k)
  | l, 0 => by simp
  | [], k + 1 => by simp [fcells]
  | _ :: r, k + 1 => by rw [show (k + 1) * 2 = k * 2 + 2 by omega]; exact fcells_drop r k
theorem fcells_app : ∀ a b : List Fld, fcells (a ++ b) = fcells a ++ fcells b
  | [], _ => rfl
  | p :: a, b => by simp [fcells, fcells_app a b]
theorem fcells_one : ∀ l : List Fld, ∀ u ∈ fcells l, u.oneCell' = true
  | [], _, h => by cases h
  | p :: l, u, h => by
    simp only [fcells, List.mem_cons] at h
    rcases h with rfl | rfl | h
    · rfl
    · rfl
    · exact fcells_one l u h
theorem rdw_nil {w : World} {xs : List Value} (h : Rdw w none xs) : xs = [] := by
  cases xs with
  | nil => rfl
  | cons x r => obtain ⟨a, ha, _⟩ := h 0 x rfl; cases ha
theorem fcells_two (l : List Fld) (k : Nat) (h : k < l.length) : ((fcells l).drop (k * 2)).take 2 = [str l[k].1, str l[k].2] := by
  rw [fcells_drop, List.drop_eq_getElem_cons h]; rfl
theorem fcells_0 (l : List Fld) (k : Nat) (h : k < l.length) : (fcells l)[k * 2 + 0]? = some (str l[k].1) := by
  have := congrArg (·[0]?) (fcells_two l k h)
  simpa [List.getElem?_drop] using this
theorem fcells_1 (l : List Fld) (k : Nat) (h : k < l.length) : (fcells l)[k * 2 + 1]? = some (str l[k].2) := by
  have := congrArg (·[1]?) (fcells_two l k h)
  simpa [List.getElem?_drop] using this
def fw (p : Fld) : Nat := 1 + min p.1.length 100000 + min p.2.length 100000
def gs : List Fld → Nat
  | [] => 0
  | p :: r => fw p + gs r
theorem gs_add : ∀ a b : List Fld, gs (a ++ b) = gs a + gs b
  | [], b => by simp [gs]
  | p :: a, b => by simp [gs, gs_add a b]; omega
theorem gs_take (l : List Fld) (k : Nat) (h : k < l.length) : gs (l.take (k + 1)) = gs (l.take k) + fw l[k] := by
  rw [List.take_succ_eq_append_getElem h, gs_add]; simp [gs]
/-- A name's values. -/
def allOf (l : List Fld) (s : List UInt8) : List (List UInt8) := (l.filter fun p => smallOf p.1 == smallOf s).map (·.2)
theorem allOf_take (l : List Fld) (s : List UInt8) (k : Nat) (h : k < l.length) : allOf (l.take (k + 1)) s = allOf (l.take k) s ++ (if smallOf l[k].1 = smallOf s then [l[k].2] else []) := by
  unfold allOf
  rw [List.take_succ_eq_append_getElem h, List.filter_append, List.map_append]
  congr 1
  by_cases hq : smallOf l[k].1 = smallOf s <;> simp [hq]
theorem allOf_le (l : List Fld) (s : List UInt8) : (allOf l s).length ≤ l.length := by
  unfold allOf
  rw [List.length_map]
  exact List.length_filter_le _ _
end Go.Proofs.YtnaeeklnlddcaaaDoor.Vex
/- Texts between the places of a byte; items of a value. No program in sight. -/
namespace Go.Proofs.YtnaeeklnlddcaaaDoor

def splitB (c : UInt8) : List UInt8 → List (List UInt8)
  | [] => [[]]
  | x :: r => if x = c then [] :: splitB c r else (match splitB c r with | [] => [[x]] | p :: q => (x :: p) :: q)
theorem splitB_ne (c : UInt8) (l : List UInt8) : splitB c l ≠ [] := by
  cases l with
  | nil => simp [splitB]
  | cons x r =>
    unfold splitB
    split
    · simp
    · split <;> simp
theorem splitB_app (c : UInt8) : ∀ (a b : List UInt8), c ∉ a → splitB c (a ++ c :: b) = a :: splitB c b
  | [], b, _ => by simp [splitB]
  | x :: a, b, h => by
    have hx : x ≠ c := fun e => h (by simp [e])
    simp only [List.cons_append, splitB, if_neg hx, splitB_app c a b (fun e => h (List.mem_cons_of_mem _ e))]
theorem splitB_none (c : UInt8) : ∀ (l : List UInt8), c ∉ l → splitB c l = [l]
  | [], _ => rfl
  | x :: r, h => by
    have hx : x ≠ c := fun e => h (by simp [e])
    simp only [splitB, if_neg hx, splitB_none c r (fun e => h (List.mem_cons_of_mem _ e))]
theorem splitB_join (c : UInt8) : ∀ (a b : List UInt8), splitB c (a ++ c :: b) = splitB c a ++ splitB c b
  | [], b => by simp [splitB]
  | x :: a, b => by
    simp only [List.cons_append, splitB, splitB_join c a b]
    by_cases hx : x = c
    · simp [hx]
    · simp only [if_neg hx]
      cases h : splitB c a with
      | nil => exact absurd h (splitB_ne c a)
      | cons p q => rfl
theorem splitB_at (c : UInt8) (l : List UInt8) (k : Nat) (h : c ∉ l.take k) (hk : l[k]? = some c) : splitB c l = l.take k :: splitB c (l.drop (k + 1)) := by
  obtain ⟨hlt, he⟩ := List.getElem?_eq_some_iff.1 hk
  conv => lhs; rw [← List.take_append_drop k l, List.drop_eq_getElem_cons hlt, he]
  exact splitB_app c _ _ h
theorem splitB_mem (c : UInt8) : ∀ (l p : List UInt8), p ∈ splitB c l → c ∉ p ∧ p.length ≤ l.length
  | [], p, h => by simp [splitB] at h; subst h; simp
  | x :: r, p, h => by
    unfold splitB at h
    split at h
    · rcases List.mem_cons.1 h with rfl | h
      · simp
      · have := splitB_mem c r p h
        exact ⟨this.1, by simp; omega⟩
    · rename_i hx
      split at h
      · rename_i h0; exact absurd h0 (splitB_ne c r)
      · rename_i q qs hq
        rcases List.mem_cons.1 h with rfl | h
        · have := splitB_mem c r q (by rw [hq]; simp)
          refine ⟨fun hm => ?_, by simp; omega⟩
          rcases List.mem_cons.1 hm with e | e
          · exact hx e.symm
          · exact this.1 e
        · have := splitB_mem c r p (by rw [hq]; exact List.mem_cons_of_mem _ h)
          exact ⟨this.1, by simp; omega⟩
theorem splitB_length (c : UInt8) : ∀ l : List UInt8, (splitB c l).length ≤ l.length + 1
  | [] => by simp [splitB]
  | x :: r => by
    have := splitB_length c r
    unfold splitB
    split
    · simp; omega
    · split
      · simp
      · rename_i h; rw [h] at this; simp at this ⊢; omega
theorem index_one (c : UInt8) : ∀ l : List UInt8, (Lib.index l [c] = -1 ∧ c ∉ l) ∨ ∃ k : Nat, Lib.index l [c] = k ∧ k < l.length ∧ c ∉ l.take k ∧ l[k]? = some c
  | [] => .inl ⟨rfl, by simp⟩
  | x :: r => by
    unfold Lib.index
    by_cases hx : c = x
    · subst hx
      exact .inr ⟨0, by simp [List.isPrefixOf], by simp, by simp, by simp⟩
    · have h0 : ([c] : List UInt8).isPrefixOf (x :: r) = false := by simp [List.isPrefixOf, hx]
      rw [h0]
      rcases index_one c r with ⟨h1, h2⟩ | ⟨k, h1, h2, h3, h4⟩
      · exact .inl ⟨by simp [h1], by simp [hx, h2]⟩
      · refine .inr ⟨k + 1, ?_, by simp; omega, by simp [hx, h3], by simpa using h4⟩
        rw [h1]
        simp only [Bool.false_eq_true, if_false]
        rw [if_neg (by simp)]
        omega
theorem drop_drop_idem (p : UInt8 → Bool) : ∀ l : List UInt8, (l.dropWhile p).dropWhile p = l.dropWhile p
  | [] => rfl
  | x :: r => by
    by_cases h : p x
    · simp [h, drop_drop_idem p r]
    · simp [h]
theorem trimLB_idem (l : List UInt8) : trimLB (trimLB l) = trimLB l := drop_drop_idem _ l
theorem trimRB_idem (l : List UInt8) : trimRB (trimRB l) = trimRB l := by
  unfold trimRB Lib.trimRightS
  rw [List.reverse_reverse, drop_drop_idem]
theorem trimB_idem (l : List UInt8) : trimB (trimB l) = trimB l := by
  rw [trimB_eq (trimB l), trimB_eq l]
  have h : ∀ m, trimLB (trimRB m) = trimRB (trimLB m) := fun m => trim_comm [32, 9] m
  rw [h, trimLB_idem, trimRB_idem]
theorem trimB_sub (x : UInt8) (l : List UInt8) (h : x ∈ trimB l) : x ∈ l := by
  unfold trimB Lib.trimS Lib.trimLeftS Lib.trimRightS at h
  have h1 := (List.dropWhile_sublist _).subset h
  rw [List.mem_reverse] at h1
  have h2 := (List.dropWhile_sublist _).subset h1
  exact List.mem_reverse.1 h2

/-- What stands between commas, trimmed, if anything is left. -/
def itemsOf (l : List UInt8) : List (List UInt8) := ((splitB 44 l).map trimB).filter fun s => !s.isEmpty
def itemOf (p : List UInt8) : List (List UInt8) := if trimB p = [] then [] else [trimB p]
theorem items_cons (l p : List UInt8) (q : List (List UInt8)) (h : splitB 44 l = p :: q) : itemsOf l = itemOf p ++ (q.map trimB).filter fun s => !s.isEmpty := by
  unfold itemsOf itemOf
  rw [h, List.map_cons, List.filter_cons]
  by_cases h0 : trimB p = []
  · simp [h0]
  · rw [if_pos (by simpa using h0), if_neg h0]; rfl
theorem items_at (l : List UInt8) (k : Nat) (h : 44 ∉ l.take k) (hk : l[k]? = some 44) : itemsOf l = itemOf (l.take k) ++ itemsOf (l.drop (k + 1)) :=
  items_cons _ _ _ (splitB_at 44 l k h hk)
theorem items_none (l : List UInt8) (h : 44 ∉ l) : itemsOf l = itemOf l := by
  rw [items_cons _ _ _ (splitB_none 44 l h)]
  simp
theorem items_join (a b : List UInt8) : itemsOf (a ++ 44 :: b) = itemsOf a ++ itemsOf b := by
  unfold itemsOf
  rw [splitB_join, List.map_append, List.filter_append]
theorem items_mem {l s : List UInt8} (h : s ∈ itemsOf l) : s ≠ [] ∧ trimB s = s ∧ 44 ∉ s ∧ s.length ≤ l.length := by
  unfold itemsOf at h
  obtain ⟨h1, h2⟩ := List.mem_filter.1 h
  obtain ⟨p, hp, rfl⟩ := List.mem_map.1 h1
  obtain ⟨h3, h4⟩ := splitB_mem 44 l p hp
  refine ⟨by simpa using h2, trimB_idem p, fun hm => h3 (trimB_sub _ _ hm), Nat.le_trans (trimB_length p) h4⟩
theorem items_length (l : List UInt8) : (itemsOf l).length ≤ l.length + 1 := by
  unfold itemsOf
  refine Nat.le_trans (List.length_filter_le _ _) ?_
  rw [List.length_map]
  exact splitB_length 44 l
theorem itemOf_length (p : List UInt8) : (itemOf p).length ≤ 1 := by unfold itemOf; split <;> simp
end Go.Proofs.YtnaeeklnlddcaaaDoor
/- How much lists of texts, and of fields, hold. No program in sight. -/
namespace Go.Proofs.YtnaeeklnlddcaaaDoor
def lsum (l : List (List UInt8)) : Nat := (l.map fun s => s.length + 1).sum
theorem lsum_cons (x : List UInt8) (l : List (List UInt8)) : lsum (x :: l) = x.length + 1 + lsum l := rfl
theorem lsum_append : ∀ a b : List (List UInt8), lsum (a ++ b) = lsum a + lsum b
  | [], b => by simp [lsum]
  | x :: a, b => by rw [List.cons_append, lsum_cons, lsum_cons, lsum_append a b]; omega
theorem split_sum (c : UInt8) : ∀ l : List UInt8, lsum (splitB c l) = l.length + 1
  | [] => rfl
  | x :: r => by
    have ih := split_sum c r
    unfold splitB
    split
    · rw [lsum_cons, ih]; simp; omega
    · cases h : splitB c r with
      | nil => exact absurd h (splitB_ne c r)
      | cons p q => rw [h, lsum_cons] at ih; rw [lsum_cons]; simp only [List.length_cons]; omega
theorem lsum_trim : ∀ l : List (List UInt8), lsum ((l.map trimB).filter fun s => !s.isEmpty) ≤ lsum l
  | [] => Nat.le_refl _
  | x :: r => by
    have ih := lsum_trim r
    have := trimB_length x
    rw [List.map_cons, List.filter_cons, lsum_cons]
    split
    · rw [lsum_cons]; omega
    · omega
theorem items_sum (l : List UInt8) : lsum (itemsOf l) ≤ l.length + 1 := by
  unfold itemsOf
  rw [← split_sum 44 l]
  exact lsum_trim _
end Go.Proofs.YtnaeeklnlddcaaaDoor
namespace Go.Proofs.YtnaeeklnlddcaaaDoor.Vex
open Go Go.RowKit
def fsum (l : List Fld) : Nat := (l.map fun p => p.1.length + p.2.length + 3).sum
theorem fsum_cons (p : Fld) (l : List Fld) : fsum (p :: l) = p.1.length + p.2.length + 3 + fsum l := rfl
theorem fsum_append : ∀ a b : List Fld, fsum (a ++ b) = fsum a + fsum b
  | [], b => by simp [fsum]
  | x :: a, b => by rw [List.cons_append, fsum_cons, fsum_cons, fsum_append a b]; omega
theorem fsum_mem {l : List Fld} {p : Fld} (h : p ∈ l) : p.1.length + p.2.length + 3 ≤ fsum l := by
  induction l with
  | nil => cases h
  | cons y r ih =>
    rw [fsum_cons]
    rcases List.mem_cons.1 h with rfl | h
    · omega
    · have := ih h; omega
theorem fsum_length : ∀ l : List Fld, 3 * l.length ≤ fsum l
  | [] => Nat.le_refl _
  | x :: r => by have := fsum_length r; rw [fsum_cons, List.length_cons]; omega
theorem allOf_sum (s : List UInt8) : ∀ l : List Fld, lsum (allOf l s) ≤ fsum l
  | [] => Nat.le_refl _
  | x :: r => by
    have := allOf_sum s r
    unfold allOf at this ⊢
    rw [List.filter_cons, fsum_cons]
    split
    · rw [List.map_cons, lsum_cons]; omega
    · omega
theorem lsum_length (l : List (List UInt8)) : l.length ≤ lsum l := by
  induction l with
  | nil => exact Nat.le_refl _
  | cons x r ih => rw [lsum_cons, List.length_cons]; omega
end Go.Proofs.YtnaeeklnlddcaaaDoor.Vex
/- The kinds of data that this program's statements take: fields, requests, bytes. -/
namespace Go.Proofs.YtnaeeklnlddcaaaDoor.Vex
open Go Go.RowKit Go.ChangeShapes Go.WideShapes Go.Deep
set_option maxRecDepth 100000

/-- Another form of the same data. -/
theorem opens_map {P : Program} {t : TypeId} {S T : Shape} (h : Opens P t S) (g : S.α → T.α) (hn : S.n = T.n) (hf : ∀ W x, S.ok W x → S.f x = T.f (g x)) (hok : ∀ W x, S.ok W x → T.ok W (g x)) (hw : ∀ W x, S.ok W x → T.wt (g x) ≤ S.wt x) : Opens P t T := ⟨h.1.trans hn, fun hd => by
  obtain ⟨x, h1, h2, h3, h4⟩ := h.2 hd
  exact ⟨g x, h1.trans (hf _ x h2), hok _ x h2, Nat.le_trans (hw _ x h2) h3, by rw [← hf _ x h2, h4, hn]⟩⟩
abbrev byteShape : Shape := ⟨UInt8, 1, fun b => [byteV b], fun _ _ => True, fun _ => 1⟩
theorem opens_byte {P : Program} {t : TypeId} (ht : P.underlying t = some (.int .u8)) (hc : P.cellsOf t = 1) : Opens P t byteShape :=
  opens_map (opens_int ht hc) (fun (n : Int) => UInt8.ofNat n.toNat) rfl (fun W (x : Int) (h : IntKind.u8.min ≤ x ∧ x ≤ IntKind.u8.max) => by
    have h1 : (0 : Int) ≤ x := h.1
    have h2 : x ≤ 255 := h.2
    clear h
    show [Value.int .u8 x] = [byteV _]
    unfold byteV
    rw [UInt8.toNat_ofNat_of_lt' (by show x.toNat < 256; omega), Int.toNat_of_nonneg h1]) (fun _ _ _ => trivial) (fun _ _ _ => Nat.le_refl _)
abbrev u16Shape : Shape := ⟨Nat, 1, fun n => [.int .u16 (n : Nat)], fun _ n => n < 65536, fun _ => 1⟩
theorem opens_nat16 {P : Program} {t : TypeId} (ht : P.underlying t = some (.int .u16)) (hc : P.cellsOf t = 1) : Opens P t u16Shape :=
  opens_map (opens_int ht hc) (fun (n : Int) => n.toNat) rfl (fun W (x : Int) (h : IntKind.u16.min ≤ x ∧ x ≤ IntKind.u16.max) => by
    have h1 : (0 : Int) ≤ x := h.1
    show [Value.int .u16 x] = [Value.int .u16 (x.toNat : Nat)]
    rw [Int.toNat_of_nonneg h1]) (fun W (x : Int) (h : IntKind.u16.min ≤ x ∧ x ≤ IntKind.u16.max) => by
    have h1 : (0 : Int) ≤ x := h.1
    have h2 : x ≤ 65535 := h.2
    clear h
    show x.toNat < 65536
    omega) (fun _ _ _ => Nat.le_refl _)
abbrev bytesShape : Shape := sliceShape byteShape
theorem flat_bytes (l : List UInt8) : l.flatMap (fun b => [byteV b]) = l.map byteV := by
  induction l with
  | nil => rfl
  | cons a r ih => rw [List.flatMap_cons, ih]; rfl
theorem flat_strs (l : List (List UInt8)) : l.flatMap (fun b => [str b]) = l.map str := by
  induction l with
  | nil => rfl
  | cons a r ih => rw [List.flatMap_cons, ih]; rfl
theorem flat_fields (l : List Fld) : l.flatMap (fun p => [str p.1, str p.2]) = fcells l := by
  induction l with
  | nil => rfl
  | cons a r ih => rw [List.flatMap_cons, ih]; rfl
abbrev fldShape : Shape := ⟨Fld, 2, fun p => [str p.1, str p.2], fun _ p => p.1.length ≤ 9223372036854775807 ∧ p.2.length ≤ 9223372036854775807, fun p => p.1.length + p.2.length + 3⟩
theorem opens_string : Opens Tryd.prog 9 strShape := opens_str Tryd.underlying9 (by kernel_rfl)
theorem opens_i64 : Opens Tryd.prog 3 (intShape .i64) := opens_int Tryd.underlying3 (by kernel_rfl)
theorem opens_tf : Opens Tryd.prog 4 boolShape := opens_bool Tryd.underlying4 (by kernel_rfl)
theorem opens_u8 : Opens Tryd.prog 5 byteShape := opens_byte Tryd.underlying5 (by kernel_rfl)
theorem opens_bytes : Opens Tryd.prog 73 bytesShape := opens_slice Tryd.underlying73 (by kernel_rfl) opens_u8
theorem opens_strings : Opens Tryd.prog 40 (sliceShape strShape) := opens_slice Tryd.underlying40 (by kernel_rfl) opens_string
theorem opens_field : Opens Tryd.prog 55 fldShape := by
  have h := opens_struct Tryd.underlying55 (by kernel_rfl) (opensL_cons rfl opens_string (opensL_cons rfl opens_string (opensL_nil _)))
  exact opens_map h (fun x => (x.1, x.2.1)) rfl (fun _ _ _ => rfl) (fun _ _ h => ⟨h.1, h.2.1⟩) (fun _ _ _ => by dsimp only; omega)
abbrev fieldsShape : Shape := sliceShape fldShape
theorem opens_fields : Opens Tryd.prog 25 fieldsShape := opens_slice Tryd.underlying25 (by kernel_rfl) opens_field
/-- A request that came in. -/
structure Req where
  m : List UInt8
  p : List UInt8
  q : List UInt8
  v : Int
  F : Sl Fld
  B : Sl UInt8
def Req.cells (r : Req) : List Value := [str r.m, str r.p, str r.q, .int .i64 r.v, .slice r.F.A r.F.l.length r.F.cp, .slice r.B.A r.B.l.length r.B.cp]
abbrev reqShape : Shape := ⟨Req, 6, Req.cells, fun w r => (-9223372036854775808 ≤ r.v ∧ r.v ≤ 9223372036854775807) ∧ fieldsShape.ok w r.F ∧ bytesShape.ok w r.B ∧ r.m.length ≤ 9223372036854775807 ∧ r.p.length ≤ 9223372036854775807 ∧ r.q.length ≤ 9223372036854775807,
  fun r => r.m.length + r.p.length + r.q.length + fieldsShape.wt r.F + bytesShape.wt r.B⟩
theorem req_fsum (x : Req) : fsum x.F.l ≤ reqShape.wt x := by
  show fsum x.F.l ≤ x.m.length + x.p.length + x.q.length + (fsum x.F.l + 1) + bytesShape.wt x.B
  omega
theorem fld_len (x : Fld) : x.1.length + x.2.length ≤ fldShape.wt x := by
  show x.1.length + x.2.length ≤ x.1.length + x.2.length + 3
  omega
theorem rd_bytes {W : World} {x : Sl UInt8} (h : bytesShape.ok W x) : Rdw W x.A (x.l.map byteV) := flat_bytes x.l ▸ h.2.1
theorem rd_fields {W : World} {x : Sl Fld} (h : fieldsShape.ok W x) : Rdw W x.A (fcells x.l) := flat_fields x.l ▸ h.2.1
end Go.Proofs.YtnaeeklnlddcaaaDoor.Vex
/- The cell of internal/bytealg.MaxLen holds a number, in every world of the program's shape. -/
namespace Go.Proofs.YtnaeeklnlddcaaaDoor

theorem maxLen_cell {w : World} (h : w.ShapedOpen Tryd.prog) : ∃ m, w.cell? ⟨2, 0, none⟩ = some (.int .i64 m) :=
  Go.Proofs.cell_of_shapedOpen_int (zero := #[.int .i64 0]) (t := 3) h (of_decide_eq_true (by kernel_rfl)) (by kernel_rfl) rfl (by kernel_rfl) (by kernel_rfl) Tryd.underlying3
end Go.Proofs.YtnaeeklnlddcaaaDoor
/- What a row's listed variables give the walks: the two sentinels of strconv, the table of powers, the cell of MaxLen. -/
namespace Go.Proofs.YtnaeeklnlddcaaaDoor.Vex
open Go Go.RowKit Go.ChangeShapes

theorem reads_of {l : List (String × DataW Unit)} {W : World} (h : laidMetH Tryd.prog l W) (hp : (l.all fun x => x.2.handleName?.isNone) = true) {n : String} {d : DataW Unit} (hm : (n, d) ∈ l) : Lib.VarReads Tryd.prog W n d := by
  rw [MakeChecks.laidMetH_plain _ _ _ hp] at h
  exact Lib.laidMet.reads h hm
theorem errCell_of {P : Program} {W : World} {n nm : String} {d : DataW Unit} {g : Nat} {ti : TypeId} {ms : Array (String × TypeId)} (h : Lib.VarReads P W n (.iface nm d)) (hg : P.globalNamed n = some g) (ht : (P.globals[g]?).map (·.type) = some ti) (hi : P.underlying ti = some (.interface ms)) : ErrCell g W := by
  obtain ⟨g', t', cs, fuel, p, hg', ht', hv, hd⟩ := h
  obtain rfl := Option.some.inj (hg.symm.trans hg')
  obtain rfl := Option.some.inj (ht.symm.trans ht')
  obtain ⟨f1, u, v, hcs, hn, h1⟩ := iface_of_trod hi hd
  have h2 := World.var?_cell hg hv 0
  rw [show cs = #[.iface u v] by rw [← Array.toList_inj, hcs]] at h2
  exact ⟨.iface u v, by simpa using h2, .inr ⟨u, v, rfl⟩⟩
theorem tab_of {P : Program} {W : World} {n : String} {k : IntKind} {zs : List Int} {g : Nat} {t e : TypeId} {m : Nat} (h : Lib.VarReads P W n (Lib.tabData k zs)) (hg : P.globalNamed n = some g) (ht : (P.globals[g]?).map (·.type) = some t) (hu : P.underlying t = some (.array m e)) (he : P.underlying e = some (.int k)) (hce : P.cellsOf e = 1) (hct : P.cellsOf t = m) : Lib.TabIs P W n k zs := by
  obtain ⟨g', t', cs, fuel, p, hg', ht', hv, hd⟩ := h
  obtain rfl := Option.some.inj (hg.symm.trans hg')
  obtain rfl := Option.some.inj (ht.symm.trans ht')
  unfold Lib.TabIs
  rw [hv, ← Lib.cells_of_tab hu he hce hct hd]
theorem gB_of {W : World} (hS : W.ShapedOpen Tryd.prog) : gB.G W := maxLen_cell hS
theorem gE_of {l : List (String × DataW Unit)} {W : World} (hL : laidMetH Tryd.prog l W) (hS : W.ShapedOpen Tryd.prog) (hp : (l.all fun x => x.2.handleName?.isNone) = true)
    (h1 : ("strconv.ErrSyntax", Rows.laid_strconv_ErrSyntax) ∈ l) (h2 : ("strconv.ErrRange", Rows.laid_strconv_ErrRange) ∈ l) : gE.G W :=
  ⟨gB_of hS, errCell_of (ti := 83) (reads_of hL hp h1) (g := 3) (by kernel_rfl) (by kernel_rfl) Tryd.underlying83, errCell_of (ti := 83) (reads_of hL hp h2) (g := 4) (by kernel_rfl) (by kernel_rfl) Tryd.underlying83⟩
theorem gP_of {l : List (String × DataW Unit)} {W : World} (hL : laidMetH Tryd.prog l W) (hS : W.ShapedOpen Tryd.prog) (hp : (l.all fun x => x.2.handleName?.isNone) = true)
    (h1 : ("strconv.ErrSyntax", Rows.laid_strconv_ErrSyntax) ∈ l) (h2 : ("strconv.ErrRange", Rows.laid_strconv_ErrRange) ∈ l) (h3 : ("internal/strconv.uint64pow10", Rows.laid_internal_strconv_uint64pow10) ∈ l) : gP.G W :=
  ⟨gE_of hL hS hp h1 h2, tab_of (t := 141) (e := 91) (m := 20) (reads_of hL hp h3) pow_name (by kernel_rfl) Tryd.underlying141 Tryd.underlying91 (by kernel_rfl) (by kernel_rfl)⟩
end Go.Proofs.YtnaeeklnlddcaaaDoor.Vex
/- Two fields, compared. -/
namespace Go.Proofs.YtnaeeklnlddcaaaDoor.Vex
open Go Go.RowKit
set_option maxRecDepth 100000
set_option linter.unusedSectionVars false
variable {gI : GI} [HasMax gI]

theorem toList_str (a b : List UInt8) : ((⟨⟨a⟩⟩ : ByteArray).toList == (⟨⟨b⟩⟩ : ByteArray).toList) = (a == b) := by
  rw [ByteArray.toList_eq, ByteArray.toList_eq]
theorem eqF_run (a b a' b' : List UInt8) (w : World) : (Op.equalIn 10000 55 (.agg ⟨[str a, str b]⟩) (.agg ⟨[str a', str b']⟩)).run Tryd.prog w = .ok (a == a' && b == b') w := by
  rw [show (10000 : Nat) = 9999 + 1 from rfl, run_equalIn_struct w 9999 _ _ _ (by kernel_rfl) (by kernel_rfl)]
  rw [show (Tryd.prog.fieldsOf 55).toList = [{ name := "Name", type := 9, offset := 0, embedded := false, tag := "", pkgPath := "", byteOffset := 0 }, { name := "Value", type := 9, offset := 1, embedded := false, tag := "", pkgPath := "", byteOffset := 16 }] from by kernel_rfl]
  have p0 : ∀ (u v : Value) w, (part 9 #[u, v] 0).run Tryd.prog w = .ok u w := fun u v w => by simp [go_sem]
  have p1 : ∀ (u v : Value) w, (part 9 #[u, v] 1).run Tryd.prog w = .ok v w := fun u v w => by simp [go_sem]
  have e0 : ∀ (x y : List UInt8) w, (Op.equalIn 9999 9 (str x) (str y)).run Tryd.prog w = .ok (x == y) w := fun x y w => by
    rw [show (9999 : Nat) = 9998 + 1 from rfl, run_equalIn_string w 9998 _ _ _ Tryd.underlying9, toList_str]
  simp only [Op.eqFields]
  cases h : a == a'
  · simp [go_sem, h, e0]
  · simp [go_sem, h, e0]
    split <;> simp_all
theorem OthP.eqF {c : Ctx} {H : Hp} {d : Option Nat} {x y : Operand} {yt ty : TypeId} {pos : String} {after : Array Edge} {gd : Option (Nat × Bool)} {fr : Fr} {a b a' b' : List UInt8} {K : Value → Prop} (hP : c.P = Tryd.prog)
    (hx : evK fr x fun v => v = .agg ⟨[str a, str b]⟩) (hy : evK fr y fun v => v = .agg ⟨[str a', str b']⟩) (k : K (.bool (a == a' && b == b'))) : OthP c ⟨d, .binOp .eql 55 x y yt, ty, pos, after, gd⟩ fr H K := ⟨⟨_, k, fun w _ => by
  rw [evK_eq] at hx hy
  rw [hP]
  have hg := run_eqGuard_agg (P := Tryd.prog) w .eql 55 x y ⟨[str a, str b]⟩ ⟨[str a', str b']⟩ (by kernel_rfl)
  have hb := run_eql_struct (P := Tryd.prog) w 55 ⟨[str a, str b]⟩ ⟨[str a', str b']⟩
  rw [eqF_run] at hb
  simp only [execOp, hx, hy, Sem.run_bind, hg, Result.andThen_ok, hb]
  rfl⟩⟩
theorem OthP.neF {c : Ctx} {H : Hp} {d : Option Nat} {x y : Operand} {yt ty : TypeId} {pos : String} {after : Array Edge} {gd : Option (Nat × Bool)} {fr : Fr} {a b a' b' : List UInt8} {K : Value → Prop} (hP : c.P = Tryd.prog)
    (hx : evK fr x fun v => v = .agg ⟨[str a, str b]⟩) (hy : evK fr y fun v => v = .agg ⟨[str a', str b']⟩) (k : K (.bool (!(a == a' && b == b')))) : OthP c ⟨d, .binOp .neq 55 x y yt, ty, pos, after, gd⟩ fr H K := ⟨⟨_, k, fun w _ => by
  rw [evK_eq] at hx hy
  rw [hP]
  have hg : (eqGuard .neq 55 x y (.agg ⟨[str a, str b]⟩) (.agg ⟨[str a', str b']⟩)).run Tryd.prog w = .ok () w := run_eqGuard_agg (P := Tryd.prog) w .neq 55 x y ⟨[str a, str b]⟩ ⟨[str a', str b']⟩ (by kernel_rfl)
  have hb : (binOp .neq 55 (.agg ⟨[str a, str b]⟩) (.agg ⟨[str a', str b']⟩)).run Tryd.prog w = .ok (.bool (!(a == a' && b == b'))) w := by
    show (do pure (.bool (!(← Op.equal 55 (.agg ⟨[str a, str b]⟩) (.agg ⟨[str a', str b']⟩)))) : Sem Value).run Tryd.prog w = _
    have e : Op.equal 55 (.agg ⟨[str a, str b]⟩) (.agg ⟨[str a', str b']⟩) = Op.equalIn 10000 55 (.agg ⟨[str a, str b]⟩) (.agg ⟨[str a', str b']⟩) := rfl
    rw [e, Sem.run_bind, eqF_run]
    rfl
  simp only [execOp, hx, hy, Sem.run_bind, hg, Result.andThen_ok, hb]
  rfl⟩⟩
end Go.Proofs.YtnaeeklnlddcaaaDoor.Vex
/- A walk by reckoning, part sixteen: regions in which two acts may come up together: both orders are gone. No program in sight. -/
namespace Go.Proofs.YtnaeeklnlddcaaaDoor.Vex
open Go Go.RowKit

/-- The orders that may come: q: an operation that is quiet; a: an act that comes up alone; ch: one of several that come up (stop ends their row). -/
inductive DT where
  | nil
  | q (i : Nat) (t : DT)
  | a (i : Nat) (t : DT)
  | ch (i : Nat) (t : DT) (r : DT)
  | stop
noncomputable def wtree (c : Ctx) (T : Ty) (ws : List Nat) (ops : List Oper) (t : DT) : (Fr → Hp → Prop) → Fr → Hp → Prop :=
  DT.rec (motive := fun _ => (Fr → Hp → Prop) → Fr → Hp → Prop) (fun K fr H => K fr H)
    (fun i _ ih K fr H => nthK ops i fun o => strOk T fr o.guard o.op (wstep c T .quiet ops o fr H (ih K)))
    (fun i _ ih K fr H => nthK ops i fun o => strOk T fr o.guard o.op (wstep c T (match ws.contains i with | true => .wact | false => .act) ops o fr H (ih K)))
    (fun i _ _ ih rh K fr H => (nthK ops i fun o => strOk T fr o.guard o.op (wstep c T (match ws.contains i with | true => .wact | false => .act) ops o fr H (ih K))) ∧ rh K fr H)
    (fun _ _ _ => True) t
def DT.heads : DT → List Nat
  | .ch i _ r => i :: r.heads
  | _ => []
noncomputable def treeB (T : Ty) (ws : List Nat) (ops : Array Oper) : DT → Bool → Array Bool → Bool
  | .nil, b, l => !b && (Region.ready .any ops l).isEmpty
  | .q i t, b, l => !b && (Region.ready .any ops l).contains i && Region.free .any ops l i && !isWr ws ops i && (((List.range ops.size).all fun j => !isWr ws ops j || l.getD j true || anc .any ops ops.size j i) || (match ops[i]? with | some o => blindOp T o.guard o.op | none => false)) && treeB T ws ops t false (l.setIfInBounds i true)
  | .a i t, b, l => !b && (Region.ready .any ops l == [i]) && treeB T ws ops t false (l.setIfInBounds i true)
  | .ch i t r, b, l => (b || ((Region.ready .any ops l).all fun k => k == i || r.heads.contains k)) && (Region.ready .any ops l).contains i && treeB T ws ops t false (l.setIfInBounds i true) && treeB T ws ops r true l
  | .stop, b, _ => b
def DT.len : DT → Nat
  | .nil => 0
  | .q _ t => t.len + 1
  | .a _ t => t.len + 1
  | .ch _ t r => max (t.len + 1) r.len
  | .stop => 0
section
variable {c : Ctx} {T : Ty}
theorem wact_ok (hT : TOk c.P T) (ws : List Nat) (ds : List Deferred) (ops : List Oper) (K : Fr → Hp → Prop) {ih : Fr → Hp → Prop} {i n : Nat} {l : Array Bool} {fr : Fr} {H : Hp} {w' : World}
    (h : nthK ops i fun o => strOk T fr o.guard o.op (wstep c T (match ws.contains i with | true => .wact | false => .act) ops o fr H ih)) (hw' : St c H w')
    (next : ∀ fr' H' w2, ih fr' H' → St c H' w2 → wpAnyR c.P .any ⟨ops⟩ (isWr ws ⟨ops⟩) (DrawQ c ds K) n (l.setIfInBounds i true) (actD ds fr') w2) :
    wpOp c.P ⟨ops⟩ (DrawQ c ds K) i (fun a2 w2 => (isWr ws ⟨ops⟩ i = false → R w' w2) ∧ wpAnyR c.P .any ⟨ops⟩ (isWr ws ⟨ops⟩) (DrawQ c ds K) n (l.setIfInBounds i true) a2 w2) (actD ds fr) w' := by
  obtain ⟨o, hoi, h⟩ := nthK_some h
  obtain ⟨h, hst⟩ := strOk_out h
  have hmd : ∃ m : Md, wstep c T m ops o fr H ih ∧ m ≠ .plain ∧ (ws.contains i = false → m = .act) ∧ (m = .act ∨ m = .wact) := by
    cases hw9 : ws.contains i
    · rw [hw9] at h
      exact ⟨Md.act, h, (fun h => by cases h), (fun _ => rfl), .inl rfl⟩
    · rw [hw9] at h
      exact ⟨Md.wact, h, (fun h => by cases h), (fun h => by cases h), .inr rfl⟩
  clear h
  obtain ⟨m, h, hm2, hm3, hm4⟩ := hmd
  have hoi' : (⟨ops⟩ : Array Oper)[i]? = some o := by simpa using hoi
  unfold wpOp
  simp only [hoi']
  rw [show (actD ds fr).tmps = (act fr).tmps from rfl]
  rcases wstep_cases hT h with ⟨hwd, hd | ⟨he, _⟩, _⟩ | ⟨hwd, hk⟩
  · rw [if_pos hwd]
    have hd : GoodD c m o fr H fun v H' => setO fr o.dst v fun fr' => ih fr' H' := by
      rcases hm4 with rfl | rfl
      · exact hd
      · exact hd
    refine .inl (Good.wp (hd w' hw') fun v H' w2 hs2 hk hrr => ?_)
    obtain ⟨fr', e, hk⟩ := setO_act (ds := ds) hk
    rw [e]
    refine ⟨fun hi => hrr ?_, next fr' H' w2 hk hs2⟩
    have h2 : isWr ws ⟨ops⟩ i = (wr o.op || ws.contains i) := by unfold isWr; rw [hoi']
    rw [h2, Bool.or_eq_false_iff] at hi
    rw [hm3 hi.2]
    simp [rOf, hi.1]
  · exact absurd he hm2
  · rw [if_neg (by rw [hwd]; exact Bool.false_ne_true)]
    obtain ⟨fr', e, hk⟩ := setO_act (ds := ds) hk
    rw [e]
    exact ⟨fun _ => R.refl _, next fr' H w' hk hw'⟩
abbrev TreeA (c : Ctx) (T : Ty) (ws : List Nat) (ds : List Deferred) (ops : List Oper) (K' K : Fr → Hp → Prop) (t : DT) : Prop := ∀ (n : Nat) (l : Array Bool) (fr : Fr) (H : Hp) (w : World),
  t.len ≤ n → closedL .any ⟨ops⟩ l → treeB T ws ⟨ops⟩ t false l = true → wtree c T ws ops t K' fr H → St c H w → wpAnyR c.P .any ⟨ops⟩ (isWr ws ⟨ops⟩) (DrawQ c ds K) n l (actD ds fr) w
abbrev TreeC (c : Ctx) (T : Ty) (ws : List Nat) (ds : List Deferred) (ops : List Oper) (K' K : Fr → Hp → Prop) (t : DT) : Prop := ∀ (n : Nat) (l : Array Bool) (fr : Fr) (H : Hp) (w' : World),
  t.len ≤ n + 1 → closedL .any ⟨ops⟩ l → treeB T ws ⟨ops⟩ t true l = true → wtree c T ws ops t K' fr H → St c H w' → ∀ k ∈ t.heads,
    wpOp c.P ⟨ops⟩ (DrawQ c ds K) k (fun a2 w2 => (isWr ws ⟨ops⟩ k = false → R w' w2) ∧ wpAnyR c.P .any ⟨ops⟩ (isWr ws ⟨ops⟩) (DrawQ c ds K) n (l.setIfInBounds k true) a2 w2) (actD ds fr) w'
theorem wtree_ok (hT : TOk c.P T) (ws : List Nat) (ds : List Deferred) (ops : List Oper) (hs : Region.noSelect ⟨ops⟩ = true) (K' K : Fr → Hp → Prop) (hK : ∀ fr H, K' fr H → ∃ H2, (∀ w, St c H w → St c H2 w) ∧ K fr H2) (t : DT) : TreeA c T ws ds ops K' K t ∧ TreeC c T ws ds ops K' K t := by
  induction t with
  | nil =>
    refine ⟨fun n l fr H w _ _ ho h hw => ?_, fun n l fr H w _ _ ho h hw k hk => by cases hk⟩
    simp only [treeB, Bool.and_eq_true, List.isEmpty_iff] at ho
    obtain ⟨H2, hs2, hk⟩ := hK fr H h
    exact wpAnyR_done ho.2 fun w' hR => ⟨fr, H2, rfl, hs2 _ (hw.below hR), rfl, hk⟩
  | q i t ih =>
    refine ⟨fun n l fr H w hn hc ho h hw => ?_, fun n l fr H w _ _ ho h hw k hk => by cases hk⟩
    obtain ⟨n, rfl⟩ : ∃ m, n = m + 1 := ⟨n - 1, by simp only [DT.len] at hn; omega⟩
    simp only [treeB, Bool.and_eq_true] at ho
    obtain ⟨⟨⟨⟨⟨_, hr⟩, hf⟩, hwi⟩, hall⟩, ho⟩ := ho
    rw [Bool.not_eq_true'] at hwi
    have hr : i ∈ Region.ready .any ⟨ops⟩ l := by simpa using hr
    obtain ⟨o, hoi, h⟩ := nthK_some h
    obtain ⟨h, hst⟩ := strOk_out h
    have hoi' : (⟨ops⟩ : Array Oper)[i]? = some o := by simpa using hoi
    have hQ : ∀ (v : Value) (ch : List PanicEntry) (a : Act) (w : World), DrawQ c ds K (.panic ch) (a.put o.dst v) w → DrawQ c ds K (.panic ch) a w := fun v ch a w ⟨_, _, _, _, he, _⟩ => by cases he
    have hn' : t.len ≤ n := by simpa [DT.len] using hn
    rw [hoi', Bool.or_eq_true] at hall
    dsimp only at hall
    rcases hall with hall | hbl
    rotate_left
    · rcases wstep_wop h with ⟨hwd, h⟩ | ⟨hwd, hk⟩
      · obtain ⟨v, hk, hq⟩ := blind_wop hT o hbl hst h
        obtain ⟨fr', e, hk⟩ := setO_act (ds := ds) hk
        refine wpAnyR_firstB (v := v) hoi' (Region.noSelect_spec hs) (hQ v) n l (actD ds fr) w hc (Region.free_spec hoi' hf) hr (fun w' => .inl ⟨hwd, ?_⟩) ?_
        · unfold Quiet1
          rw [show (actD ds fr).eval = (act fr).eval from rfl, hq w']
          exact ⟨rfl, rfl⟩
        · rw [e]
          exact ih.1 n _ fr' H w hn' (hc.set hr) ho hk hw
      · obtain ⟨fr', e, hk⟩ := setO_act (ds := ds) hk
        refine wpAnyR_firstB (v := undef) hoi' (Region.noSelect_spec hs) (hQ _) n l (actD ds fr) w hc (Region.free_spec hoi' hf) hr (fun w' => .inr ⟨hwd, rfl⟩) ?_
        rw [e]
        exact ih.1 n _ fr' H w hn' (hc.set hr) ho hk hw
    simp only [List.all_eq_true, List.mem_range, Bool.or_eq_true, Bool.not_eq_true'] at hall
    have hwr : ∀ j, isWr ws ⟨ops⟩ j = true → l.getD j true = false → anc .any ⟨ops⟩ (⟨ops⟩ : Array Oper).size j i = true := fun j hj hl => by
      have hlt : j < (⟨ops⟩ : Array Oper).size := by
        unfold isWr at hj
        rcases Nat.lt_or_ge j (⟨ops⟩ : Array Oper).size with h' | h'
        · exact h'
        · rw [Array.getElem?_eq_none h'] at hj; cases hj
      rcases hall j hlt with (h1 | h1) | h1
      · rw [hj] at h1; cases h1
      · rw [hl] at h1; cases h1
      · exact h1
    rcases wstep_cases hT h with ⟨hwd, ⟨v, hk, hq⟩ | ⟨he, _⟩, _⟩ | ⟨hwd, hk⟩
    · obtain ⟨fr', e, hk⟩ := setO_act (ds := ds) hk
      refine wpAnyR_first (v := v) hoi' (Region.noSelect_spec hs) (hQ v) hwi n l (actD ds fr) w hc hwr (Region.free_spec hoi' hf) hr (fun w' hR => .inl ⟨hwd, hq w' (hw.below hR)⟩) ?_
      rw [e]
      exact ih.1 n _ fr' H w hn' (hc.set hr) ho hk hw
    · cases he
    · obtain ⟨fr', e, hk⟩ := setO_act (ds := ds) hk
      refine wpAnyR_first (v := undef) hoi' (Region.noSelect_spec hs) (hQ _) hwi n l (actD ds fr) w hc hwr (Region.free_spec hoi' hf) hr (fun w' hR => .inr ⟨hwd, rfl⟩) ?_
      rw [e]
      exact ih.1 n _ fr' H w hn' (hc.set hr) ho hk hw
  | a i t ih =>
    refine ⟨fun n l fr H w hn hc ho h hw => ?_, fun n l fr H w _ _ ho h hw k hk => by cases hk⟩
    obtain ⟨n, rfl⟩ : ∃ m, n = m + 1 := ⟨n - 1, by simp only [DT.len] at hn; omega⟩
    simp only [treeB, Bool.and_eq_true, beq_iff_eq] at ho
    obtain ⟨⟨_, hr⟩, ho⟩ := ho
    have hri : i ∈ Region.ready .any ⟨ops⟩ l := by rw [hr]; simp
    refine wpAnyR_alone hr fun w' hR => ?_
    exact wact_ok hT ws ds ops K h (hw.below hR) fun fr' H' w2 hk hs2 => ih.1 n _ fr' H' w2 (by simpa [DT.len] using hn) (hc.set hri) ho hk hs2
  | ch i t r iht ihr =>
    have key : ∀ (n : Nat) (l : Array Bool) (fr : Fr) (H : Hp) (w' : World), (DT.ch i t r).len ≤ n + 1 → closedL .any ⟨ops⟩ l → ((Region.ready .any ⟨ops⟩ l).contains i = true) → treeB T ws ⟨ops⟩ t false (l.setIfInBounds i true) = true → treeB T ws ⟨ops⟩ r true l = true →
        wtree c T ws ops (.ch i t r) K' fr H → St c H w' → ∀ k ∈ (DT.ch i t r).heads,
        wpOp c.P ⟨ops⟩ (DrawQ c ds K) k (fun a2 w2 => (isWr ws ⟨ops⟩ k = false → R w' w2) ∧ wpAnyR c.P .any ⟨ops⟩ (isWr ws ⟨ops⟩) (DrawQ c ds K) n (l.setIfInBounds k true) a2 w2) (actD ds fr) w' := by
      intro n l fr H w' hn hc hri h1 h2 h hw k hk
      have hri : i ∈ Region.ready .any ⟨ops⟩ l := by simpa using hri
      have hn1 : t.len + 1 ≤ n + 1 ∧ r.len ≤ n + 1 := by simp only [DT.len] at hn; omega
      rcases List.mem_cons.1 hk with rfl | hk
      · exact wact_ok hT ws ds ops K h.1 hw fun fr' H' w2 hk hs2 => iht.1 n _ fr' H' w2 (by omega) (hc.set hri) h1 hk hs2
      · exact ihr.2 n l fr H w' hn1.2 hc h2 h.2 hw k hk
    refine ⟨fun n l fr H w hn hc ho h hw => ?_, fun n l fr H w' hn hc ho h hw k hk => ?_⟩
    · obtain ⟨n, rfl⟩ : ∃ m, n = m + 1 := ⟨n - 1, by simp only [DT.len] at hn; omega⟩
      simp only [treeB, Bool.and_eq_true, Bool.false_or] at ho
      obtain ⟨⟨⟨hall, hri⟩, h1⟩, h2⟩ := ho
      intro w' hR
      refine ⟨fun he => ?_, fun k hk => ?_⟩
      · rw [he] at hri; cases hri
      · refine key n l fr H w' hn hc hri h1 h2 h (hw.below hR) k ?_
        have := List.all_eq_true.1 hall k hk
        simp only [Bool.or_eq_true, beq_iff_eq] at this
        rcases this with rfl | h
        · exact List.mem_cons_self ..
        · exact List.mem_cons_of_mem _ (by simpa using h)
    · simp only [treeB, Bool.and_eq_true] at ho
      obtain ⟨⟨⟨_, hri⟩, h1⟩, h2⟩ := ho
      exact key n l fr H w' hn hc hri h1 h2 h hw k hk
  | stop =>
    refine ⟨fun n l fr H w _ _ ho h hw => ?_, fun n l fr H w _ _ ho h hw k hk => by cases hk⟩
    cases ho
noncomputable def forkB (T : Ty) (ws : List Nat) (ops : List Oper) (t : DT) : Bool := ops.all noDefer && Region.noSelect ⟨ops⟩ && (decide (t.len ≤ ops.length)) && treeB T ws ⟨ops⟩ t false (Array.replicate ops.length false)
/-- The entries of a heap, in another order, some left out. -/
inductive Cov : Hp → Hp → Prop
  | nil {H : Hp} : Cov H []
  | cons {H H2 G : Hp} {x : Ent} (h : Pick H x H2) (k : Cov H2 G) : Cov H (x :: G)
theorem Cov.perm {H G : Hp} (h : Cov H G) : ∃ R, H.Perm (G ++ R) := by
  induction h with
  | nil => exact ⟨_, List.Perm.refl _⟩
  | cons hp _ ih =>
    obtain ⟨R, hR⟩ := ih
    exact ⟨R, hp.perm.trans (hR.cons _)⟩
theorem Cov.st {H G : Hp} (h : Cov H G) {w : World} (hw : St c H w) : St c G w := by
  obtain ⟨R, hR⟩ := h.perm
  exact (hw.perm hR).sub (List.sublist_append_left _ _)
theorem DrawS.forkK {id : Nat} {ops : List Oper} {K' K : Fr → Hp → Prop} {fr : Fr} {H : Hp} (ws : List Nat) (t : DT) (hT : TOk c.P T) (hm : c.P.follows .mixedOrders = true) (hB : forkB T ws ops t = true) (hK : ∀ fr H, K' fr H → ∃ H2, (∀ w, St c H w → St c H2 w) ∧ K fr H2) (h : wtree c T ws ops t K' fr H) : DrawS c T id ops K fr H := by
  simp only [forkB, Bool.and_eq_true, decide_eq_true_eq] at hB
  refine ⟨hm, fun j o ca hj e => ?_, fun ds w hw => wpAny_of_R (Wr := isWr ws ⟨ops⟩) _ _ _ _ (((wtree_ok hT ws ds ops hB.1.1.2 K' K hK t).1 _ _ fr H w hB.1.2 (closedL_start _) hB.2 h hw).on (R.drew w))⟩
  have h1 := List.all_eq_true.1 hB.1.1.1 o (List.mem_of_getElem? (by simpa using hj))
  unfold noDefer at h1
  rw [e] at h1
  cases h1
/-- All orders that may come are told. -/
theorem DrawS.fork {id : Nat} {ops : List Oper} {K : Fr → Hp → Prop} {fr : Fr} {H : Hp} (ws : List Nat) (t : DT) (hT : TOk c.P T) (hm : c.P.follows .mixedOrders = true) (hB : forkB T ws ops t = true) (h : wtree c T ws ops t K fr H) : DrawS c T id ops K fr H :=
  DrawS.forkK ws t hT hm hB (fun _ H hk => ⟨H, fun _ h => h, hk⟩) h
/-- .. behind each of them one state: what is behind the region is gone once. -/
theorem DrawS.join {β : Type} {id : Nat} {ops : List Oper} {K : Fr → Hp → Prop} {fr : Fr} {H : Hp} (F : β → (Nat → Value) → Fr) (G : β → Hp) (ws : List Nat) (t : DT) (hT : TOk c.P T) (hm : c.P.follows .mixedOrders = true) (hB : forkB T ws ops t = true)
    (h : wtree c T ws ops t (fun fr H => ∃ x, fr = F x (jk fr) ∧ Cov H (G x)) fr H) (k : ∀ x u, K (F x u) (G x)) : DrawS c T id ops K fr H :=
  DrawS.forkK ws t hT hm hB (fun fr' H' ⟨x, hF, hc⟩ => ⟨G x, fun _ hw => hc.st hw, by rw [hF]; exact k x (jk fr')⟩) h
end
end Go.Proofs.YtnaeeklnlddcaaaDoor.Vex
/- A walk by reckoning, part seventeen: functions that give back new memory of any kind; maps that came in. No program in sight. -/
namespace Go.Proofs.YtnaeeklnlddcaaaDoor.Vex
open Go Go.RowKit Go.MapKept

/-- New entries, behind a call. -/
def newH (w w' : World) (H : Hp) : Prop := (∀ y ∈ H, y.holds w' ∧ ∀ b, y.blk = some b → w.heap.size ≤ b ∧ b < w'.heap.size) ∧ (H.filterMap Ent.blk).Nodup
abbrev FnH (P : Program) (g : GI) (f : FuncId) (args : List Value) (pre : World → Prop) (K : Value → Hp → Prop) : Prop := FnE P g f args pre fun w v w' => ∃ H, K v H ∧ newH w w' H
theorem newH.of {P : Program} {g : GI} {w w' : World} {hG : g.G w} {H : Hp} (h : St (mkC P g w hG) H w') : newH w w' H :=
  ⟨fun y hy => ⟨(h.own y hy).1, fun b hb => ⟨((h.own y hy).2 b hb).2.elim id (fun h => by cases h), ((h.own y hy).2 b hb).1⟩⟩, h.apart⟩
theorem newH.cov {P : Program} {g : GI} {w w' : World} {hG : g.G w} {H H2 : Hp} (h : St (mkC P g w hG) H w') (hc : Cov H H2) : newH w w' H2 := newH.of (hc.st h)
section
variable {c : Ctx} {H : Hp}
theorem CallK.fnH {m : Bool} {f : Nat} {args : List Value} {pre : World → Prop} {K : Value → Hp → Prop} {K2 : Value → Hp → Prop} (h : FnH c.P c.g f args pre K) (hp : ∀ w, St c H w → pre w) (k : ∀ v H', K v H' → K2 v (H' ++ H)) : CallK c m f args H K2 :=
  CallK.fnE h hp fun w v w' hw ⟨H', hk, hn, hd⟩ hR => by
    refine ⟨H' ++ H, ?_, k v H' hk⟩
    have hw2 := hw.below hR
    refine ⟨hw2.mod, fun y hy => ?_, ?_⟩
    · rcases List.mem_append.1 hy with hy | hy
      · exact ⟨(hn y hy).1, fun b hb => ⟨((hn y hy).2 b hb).2, .inl (Nat.le_trans hw.mod.size ((hn y hy).2 b hb).1)⟩⟩
      · exact hw2.own y hy
    · rw [List.filterMap_append, List.nodup_append]
      refine ⟨hd, hw2.apart, fun a ha b hb e => ?_⟩
      obtain ⟨y, hy, hya⟩ := List.mem_filterMap.1 ha
      obtain ⟨z, hz, hzb⟩ := List.mem_filterMap.1 hb
      have h1 := ((hn y hy).2 a hya).1
      have h2 := ((hw.own z hz).2 b hzb).1
      omega
/-- A call whose value is known. -/
theorem CallK.fnEV {m : Bool} {f : Nat} {args : List Value} {pre : World → Prop} {v : Value} {K : Value → Hp → Prop} (h : FnE c.P c.g f args pre fun _ u _ => u = v) (hp : ∀ w, St c H w → pre w) (k : K v H) : CallK c m f args H K :=
  CallK.fnE h hp fun _ _ _ hw he hR => ⟨H, hw.below hR, by rw [he]; exact k⟩
theorem OthP.max2 {d : Option Nat} {x y : Operand} {ats : Array TypeId} {ty : TypeId} {pos : String} {after : Array Edge} {gd : Option (Nat × Bool)} {fr : Fr} {kd : IntKind} {a b : Int} {K : Value → Prop} (z : Int)
    (hx : evK fr x fun v => v = .int kd a) (hy : evK fr y fun v => v = .int kd b) (hz : max a b = z) (k : K (.int kd z)) : OthP c ⟨d, .call ⟨.builtin .max, #[x, y], ats⟩, ty, pos, after, gd⟩ fr H K := ⟨⟨_, k, fun w _ => by
  rw [evK_eq] at hx hy
  have hz' : z = if b > a then b else a := by subst hz; split <;> omega
  subst hz'
  simp only [go_sem, Builtin.max_]
  simp [hx, hy, Builtin.max2, List.foldlM]⟩⟩
/-- What a map has at a key, wherever the map lies. -/
theorem OthP.lookA {α : Type} [DecidableEq α] {kv : α → Value} {d : TypeDesc} {T : Ty} {fr : Fr} {dst : Option Nat} {ty : TypeId} {pos : String} {after : Array Edge} {gd : Option (Nat × Bool)} {t kt et : TypeId} {x i : Operand} {ok : Bool} {b : Nat} {k : α} {l : List (α × Value)} {z r : Value} {K : Value → Prop} (hk : KeyK d kv) (hT : TOk c.P T) (hb : ∀ w, St c H w → w.heap[b]? = some (mobj kv l))
    (hx : evK fr x fun v => v = .map (some b)) (hi : evK fr i fun v => v = kv k) (ht : (lookT T t).d = .map kt et) (hkt : (lookT T kt).d = d) (hd : d ≠ .invalid) (het : (lookT T et).d ≠ .invalid) (hz : (lookT T et).zero = z)
    (hr : (match ok with | true => .tuple ⟨[(mget k l).getD z, .bool (mget k l).isSome]⟩ | false => (mget k l).getD z) = r) (kk : K r) : OthP c ⟨dst, .lookup t x i ok, ty, pos, after, gd⟩ fr H K := ⟨⟨r, kk, fun w hw => by
  rw [evK_eq] at hx hi
  have hu := (lookT_ok hT (t := t) (by rw [ht]; intro h; cases h)).1
  have hku := (lookT_ok hT (t := kt) (by rw [hkt]; exact hd)).1
  rw [ht] at hu
  rw [hkt] at hku
  have hzv := run_zeroValue (lookT_ok hT (t := et) het) (w := w)
  rw [hz] at hzv
  have hb : w.heap[b]? = some (.map ⟨mkEs kv 0 l⟩ l.length) := hb w hw
  have hf := run_findKey (w := w) hku (findNow_es hk k l 0 0)
  have hc := run_checkKey (w := w) hku (hk.key k) (⟨mkEs kv 0 l⟩ : Array MapEntry).isEmpty 9999
  have hl : (Instr.lookup t (.map (some b)) (kv k) ok).run c.P w = .ok r w := by
    unfold Instr.lookup
    simp only [Sem.run_bind, run_underlying hu, Result.andThen_ok, MapKept.run_getObj_map hb, Sem.run_pure, hc, hf]
    subst hr
    cases mget k l with
    | none => cases ok <;> simp [hzv]
    | some v => cases ok <;> simp
  generalize (act fr).eval = ρ at *
  simp only [execOp, hx, hi, Sem.run_bind, hl, Result.andThen_ok, Sem.run_pure]⟩⟩
/-- An object that came in stays. -/
theorem obj_now {P : Program} {g : GI} {w : World} {hG : g.G w} {H : Hp} {b : Nat} {o : Obj} (h : w.heap[b]? = some o) : ∀ w', St (mkC P g w hG) H w' → w'.heap[b]? = some o := fun w' hw => by
  have hlt : b < w.heap.size := by
    rcases Nat.lt_or_ge b w.heap.size with h' | h'
    · exact h'
    · simp [Array.getElem?_eq_none h'] at h
  exact (hw.mod.block b hlt (fun h => by cases h)).trans h
/-- A cell that came in. -/
theorem Ld.now {P : Program} {g : GI} {w : World} {hG : g.G w} {H : Hp} {p : Addr} {v : Value} {K : Value → Prop} (h : w.cell? p = some v) (k : K v) : Ld (mkC P g w hG) H (.pointer (some p)) none K := Ld.old (c := mkC P g w hG) h (fun h => by cases h) k
end
end Go.Proofs.YtnaeeklnlddcaaaDoor.Vex
/- Maps whose keys are places of a pattern: a struct of a kind and a text. -/
namespace Go.Proofs.YtnaeeklnlddcaaaDoor.Vex
open Go Go.RowKit Go.MapKept
set_option maxRecDepth 100000
set_option linter.unusedSectionVars false

/-- A place's key: its kind (0 a literal, 1 a parameter, 2 a rest), and its text. -/
abbrev Plk := Int × List UInt8
def plkV (p : Plk) : Value := .agg ⟨[.int .i64 p.1, str p.2]⟩
theorem plk_fields : (Tryd.prog.fieldsOf 67).toList = [{ name := "kind", type := 3, offset := 0, embedded := false, tag := "", pkgPath := "bellows/route", byteOffset := 0 }, { name := "text", type := 9, offset := 1, embedded := false, tag := "", pkgPath := "bellows/route", byteOffset := 8 }] := by kernel_rfl
theorem plk_run (p q : Plk) (w : World) : (Op.equal 67 (plkV p) (plkV q)).run Tryd.prog w = .ok (decide (p = q)) w := by
  obtain ⟨a, s⟩ := p
  obtain ⟨b, t⟩ := q
  unfold plkV
  show (Op.equalIn 10000 _ _ _).run _ w = _
  rw [show (10000 : Nat) = 9999 + 1 from rfl, run_equalIn_struct w 9999 _ _ _ (by kernel_rfl) (by kernel_rfl), plk_fields]
  have p0 : ∀ (u v : Value) w, (part 3 #[u, v] 0).run Tryd.prog w = .ok u w := fun u v w => by simp [go_sem]
  have p1 : ∀ (u v : Value) w, (part 9 #[u, v] 1).run Tryd.prog w = .ok v w := fun u v w => by simp [go_sem]
  have e0 : ∀ (x y : List UInt8) w, (Op.equalIn 9999 9 (str x) (str y)).run Tryd.prog w = .ok (x == y) w := fun x y w => by
    rw [show (9999 : Nat) = 9998 + 1 from rfl, run_equalIn_string w 9998 _ _ _ Tryd.underlying9, toList_str]
  have e1 : ∀ (x y : Int) w, (Op.equalIn 9999 3 (.int .i64 x) (.int .i64 y)).run Tryd.prog w = .ok (x == y) w := fun x y w => by
    rw [show (9999 : Nat) = 9998 + 1 from rfl, Op.equalIn]
    simp only [Sem.run_bind, run_underlying Tryd.underlying3, Result.andThen_ok, if_true, Sem.run_pure]
  simp only [Op.eqFields]
  by_cases h : a = b
  · subst h
    by_cases h2 : s = t
    · subst h2
      simp [go_sem, e0, e1]
    · simp [go_sem, e0, e1, h2]
  · simp [go_sem, e1, h]
theorem plk_find (k : Plk) (w : World) : ∀ (l : List (Plk × Value)) (i j : Nat), (Instr.findAsking 67 (plkV k) (mkEs plkV i l) j).run Tryd.prog w = .ok ((mget k l).map fun v => (j + place k l, v)) w
  | [], _, _ => rfl
  | p :: r, i, j => by
    simp only [mkEs, Instr.findAsking, Sem.run_bind, plk_run, Result.andThen_ok, mget, place]
    by_cases h : k = p.1
    · simp [h]
    · simp only [h, decide_false, if_false, Bool.false_eq_true]
      rw [plk_find k w r (i + 1) (j + 1)]
      cases mget k r with
      | none => rfl
      | some v => simp; omega
theorem plk_findKey (k : Plk) (l : List (Plk × Value)) (w : World) : (Instr.findKey 67 (plkV k) (mkEs plkV 0 l)).run Tryd.prog w = .ok ((mget k l).map fun v => (place k l, v)) w := by
  rw [run_findKey_eq w (by rw [Tryd.underlying67])]
  have := plk_find k w l 0 0
  simp only [Nat.zero_add] at this
  exact this
theorem plk_check (k : Plk) (e : Bool) (w : World) : (Instr.checkKey e 10000 67 (plkV k)).run Tryd.prog w = .ok () w := by
  obtain ⟨a, t⟩ := k
  have hu : Tryd.prog.underlying 67 = some (.struct (Tryd.prog.fieldsOf 67)) := by kernel_rfl
  have p0 : ∀ (u v : Value) w, (part 3 #[u, v] 0).run Tryd.prog w = .ok u w := fun u v w => by simp [go_sem]
  have p1 : ∀ (u v : Value) w, (part 9 #[u, v] 1).run Tryd.prog w = .ok v w := fun u v w => by simp [go_sem]
  have c0 := run_checkKey (w := w) (k := .int .i64 a) Tryd.underlying3 rfl e 9998
  have c1 := run_checkKey (w := w) (k := str t) Tryd.underlying9 trivial e 9998
  unfold plkV
  rw [show (10000 : Nat) = 9999 + 1 from rfl, Instr.checkKey]
  simp only [Sem.run_bind, run_underlying hu, Result.andThen_ok]
  rw [← Array.forIn_toList, plk_fields]
  have h0 := p0 (.int .i64 a) (str t) w
  have h1 := p1 (.int .i64 a) (str t) w
  simp only [List.forIn_cons, List.forIn_nil, Sem.run_bind, ne_eq, Result.andThen_ok, Sem.run_pure, show ¬ ("kind" = "_") by decide, show ¬ ("text" = "_") by decide, not_false_eq_true, if_true, h0, h1, c0, c1]
theorem plk_bits (k : Plk) : Instr.sameBits 10000 (plkV k) (plkV k) = true := by
  unfold plkV
  have h : ((⟨⟨k.2⟩⟩ : ByteArray) == ⟨⟨k.2⟩⟩) = true := by
    show ((⟨k.2⟩ : Array UInt8) == ⟨k.2⟩) = true
    simp
  simp [Instr.sameBits, h]
section
variable {c : Ctx} {T : Ty} {H : Hp} {fr : Fr} {dst : Option Nat} {ty : TypeId} {pos : String} {after : Array Edge} {gd : Option (Nat × Bool)}
/-- What such a map has at a key. -/
theorem OthP.lookP {t et : TypeId} {x i : Operand} {ok : Bool} {b : Nat} {k : Plk} {l : List (Plk × Value)} {z r : Value} {K : Value → Prop} (hP : c.P = Tryd.prog) (hT : TOk c.P T) (hb : ∀ w, St c H w → w.heap[b]? = some (mobj plkV l))
    (hx : evK fr x fun v => v = .map (some b)) (hi : evK fr i fun v => v = plkV k) (ht : (lookT T t).d = .map 67 et) (het : (lookT T et).d ≠ .invalid) (hz : (lookT T et).zero = z)
    (hr : (match ok with | true => .tuple ⟨[(mget k l).getD z, .bool (mget k l).isSome]⟩ | false => (mget k l).getD z) = r) (kk : K r) : OthP c ⟨dst, .lookup t x i ok, ty, pos, after, gd⟩ fr H K := ⟨⟨r, kk, fun w hw => by
  rw [evK_eq] at hx hi
  have hu := (lookT_ok hT (t := t) (by rw [ht]; intro h; cases h)).1
  rw [ht] at hu
  have hzv := run_zeroValue (lookT_ok hT (t := et) het) (w := w)
  rw [hz] at hzv
  have hb : w.heap[b]? = some (.map ⟨mkEs plkV 0 l⟩ l.length) := hb w hw
  have hf := plk_findKey k l w
  have hc := plk_check k (⟨mkEs plkV 0 l⟩ : Array MapEntry).isEmpty w
  rw [← hP] at hf hc
  have hl : (Instr.lookup t (.map (some b)) (plkV k) ok).run c.P w = .ok r w := by
    unfold Instr.lookup
    simp only [Sem.run_bind, run_underlying hu, Result.andThen_ok, MapKept.run_getObj_map hb, Sem.run_pure, hc, hf]
    subst hr
    cases mget k l with
    | none => cases ok <;> simp [hzv]
    | some v => cases ok <;> simp
  generalize (act fr).eval = ρ at *
  simp only [execOp, hx, hi, Sem.run_bind, hl, Result.andThen_ok, Sem.run_pure]⟩⟩
theorem run_mapUpdP {w : World} {t et : TypeId} {b : Nat} {k : Plk} {l : List (Plk × Value)} {v : Value} (hu : Tryd.prog.underlying t = some (.map 67 et)) (hb : w.heap[b]? = some (.map ⟨mkEs plkV 0 l⟩ l.length)) :
    (Instr.mapUpdate t (.map (some b)) (plkV k) v).run Tryd.prog w = .ok () (w.putObj b (mobj plkV (mput k v l))) := by
  have hf := plk_findKey k l w
  have hc := plk_check k false w
  unfold Instr.mapUpdate
  simp only [Sem.run_bind, run_underlying hu, Result.andThen_ok, MapKept.run_getObj_map hb, hc, hf]
  cases hl : mget k l with
  | none =>
    simp only [Option.map_none]
    rw [MapKept.run_setObj_map _ hb]
    unfold mobj
    rw [upd_new k v l hl, es_append]
    simp only [World.putObj, List.length_append, List.length_singleton, Nat.zero_add]
    congr 4
    rw [← Array.toList_inj]; simp
  | some u =>
    obtain ⟨h1, h2, h3⟩ := upd_old (kv := plkV) k v u l 0 hl
    simp only [Option.map_some]
    have e : (((⟨mkEs plkV 0 l⟩ : Array MapEntry)[place k l]?).map (·.key)).getD (plkV k) = plkV k := by
      have : (⟨mkEs plkV 0 l⟩ : Array MapEntry)[place k l]? = (mkEs plkV 0 l)[place k l]? := by simp
      rw [this, h3]; rfl
    have hkey : (Instr.keyThatStays (plkV k) (plkV k)).run Tryd.prog w = .ok (plkV k) w := by
      unfold Instr.keyThatStays
      rw [if_pos (plk_bits k)]; rfl
    simp only [e, Sem.run_bind, hkey, Result.andThen_ok]
    rw [MapKept.run_setObj_map _ hb]
    unfold mobj
    simp only [World.putObj, h2]
    congr 4
    rw [← h1, ← Array.toList_inj]
    simp
theorem OthU.updP {t et : TypeId} {x i y : Operand} {b : Nat} {k : Plk} {l l' : List (Plk × Value)} {f : Obj → Hp} {v : Value} {K : Value → Hp → Prop} (hP : c.P = Tryd.prog) (hT : TOk c.P T) [ho : ObjAt b H (mobj plkV l) f]
    (hx : evK fr x fun v => v = .map (some b)) (hi : evK fr i fun v => v = plkV k) (hy : evK fr y fun u => u = v) (ht : (lookT T t).d = .map 67 et) (hl' : mput k v l = l')
    (kk : K undef (f (mobj plkV l'))) : OthU c ⟨dst, .mapUpdate t x i y, ty, pos, after, gd⟩ fr H K := ⟨fun w hw => by
  rw [evK_eq] at hx hi hy
  have hu := (lookT_ok hT (t := t) (by rw [ht]; intro h; cases h)).1
  rw [ht] at hu
  have hb : w.heap[b]? = some (.map ⟨mkEs plkV 0 l⟩ l.length) := ho.holds hw
  refine ⟨_, _, ?_, ho.put hw (o' := mobj plkV l'), kk⟩
  rw [hP] at hu
  have hr := run_mapUpdP (k := k) (v := v) hu hb
  rw [hl', ← hP] at hr
  generalize (act fr).eval = ρ at *
  simp only [execOp, hx, hi, hy, Sem.run_bind, hr, Result.andThen_ok, Sem.run_pure]⟩
end
end Go.Proofs.YtnaeeklnlddcaaaDoor.Vex
/- The first line of a request, as byte lists: what is told, what is written. No program in sight. -/
namespace Go.Proofs.YtnaeeklnlddcaaaDoor

def freeL : List UInt8 := [45, 46, 95, 126]
def pathL : List UInt8 := [45, 46, 95, 126, 33, 36, 38, 39, 40, 41, 42, 43, 44, 59, 61, 58, 64, 47]
def queryL : List UInt8 := pathL ++ [63]
/-- A letter, a digit, or one of some marks. -/
def plainB (marks : List UInt8) (x : UInt8) : Bool := smallI x.toNat || greatI x.toNat || marks.contains x
def digI (x : Int) : Int := if 48 ≤ x ∧ x ≤ 57 then x - 48 else if 97 ≤ x ∧ x ≤ 102 then x - 87 else if 65 ≤ x ∧ x ≤ 70 then x - 55 else -1
def hexB (x : UInt8) : Bool := decide (0 ≤ digI x.toNat)
def hexV (a b : UInt8) : UInt8 := (16 * digI a.toNat + digI b.toNat).toNat.toUInt8
/-- Has a text just such bytes, or quoted ones? -/
def madeOf (marks : List UInt8) : List UInt8 → Bool
  | [] => true
  | 37 :: a :: b :: r => hexB a && hexB b && madeOf marks r
  | x :: r => plainB marks x && madeOf marks r
def pathOf (s : List UInt8) : Bool := (s.head? == some 47) && madeOf pathL s
def queryOf (s : List UInt8) : Bool := madeOf queryL s
def methodsL : List (List UInt8) := [[71, 69, 84], [72, 69, 65, 68], [80, 79, 83, 84], [80, 85, 84], [68, 69, 76, 69, 84, 69], [79, 80, 84, 73, 79, 78, 83]]
def methodOf (s : List UInt8) : Bool := methodsL.contains s
/-- Bytes for what was quoted. -/
def unq : List UInt8 → List UInt8
  | [] => []
  | 37 :: a :: b :: r => if hexB a && hexB b then hexV a b :: unq r else 37 :: unq (a :: b :: r)
  | x :: r => x :: unq r
def segs (s : List UInt8) : List (List UInt8) := (splitB 47 (s.drop 1)).map unq
def segE (s : List UInt8) : Int := if pathOf s then 0 else 3
def segO (s : List UInt8) : List (List UInt8) := if pathOf s then segs s else []
def hexD (n : Nat) : UInt8 := if n < 10 then (48 + n).toUInt8 else (55 + n).toUInt8
def quoteB (x : UInt8) : List UInt8 := if plainB freeL x then [x] else [37, hexD (x.toNat / 16), hexD (x.toNat % 16)]
def quoteOf (s : List UInt8) : List UInt8 := s.flatMap quoteB
/-- What stands ahead of the first place of a byte, what behind it, and whether there is one. -/
def cutB (c : UInt8) : List UInt8 → List UInt8 × List UInt8 × Bool
  | [] => ([], [], false)
  | x :: r => if x = c then ([], r, true) else (x :: (cutB c r).1, (cutB c r).2.1, (cutB c r).2.2)
def httpL : List UInt8 := [72, 84, 84, 80, 47, 49, 46]
/-- The version of a line's end; none: it tells none. -/
def versionOf (s : List UInt8) : Option Int := match s with
  | [72, 84, 84, 80, 47, 49, 46, d] => if 48 ≤ d.toNat ∧ d.toNat ≤ 57 then some (if d.toNat = 48 then 0 else 1) else none
  | _ => none
structure Rq where
  m : List UInt8
  p : List UInt8
  q : List UInt8
  v : Int
deriving DecidableEq
def rq0 : Rq := ⟨[], [], [], 0⟩
def lineTarget (s : List UInt8) : List UInt8 := (cutB 32 (cutB 32 s).2.1).1
def lineRq (s : List UInt8) : Rq := ⟨(cutB 32 s).1, (cutB 63 (lineTarget s)).1, (cutB 63 (lineTarget s)).2.1, (versionOf (cutB 32 (cutB 32 s).2.1).2.1).getD 0⟩
def lineOK (s : List UInt8) : Bool := decide (s.length ≤ 4096) && (cutB 32 s).2.2 && (cutB 32 (cutB 32 s).2.1).2.2 && (versionOf (cutB 32 (cutB 32 s).2.1).2.1).isSome && tokenOf (lineRq s).m && pathOf (lineRq s).p && queryOf (lineRq s).q
def lineR (s : List UInt8) : Rq := if lineOK s && methodOf (lineRq s).m then lineRq s else rq0
def lineSt (s : List UInt8) : Int := if lineOK s then (if methodOf (lineRq s).m then 200 else 501) else 400
def targetOf (r : Rq) : List UInt8 := if r.q = [] then r.p else r.p ++ 63 :: r.q
def writeL (r : Rq) : List UInt8 := r.m ++ [32] ++ targetOf r ++ [32, 72, 84, 84, 80, 47, 49, 46] ++ (if r.v = 0 then [48] else [49])
def writeOK (r : Rq) : Bool := methodOf r.m && pathOf r.p && queryOf r.q && decide (0 ≤ r.v) && decide (r.v ≤ 1) && decide ((writeL r).length ≤ 4096)
def writeS (r : Rq) : List UInt8 := if writeOK r then writeL r else []
def writeE (r : Rq) : Int := if writeOK r then 0 else 3

/-! ## Plain facts -/
theorem dig_range (x : UInt8) : -1 ≤ digI x.toNat ∧ digI x.toNat ≤ 15 := by unfold digI; split <;> (try split) <;> (try split) <;> omega
theorem hexB_iff (x : UInt8) : hexB x = true ↔ 0 ≤ digI x.toNat := by simp [hexB]
theorem hex_not_slash (x : UInt8) (h : hexB x = true) : x ≠ 47 := by
  intro e; subst e; revert h; decide
theorem hexV_toNat (a b : UInt8) (ha : hexB a = true) (hb : hexB b = true) : ((hexV a b).toNat : Int) = 16 * digI a.toNat + digI b.toNat := by
  rw [hexB_iff] at ha hb
  have h1 := dig_range a
  have h2 := dig_range b
  unfold hexV
  have : (16 * digI a.toNat + digI b.toNat).toNat < 256 := by omega
  rw [Nat.toUInt8, UInt8.toNat_ofNat', Nat.mod_eq_of_lt (by omega)]
  omega
theorem plain_not_37 {marks : List UInt8} (h : marks.contains 37 = false) : plainB marks 37 = false := by
  unfold plainB
  rw [h]; decide
theorem made_cons (marks : List UInt8) (x : UInt8) (r : List UInt8) (hx : x ≠ 37) : madeOf marks (x :: r) = (plainB marks x && madeOf marks r) := by
  simp [madeOf, hx]
theorem made_37 (marks : List UInt8) (h : marks.contains 37 = false) (r : List UInt8) : madeOf marks (37 :: r) = match r with | a :: b :: r => hexB a && hexB b && madeOf marks r | _ => false := by
  match r with
  | [] => simp [madeOf, plain_not_37 h]
  | [a] => simp [madeOf, plain_not_37 h]
  | a :: b :: r => simp [madeOf]
theorem unq_cons (x : UInt8) (r : List UInt8) (hx : x ≠ 37) : unq (x :: r) = x :: unq r := by
  simp [unq, hx]
theorem unq_37 (a b : UInt8) (r : List UInt8) (ha : hexB a = true) (hb : hexB b = true) : unq (37 :: a :: b :: r) = hexV a b :: unq r := by simp [unq, ha, hb]
theorem cutB_at (c : UInt8) : ∀ (l : List UInt8) (k : Nat), c ∉ l.take k → l[k]? = some c → cutB c l = (l.take k, l.drop (k + 1), true)
  | [], k, _, h => by simp at h
  | x :: r, 0, _, h => by simp at h; simp [cutB, h]
  | x :: r, k + 1, hn, h => by
    have hx : x ≠ c := fun e => hn (by simp [e])
    have ih := cutB_at c r k (fun e => hn (by simp [e])) (by simpa using h)
    simp [cutB, hx, ih]
theorem cutB_none (c : UInt8) : ∀ (l : List UInt8), c ∉ l → cutB c l = (l, [], false)
  | [], _ => rfl
  | x :: r, hn => by
    have hx : x ≠ c := fun e => hn (by simp [e])
    simp [cutB, hx, cutB_none c r (fun e => hn (by simp [e]))]
theorem cutB_length (c : UInt8) : ∀ l : List UInt8, (cutB c l).1.length + (cutB c l).2.1.length ≤ l.length
  | [] => by simp [cutB]
  | x :: r => by
    have := cutB_length c r
    unfold cutB
    split
    · simp
    · simp; omega
/-- The library's cut, at one byte. -/
theorem cut_one (c : UInt8) : ∀ l : List UInt8, Lib.cut l [c] = cutB c l := fun l => by
  unfold Lib.cut
  rcases index_one c l with ⟨h1, h2⟩ | ⟨k, h1, h2, h3, h4⟩
  · rw [h1, cutB_none c l h2]; simp
  · rw [h1, cutB_at c l k h3 h4]; simp
end Go.Proofs.YtnaeeklnlddcaaaDoor
/- Routes, as plain functions: places of a pattern, pages by their shapes, which page a path leads to. No program in sight. -/
namespace Go.Proofs.YtnaeeklnlddcaaaDoor.Vex

/-- A place: its kind (0 a literal, 1 a parameter, 2 a rest), and its text, or name. -/
abbrev Plc := Int × List UInt8
def letB (x : UInt8) : Bool := decide (97 ≤ x.toNat) && decide (x.toNat ≤ 122)
def nameB (s : List UInt8) : Bool := !decide (s = []) && s.all letB
/-- One place, of a raw text; whether it is the last one; the text without quotes. -/
def placeOf (s : List UInt8) (last : Bool) (t : List UInt8) : Option Plc :=
  if s.head? = some 42 ∧ nameB (s.drop 1) = true ∧ last = true then some (2, s.drop 1)
  else if s.head? = some 58 ∧ nameB (s.drop 1) = true then some (1, s.drop 1)
  else if s.head? = some 42 ∨ s.head? = some 58 then none
  else some (0, t)
def placesG : List (List UInt8) → List (List UInt8) → Option (List Plc)
  | [], _ => some []
  | s :: r, ts => match placeOf s (decide (r = [])) (ts.headD []) with
    | none => none
    | some p => (placesG r ts.tail).map (p :: ·)
def placesOf (s : List UInt8) : Option (List Plc) := if pathOf s = true ∧ s.length ≤ 4096 then placesG (splitB 47 (s.drop 1)) (segs s) else none
/-- A place as a key: no name. -/
def keyP (p : Plc) : Plc := if p.1 = 0 then p else (p.1, [])
structure Rpg where
  m : List UInt8
  p : List UInt8
deriving DecidableEq
def methodsR : List (List UInt8) := [[71, 69, 84], [80, 79, 83, 84], [80, 85, 84], [68, 69, 76, 69, 84, 69], [79, 80, 84, 73, 79, 78, 83]]
def pgOK (g : Rpg) : Bool := (placesOf g.p).isSome && methodsR.contains g.m
/-- A page's shape and method. -/
def shapeOf (g : Rpg) : List Plc := ((placesOf g.p).getD []).map keyP
def slotOf (g : Rpg) : List Plc × List UInt8 := (shapeOf g, g.m)
def slotsOK : List Rpg → Bool
  | [] => true
  | g :: r => !((r.map slotOf).contains (slotOf g)) && slotsOK r
def grownE (l : List Rpg) : Int := if 32 < l.length then 4 else if l.all pgOK then (if slotsOK l then 0 else 8) else 3
/-- The shapes that segments meet, the ones ahead first. -/
def cands : List (List UInt8) → List (List Plc)
  | [] => [[]]
  | s :: r => (cands r).map ((0, s) :: ·) ++ ((cands r).map ((1, []) :: ·) ++ [[(2, [])]])
/-- The page of a shape and a method: its place in the list. -/
def pageAt (l : List Rpg) (c : List Plc) (m : List UInt8) : Option Nat := (l.map slotOf).findIdx? fun x => decide (x = (c, m))
def anyAt (l : List Rpg) (c : List Plc) : Bool := l.any fun g => decide (shapeOf g = c)
/-- What is found along some shapes: the page (none: -1), and the status. -/
def findC (l : List Rpg) (m : List UInt8) : List (List Plc) → Int → Int × Int
  | [], st => (-1, st)
  | c :: r, st => match pageAt l c m with
    | some i => (i, if anyAt l c then 405 else st)
    | none => findC l m r (if anyAt l c then 405 else st)
def methodG (m : List UInt8) : List UInt8 := if m = [72, 69, 65, 68] then [71, 69, 84] else m
end Go.Proofs.YtnaeeklnlddcaaaDoor.Vex
/- field.Items, reckoned: a range over strings.SplitSeq. -/
namespace Go.Proofs.YtnaeeklnlddcaaaDoor.Vex
open Go Go.RowKit
set_option maxRecDepth 100000
set_option linter.unusedSectionVars false
variable {gI : GI} [HasMax gI]

theorem itemsLeft {l r : List UInt8} {out : List (List UInt8)} (h : out ++ itemsOf r = itemsOf l) : out.length ≤ l.length + 1 := by
  have := items_length l
  rw [← h, List.length_append] at this
  omega
end Go.Proofs.YtnaeeklnlddcaaaDoor.Vex
/- What vary tells, as byte lists. No program in sight. -/
namespace Go.Proofs.YtnaeeklnlddcaaaDoor

/-- Is a text one of some, in small letters? -/
def inS (l : List (List UInt8)) (s : List UInt8) : Bool := l.any fun x => smallOf x == smallOf s
def namesOf (v n : List UInt8) : Bool := (itemsOf v).any fun s => smallOf s == [42] || smallOf s == smallOf n
/-- Each text once, in small letters, in the order of their coming. -/
def dedup : List (List UInt8) → List (List UInt8) → List (List UInt8)
  | out, [] => out
  | out, s :: r => dedup (if inS out s then out else out ++ [s]) r
def allV (values : List (List UInt8)) (name : List UInt8) : List (List UInt8) := values.flatMap itemsOf ++ [name]
def mergeOK (values : List (List UInt8)) (name : List UInt8) : Bool := (allV values name).all tokenOf
def mergeO (values : List (List UInt8)) (name : List UInt8) : List (List UInt8) := dedup [] (allV values name)
def mergeS (values : List (List UInt8)) (name : List UInt8) : List UInt8 :=
  if mergeOK values name then (if inS (mergeO values name) [42] then [42] else Lib.join (mergeO values name) [44, 32]) else []
def mergeE (values : List (List UInt8)) (name : List UInt8) : Int := if mergeOK values name then 0 else 3
theorem small_star : smallOf [42] = [42] := by decide
theorem small_eq_star {s : List UInt8} : smallOf s = [42] ↔ s = [42] := by
  constructor
  · intro h
    have hl : s.length = 1 := by rw [← smallOf_length s, h]; rfl
    match s, hl with
    | [x], _ =>
      have h1 : lowB x = 42 := by simpa [smallOf] using h
      have h2 : ∀ n : Fin 256, lowB n.val.toUInt8 = 42 → n.val.toUInt8 = 42 := by decide +kernel
      have h3 := h2 ⟨x.toNat, x.toNat_lt⟩
      simp at h3
      rw [h3 h1]
  · rintro rfl; decide
theorem names_in (v n : List UInt8) : namesOf v n = (inS (itemsOf v) [42] || inS (itemsOf v) n) := by
  unfold namesOf inS
  rw [small_star]
  induction itemsOf v with
  | nil => rfl
  | cons x r ih => simp only [List.any_cons, ih]; cases smallOf x == [42] <;> cases smallOf x == smallOf n <;> simp
/-- Items of values that are put behind one another. -/
theorem join_cons (x y : List UInt8) (r : List (List UInt8)) (sep : List UInt8) : Lib.join (x :: y :: r) sep = x ++ sep ++ Lib.join (y :: r) sep := by
  simp [Lib.join, List.intercalate]
theorem items_of_join : ∀ values : List (List UInt8), itemsOf (Lib.join values [44]) = values.flatMap itemsOf
  | [] => by decide
  | [x] => by simp [Lib.join_one]
  | x :: y :: r => by
    rw [join_cons, List.flatMap_cons, ← items_of_join (y :: r), List.append_assoc]
    exact items_join x _
theorem join_length : ∀ (values : List (List UInt8)) (sep : List UInt8), (Lib.join values sep).length ≤ (values.map fun v => v.length + sep.length).sum
  | [], sep => by simp [Lib.join, List.intercalate]
  | [x], sep => by simp [Lib.join_one]
  | x :: y :: r, sep => by
    have := join_length (y :: r) sep
    rw [join_cons, List.map_cons, List.sum_cons, List.length_append, List.length_append]
    omega
theorem dedup_length : ∀ (l out : List (List UInt8)), (dedup out l).length ≤ out.length + l.length
  | [], out => by simp [dedup]
  | s :: r, out => by
    cases h : inS out s with
    | true =>
      have := dedup_length r out
      simp only [dedup, h, if_true, List.length_cons]
      omega
    | false =>
      have := dedup_length r (out ++ [s])
      simp only [List.length_append, List.length_singleton] at this
      simp only [dedup, h, Bool.false_eq_true, if_false, List.length_cons]
      omega
theorem dedup_mem : ∀ (l out : List (List UInt8)) (x : List UInt8), x ∈ dedup out l → x ∈ out ∨ x ∈ l
  | [], out, x, h => .inl h
  | s :: r, out, x, h => by
    unfold dedup at h
    rcases dedup_mem r _ x h with h | h
    · split at h
      · exact .inl h
      · rcases List.mem_append.1 h with h | h
        · exact .inl h
        · rw [List.mem_singleton] at h
          exact .inr (by rw [h]; exact List.mem_cons_self ..)
    · exact .inr (List.mem_cons_of_mem _ h)
theorem inS_append (a b : List (List UInt8)) (s : List UInt8) : inS (a ++ b) s = (inS a s || inS b s) := by simp [inS]
/-- What is put together names all that was named. -/
theorem inS_dedup (s : List UInt8) : ∀ (l out : List (List UInt8)), inS (dedup out l) s = (inS out s || inS l s)
  | [], out => by simp [dedup, inS]
  | x :: r, out => by
    have ih := inS_dedup s r (if inS out x then out else out ++ [x])
    unfold dedup
    rw [ih]
    have hc : inS (x :: r) s = (smallOf x == smallOf s || inS r s) := by simp [inS]
    rw [hc]
    split
    · rename_i h
      cases hx : smallOf x == smallOf s with
      | false => simp
      | true =>
        have hx : smallOf x = smallOf s := by simpa using hx
        have : inS out s = true := by unfold inS at h ⊢; rw [← hx]; exact h
        simp [this]
    · rw [inS_append]
      simp [inS, Bool.or_assoc]
end Go.Proofs.YtnaeeklnlddcaaaDoor
/- Library functions on lists of texts and of fields, and the references' ones, reckoned. -/
namespace Go.Proofs.YtnaeeklnlddcaaaDoor.Vex
open Go Go.RowKit
set_option maxRecDepth 100000
set_option linter.unusedSectionVars false
variable {gI : GI} [HasMax gI]

theorem rdw_addr {w : World} {A : Option Addr} {x : Value} {xs : List Value} (h : Rdw w A (x :: xs)) : ∃ b o, A = some ⟨b, o, none⟩ ∧ b < w.heap.size := by
  obtain ⟨a, ha, hc⟩ := h 0 x rfl
  obtain ⟨b, o, sp⟩ := a
  have hs : sp = none := by
    cases sp with
    | none => rfl
    | some s =>
      exfalso
      have : (⟨b, o, some s⟩ : Addr).add 0 = ⟨b, o, some s⟩ ∨ ((⟨b, o, some s⟩ : Addr).add 0).spot.isSome = true := by
        right; unfold Addr.add; split <;> simp_all
      unfold World.cell? at hc
      rcases this with h | h <;> simp [h] at hc <;> split at hc <;> simp_all
  subst hs
  refine ⟨b, o, ha, ?_⟩
  have := World.block_lt_of_cell? _ _ hc
  rwa [add_block] at this
theorem Join_f (A : Option Addr) (cp : Nat) (xs : List (List UInt8)) (sep : List UInt8) (hn : xs.length ≤ 1000000000000) (hl : (Lib.join xs sep).length ≤ 140737488355328) :
    FnE Tryd.prog gI 27 [.slice A xs.length cp, str sep] (fun w => Rdw w A (xs.map str) ∧ xs.length ≤ cp) (fun _ v _ => v = str (Lib.join xs sep)) :=
  ⟨callable Tryd.func27 rfl (by kernel_rfl), fun w _ ⟨hr, hc⟩ => by
    cases xs with
    | nil => exact (Tryd.strings_Join_none A cp ⟨⟨sep⟩⟩ w).mono fun e w' ⟨he, hw⟩ => ⟨_, he, rfl, by rw [hw]; exact R.refl _⟩
    | cons x r =>
      obtain ⟨b, o, rfl, hb⟩ := rdw_addr hr
      have hm : ((x :: r).map fun l => (⟨⟨l⟩⟩ : ByteArray)).map (·.data.toList) = x :: r := by
        rw [List.map_map]
        exact List.map_id _
      have h := Tryd.strings_Join b o cp ((x :: r).map fun l => ⟨⟨l⟩⟩) ⟨⟨sep⟩⟩ w (fun j y hj => by
        rw [List.getElem?_map] at hj
        cases hx : (x :: r)[j]? with
        | none => rw [hx] at hj; cases hj
        | some l =>
          rw [hx] at hj
          cases hj
          obtain ⟨a, ha, hcell⟩ := hr j (str l) (by rw [List.getElem?_map, hx]; rfl)
          cases ha
          rw [Addr.add_lit] at hcell
          exact hcell) hb (by rw [List.length_map]; omega) (by rw [List.length_map]; exact hc) (by rw [hm]; exact hl)
      rw [List.length_map, hm] at h
      exact h.mono fun e w' ⟨he, hw⟩ => ⟨_, he, rfl, hw⟩⟩
end Go.Proofs.YtnaeeklnlddcaaaDoor.Vex
/- Numbers to the base of 16, reckoned: strconv.ParseUint at the base 16; library functions on texts. -/
namespace Go.Proofs.YtnaeeklnlddcaaaDoor.Vex
open Go Go.RowKit
set_option maxRecDepth 100000
set_option linter.unusedSectionVars false
variable {gI : GI} [HasMax gI]

theorem idx_in (c : UInt8) : ∀ l : List UInt8, (0 ≤ Lib.indexByte l c) ↔ c ∈ l
  | [] => by simp [Lib.indexByte]
  | x :: r => by
    have ih := idx_in c r
    have hg := Lib.indexByte_ge r c
    unfold Lib.indexByte
    by_cases h : x = c
    · simp [h]
    · have h1 : (x == c) = false := by simpa using h
      rw [h1]
      simp only [Bool.false_eq_true, if_false, List.mem_cons]
      have h2 : ¬ c = x := fun e => h e.symm
      simp only [h2, false_or, ← ih]
      by_cases h3 : Lib.indexByte r c = -1
      · simp [h3]
      · have : (Lib.indexByte r c == -1) = false := by simpa using h3
        rw [this]
        simp only [Bool.false_eq_true, if_false]
        omega
theorem HasPrefix_f (s p : List UInt8) : Fn Tryd.prog gI 25 [str s, str p] (.bool (Lib.hasPrefix s p)) :=
  ⟨callable Tryd.func25 rfl (by kernel_rfl), fun w _ => (Tryd.strings_HasPrefix ⟨⟨s⟩⟩ ⟨⟨p⟩⟩ w).mono fun _ _ ⟨he, hw⟩ => ⟨he, by rw [hw]; exact R.refl _⟩⟩
theorem mem_bytes (l : List (List UInt8)) (x : List UInt8) : (⟨⟨x⟩⟩ : ByteArray) ∈ l.map (fun y => (⟨⟨y⟩⟩ : ByteArray)) ↔ x ∈ l := by
  constructor
  · intro h
    obtain ⟨y, hy, e⟩ := List.mem_map.1 h
    cases e
    exact hy
  · exact fun h => List.mem_map.2 ⟨x, h, rfl⟩
theorem Contains_f (A : Option Addr) (cp : Nat) (l : List (List UInt8)) (x : List UInt8) (hl : l.length ≤ 1000000000) : FnR Tryd.prog gI 18 [.slice A l.length cp, str x] [(A, l.map str)] (.bool (l.contains x)) :=
  ⟨callable Tryd.func18 rfl (by kernel_rfl), fun w _ ⟨hr, _⟩ => by
    cases l with
    | nil => exact (Tryd.slices_Contains_string_empty A cp ⟨⟨x⟩⟩ w).mono fun e w' ⟨he, hw⟩ => ⟨_, he, by simp, by rw [hw]; exact R.refl _⟩
    | cons y r =>
      obtain ⟨b, o, rfl, hb⟩ := rdw_addr hr
      have h := Tryd.slices_Contains_string b o (y :: r).length cp ((y :: r).map fun l => ⟨⟨l⟩⟩) ⟨⟨x⟩⟩ w (by rw [List.length_map]; exact Nat.le_refl _) (by omega) (fun j hj => by
        rw [List.length_map] at hj
        obtain ⟨a, ha, hcell⟩ := hr j (str (y :: r)[j]) (by rw [List.getElem?_map, List.getElem?_eq_getElem hj]; rfl)
        cases ha
        rw [Addr.add_lit] at hcell
        rw [hcell, List.getD_eq_getElem?_getD, List.getElem?_map, List.getElem?_eq_getElem hj]
        rfl)
      refine h.mono fun e w' ⟨he, hw⟩ => ⟨_, he, ?_, by rw [hw]; exact R.refl _⟩
      congr 1
      rw [Bool.eq_iff_iff, Lib.containsS_iff, List.take_of_length_le (by rw [List.length_map]; exact Nat.le_refl _), mem_bytes, List.contains_iff_mem]⟩
/-! ## To the base of 16 -/
def lwI (x : UInt8) : Int := bits .or .u8 x.toNat 32
theorem lw_facts (x : UInt8) : (48 ≤ x.toNat ∧ x.toNat ≤ 57 ∧ digI x.toNat = x.toNat - 48) ∨ (¬ (48 ≤ x.toNat ∧ x.toNat ≤ 57) ∧ ((97 ≤ lwI x ∧ lwI x ≤ 122 ∧ (digI x.toNat = lwI x - 87 ∧ lwI x ≤ 102 ∨ digI x.toNat = -1 ∧ 102 < lwI x)) ∨ (¬ (97 ≤ lwI x ∧ lwI x ≤ 122) ∧ digI x.toNat = -1))) := by
  have : ∀ n : Fin 256, (48 ≤ n.val ∧ n.val ≤ 57 ∧ digI n.val = n.val - 48) ∨ (¬ (48 ≤ n.val ∧ n.val ≤ 57) ∧ ((97 ≤ bits .or .u8 n.val 32 ∧ bits .or .u8 n.val 32 ≤ 122 ∧ (digI n.val = bits .or .u8 n.val 32 - 87 ∧ bits .or .u8 n.val 32 ≤ 102 ∨ digI n.val = -1 ∧ 102 < bits .or .u8 n.val 32)) ∨ (¬ (97 ≤ bits .or .u8 n.val 32 ∧ bits .or .u8 n.val 32 ≤ 122) ∧ digI n.val = -1))) := by decide +kernel
  exact this ⟨x.toNat, x.toNat_lt⟩
theorem lw_95 (x : UInt8) (h : x.toNat = 95) : digI x.toNat = -1 := by rw [h]; decide
theorem lower_f (x : UInt8) : Fn Tryd.prog gI 70 [.int .u8 x.toNat] (.int .u8 (lwI x)) :=
  ⟨callable Tryd.func70 rfl (by kernel_rfl), fun w _ => (Tryd.internal_strconv_lower x.toNat w).mono fun _ _ ⟨he, hw⟩ => ⟨he, by rw [hw]; exact R.refl _⟩⟩
/-- The value and the error's number: 0 none, 1 out of range, 2 no number. -/
def puGo (mx : Int) : Int → List UInt8 → Int × Int
  | n, [] => (n, 0)
  | n, x :: r => if digI x.toNat < 0 then (0, 2) else if 1152921504606846976 ≤ n then (mx, 1) else if mx < n * 16 + digI x.toNat then (mx, 1) else puGo mx (n * 16 + digI x.toNat) r
def puV (mx : Int) (l : List UInt8) : Int × Int := if l = [] then (0, 2) else puGo mx 0 l
def errV (k : Int) : Value := if k = 0 then .nilIface else .iface 117 (.int .i64 k)
theorem puGo_err (mx : Int) : ∀ (l : List UInt8) (n : Int), (puGo mx n l).2 = 0 ∨ (puGo mx n l).2 = 1 ∨ (puGo mx n l).2 = 2
  | [], n => .inl rfl
  | x :: r, n => by
    unfold puGo
    split
    · exact .inr (.inr rfl)
    · split
      · exact .inr (.inl rfl)
      · split
        · exact .inr (.inl rfl)
        · exact puGo_err mx r _
theorem Parse16_f [HasErr gI] (l : List UInt8) (bs mx : Int) (hb : bs = 8 ∧ mx = 255 ∨ bs = 64 ∧ mx = 18446744073709551615) (hl : l.length ≤ 1000000000) :
    Fn Tryd.prog gI 57 [str l, .int .i64 16, .int .i64 bs] (.tuple #[.int .u64 (puV mx l).1, errV (puV mx l).2]) := by
  refine Fn.of tys_ok Tryd.func57 rfl (by kernel_rfl) rfl rfl ?_; intro w hG
  (conv => whnf); repeat ((first | refine tk1 ?_ | refine tk2 ?_ | refine tk3 ?_ | refine tk12 (fun _ => ?_) | refine tk4 ?_ | refine tk5 ?_ | refine tk6 ?_ | refine tk7 ?_ | refine tk8 ?_ | refine tk9 ?_ | refine tk10 (fun _ _ => ?_) | refine tk11 (fun _ => ?_) | refine tk13 ?_ | refine tk14 ?_); (conv => whnf))
  refine Cmp.cases (fun h0 => ?_) (fun h0 => ?_)
  · (conv => whnf); repeat ((first | refine tk1 ?_ | refine tk2 ?_ | refine tk3 ?_ | refine tk12 (fun _ => ?_) | refine tk4 ?_ | refine tk5 ?_ | refine tk6 ?_ | refine tk7 ?_ | refine tk8 ?_ | refine tk9 ?_ | refine tk10 (fun _ _ => ?_) | refine tk11 (fun _ => ?_) | refine tk13 ?_ | refine tk14 ?_); (conv => whnf))
    refine OthP.mkI tys_ok rfl rfl ?_
    (conv => whnf); repeat ((first | refine tk1 ?_ | refine tk2 ?_ | refine tk3 ?_ | refine tk12 (fun _ => ?_) | refine tk4 ?_ | refine tk5 ?_ | refine tk6 ?_ | refine tk7 ?_ | refine tk8 ?_ | refine tk9 ?_ | refine tk10 (fun _ _ => ?_) | refine tk11 (fun _ => ?_) | refine tk13 ?_ | refine tk14 ?_); (conv => whnf))
    simp [puV, h0, errV]
  · have hpv : puV mx l = puGo mx 0 l := by unfold puV; rw [if_neg h0]
    have h255 : 255 ≤ mx := by omega
    (conv => whnf); repeat ((first | refine tk1 ?_ | refine tk2 ?_ | refine tk3 ?_ | refine tk12 (fun _ => ?_) | refine tk4 ?_ | refine tk5 ?_ | refine tk6 ?_ | refine tk7 ?_ | refine tk8 ?_ | refine tk9 ?_ | refine tk10 (fun _ _ => ?_) | refine tk11 (fun _ => ?_) | refine tk13 ?_ | refine tk14 ?_); (conv => whnf))
    refine Ar.any ?_
    rw [show IntKind.u64.wrap bs = bs by rcases hb with ⟨rfl, _⟩ | ⟨rfl, _⟩ <;> rfl]
    (conv => whnf); repeat ((first | refine tk1 ?_ | refine tk2 ?_ | refine tk3 ?_ | refine tk12 (fun _ => ?_) | refine tk4 ?_ | refine tk5 ?_ | refine tk6 ?_ | refine tk7 ?_ | refine tk8 ?_ | refine tk9 ?_ | refine tk10 (fun _ _ => ?_) | refine tk11 (fun _ => ?_) | refine tk13 ?_ | refine tk14 ?_); (conv => whnf))
    refine OthP.ints rfl rfl (v := .int .u64 (if bs = 8 then 256 else 0)) (fun w => by rcases hb with ⟨rfl, _⟩ | ⟨rfl, _⟩ <;> rfl) ?_
    (conv => whnf); repeat ((first | refine tk1 ?_ | refine tk2 ?_ | refine tk3 ?_ | refine tk12 (fun _ => ?_) | refine tk4 ?_ | refine tk5 ?_ | refine tk6 ?_ | refine tk7 ?_ | refine tk8 ?_ | refine tk9 ?_ | refine tk10 (fun _ _ => ?_) | refine tk11 (fun _ => ?_) | refine tk13 ?_ | refine tk14 ?_); (conv => whnf))
    refine Ar.any ?_
    rw [show IntKind.u64.wrap ((if bs = 8 then 256 else 0) - 1) = mx by rcases hb with ⟨rfl, rfl⟩ | ⟨rfl, rfl⟩ <;> rfl]
    (conv => whnf); repeat ((first | refine tk1 ?_ | refine tk2 ?_ | refine tk3 ?_ | refine tk12 (fun _ => ?_) | refine tk4 ?_ | refine tk5 ?_ | refine tk6 ?_ | refine tk7 ?_ | refine tk8 ?_ | refine tk9 ?_ | refine tk10 (fun _ _ => ?_) | refine tk11 (fun _ => ?_) | refine tk13 ?_ | refine tk14 ?_); (conv => whnf))
    rename_i b cp
    refine LoopS.lp tys_ok (fun (x : Nat × Int) u => [u 0, .int .i64 16, u 2, u 3, u 4, u 5, u 6, u 7, .bool false, str l, .int .u64 1152921504606846976, .int .u64 mx, .bool false, .int .u64 x.2, u 14, u 15, u 16, u 17, u 18, u 19, u 20, u 21, u 22, u 23, u 24, u 25, u 26, u 27, u 28, u 29, u 30, u 31, u 32, u 33, u 34, u 35, u 36, u 37, u 38, u 39, u 40, u 41, u 42, u 43, u 44, u 45, u 46, u 47, u 48, u 49, u 50, u 51, u 52, u 53, u 54, u 55, u 56, u 57, u 58, u 59, u 60, u 61, u 62, u 63, u 64, u 65, u 66, u 67, u 68, u 69, u 70, u 71, u 72, u 73, u 74, u 75, u 76, u 77, u 78, u 79, u 80, u 81, u 82, u 83, u 84, u 85, u 86, u 87, u 88, u 89, u 90, u 91, u 92, u 93, u 94, u 95, u 96, u 97, u 98, .slice (some ⟨b, 0, none⟩) l.length cp, .int .i64 l.length, .int .i64 (x.1 : Nat), u 102, u 103, u 104, u 105, u 106, u 107, u 108, u 109, u 110, u 111, u 112, u 113, u 114, u 115, u 116, u 117, u 118, u 119, u 120, u 121, u 122, u 123, u 124, u 125, u 126, u 127, u 128, u 129, u 130, u 131, u 132, u 133, u 134, u 135, u 136, u 137, u 138, u 139, u 140, u 141, u 142, u 143, u 144, u 145, u 146, u 147, u 148, u 149, u 150, u 151, u 152, u 153, u 154, u 155, u 156, u 157, u 158, u 159, u 160, u 161, u 162, u 163, u 164, u 165, u 166, u 167, u 168, u 169, u 170, u 171])
      (fun _ => [.row (.slice (some ⟨b, 0, none⟩) l.length cp) 5 1 l.length (l.map byteV)])
      (fun x => x.1 ≤ l.length ∧ 0 ≤ x.2 ∧ x.2 ≤ mx ∧ puGo mx 0 l = puGo mx x.2 (l.drop x.1)) (fun x => l.length - x.1) (0, 0) ⟨Nat.zero_le _, Int.le_refl _, by dsimp only; omega, rfl⟩ rfl (by repeat' (first | exact List.Sublist.refl _ | exact List.nil_sublist _ | apply List.Sublist.cons_cons | apply List.Sublist.cons)) ?_
    rintro ⟨k, n⟩ u ⟨hk, hn0, hnm, hI⟩
    dsimp only at hk hn0 hnm hI ⊢
    (conv => whnf); repeat ((first | refine tk1 ?_ | refine tk2 ?_ | refine tk3 ?_ | refine tk12 (fun _ => ?_) | refine tk4 ?_ | refine tk5 ?_ | refine tk6 ?_ | refine tk7 ?_ | refine tk8 ?_ | refine tk9 ?_ | refine tk10 (fun _ _ => ?_) | refine tk11 (fun _ => ?_) | refine tk13 ?_ | refine tk14 ?_); (conv => whnf))
    refine Cmp.cases (fun hlt => ?_) (fun hlt => ?_)
    · have hlt' : k < l.length := by omega
      obtain ⟨x, hx⟩ : ∃ x, l[k] = x := ⟨_, rfl⟩
      have hd : l.drop k = x :: l.drop (k + 1) := by rw [← hx]; exact List.drop_eq_getElem_cons hlt'
      have hlw := lw_facts x
      have hxt := x.toNat_lt
      rw [hd, puGo] at hI
      have bad : digI x.toNat = -1 → puV mx l = (0, 2) := fun h => by rw [hpv, hI, if_pos (by omega)]
      (conv => whnf); repeat ((first | refine tk1 ?_ | refine tk2 ?_ | refine tk3 ?_ | refine tk12 (fun _ => ?_) | refine tk4 ?_ | refine tk5 ?_ | refine tk6 ?_ | refine tk7 ?_ | refine tk8 ?_ | refine tk9 ?_ | refine tk10 (fun _ _ => ?_) | refine tk11 (fun _ => ?_) | refine tk13 ?_ | refine tk14 ?_); (conv => whnf))
      refine IdxA.tc (by simp; omega) (by omega) (by omega) ?_
      (conv => whnf); repeat ((first | refine tk1 ?_ | refine tk2 ?_ | refine tk3 ?_ | refine tk12 (fun _ => ?_) | refine tk4 ?_ | refine tk5 ?_ | refine tk6 ?_ | refine tk7 ?_ | refine tk8 ?_ | refine tk9 ?_ | refine tk10 (fun _ _ => ?_) | refine tk11 (fun _ => ?_) | refine tk13 ?_ | refine tk14 ?_); (conv => whnf))
      refine Ld.ta (v := .int .u8 x.toNat) (by simp [hlt', hx, byteV]) ?_
      (conv => whnf); repeat ((first | refine tk1 ?_ | refine tk2 ?_ | refine tk3 ?_ | refine tk12 (fun _ => ?_) | refine tk4 ?_ | refine tk5 ?_ | refine tk6 ?_ | refine tk7 ?_ | refine tk8 ?_ | refine tk9 ?_ | refine tk10 (fun _ _ => ?_) | refine tk11 (fun _ => ?_) | refine tk13 ?_ | refine tk14 ?_); (conv => whnf))
      refine Cmp.cases (fun h95 => ?_) (fun h95 => ?_)
      · have hbad := bad (lw_95 x (by omega))
        have h5 : lwI x = 127 := by unfold lwI; rw [show x.toNat = 95 by omega]; rfl
        (conv => whnf); repeat ((first | refine tk1 ?_ | refine tk2 ?_ | refine tk3 ?_ | refine tk12 (fun _ => ?_) | refine tk4 ?_ | refine tk5 ?_ | refine tk6 ?_ | refine tk7 ?_ | refine tk8 ?_ | refine tk9 ?_ | refine tk10 (fun _ _ => ?_) | refine tk11 (fun _ => ?_) | refine tk13 ?_ | refine tk14 ?_); (conv => whnf))
        refine CallK.fn (lower_f x) ?_
        (conv => whnf); repeat ((first | refine tk1 ?_ | refine tk2 ?_ | refine tk3 ?_ | refine tk12 (fun _ => ?_) | refine tk4 ?_ | refine tk5 ?_ | refine tk6 ?_ | refine tk7 ?_ | refine tk8 ?_ | refine tk9 ?_ | refine tk10 (fun _ _ => ?_) | refine tk11 (fun _ => ?_) | refine tk13 ?_ | refine tk14 ?_); (conv => whnf))
        refine CallK.fn (lower_f x) ?_
        (conv => whnf); repeat ((first | refine tk1 ?_ | refine tk2 ?_ | refine tk3 ?_ | refine tk12 (fun _ => ?_) | refine tk4 ?_ | refine tk5 ?_ | refine tk6 ?_ | refine tk7 ?_ | refine tk8 ?_ | refine tk9 ?_ | refine tk10 (fun _ _ => ?_) | refine tk11 (fun _ => ?_) | refine tk13 ?_ | refine tk14 ?_); (conv => whnf))
        refine OthP.mkI tys_ok rfl rfl ?_
        (conv => whnf); repeat ((first | refine tk1 ?_ | refine tk2 ?_ | refine tk3 ?_ | refine tk12 (fun _ => ?_) | refine tk4 ?_ | refine tk5 ?_ | refine tk6 ?_ | refine tk7 ?_ | refine tk8 ?_ | refine tk9 ?_ | refine tk10 (fun _ _ => ?_) | refine tk11 (fun _ => ?_) | refine tk13 ?_ | refine tk14 ?_); (conv => whnf))
        rw [hbad]; rfl
      · rcases hlw with ⟨g1, g2, g3⟩ | ⟨g1, ⟨g2, g3, ⟨g4, g5⟩ | ⟨g4, g5⟩⟩ | ⟨g2, g3⟩⟩
        · (conv => whnf); repeat ((first | refine tk1 ?_ | refine tk2 ?_ | refine tk3 ?_ | refine tk12 (fun _ => ?_) | refine tk4 ?_ | refine tk5 ?_ | refine tk6 ?_ | refine tk7 ?_ | refine tk8 ?_ | refine tk9 ?_ | refine tk10 (fun _ _ => ?_) | refine tk11 (fun _ => ?_) | refine tk13 ?_ | refine tk14 ?_); (conv => whnf))
          refine Ar.in8 (by omega) (by omega) ?_
          (conv => whnf); repeat ((first | refine tk1 ?_ | refine tk2 ?_ | refine tk3 ?_ | refine tk12 (fun _ => ?_) | refine tk4 ?_ | refine tk5 ?_ | refine tk6 ?_ | refine tk7 ?_ | refine tk8 ?_ | refine tk9 ?_ | refine tk10 (fun _ _ => ?_) | refine tk11 (fun _ => ?_) | refine tk13 ?_ | refine tk14 ?_); (conv => whnf))
          rw [show (x.toNat : Int) - 48 = digI x.toNat by omega]
          rw [if_neg (show ¬ digI x.toNat < 0 by omega)] at hI
          have hdr := dig_range x
          refine Ar.in8 (by omega) (by omega) ?_
          (conv => whnf); repeat ((first | refine tk1 ?_ | refine tk2 ?_ | refine tk3 ?_ | refine tk12 (fun _ => ?_) | refine tk4 ?_ | refine tk5 ?_ | refine tk6 ?_ | refine tk7 ?_ | refine tk8 ?_ | refine tk9 ?_ | refine tk10 (fun _ _ => ?_) | refine tk11 (fun _ => ?_) | refine tk13 ?_ | refine tk14 ?_); (conv => whnf))
          refine Cmp.cases (fun c1 => ?_) (fun c1 => ?_)
          · rw [if_pos (show 1152921504606846976 ≤ n by omega)] at hI
            (conv => whnf); repeat ((first | refine tk1 ?_ | refine tk2 ?_ | refine tk3 ?_ | refine tk12 (fun _ => ?_) | refine tk4 ?_ | refine tk5 ?_ | refine tk6 ?_ | refine tk7 ?_ | refine tk8 ?_ | refine tk9 ?_ | refine tk10 (fun _ _ => ?_) | refine tk11 (fun _ => ?_) | refine tk13 ?_ | refine tk14 ?_); (conv => whnf))
            refine OthP.mkI tys_ok rfl rfl ?_
            (conv => whnf); repeat ((first | refine tk1 ?_ | refine tk2 ?_ | refine tk3 ?_ | refine tk12 (fun _ => ?_) | refine tk4 ?_ | refine tk5 ?_ | refine tk6 ?_ | refine tk7 ?_ | refine tk8 ?_ | refine tk9 ?_ | refine tk10 (fun _ _ => ?_) | refine tk11 (fun _ => ?_) | refine tk13 ?_ | refine tk14 ?_); (conv => whnf))
            rw [hpv, hI]; rfl
          · rw [if_neg (show ¬ 1152921504606846976 ≤ n by omega)] at hI
            (conv => whnf); repeat ((first | refine tk1 ?_ | refine tk2 ?_ | refine tk3 ?_ | refine tk12 (fun _ => ?_) | refine tk4 ?_ | refine tk5 ?_ | refine tk6 ?_ | refine tk7 ?_ | refine tk8 ?_ | refine tk9 ?_ | refine tk10 (fun _ _ => ?_) | refine tk11 (fun _ => ?_) | refine tk13 ?_ | refine tk14 ?_); (conv => whnf))
            refine Ar.any ?_
            rw [show IntKind.u64.wrap 16 = 16 from rfl]
            (conv => whnf); repeat ((first | refine tk1 ?_ | refine tk2 ?_ | refine tk3 ?_ | refine tk12 (fun _ => ?_) | refine tk4 ?_ | refine tk5 ?_ | refine tk6 ?_ | refine tk7 ?_ | refine tk8 ?_ | refine tk9 ?_ | refine tk10 (fun _ _ => ?_) | refine tk11 (fun _ => ?_) | refine tk13 ?_ | refine tk14 ?_); (conv => whnf))
            refine Ar.any ?_
            rw [show IntKind.u64.wrap (n * 16) = n * 16 by rw [IntKind.wrap_u64]; omega]
            (conv => whnf); repeat ((first | refine tk1 ?_ | refine tk2 ?_ | refine tk3 ?_ | refine tk12 (fun _ => ?_) | refine tk4 ?_ | refine tk5 ?_ | refine tk6 ?_ | refine tk7 ?_ | refine tk8 ?_ | refine tk9 ?_ | refine tk10 (fun _ _ => ?_) | refine tk11 (fun _ => ?_) | refine tk13 ?_ | refine tk14 ?_); (conv => whnf))
            refine Ar.any ?_
            rw [show IntKind.u64.wrap (digI x.toNat) = digI x.toNat by rw [IntKind.wrap_u64]; omega]
            (conv => whnf); repeat ((first | refine tk1 ?_ | refine tk2 ?_ | refine tk3 ?_ | refine tk12 (fun _ => ?_) | refine tk4 ?_ | refine tk5 ?_ | refine tk6 ?_ | refine tk7 ?_ | refine tk8 ?_ | refine tk9 ?_ | refine tk10 (fun _ _ => ?_) | refine tk11 (fun _ => ?_) | refine tk13 ?_ | refine tk14 ?_); (conv => whnf))
            refine Ar.any ?_
            rw [show IntKind.u64.wrap (n * 16 + digI x.toNat) = n * 16 + digI x.toNat by rw [IntKind.wrap_u64]; omega]
            (conv => whnf); repeat ((first | refine tk1 ?_ | refine tk2 ?_ | refine tk3 ?_ | refine tk12 (fun _ => ?_) | refine tk4 ?_ | refine tk5 ?_ | refine tk6 ?_ | refine tk7 ?_ | refine tk8 ?_ | refine tk9 ?_ | refine tk10 (fun _ _ => ?_) | refine tk11 (fun _ => ?_) | refine tk13 ?_ | refine tk14 ?_); (conv => whnf))
            refine Cmp.cases (fun c2 => ?_) (fun c2 => ?_)
            · rw [if_pos (show mx < n * 16 + digI x.toNat by omega)] at hI
              (conv => whnf); repeat ((first | refine tk1 ?_ | refine tk2 ?_ | refine tk3 ?_ | refine tk12 (fun _ => ?_) | refine tk4 ?_ | refine tk5 ?_ | refine tk6 ?_ | refine tk7 ?_ | refine tk8 ?_ | refine tk9 ?_ | refine tk10 (fun _ _ => ?_) | refine tk11 (fun _ => ?_) | refine tk13 ?_ | refine tk14 ?_); (conv => whnf))
              refine OthP.mkI tys_ok rfl rfl ?_
              (conv => whnf); repeat ((first | refine tk1 ?_ | refine tk2 ?_ | refine tk3 ?_ | refine tk12 (fun _ => ?_) | refine tk4 ?_ | refine tk5 ?_ | refine tk6 ?_ | refine tk7 ?_ | refine tk8 ?_ | refine tk9 ?_ | refine tk10 (fun _ _ => ?_) | refine tk11 (fun _ => ?_) | refine tk13 ?_ | refine tk14 ?_); (conv => whnf))
              rw [hpv, hI]; rfl
            · rw [if_neg (show ¬ mx < n * 16 + digI x.toNat by omega)] at hI
              (conv => whnf); repeat ((first | refine tk1 ?_ | refine tk2 ?_ | refine tk3 ?_ | refine tk12 (fun _ => ?_) | refine tk4 ?_ | refine tk5 ?_ | refine tk6 ?_ | refine tk7 ?_ | refine tk8 ?_ | refine tk9 ?_ | refine tk10 (fun _ _ => ?_) | refine tk11 (fun _ => ?_) | refine tk13 ?_ | refine tk14 ?_); (conv => whnf))
              exact ⟨(k + 1, n * 16 + digI x.toNat), ⟨by dsimp only; omega, by dsimp only; omega, by dsimp only; omega, hI⟩, rfl, (by repeat' (first | exact List.Sublist.refl _ | exact List.nil_sublist _ | apply List.Sublist.cons_cons | apply List.Sublist.cons)), by dsimp only; omega⟩
        · (conv => whnf); repeat ((first | refine tk1 ?_ | refine tk2 ?_ | refine tk3 ?_ | refine tk12 (fun _ => ?_) | refine tk4 ?_ | refine tk5 ?_ | refine tk6 ?_ | refine tk7 ?_ | refine tk8 ?_ | refine tk9 ?_ | refine tk10 (fun _ _ => ?_) | refine tk11 (fun _ => ?_) | refine tk13 ?_ | refine tk14 ?_); (conv => whnf))
          refine Cmp.cases (fun q1 => ?_) (fun q1 => ?_)
          · (conv => whnf); repeat ((first | refine tk1 ?_ | refine tk2 ?_ | refine tk3 ?_ | refine tk12 (fun _ => ?_) | refine tk4 ?_ | refine tk5 ?_ | refine tk6 ?_ | refine tk7 ?_ | refine tk8 ?_ | refine tk9 ?_ | refine tk10 (fun _ _ => ?_) | refine tk11 (fun _ => ?_) | refine tk13 ?_ | refine tk14 ?_); (conv => whnf))
            refine CallK.fn (lower_f x) ?_
            (conv => whnf); repeat ((first | refine tk1 ?_ | refine tk2 ?_ | refine tk3 ?_ | refine tk12 (fun _ => ?_) | refine tk4 ?_ | refine tk5 ?_ | refine tk6 ?_ | refine tk7 ?_ | refine tk8 ?_ | refine tk9 ?_ | refine tk10 (fun _ _ => ?_) | refine tk11 (fun _ => ?_) | refine tk13 ?_ | refine tk14 ?_); (conv => whnf))
            refine CallK.fn (lower_f x) ?_
            (conv => whnf); repeat ((first | refine tk1 ?_ | refine tk2 ?_ | refine tk3 ?_ | refine tk12 (fun _ => ?_) | refine tk4 ?_ | refine tk5 ?_ | refine tk6 ?_ | refine tk7 ?_ | refine tk8 ?_ | refine tk9 ?_ | refine tk10 (fun _ _ => ?_) | refine tk11 (fun _ => ?_) | refine tk13 ?_ | refine tk14 ?_); (conv => whnf))
            refine CallK.fn (lower_f x) ?_
            (conv => whnf); repeat ((first | refine tk1 ?_ | refine tk2 ?_ | refine tk3 ?_ | refine tk12 (fun _ => ?_) | refine tk4 ?_ | refine tk5 ?_ | refine tk6 ?_ | refine tk7 ?_ | refine tk8 ?_ | refine tk9 ?_ | refine tk10 (fun _ _ => ?_) | refine tk11 (fun _ => ?_) | refine tk13 ?_ | refine tk14 ?_); (conv => whnf))
            refine Ar.in8 (by omega) (by omega) ?_
            (conv => whnf); repeat ((first | refine tk1 ?_ | refine tk2 ?_ | refine tk3 ?_ | refine tk12 (fun _ => ?_) | refine tk4 ?_ | refine tk5 ?_ | refine tk6 ?_ | refine tk7 ?_ | refine tk8 ?_ | refine tk9 ?_ | refine tk10 (fun _ _ => ?_) | refine tk11 (fun _ => ?_) | refine tk13 ?_ | refine tk14 ?_); (conv => whnf))
            refine Ar.in8 (by omega) (by omega) ?_
            rw [show lwI x - 97 + 10 = digI x.toNat by omega]
            (conv => whnf); repeat ((first | refine tk1 ?_ | refine tk2 ?_ | refine tk3 ?_ | refine tk12 (fun _ => ?_) | refine tk4 ?_ | refine tk5 ?_ | refine tk6 ?_ | refine tk7 ?_ | refine tk8 ?_ | refine tk9 ?_ | refine tk10 (fun _ _ => ?_) | refine tk11 (fun _ => ?_) | refine tk13 ?_ | refine tk14 ?_); (conv => whnf))
            rw [if_neg (show ¬ digI x.toNat < 0 by omega)] at hI
            have hdr := dig_range x
            refine Ar.in8 (by omega) (by omega) ?_
            (conv => whnf); repeat ((first | refine tk1 ?_ | refine tk2 ?_ | refine tk3 ?_ | refine tk12 (fun _ => ?_) | refine tk4 ?_ | refine tk5 ?_ | refine tk6 ?_ | refine tk7 ?_ | refine tk8 ?_ | refine tk9 ?_ | refine tk10 (fun _ _ => ?_) | refine tk11 (fun _ => ?_) | refine tk13 ?_ | refine tk14 ?_); (conv => whnf))
            refine Cmp.cases (fun c1 => ?_) (fun c1 => ?_)
            · rw [if_pos (show 1152921504606846976 ≤ n by omega)] at hI
              (conv => whnf); repeat ((first | refine tk1 ?_ | refine tk2 ?_ | refine tk3 ?_ | refine tk12 (fun _ => ?_) | refine tk4 ?_ | refine tk5 ?_ | refine tk6 ?_ | refine tk7 ?_ | refine tk8 ?_ | refine tk9 ?_ | refine tk10 (fun _ _ => ?_) | refine tk11 (fun _ => ?_) | refine tk13 ?_ | refine tk14 ?_); (conv => whnf))
              refine OthP.mkI tys_ok rfl rfl ?_
              (conv => whnf); repeat ((first | refine tk1 ?_ | refine tk2 ?_ | refine tk3 ?_ | refine tk12 (fun _ => ?_) | refine tk4 ?_ | refine tk5 ?_ | refine tk6 ?_ | refine tk7 ?_ | refine tk8 ?_ | refine tk9 ?_ | refine tk10 (fun _ _ => ?_) | refine tk11 (fun _ => ?_) | refine tk13 ?_ | refine tk14 ?_); (conv => whnf))
              rw [hpv, hI]; rfl
            · rw [if_neg (show ¬ 1152921504606846976 ≤ n by omega)] at hI
              (conv => whnf); repeat ((first | refine tk1 ?_ | refine tk2 ?_ | refine tk3 ?_ | refine tk12 (fun _ => ?_) | refine tk4 ?_ | refine tk5 ?_ | refine tk6 ?_ | refine tk7 ?_ | refine tk8 ?_ | refine tk9 ?_ | refine tk10 (fun _ _ => ?_) | refine tk11 (fun _ => ?_) | refine tk13 ?_ | refine tk14 ?_); (conv => whnf))
              refine Ar.any ?_
              rw [show IntKind.u64.wrap 16 = 16 from rfl]
              (conv => whnf); repeat ((first | refine tk1 ?_ | refine tk2 ?_ | refine tk3 ?_ | refine tk12 (fun _ => ?_) | refine tk4 ?_ | refine tk5 ?_ | refine tk6 ?_ | refine tk7 ?_ | refine tk8 ?_ | refine tk9 ?_ | refine tk10 (fun _ _ => ?_) | refine tk11 (fun _ => ?_) | refine tk13 ?_ | refine tk14 ?_); (conv => whnf))
              refine Ar.any ?_
              rw [show IntKind.u64.wrap (n * 16) = n * 16 by rw [IntKind.wrap_u64]; omega]
              (conv => whnf); repeat ((first | refine tk1 ?_ | refine tk2 ?_ | refine tk3 ?_ | refine tk12 (fun _ => ?_) | refine tk4 ?_ | refine tk5 ?_ | refine tk6 ?_ | refine tk7 ?_ | refine tk8 ?_ | refine tk9 ?_ | refine tk10 (fun _ _ => ?_) | refine tk11 (fun _ => ?_) | refine tk13 ?_ | refine tk14 ?_); (conv => whnf))
              refine Ar.any ?_
              rw [show IntKind.u64.wrap (digI x.toNat) = digI x.toNat by rw [IntKind.wrap_u64]; omega]
              (conv => whnf); repeat ((first | refine tk1 ?_ | refine tk2 ?_ | refine tk3 ?_ | refine tk12 (fun _ => ?_) | refine tk4 ?_ | refine tk5 ?_ | refine tk6 ?_ | refine tk7 ?_ | refine tk8 ?_ | refine tk9 ?_ | refine tk10 (fun _ _ => ?_) | refine tk11 (fun _ => ?_) | refine tk13 ?_ | refine tk14 ?_); (conv => whnf))
              refine Ar.any ?_
              rw [show IntKind.u64.wrap (n * 16 + digI x.toNat) = n * 16 + digI x.toNat by rw [IntKind.wrap_u64]; omega]
              (conv => whnf); repeat ((first | refine tk1 ?_ | refine tk2 ?_ | refine tk3 ?_ | refine tk12 (fun _ => ?_) | refine tk4 ?_ | refine tk5 ?_ | refine tk6 ?_ | refine tk7 ?_ | refine tk8 ?_ | refine tk9 ?_ | refine tk10 (fun _ _ => ?_) | refine tk11 (fun _ => ?_) | refine tk13 ?_ | refine tk14 ?_); (conv => whnf))
              refine Cmp.cases (fun c2 => ?_) (fun c2 => ?_)
              · rw [if_pos (show mx < n * 16 + digI x.toNat by omega)] at hI
                (conv => whnf); repeat ((first | refine tk1 ?_ | refine tk2 ?_ | refine tk3 ?_ | refine tk12 (fun _ => ?_) | refine tk4 ?_ | refine tk5 ?_ | refine tk6 ?_ | refine tk7 ?_ | refine tk8 ?_ | refine tk9 ?_ | refine tk10 (fun _ _ => ?_) | refine tk11 (fun _ => ?_) | refine tk13 ?_ | refine tk14 ?_); (conv => whnf))
                refine OthP.mkI tys_ok rfl rfl ?_
                (conv => whnf); repeat ((first | refine tk1 ?_ | refine tk2 ?_ | refine tk3 ?_ | refine tk12 (fun _ => ?_) | refine tk4 ?_ | refine tk5 ?_ | refine tk6 ?_ | refine tk7 ?_ | refine tk8 ?_ | refine tk9 ?_ | refine tk10 (fun _ _ => ?_) | refine tk11 (fun _ => ?_) | refine tk13 ?_ | refine tk14 ?_); (conv => whnf))
                rw [hpv, hI]; rfl
              · rw [if_neg (show ¬ mx < n * 16 + digI x.toNat by omega)] at hI
                (conv => whnf); repeat ((first | refine tk1 ?_ | refine tk2 ?_ | refine tk3 ?_ | refine tk12 (fun _ => ?_) | refine tk4 ?_ | refine tk5 ?_ | refine tk6 ?_ | refine tk7 ?_ | refine tk8 ?_ | refine tk9 ?_ | refine tk10 (fun _ _ => ?_) | refine tk11 (fun _ => ?_) | refine tk13 ?_ | refine tk14 ?_); (conv => whnf))
                exact ⟨(k + 1, n * 16 + digI x.toNat), ⟨by dsimp only; omega, by dsimp only; omega, by dsimp only; omega, hI⟩, rfl, (by repeat' (first | exact List.Sublist.refl _ | exact List.nil_sublist _ | apply List.Sublist.cons_cons | apply List.Sublist.cons)), by dsimp only; omega⟩
          · (conv => whnf); repeat ((first | refine tk1 ?_ | refine tk2 ?_ | refine tk3 ?_ | refine tk12 (fun _ => ?_) | refine tk4 ?_ | refine tk5 ?_ | refine tk6 ?_ | refine tk7 ?_ | refine tk8 ?_ | refine tk9 ?_ | refine tk10 (fun _ _ => ?_) | refine tk11 (fun _ => ?_) | refine tk13 ?_ | refine tk14 ?_); (conv => whnf))
            refine CallK.fn (lower_f x) ?_
            (conv => whnf); repeat ((first | refine tk1 ?_ | refine tk2 ?_ | refine tk3 ?_ | refine tk12 (fun _ => ?_) | refine tk4 ?_ | refine tk5 ?_ | refine tk6 ?_ | refine tk7 ?_ | refine tk8 ?_ | refine tk9 ?_ | refine tk10 (fun _ _ => ?_) | refine tk11 (fun _ => ?_) | refine tk13 ?_ | refine tk14 ?_); (conv => whnf))
            refine CallK.fn (lower_f x) ?_
            (conv => whnf); repeat ((first | refine tk1 ?_ | refine tk2 ?_ | refine tk3 ?_ | refine tk12 (fun _ => ?_) | refine tk4 ?_ | refine tk5 ?_ | refine tk6 ?_ | refine tk7 ?_ | refine tk8 ?_ | refine tk9 ?_ | refine tk10 (fun _ _ => ?_) | refine tk11 (fun _ => ?_) | refine tk13 ?_ | refine tk14 ?_); (conv => whnf))
            refine CallK.fn (lower_f x) ?_
            (conv => whnf); repeat ((first | refine tk1 ?_ | refine tk2 ?_ | refine tk3 ?_ | refine tk12 (fun _ => ?_) | refine tk4 ?_ | refine tk5 ?_ | refine tk6 ?_ | refine tk7 ?_ | refine tk8 ?_ | refine tk9 ?_ | refine tk10 (fun _ _ => ?_) | refine tk11 (fun _ => ?_) | refine tk13 ?_ | refine tk14 ?_); (conv => whnf))
            refine Ar.in8 (by omega) (by omega) ?_
            (conv => whnf); repeat ((first | refine tk1 ?_ | refine tk2 ?_ | refine tk3 ?_ | refine tk12 (fun _ => ?_) | refine tk4 ?_ | refine tk5 ?_ | refine tk6 ?_ | refine tk7 ?_ | refine tk8 ?_ | refine tk9 ?_ | refine tk10 (fun _ _ => ?_) | refine tk11 (fun _ => ?_) | refine tk13 ?_ | refine tk14 ?_); (conv => whnf))
            refine Ar.in8 (by omega) (by omega) ?_
            rw [show lwI x - 97 + 10 = digI x.toNat by omega]
            (conv => whnf); repeat ((first | refine tk1 ?_ | refine tk2 ?_ | refine tk3 ?_ | refine tk12 (fun _ => ?_) | refine tk4 ?_ | refine tk5 ?_ | refine tk6 ?_ | refine tk7 ?_ | refine tk8 ?_ | refine tk9 ?_ | refine tk10 (fun _ _ => ?_) | refine tk11 (fun _ => ?_) | refine tk13 ?_ | refine tk14 ?_); (conv => whnf))
            rw [if_neg (show ¬ digI x.toNat < 0 by omega)] at hI
            have hdr := dig_range x
            refine Ar.in8 (by omega) (by omega) ?_
            (conv => whnf); repeat ((first | refine tk1 ?_ | refine tk2 ?_ | refine tk3 ?_ | refine tk12 (fun _ => ?_) | refine tk4 ?_ | refine tk5 ?_ | refine tk6 ?_ | refine tk7 ?_ | refine tk8 ?_ | refine tk9 ?_ | refine tk10 (fun _ _ => ?_) | refine tk11 (fun _ => ?_) | refine tk13 ?_ | refine tk14 ?_); (conv => whnf))
            refine Cmp.cases (fun c1 => ?_) (fun c1 => ?_)
            · rw [if_pos (show 1152921504606846976 ≤ n by omega)] at hI
              (conv => whnf); repeat ((first | refine tk1 ?_ | refine tk2 ?_ | refine tk3 ?_ | refine tk12 (fun _ => ?_) | refine tk4 ?_ | refine tk5 ?_ | refine tk6 ?_ | refine tk7 ?_ | refine tk8 ?_ | refine tk9 ?_ | refine tk10 (fun _ _ => ?_) | refine tk11 (fun _ => ?_) | refine tk13 ?_ | refine tk14 ?_); (conv => whnf))
              refine OthP.mkI tys_ok rfl rfl ?_
              (conv => whnf); repeat ((first | refine tk1 ?_ | refine tk2 ?_ | refine tk3 ?_ | refine tk12 (fun _ => ?_) | refine tk4 ?_ | refine tk5 ?_ | refine tk6 ?_ | refine tk7 ?_ | refine tk8 ?_ | refine tk9 ?_ | refine tk10 (fun _ _ => ?_) | refine tk11 (fun _ => ?_) | refine tk13 ?_ | refine tk14 ?_); (conv => whnf))
              rw [hpv, hI]; rfl
            · rw [if_neg (show ¬ 1152921504606846976 ≤ n by omega)] at hI
              (conv => whnf); repeat ((first | refine tk1 ?_ | refine tk2 ?_ | refine tk3 ?_ | refine tk12 (fun _ => ?_) | refine tk4 ?_ | refine tk5 ?_ | refine tk6 ?_ | refine tk7 ?_ | refine tk8 ?_ | refine tk9 ?_ | refine tk10 (fun _ _ => ?_) | refine tk11 (fun _ => ?_) | refine tk13 ?_ | refine tk14 ?_); (conv => whnf))
              refine Ar.any ?_
              rw [show IntKind.u64.wrap 16 = 16 from rfl]
              (conv => whnf); repeat ((first | refine tk1 ?_ | refine tk2 ?_ | refine tk3 ?_ | refine tk12 (fun _ => ?_) | refine tk4 ?_ | refine tk5 ?_ | refine tk6 ?_ | refine tk7 ?_ | refine tk8 ?_ | refine tk9 ?_ | refine tk10 (fun _ _ => ?_) | refine tk11 (fun _ => ?_) | refine tk13 ?_ | refine tk14 ?_); (conv => whnf))
              refine Ar.any ?_
              rw [show IntKind.u64.wrap (n * 16) = n * 16 by rw [IntKind.wrap_u64]; omega]
              (conv => whnf); repeat ((first | refine tk1 ?_ | refine tk2 ?_ | refine tk3 ?_ | refine tk12 (fun _ => ?_) | refine tk4 ?_ | refine tk5 ?_ | refine tk6 ?_ | refine tk7 ?_ | refine tk8 ?_ | refine tk9 ?_ | refine tk10 (fun _ _ => ?_) | refine tk11 (fun _ => ?_) | refine tk13 ?_ | refine tk14 ?_); (conv => whnf))
              refine Ar.any ?_
              rw [show IntKind.u64.wrap (digI x.toNat) = digI x.toNat by rw [IntKind.wrap_u64]; omega]
              (conv => whnf); repeat ((first | refine tk1 ?_ | refine tk2 ?_ | refine tk3 ?_ | refine tk12 (fun _ => ?_) | refine tk4 ?_ | refine tk5 ?_ | refine tk6 ?_ | refine tk7 ?_ | refine tk8 ?_ | refine tk9 ?_ | refine tk10 (fun _ _ => ?_) | refine tk11 (fun _ => ?_) | refine tk13 ?_ | refine tk14 ?_); (conv => whnf))
              refine Ar.any ?_
              rw [show IntKind.u64.wrap (n * 16 + digI x.toNat) = n * 16 + digI x.toNat by rw [IntKind.wrap_u64]; omega]
              (conv => whnf); repeat ((first | refine tk1 ?_ | refine tk2 ?_ | refine tk3 ?_ | refine tk12 (fun _ => ?_) | refine tk4 ?_ | refine tk5 ?_ | refine tk6 ?_ | refine tk7 ?_ | refine tk8 ?_ | refine tk9 ?_ | refine tk10 (fun _ _ => ?_) | refine tk11 (fun _ => ?_) | refine tk13 ?_ | refine tk14 ?_); (conv => whnf))
              refine Cmp.cases (fun c2 => ?_) (fun c2 => ?_)
              · rw [if_pos (show mx < n * 16 + digI x.toNat by omega)] at hI
                (conv => whnf); repeat ((first | refine tk1 ?_ | refine tk2 ?_ | refine tk3 ?_ | refine tk12 (fun _ => ?_) | refine tk4 ?_ | refine tk5 ?_ | refine tk6 ?_ | refine tk7 ?_ | refine tk8 ?_ | refine tk9 ?_ | refine tk10 (fun _ _ => ?_) | refine tk11 (fun _ => ?_) | refine tk13 ?_ | refine tk14 ?_); (conv => whnf))
                refine OthP.mkI tys_ok rfl rfl ?_
                (conv => whnf); repeat ((first | refine tk1 ?_ | refine tk2 ?_ | refine tk3 ?_ | refine tk12 (fun _ => ?_) | refine tk4 ?_ | refine tk5 ?_ | refine tk6 ?_ | refine tk7 ?_ | refine tk8 ?_ | refine tk9 ?_ | refine tk10 (fun _ _ => ?_) | refine tk11 (fun _ => ?_) | refine tk13 ?_ | refine tk14 ?_); (conv => whnf))
                rw [hpv, hI]; rfl
              · rw [if_neg (show ¬ mx < n * 16 + digI x.toNat by omega)] at hI
                (conv => whnf); repeat ((first | refine tk1 ?_ | refine tk2 ?_ | refine tk3 ?_ | refine tk12 (fun _ => ?_) | refine tk4 ?_ | refine tk5 ?_ | refine tk6 ?_ | refine tk7 ?_ | refine tk8 ?_ | refine tk9 ?_ | refine tk10 (fun _ _ => ?_) | refine tk11 (fun _ => ?_) | refine tk13 ?_ | refine tk14 ?_); (conv => whnf))
                exact ⟨(k + 1, n * 16 + digI x.toNat), ⟨by dsimp only; omega, by dsimp only; omega, by dsimp only; omega, hI⟩, rfl, (by repeat' (first | exact List.Sublist.refl _ | exact List.nil_sublist _ | apply List.Sublist.cons_cons | apply List.Sublist.cons)), by dsimp only; omega⟩
        · have hbad := bad g4
          (conv => whnf); repeat ((first | refine tk1 ?_ | refine tk2 ?_ | refine tk3 ?_ | refine tk12 (fun _ => ?_) | refine tk4 ?_ | refine tk5 ?_ | refine tk6 ?_ | refine tk7 ?_ | refine tk8 ?_ | refine tk9 ?_ | refine tk10 (fun _ _ => ?_) | refine tk11 (fun _ => ?_) | refine tk13 ?_ | refine tk14 ?_); (conv => whnf))
          refine Cmp.cases (fun q1 => ?_) (fun q1 => ?_)
          · (conv => whnf); repeat ((first | refine tk1 ?_ | refine tk2 ?_ | refine tk3 ?_ | refine tk12 (fun _ => ?_) | refine tk4 ?_ | refine tk5 ?_ | refine tk6 ?_ | refine tk7 ?_ | refine tk8 ?_ | refine tk9 ?_ | refine tk10 (fun _ _ => ?_) | refine tk11 (fun _ => ?_) | refine tk13 ?_ | refine tk14 ?_); (conv => whnf))
            refine CallK.fn (lower_f x) ?_
            (conv => whnf); repeat ((first | refine tk1 ?_ | refine tk2 ?_ | refine tk3 ?_ | refine tk12 (fun _ => ?_) | refine tk4 ?_ | refine tk5 ?_ | refine tk6 ?_ | refine tk7 ?_ | refine tk8 ?_ | refine tk9 ?_ | refine tk10 (fun _ _ => ?_) | refine tk11 (fun _ => ?_) | refine tk13 ?_ | refine tk14 ?_); (conv => whnf))
            refine CallK.fn (lower_f x) ?_
            (conv => whnf); repeat ((first | refine tk1 ?_ | refine tk2 ?_ | refine tk3 ?_ | refine tk12 (fun _ => ?_) | refine tk4 ?_ | refine tk5 ?_ | refine tk6 ?_ | refine tk7 ?_ | refine tk8 ?_ | refine tk9 ?_ | refine tk10 (fun _ _ => ?_) | refine tk11 (fun _ => ?_) | refine tk13 ?_ | refine tk14 ?_); (conv => whnf))
            refine CallK.fn (lower_f x) ?_
            (conv => whnf); repeat ((first | refine tk1 ?_ | refine tk2 ?_ | refine tk3 ?_ | refine tk12 (fun _ => ?_) | refine tk4 ?_ | refine tk5 ?_ | refine tk6 ?_ | refine tk7 ?_ | refine tk8 ?_ | refine tk9 ?_ | refine tk10 (fun _ _ => ?_) | refine tk11 (fun _ => ?_) | refine tk13 ?_ | refine tk14 ?_); (conv => whnf))
            refine Ar.in8 (by omega) (by omega) ?_
            (conv => whnf); repeat ((first | refine tk1 ?_ | refine tk2 ?_ | refine tk3 ?_ | refine tk12 (fun _ => ?_) | refine tk4 ?_ | refine tk5 ?_ | refine tk6 ?_ | refine tk7 ?_ | refine tk8 ?_ | refine tk9 ?_ | refine tk10 (fun _ _ => ?_) | refine tk11 (fun _ => ?_) | refine tk13 ?_ | refine tk14 ?_); (conv => whnf))
            refine Ar.in8 (by omega) (by omega) ?_
            (conv => whnf); repeat ((first | refine tk1 ?_ | refine tk2 ?_ | refine tk3 ?_ | refine tk12 (fun _ => ?_) | refine tk4 ?_ | refine tk5 ?_ | refine tk6 ?_ | refine tk7 ?_ | refine tk8 ?_ | refine tk9 ?_ | refine tk10 (fun _ _ => ?_) | refine tk11 (fun _ => ?_) | refine tk13 ?_ | refine tk14 ?_); (conv => whnf))
            refine Ar.in8 (by omega) (by omega) ?_
            (conv => whnf); repeat ((first | refine tk1 ?_ | refine tk2 ?_ | refine tk3 ?_ | refine tk12 (fun _ => ?_) | refine tk4 ?_ | refine tk5 ?_ | refine tk6 ?_ | refine tk7 ?_ | refine tk8 ?_ | refine tk9 ?_ | refine tk10 (fun _ _ => ?_) | refine tk11 (fun _ => ?_) | refine tk13 ?_ | refine tk14 ?_); (conv => whnf))
            refine OthP.mkI tys_ok rfl rfl ?_
            (conv => whnf); repeat ((first | refine tk1 ?_ | refine tk2 ?_ | refine tk3 ?_ | refine tk12 (fun _ => ?_) | refine tk4 ?_ | refine tk5 ?_ | refine tk6 ?_ | refine tk7 ?_ | refine tk8 ?_ | refine tk9 ?_ | refine tk10 (fun _ _ => ?_) | refine tk11 (fun _ => ?_) | refine tk13 ?_ | refine tk14 ?_); (conv => whnf))
            rw [hbad]; rfl
          · (conv => whnf); repeat ((first | refine tk1 ?_ | refine tk2 ?_ | refine tk3 ?_ | refine tk12 (fun _ => ?_) | refine tk4 ?_ | refine tk5 ?_ | refine tk6 ?_ | refine tk7 ?_ | refine tk8 ?_ | refine tk9 ?_ | refine tk10 (fun _ _ => ?_) | refine tk11 (fun _ => ?_) | refine tk13 ?_ | refine tk14 ?_); (conv => whnf))
            refine CallK.fn (lower_f x) ?_
            (conv => whnf); repeat ((first | refine tk1 ?_ | refine tk2 ?_ | refine tk3 ?_ | refine tk12 (fun _ => ?_) | refine tk4 ?_ | refine tk5 ?_ | refine tk6 ?_ | refine tk7 ?_ | refine tk8 ?_ | refine tk9 ?_ | refine tk10 (fun _ _ => ?_) | refine tk11 (fun _ => ?_) | refine tk13 ?_ | refine tk14 ?_); (conv => whnf))
            refine CallK.fn (lower_f x) ?_
            (conv => whnf); repeat ((first | refine tk1 ?_ | refine tk2 ?_ | refine tk3 ?_ | refine tk12 (fun _ => ?_) | refine tk4 ?_ | refine tk5 ?_ | refine tk6 ?_ | refine tk7 ?_ | refine tk8 ?_ | refine tk9 ?_ | refine tk10 (fun _ _ => ?_) | refine tk11 (fun _ => ?_) | refine tk13 ?_ | refine tk14 ?_); (conv => whnf))
            refine CallK.fn (lower_f x) ?_
            (conv => whnf); repeat ((first | refine tk1 ?_ | refine tk2 ?_ | refine tk3 ?_ | refine tk12 (fun _ => ?_) | refine tk4 ?_ | refine tk5 ?_ | refine tk6 ?_ | refine tk7 ?_ | refine tk8 ?_ | refine tk9 ?_ | refine tk10 (fun _ _ => ?_) | refine tk11 (fun _ => ?_) | refine tk13 ?_ | refine tk14 ?_); (conv => whnf))
            refine Ar.in8 (by omega) (by omega) ?_
            (conv => whnf); repeat ((first | refine tk1 ?_ | refine tk2 ?_ | refine tk3 ?_ | refine tk12 (fun _ => ?_) | refine tk4 ?_ | refine tk5 ?_ | refine tk6 ?_ | refine tk7 ?_ | refine tk8 ?_ | refine tk9 ?_ | refine tk10 (fun _ _ => ?_) | refine tk11 (fun _ => ?_) | refine tk13 ?_ | refine tk14 ?_); (conv => whnf))
            refine Ar.in8 (by omega) (by omega) ?_
            (conv => whnf); repeat ((first | refine tk1 ?_ | refine tk2 ?_ | refine tk3 ?_ | refine tk12 (fun _ => ?_) | refine tk4 ?_ | refine tk5 ?_ | refine tk6 ?_ | refine tk7 ?_ | refine tk8 ?_ | refine tk9 ?_ | refine tk10 (fun _ _ => ?_) | refine tk11 (fun _ => ?_) | refine tk13 ?_ | refine tk14 ?_); (conv => whnf))
            refine Ar.in8 (by omega) (by omega) ?_
            (conv => whnf); repeat ((first | refine tk1 ?_ | refine tk2 ?_ | refine tk3 ?_ | refine tk12 (fun _ => ?_) | refine tk4 ?_ | refine tk5 ?_ | refine tk6 ?_ | refine tk7 ?_ | refine tk8 ?_ | refine tk9 ?_ | refine tk10 (fun _ _ => ?_) | refine tk11 (fun _ => ?_) | refine tk13 ?_ | refine tk14 ?_); (conv => whnf))
            refine OthP.mkI tys_ok rfl rfl ?_
            (conv => whnf); repeat ((first | refine tk1 ?_ | refine tk2 ?_ | refine tk3 ?_ | refine tk12 (fun _ => ?_) | refine tk4 ?_ | refine tk5 ?_ | refine tk6 ?_ | refine tk7 ?_ | refine tk8 ?_ | refine tk9 ?_ | refine tk10 (fun _ _ => ?_) | refine tk11 (fun _ => ?_) | refine tk13 ?_ | refine tk14 ?_); (conv => whnf))
            rw [hbad]; rfl
        · have hbad := bad g3
          (repeat' ((conv => whnf); first | (first | refine tk1 ?_ | refine tk2 ?_ | refine tk3 ?_ | refine tk12 (fun _ => ?_) | refine tk4 ?_ | refine tk5 ?_ | refine tk6 ?_ | refine tk7 ?_ | refine tk8 ?_ | refine tk9 ?_ | refine tk10 (fun _ _ => ?_) | refine tk11 (fun _ => ?_) | refine tk13 ?_ | refine tk14 ?_) | refine Cmp.cases (fun _ => ?_) (fun _ => ?_) | refine IdxS.nat (by omega) ?_ | refine IdxS.go (by omega) (by omega) (fun _ _ _ => ?_) | refine SlcS.at (by omega) (by omega) (by omega) ?_ | refine CatS.at (by simp only [List.length_append, List.length_cons, List.length_nil]; omega) ?_ | refine CallK.fn (lower_f x) ?_ | refine OthP.mkI tys_ok rfl rfl ?_)); all_goals (conv => whnf)
          all_goals (rw [hbad]; rfl)
    · (conv => whnf); repeat ((first | refine tk1 ?_ | refine tk2 ?_ | refine tk3 ?_ | refine tk12 (fun _ => ?_) | refine tk4 ?_ | refine tk5 ?_ | refine tk6 ?_ | refine tk7 ?_ | refine tk8 ?_ | refine tk9 ?_ | refine tk10 (fun _ _ => ?_) | refine tk11 (fun _ => ?_) | refine tk13 ?_ | refine tk14 ?_); (conv => whnf))
      rw [hpv, hI, List.drop_eq_nil_of_le (by omega)]; rfl
end Go.Proofs.YtnaeeklnlddcaaaDoor.Vex
/- The law VaryAll, over byte lists: what is put together names all that was named; a second time it changes nothing. No program in sight. -/
namespace Go.Proofs.YtnaeeklnlddcaaaDoor

theorem tok_byte (x : UInt8) (h : tokB x = true) : x ≠ 44 ∧ blankB x = false := by
  have : ∀ n : Fin 256, tokB n.val.toUInt8 = true → n.val.toUInt8 ≠ 44 ∧ blankB n.val.toUInt8 = false := by decide +kernel
  have h2 := this ⟨x.toNat, x.toNat_lt⟩
  simp at h2
  exact h2 h
theorem trimLB_no (l : List UInt8) (h : ∀ x ∈ l, blankB x = false) : trimLB l = l := by
  cases l with
  | nil => rfl
  | cons x r => exact trimLB_other _ _ (h x (List.mem_cons_self ..))
theorem trimRB_no (l : List UInt8) (h : ∀ x ∈ l, blankB x = false) : trimRB l = l := by
  rcases List.eq_nil_or_concat l with rfl | ⟨m, y, rfl⟩
  · rfl
  · rw [List.concat_eq_append] at h ⊢
    exact trimRB_other _ _ (h y (by simp))
theorem tok_parts {s : List UInt8} (h : tokenOf s = true) : s ≠ [] ∧ 44 ∉ s ∧ trimB s = s := by
  have ha := token_all h
  rw [List.all_eq_true] at ha
  refine ⟨fun e => by subst e; simp [tokenOf] at h, fun hm => (tok_byte _ (ha _ hm)).1 rfl, ?_⟩
  rw [trimB_eq, trimLB_no s fun x hx => (tok_byte x (ha x hx)).2, trimRB_no s fun x hx => (tok_byte x (ha x hx)).2]
theorem items_tok {s : List UInt8} (h : tokenOf s = true) : itemsOf s = [s] := by
  obtain ⟨h1, h2, h3⟩ := tok_parts h
  rw [items_none s h2]
  unfold itemOf
  rw [h3, if_neg h1]
theorem items_blank (x : UInt8) (m : List UInt8) (hx : blankB x = true) : itemsOf (x :: m) = itemsOf m := by
  have h44 : x ≠ 44 := fun e => by subst e; revert hx; decide
  unfold itemsOf
  simp only [splitB, if_neg h44]
  cases h : splitB 44 m with
  | nil => exact absurd h (splitB_ne 44 m)
  | cons p q => simp only [List.map_cons, trimB_front x p hx]
theorem items_out : ∀ out : List (List UInt8), (∀ x ∈ out, tokenOf x = true) → itemsOf (Lib.join out [44, 32]) = out
  | [], _ => by decide
  | [x], h => by rw [Lib.join_one]; exact items_tok (h x (List.mem_cons_self ..))
  | x :: y :: r, h => by
    rw [join_cons, show x ++ [44, 32] ++ Lib.join (y :: r) [44, 32] = x ++ 44 :: (32 :: Lib.join (y :: r) [44, 32]) by simp, items_join, items_tok (h x (List.mem_cons_self ..)), items_blank 32 _ (by decide), items_out (y :: r) fun z hz => h z (List.mem_cons_of_mem _ hz)]
    rfl
def nodS (l : List (List UInt8)) : Prop := l.Pairwise fun a b => smallOf a ≠ smallOf b
theorem inS_false {l : List (List UInt8)} {s : List UInt8} (h : inS l s = false) : ∀ x ∈ l, smallOf x ≠ smallOf s := by
  unfold inS at h
  rw [List.any_eq_false] at h
  exact fun x hx e => h x hx (by simp [e])
theorem inS_true {l : List (List UInt8)} {s : List UInt8} : inS l s = true ↔ ∃ x ∈ l, smallOf x = smallOf s := by
  unfold inS
  rw [List.any_eq_true]
  simp
theorem dedup_nod : ∀ (l out : List (List UInt8)), nodS out → nodS (dedup out l)
  | [], _, h => h
  | s :: r, out, h => by
    unfold dedup
    refine dedup_nod r _ ?_
    cases hs : inS out s with
    | true => exact h
    | false => exact List.pairwise_append.2 ⟨h, List.pairwise_singleton _ _, fun a ha b hb => by rw [List.mem_singleton] at hb; subst hb; exact inS_false hs a ha⟩
theorem dedup_same : ∀ (l out : List (List UInt8)), nodS (out ++ l) → dedup out l = out ++ l
  | [], out, _ => by simp [dedup]
  | s :: r, out, h => by
    have hs : inS out s = false := by
      cases hi : inS out s with
      | false => rfl
      | true =>
        obtain ⟨x, hx, he⟩ := inS_true.1 hi
        exact absurd he ((List.pairwise_append.1 h).2.2 x hx s (List.mem_cons_self ..))
    unfold dedup
    rw [hs, if_neg Bool.false_ne_true, dedup_same r (out ++ [s]) (by simpa using h)]
    simp
theorem dedup_append : ∀ (a b out : List (List UInt8)), dedup out (a ++ b) = dedup (dedup out a) b
  | [], _, _ => rfl
  | s :: a, b, out => by simp only [List.cons_append, dedup]; exact dedup_append a b _
theorem mergeO_tok {values : List (List UInt8)} {name : List UInt8} (h : mergeOK values name = true) : ∀ x ∈ mergeO values name, tokenOf x = true := fun x hx => by
  unfold mergeOK at h
  rw [List.all_eq_true] at h
  exact h x ((dedup_mem _ _ x hx).elim (fun h => by cases h) id)
theorem inS_mergeO (values : List (List UInt8)) (name s : List UInt8) : inS (mergeO values name) s = inS (allV values name) s := by
  unfold mergeO
  rw [inS_dedup]
  simp [inS]
theorem inS_name (values : List (List UInt8)) (name : List UInt8) : inS (allV values name) name = true := by
  rw [inS_true]
  exact ⟨name, by simp [allV], rfl⟩
theorem mergeO_nil (values : List (List UInt8)) (name : List UInt8) : mergeO values name ≠ [] := fun h => by
  have := inS_mergeO values name name
  rw [inS_name, h] at this
  cases this
/-- What is put together is the item * just where one of all is it. -/
theorem merge_star {values : List (List UInt8)} {name : List UInt8} (h : mergeOK values name = true) : mergeS values name = [42] ↔ inS (mergeO values name) [42] = true := by
  unfold mergeS
  rw [if_pos h]
  constructor
  · intro he
    cases hs : inS (mergeO values name) [42] with
    | true => rfl
    | false =>
      exfalso
      rw [hs, if_neg Bool.false_ne_true] at he
      have h1 := items_out _ (mergeO_tok h)
      rw [he] at h1
      rw [← h1] at hs
      revert hs
      decide
  · intro hs
    rw [hs, if_pos rfl]
theorem merge_items {values : List (List UInt8)} {name : List UInt8} (h : mergeOK values name = true) : itemsOf (mergeS values name) = if inS (mergeO values name) [42] then [[42]] else mergeO values name := by
  unfold mergeS
  rw [if_pos h]
  split
  · decide
  · exact items_out _ (mergeO_tok h)
theorem merge_again {values : List (List UInt8)} {name : List UInt8} (h : mergeOK values name = true) : mergeOK [mergeS values name] name = true ∧ mergeS [mergeS values name] name = mergeS values name := by
  have hn : tokenOf name = true := by
    unfold mergeOK allV at h
    rw [List.all_append] at h
    simp at h
    exact h.2
  have hi := merge_items h
  have hall : allV [mergeS values name] name = itemsOf (mergeS values name) ++ [name] := by simp [allV]
  have hok : mergeOK [mergeS values name] name = true := by
    unfold mergeOK
    rw [hall, hi, List.all_append]
    split
    · simp [hn]; decide
    · rw [List.all_eq_true.2 (mergeO_tok h)]; simp [hn]
  refine ⟨hok, ?_⟩
  cases hs : inS (mergeO values name) [42] with
  | true =>
    rw [(merge_star h).2 hs]
    have : inS (mergeO [[42]] name) [42] = true := by
      rw [inS_mergeO]
      unfold allV
      rw [inS_append]
      have : inS ([[42]].flatMap itemsOf) [42] = true := by decide
      rw [this]; rfl
    have hok2 : mergeOK [[42]] name = true := by rw [(merge_star h).2 hs] at hok; exact hok
    exact (merge_star hok2).2 this
  | false =>
    have ho : mergeO [mergeS values name] name = mergeO values name := by
      have hnod : nodS (mergeO values name) := dedup_nod _ _ List.Pairwise.nil
      show dedup [] (allV [mergeS values name] name) = _
      rw [hall, hi, hs, if_neg Bool.false_ne_true, dedup_append, dedup_same _ [] (by simpa using hnod)]
      have hin : inS (mergeO values name) name = true := by rw [inS_mergeO, inS_name]
      simp only [List.nil_append, dedup, hin, if_true]
    have hse : mergeS values name = Lib.join (mergeO values name) [44, 32] := by unfold mergeS; rw [if_pos h, hs, if_neg Bool.false_ne_true]
    rw [hse] at hok ho ⊢
    unfold mergeS
    rw [if_pos hok, ho, hs, if_neg Bool.false_ne_true]
theorem merge_names {values : List (List UInt8)} {name : List UInt8} (h : mergeOK values name = true) (s : List UInt8) : namesOf (mergeS values name) s = (inS (mergeO values name) [42] || inS (mergeO values name) s) := by
  rw [names_in, merge_items h]
  cases hs : inS (mergeO values name) [42] with
  | true =>
    have : inS [[42]] [42] = true := by decide
    simp [this]
  | false => simp [hs]
theorem inS_flat (s : List UInt8) : ∀ values : List (List UInt8), inS (values.flatMap itemsOf) s = values.any fun v => inS (itemsOf v) s
  | [] => rfl
  | v :: r => by rw [List.flatMap_cons, inS_append, inS_flat s r, List.any_cons]
/-- What is named behind: what was named, or the name, or all. -/
theorem merge_was {values : List (List UInt8)} {name : List UInt8} (h : mergeOK values name = true) (s : List UInt8) :
    namesOf (mergeS values name) s = ((smallOf s == smallOf name || values.any fun v => namesOf v s) || decide (mergeS values name = [42])) := by
  rw [merge_names h]
  cases hs : inS (mergeO values name) [42] with
  | true => rw [decide_eq_true ((merge_star h).2 hs)]; simp
  | false =>
    rw [decide_eq_false (fun e => by rw [(merge_star h).1 e] at hs; cases hs)]
    have hno : ∀ v ∈ values, inS (itemsOf v) [42] = false := fun v hv => by
      rw [inS_mergeO] at hs
      unfold allV at hs
      rw [inS_append, inS_flat, Bool.or_eq_false_iff, List.any_eq_false] at hs
      simpa using hs.1 v hv
    have hv : (values.any fun v => namesOf v s) = values.any fun v => inS (itemsOf v) s := by
      rw [Bool.eq_iff_iff, List.any_eq_true, List.any_eq_true]
      constructor
      · rintro ⟨v, hv, h1⟩
        rw [names_in, hno v hv] at h1
        exact ⟨v, hv, h1⟩
      · rintro ⟨v, hv, h1⟩
        exact ⟨v, hv, by rw [names_in, h1]; simp⟩
    rw [hv, inS_mergeO]
    unfold allV
    rw [inS_append, inS_flat]
    have : inS [name] s = (smallOf s == smallOf name) := by simp [inS, Bool.beq_comm]
    rw [this, Bool.false_or, Bool.or_false, Bool.or_comm]
/-! ## How long -/
theorem dedup_sum : ∀ (l out : List (List UInt8)), lsum (dedup out l) ≤ lsum out + lsum l
  | [], out => by simp [dedup]
  | s :: r, out => by
    unfold dedup
    rw [lsum_cons]
    cases inS out s with
    | true => have := dedup_sum r out; simp only [if_true]; omega
    | false =>
      have := dedup_sum r (out ++ [s])
      rw [lsum_append] at this
      have h1 : lsum [s] = s.length + 1 := rfl
      simp only [Bool.false_eq_true, if_false]
      omega
theorem join2_length : ∀ l : List (List UInt8), (Lib.join l [44, 32]).length ≤ 2 * lsum l := fun l => by
  refine Nat.le_trans (join_length l [44, 32]) ?_
  induction l with
  | nil => simp
  | cons x r ih => rw [lsum_cons]; simp only [List.map_cons, List.sum_cons, List.length_cons, List.length_nil] at ih ⊢; omega
theorem allV_sum (values : List (List UInt8)) (name : List UInt8) : lsum (allV values name) ≤ (Lib.join values [44]).length + 1 + name.length + 1 := by
  unfold allV
  rw [lsum_append, ← items_of_join]
  have := items_sum (Lib.join values [44])
  have h1 : lsum [name] = name.length + 1 := rfl
  omega
theorem mergeS_length (values : List (List UInt8)) (name : List UInt8) : (mergeS values name).length ≤ 2 * ((Lib.join values [44]).length + name.length + 2) := by
  have h1 := allV_sum values name
  have h2 := dedup_sum (allV values name) []
  have h3 := join2_length (mergeO values name)
  have h4 : lsum [] = 0 := rfl
  unfold mergeO at h3
  unfold mergeS
  split
  · split
    · simp; omega
    · unfold mergeO; omega
  · simp
theorem join_snoc : ∀ (l : List (List UInt8)) (x sep : List UInt8), l ≠ [] → Lib.join (l ++ [x]) sep = Lib.join l sep ++ sep ++ x
  | [], _, _, h => absurd rfl h
  | [y], x, sep, _ => by rw [List.singleton_append, join_cons, Lib.join_one, Lib.join_one]
  | y :: z :: r, x, sep, _ => by
    rw [List.cons_append, List.cons_append, join_cons, ← List.cons_append, join_snoc (z :: r) x sep (by simp), join_cons]
    simp
end Go.Proofs.YtnaeeklnlddcaaaDoor
