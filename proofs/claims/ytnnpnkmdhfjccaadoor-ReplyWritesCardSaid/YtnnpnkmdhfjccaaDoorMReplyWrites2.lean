/- A walk by reckoning, part fifteen: rows that are cut, cleared, written with several cells at once; nil slices. No program in sight. -/
import Derived.Test.YtnnpnkmdhfjccaaDoorMReplyWrites1
import Derived.Laws.Cover3
import Derived.Test.YtnnpnkmdhfjccaaDoorRows
import Derived.Deep.Slices
import Derived.Lib.LaidTab
import Derived.ProofKit
import Derived.Test.YtnnpnkmdhfjccaaDoorProg
import Derived.Shelf.Strings.Builder1
import Derived.Shelf.Strings.Builder2
import Derived.Shelf.Strings.OnBuilder
import Derived.Shelf.Strings.Trim
import Derived.Shelf.Small.Utf8
import Derived.Shelf.Small.Strs
import Derived.Shelf.Strings.BuilderF
import Derived.Shelf.Strconv.Itoa0
import Derived.Shelf.Strconv.Itoa1
import Derived.Shelf.LaysM
import Derived.Shelf.Strconv.Itoa2
import Derived.Shelf.Strconv.Itoa3
import Derived.Shelf.Strconv.Clone
import Derived.Shelf.Strconv.SyntaxError
import Derived.Shelf.LaysC
import Derived.Shelf.Strconv.ToError
import Derived.Shelf.Strconv.Lower
import Derived.Shelf.Strconv.RangeError
import Derived.Shelf.Strconv.ToErrorRange
import Derived.Shelf.Strings.Search1
import Derived.Shelf.Strings.Search2
import Derived.Shelf.Strings.Search3
import Derived.Shelf.Strings.Count
import Derived.Shelf.Strings.Shaped
import Derived.Shelf.Strings.Prefix
import Derived.Shelf.Strings.Runes
import Derived.Shelf.Strings.AsciiSet
import Derived.Shelf.Unicode.DecodeSlow
import Derived.Shelf.Unicode.DecodeAny
import Derived.Shelf.Unicode.DecodeLast
import Derived.Shelf.Slices.Turned
import Derived.Shelf.Strings.SlTrimAscii
import Derived.Lib.ConvBytes
import Derived.Laws.IdiomStrings
import Derived.Lib.IndexMore
namespace Go.Proofs.YtnnpnkmdhfjccaaDoor.Vex
open Go Go.RowKit

theorem run_storeCells_from (P : Program) (g e o : Nat) (fz : Nat × Nat) : ∀ (vs : List Value) (i : Nat) (cur : List Value) (w : World), w.heap[g]? = some (.cells ⟨cur⟩ e fz) → o + i + vs.length ≤ cur.length → (fz.2 ≤ fz.1 ∨ cur.length ≤ fz.1) → (∀ v ∈ vs, v.oneCell' = true) →
    (storeCells ⟨g, o, none⟩ vs i).run P w = .ok () (w.setCells g (o + i) vs)
  | [], _, _, _, _, _, _, _ => rfl
  | v :: r, i, cur, w, h, hl, hf, h1 => by
    simp only [List.length_cons] at hl
    have hcell : w.cell? ⟨g, o + i, none⟩ = some cur[o + i] := by rw [cell_of_row w g (o + i) _ e fz h]; simp
    have hfro : w.frozen? ⟨g, o + i, none⟩ = false := by
      simp only [World.frozen?, h]
      simp; omega
    have hst : (store ⟨g, o + i, none⟩ v).run P w = .ok () (w.setCell ⟨g, o + i, none⟩ v) := by
      rw [run_store P w _ v _ (h1 v (List.mem_cons_self ..)), hcell]
      simp [hfro]
    have h2 : (w.setCell ⟨g, o + i, none⟩ v).heap[g]? = some (.cells ⟨cur.set (o + i) v⟩ e fz) := by
      simp only [World.setCell, Array.getElem?_modify, if_true, h, Option.map_some]
      simp
    have ih := run_storeCells_from P g e o fz r (i + 1) (cur.set (o + i) v) _ h2 (by rw [List.length_set]; omega) (by rw [List.length_set]; exact hf) fun x hx => h1 x (List.mem_cons_of_mem _ hx)
    simp only [storeCells, Sem.run_bind, Addr.add_lit, hst, Result.andThen_ok]
    exact ih
theorem run_storeCells_row (P : Program) (g e : Nat) (fz : Nat × Nat) (vs : List Value) (o : Nat) (cur : List Value) (w : World) (h : w.heap[g]? = some (.cells ⟨cur⟩ e fz)) (hl : o + vs.length ≤ cur.length) (hf : fz.2 ≤ fz.1 ∨ cur.length ≤ fz.1) (h1 : ∀ v ∈ vs, v.oneCell' = true) :
    (storeCells ⟨g, o, none⟩ vs).run P w = .ok () (w.setCells g o vs) := run_storeCells_from P g e o fz vs 0 cur w h hl hf h1
section
variable {c : Ctx} {H : Hp}
/-- Cells of a row are written: the world behind holds the row anew. -/
theorem St.setRowCells {A : Option Addr} {cp e sz n j : Nat} {xs vs : List Value} {w : World} (hw : St c (.row (.slice A n cp) e sz n xs :: H) w) (hj : j + vs.length ≤ xs.length) (h1 : ∀ v ∈ vs, v.oneCell' = true) (hv : 0 < vs.length) :
    ∃ g, A = some ⟨g, 0, none⟩ ∧ n ≤ cp ∧ (storeCells ⟨g, j, none⟩ vs).run c.P w = .ok () (w.setCells g j vs) ∧ St c (.row (.slice A n cp) e sz n (xs.take j ++ vs ++ xs.drop (j + vs.length)) :: H) (w.setCells g j vs) ∧ w.heap.size ≤ (w.setCells g j vs).heap.size ∧ ∀ k, k ≠ g → (w.setCells g j vs).heap[k]? = w.heap[k]? := by
  have hr : RowH w (.slice A n cp) e sz n xs := (hw.own _ (List.mem_cons_self ..)).1
  have hk := (hw.own _ (List.mem_cons_self ..)).2
  rcases hr.2 with ⟨he, h0⟩ | ⟨g, cap, cur, fz, he, hg, hnc, hcm, hcs, htake, hfz⟩
  · subst h0
    have : xs = [] := List.eq_nil_of_length_eq_zero (by simpa using hr.1)
    subst this
    exfalso
    simp only [List.length_nil] at hj
    omega
  · cases he
    have hxl : xs.length ≤ cur.toList.length := by rw [← htake, List.length_take]; omega
    have hjc : j + vs.length ≤ cur.toList.length := Nat.le_trans hj hxl
    obtain ⟨h2, h3, h4, h5, h6⟩ := setCells_fields g vs j w
    have hg' : w.heap[g]? = some (.cells ⟨cur.toList⟩ e fz) := by simpa using hg
    have hh := heap_setCells g e fz vs j cur.toList w hg' hjc
    have hrun := run_storeCells_row c.P g e fz vs j cur.toList w hg' hjc (by simpa using hfz) h1
    refine ⟨g, rfl, hnc, hrun, ?_, by rw [h5]; exact Nat.le_refl _, h6⟩
    have hrest : St c H w := hw.sub (List.sublist_cons_self _ _)
    have hkg := hk g rfl
    have hn : ∀ y ∈ H, y.blk ≠ some g := fun y hy he => by
      have := hw.apart
      rw [List.filterMap_cons] at this
      exact (List.nodup_cons.1 this).1 (List.mem_filterMap.2 ⟨y, hy, he⟩)
    have hm : ModW c.M c.w0 (w.setCells g j vs) := ⟨h2.trans hw.mod.os, h3.trans hw.mod.tape, h4.trans hw.mod.output, by rw [h5]; exact hw.mod.size, fun k hk' hM => by
      rw [h6 k (fun e' => by subst e'; rcases hkg.2 with h | h; omega; exact hM h)]
      exact hw.mod.block k hk' hM⟩
    refine St.push ⟨hm, fun y hy => ⟨Ent.holds_of_block (hrest.own y hy).1 fun b' e' => h6 b' (fun e2 => by subst e2; exact hn y hy e'), fun b' e' => by rw [h5]; exact (hrest.own y hy).2 b' e'⟩, hrest.apart⟩ ⟨?_, .inr ⟨g, _, _, fz, rfl, hh, hnc, hcm, ?_, ?_, ?_⟩⟩ (fun b' e' => ?_) (fun b' e' y hy => ?_)
    · rw [← hr.1]
      simp only [List.length_append, List.length_take, List.length_drop]
      omega
    · simp only [List.size_toArray, List.length_append, List.length_take, List.length_drop, Array.length_toList] at hjc ⊢
      omega
    · show (cur.toList.take j ++ vs ++ cur.toList.drop (j + vs.length)).take (n * sz) = _
      have hnl : n * sz = xs.length := hr.1.symm
      rw [List.take_append, List.take_of_length_le (by simp; omega)]
      congr 1
      · congr 1
        rw [← htake, List.take_take, Nat.min_eq_left (by omega)]
      · simp only [List.length_append, List.length_take]
        rw [← htake, List.drop_take, Nat.min_eq_left (by omega)]
    · rcases hfz with h | h
      · exact .inl h
      · right
        simp only [List.size_toArray, List.length_append, List.length_take, List.length_drop, Array.length_toList] at hjc ⊢
        omega
    · obtain rfl : g = b' := Option.some.inj e'
      rw [h5]; exact hkg
    · obtain rfl : g = b' := Option.some.inj e'
      exact hn y hy
/-- Several cells of a row are stored. -/
theorem Sto.rowN {A : Option Addr} {cp e sz n j k : Nat} {xs vs : List Value} {K : Hp → Prop} (hk : vs.length = k) (h0 : 0 < k) (hj : j + k ≤ xs.length) (h1 : ∀ v ∈ vs, v.oneCell' = true) (kk : K (.row (.slice A n cp) e sz n (xs.take j ++ vs ++ xs.drop (j + k)) :: H)) : Sto c (.row (.slice A n cp) e sz n xs :: H) (.pointer (some ((A.getD at0).add j))) (.agg ⟨vs⟩) k K := by
  subst hk
  refine ⟨_, _, rfl, rfl, kk, rfl, fun w hw => ?_⟩
  obtain ⟨g, rfl, _, hrun, hs, hz, hf⟩ := hw.setRowCells hj h1 h0
  have hadd : ((some (⟨g, 0, none⟩ : Addr)).getD at0).add j = ⟨g, j, none⟩ := by simp [Addr.add_lit]
  rw [hadd]
  exact ⟨by simp [Ent.blk, Value.ownBlock], _, hrun, hs, hz, hf⟩
theorem Sto.trN {A : Option Addr} {cp e sz n j k : Nat} {xs vs xs' : List Value} {f : List Value → Hp} {K : Hp → Prop} [h : RowAt A H cp e sz n n xs f] (hv : xs.take j ++ vs ++ xs.drop (j + k) = xs') (hk : vs.length = k) (h0 : 0 < k) (hj : j + k ≤ xs.length) (h1 : ∀ v ∈ vs, v.oneCell' = true) (kk : K (f xs')) : Sto c H (.pointer (some ((A.getD at0).add j))) (.agg ⟨vs⟩) k K := by
  obtain ⟨H1, H2, rfl, hf⟩ := h.ok
  refine Sto.skips H1 (Sto.rowN hk h0 hj h1 ?_)
  rw [hv, ← hf]; exact kk
/-- A field of a row's element is stored. -/
theorem Sto.trF {A : Option Addr} {cp e sz n j o : Nat} {xs xs' : List Value} {f : List Value → Hp} {v : Value} {K : Hp → Prop} [h : RowAt A H cp e sz n n xs f] (hv : xs.set (j + o) v = xs') (hj : j + o < xs.length) (h1 : v.oneCell' = true) (k : K (f xs')) : Sto c H (.pointer (some (((A.getD at0).add j).add o))) v 1 K := by
  rw [add_add]
  exact Sto.tr hv hj h1 k
theorem RowAt.cap {A : Option Addr} {cp e sz n n' : Nat} {xs : List Value} {f : List Value → Hp} (h : RowAt A H cp e sz n n' xs f) {w : World} (hw : St c H w) : n' = n ∧ n ≤ cp := by
  obtain ⟨H1, H2, rfl, _⟩ := h.ok
  have hr : RowH w (.slice A n' cp) e sz n xs := (hw.own (.row (.slice A n' cp) e sz n xs) (by simp)).1
  rcases hr.2 with ⟨he, h0⟩ | ⟨g, cap, cur, fz, he, _, hn, _⟩
  · cases he; exact ⟨h0.symm, by omega⟩
  · cases he; exact ⟨rfl, hn⟩
/-- A row's first elements. -/
theorem RowH.cut {w : World} {A : Option Addr} {cp e sz n k : Nat} {xs : List Value} (h : RowH w (.slice A n cp) e sz n xs) (hk : k ≤ n) : RowH w (.slice A k cp) e sz k (xs.take (k * sz)) := by
  have hks : k * sz ≤ n * sz := Nat.mul_le_mul_right _ hk
  refine ⟨by rw [List.length_take, h.1]; omega, ?_⟩
  rcases h.2 with ⟨he, h0⟩ | ⟨g, cap, cur, fz, he, hg, hnc, hcm, hcs, htake, hfz⟩
  · cases he
    obtain rfl : k = 0 := by omega
    exact .inl ⟨rfl, rfl⟩
  · cases he
    exact .inr ⟨g, _, cur, fz, rfl, hg, by omega, hcm, hcs, by rw [← htake, List.take_take, Nat.min_eq_left hks], hfz⟩
theorem St.cut {A : Option Addr} {cp e sz n k : Nat} {xs : List Value} {w : World} (hw : St c (.row (.slice A n cp) e sz n xs :: H) w) (hk : k ≤ n) : St c (.row (.slice A k cp) e sz k (xs.take (k * sz)) :: H) w := by
  have hb : (Ent.row (.slice A k cp) e sz k (xs.take (k * sz))).blk = (Ent.row (.slice A n cp) e sz n xs).blk := by cases A <;> rfl
  exact ⟨hw.mod, fun y hy => by
    rcases List.mem_cons.1 hy with rfl | hy
    · have ho := hw.own _ (List.mem_cons_self ..)
      exact ⟨RowH.cut ho.1 hk, by rw [hb]; exact ho.2⟩
    · exact hw.own y (List.mem_cons_of_mem _ hy), by
    have := hw.apart
    rw [List.filterMap_cons] at this ⊢
    rw [hb]
    exact this⟩
/-- x[:h]: the elements are there. -/
theorem SlcV.to {A : Option Addr} {n cp sz : Nat} {h : Int} {K : Value → Prop} {e sz' n0 n' : Nat} {xs : List Value} {f : List Value → Hp} [hr : RowAt A H cp e sz' n0 n' xs f] (h0 : 0 ≤ h) (h1 : h ≤ n0) (k : K (.slice A h.toNat cp)) : SlcV c H A n cp 0 (some h) sz K := by
  refine ⟨Int.le_refl _, h0, fun h' e w hw => ?_, ?_⟩
  · cases e
    have := (hr.cap hw).2
    omega
  · have : A.map (·.add ((0 : Int).toNat * sz)) = A := by
      cases A with
      | none => rfl
      | some a =>
        simp only [Option.map_some, Int.toNat_zero, Nat.zero_mul, Option.some.injEq]
        unfold Addr.add
        split <;> simp_all
    simp only [this, ite_self, Option.getD_some]
    exact k
/-- x[lo:], of any slice. -/
theorem SlcV.from {A : Option Addr} {n cp sz : Nat} {lo : Int} {K : Value → Prop} (h0 : 0 ≤ lo) (h1 : lo ≤ n) (k : K (.slice (if (cp : Int) = lo then A else A.map (·.add (lo.toNat * sz))) (n - lo.toNat) (cp - lo.toNat))) : SlcV c H A n cp lo none sz K :=
  ⟨h0, by simpa using h1, (fun h' e => (by cases e)), by simpa using k⟩
/-- A slice, held against nil. -/
theorem OthP.nilEq {T : Ty} {d : Option Nat} {t e yt ty : TypeId} {x : Operand} {pos : String} {after : Array Edge} {gd : Option (Nat × Bool)} {fr : Fr} {A : Option Addr} {n cp : Nat} {K : Value → Prop} (hT : TOk c.P T) (ht : (lookT T t).d = .slice e)
    (hx : evK fr x fun v => v = .slice A n cp) (k : K (.bool A.isNone)) : OthP c ⟨d, .binOp .eql t x (.const (.slice none 0 0)) yt, ty, pos, after, gd⟩ fr H K := ⟨⟨_, k, fun w _ => by
  rw [evK_eq] at hx
  have hu := (lookT_ok hT (t := t) (by rw [ht]; intro h; cases h)).1
  rw [ht] at hu
  have hy : (act fr).eval (.const (.slice none 0 0)) = .slice none 0 0 := rfl
  have hr := run_equal_slice_nil (P := c.P) (w := w) t e A n cp hu
  generalize (act fr).eval = ρ at *
  have hg : (eqGuard .eql t x (.const (.slice none 0 0)) (.slice A n cp) (.slice none 0 0)).run c.P w = .ok () w := rfl
  have hb : (binOp .eql t (.slice A n cp) (.slice none 0 0)).run c.P w = .ok (.bool A.isNone) w := by
    show (do pure (.bool (← Op.equal t (.slice A n cp) (.slice none 0 0))) : Sem Value).run c.P w = _
    rw [Sem.run_bind, hr]
    rfl
  simp only [execOp, hx, hy, Sem.run_bind, hg, Result.andThen_ok, hb]
  rfl⟩⟩
theorem zero_one {z : Array Value} (h : ∀ v ∈ z.toList, v.oneCell' = true) (n : Nat) : ∀ v ∈ (Builtin.zeroCells z n).toList, v.oneCell' = true := by
  intro v hv
  simp only [Builtin.zeroCells, Array.toList_map, List.mem_map] at hv
  obtain ⟨i, _, rfl⟩ := hv
  by_cases hz : z.size = 0
  · rename_i hi
    simp [hz] at hi
  · have hlt : i % z.size < z.size := Nat.mod_lt _ (by omega)
    rw [getElem!_pos z _ hlt]
    exact h _ (by simp)
/-- clear(x[lo:]). -/
theorem Oth.clear {T : Ty} {d : Option Nat} {t e ty : TypeId} {x : Operand} {pos : String} {after : Array Edge} {gd : Option (Nat × Bool)} {fr : Fr} {A : Option Addr} {cp sz n lo : Nat} {xs : List Value} {f : List Value → Hp} {K : Value → Hp → Prop} [hr : RowAt A H cp e sz n n xs f] (hT : TOk c.P T)
    (ht : (lookT T t).d = .slice e) (he : (lookT T e).d ≠ .invalid) (hz : (lookT T e).zero.cells.size = sz) (h0 : 0 < sz) (h1 : ∀ v ∈ (lookT T e).zero.cells.toList, v.oneCell' = true) (hlo : lo ≤ n)
    (hx : evK fr x fun v => v = .slice (if (cp : Int) = (lo : Int) then A else A.map (·.add ((lo : Int).toNat * sz))) (n - (lo : Int).toNat) (cp - (lo : Int).toNat))
    (k : ∀ ys, ys.length = xs.length → ys.take (lo * sz) = xs.take (lo * sz) → K (.tuple ⟨[]⟩) (f ys)) : Oth c false ⟨d, .call ⟨.builtin .clear, #[x], #[t]⟩, ty, pos, after, gd⟩ fr H K := ⟨fun w hw => by
  rw [evK_eq] at hx
  have hu := (lookT_ok hT (t := t) (by rw [ht]; intro h; cases h)).1
  rw [ht] at hu
  have hzv := run_zeroValue (lookT_ok hT (t := e) he)
  have hcap := (hr.cap hw).2
  obtain ⟨H1, H2, rfl, hf⟩ := hr.ok
  have hw1 : St c (.row (.slice A n cp) e sz n xs :: (H1 ++ H2)) w := hw.perm List.perm_middle
  have hrow : RowH w (.slice A n cp) e sz n xs := (hw1.own _ (List.mem_cons_self ..)).1
  by_cases hn : n - lo = 0
  · refine ⟨.tuple ⟨[]⟩, w, f xs, ?_, by rw [hf]; exact hw, k xs rfl rfl, fun h => by cases h⟩
    generalize (act fr).eval = ρ at *
    rw [Int.toNat_natCast, hn] at hx
    simp only [go_sem, Builtin.clear_]
    simp [hx, run_underlying hu]
    split <;> simp_all
  · have hlen : (Builtin.zeroCells (lookT T e).zero.cells (n - lo)).toList.length = (n - lo) * sz := by simp [Builtin.zeroCells, hz]
    have hpos : 0 < (n - lo) * sz := Nat.mul_pos (by omega) h0
    have hsum : lo * sz + (n - lo) * sz = n * sz := by rw [← Nat.add_mul]; congr 1; omega
    obtain ⟨g, rfl, _, hrun, hs, _, _⟩ := hw1.setRowCells (j := lo * sz) (vs := (Builtin.zeroCells (lookT T e).zero.cells (n - lo)).toList) (by rw [hlen, hrow.1, hsum]; exact Nat.le_refl _) (zero_one h1 _) (by rw [hlen]; exact hpos)
    refine ⟨.tuple ⟨[]⟩, _, f (xs.take (lo * sz) ++ (Builtin.zeroCells (lookT T e).zero.cells (n - lo)).toList ++ xs.drop (lo * sz + (Builtin.zeroCells (lookT T e).zero.cells (n - lo)).toList.length)), ?_, by rw [hf]; exact hs.perm List.perm_middle.symm, k _ ?_ ?_, fun h => by cases h⟩
    · rw [if_neg (by omega)] at hx
      simp only [Int.toNat_natCast, Option.map_some, Addr.add_lit, Nat.zero_add] at hx
      obtain ⟨q, hq⟩ : ∃ q, n - lo = q + 1 := ⟨n - lo - 1, by omega⟩
      generalize (act fr).eval = ρ at *
      simp only [go_sem, Builtin.clear_]
      simp [hx, run_underlying hu]
      rw [hq] at hrun ⊢
      simp only [hzv, Result.andThen_ok]
      erw [hrun]
      rfl
    · simp only [List.length_append, List.length_take, List.length_drop, hlen, hrow.1]
      omega
    · rw [List.append_assoc, List.take_left' (by rw [List.length_take, hrow.1]; omega)]⟩
/-- What is known behind a call may be turned. -/
theorem CallK.post {m : Bool} {f : Nat} {args : List Value} {K : Value → Hp → Prop} (h : CallK c m f args H fun v H' => ∃ H2, (∀ w, St c H' w → St c H2 w) ∧ K v H2) : CallK c m f args H K :=
  ⟨h.go.imp (fun h => ⟨h.1, fun w hw => (h.2 w hw).mono fun _ w' ⟨v, _, he, hs, ⟨H2, hx, hk⟩, hr⟩ => ⟨v, H2, he, hx w' hs, hk, hr⟩⟩) fun h w hw => by
    obtain ⟨v, w', _, he, hs, ⟨H2, hx, hk⟩, hr⟩ := h w hw
    exact ⟨v, w', H2, he, hx w' hs, hk, hr⟩⟩
/-- A function that gives back a slice of its own, in a form; it has room. -/
theorem CallK.fnG {m : Bool} {f : Nat} {args : List Value} {pre : World → Prop} {G : Value → Value} {e sz n : Nat} {xs : List Value} {K : Value → Hp → Prop} (h : FnE c.P c.g f args pre fun w v w' => ∃ u, v = G u ∧ rowPost e sz n xs w u w') (hp : ∀ w, St c H w → pre w)
    (k : ∀ A cp, n ≤ cp → K (G (.slice A n cp)) (.row (.slice A n cp) e sz n xs :: H)) : CallK c m f args H K :=
  CallK.fnE h hp fun w v w' hw ⟨u, hv, hr, hb⟩ hR => by
    have hu : ∃ A cp, u = .slice A n cp ∧ n ≤ cp := by
      rcases hr.2 with ⟨he, h0⟩ | ⟨g, cap, cur, fz, he, _, hn, _⟩
      · exact ⟨none, 0, by rw [he, h0], by omega⟩
      · exact ⟨_, _, he, hn⟩
    obtain ⟨A, cp, rfl, hc⟩ := hu
    refine ⟨_, (hw.below hR).push (x := .row (.slice A n cp) e sz n xs) hr (fun b hbe => ⟨(hb b hbe).2, .inl (Nat.le_trans hw.mod.size (hb b hbe).1)⟩) (fun b hbe y hy he => ?_), hv ▸ k A cp hc⟩
    have h1 := (hb b hbe).1
    have h2 := ((hw.own y hy).2 b he).1
    omega
theorem FnE.G {P : Program} {g : GI} {f : FuncId} {args : List Value} {L : List (Option Addr × List Value)} {e sz n : Nat} {xs : List Value} (h : FnS P g f args L e sz n xs) : FnE P g f args (fun w => RdL w L) fun w v w' => ∃ u, v = u ∧ rowPost e sz n xs w u w' :=
  ⟨h.can, fun w hG hp => (h.ok w hG hp).mono fun _ _ ⟨v, he, hv, hr⟩ => ⟨v, he, ⟨v, rfl, hv⟩, hr⟩⟩
theorem CallK.fnSc {m : Bool} {f : Nat} {args : List Value} {L : List (Option Addr × List Value)} {e sz n : Nat} {xs : List Value} {K : Value → Hp → Prop} (h : FnS c.P c.g f args L e sz n xs) (hp : RdsL c H L) (k : ∀ A cp, n ≤ cp → K (.slice A n cp) (.row (.slice A n cp) e sz n xs :: H)) : CallK c m f args H K :=
  CallK.fnG (G := fun u => u) h.G (fun _ hw => hp.at hw) k
theorem rowPost.nil {P : Program} {g : GI} {w : World} {hG : g.G w} {H : Hp} (e sz : Nat) : ∀ w', St (mkC P g w hG) H w' → rowPost e sz 0 [] w (.slice none 0 0) w' := fun _ _ => ⟨⟨by simp, .inl ⟨rfl, rfl⟩⟩, fun _ h => by cases h⟩
/-- Is a value of an interface's type nil? -/
def isNilI : Value → Option Bool | .nilIface => some true | .iface _ _ => some false | _ => none
theorem run_eqNilI {P : Program} {t : TypeId} {ms : Array (String × TypeId)} {v : Value} {b : Bool} (hu : P.underlying t = some (.interface ms)) (hv : isNilI v = some b) (w : World) : (Op.equal t v .nilIface).run P w = .ok b w := by
  have e : Op.equal t v .nilIface = Op.equalIn (9999 + 1) t v .nilIface := rfl
  rw [e, Op.equalIn, Sem.run_bind, run_underlying hu]
  cases v <;> simp only [isNilI, Option.some.injEq, reduceCtorEq] at hv
  · subst hv; rfl
  · subst hv; rfl
theorem eqGuard_nilI {P : Program} {op : BinOp} {t : TypeId} {x : Operand} {v : Value} (w : World) : (eqGuard op t x (.const .nilIface) v .nilIface).run P w = .ok () w := by
  cases op <;> cases v <;> first | rfl | (cases x <;> rfl)
theorem OthP.ifEq {T : Ty} {d : Option Nat} {t yt ty : TypeId} {x : Operand} {pos : String} {after : Array Edge} {gd : Option (Nat × Bool)} {fr : Fr} {ms : Array (String × TypeId)} {v : Value} {b : Bool} {K : Value → Prop} (hT : TOk c.P T) (ht : (lookT T t).d = .interface ms)
    (hx : evK fr x fun u => u = v) (hv : isNilI v = some b) (k : K (.bool b)) : OthP c ⟨d, .binOp .eql t x (.const .nilIface) yt, ty, pos, after, gd⟩ fr H K := ⟨⟨_, k, fun w _ => by
  rw [evK_eq] at hx
  have hu := (lookT_ok hT (t := t) (by rw [ht]; intro h; cases h)).1
  rw [ht] at hu
  have hy : (act fr).eval (.const .nilIface) = .nilIface := rfl
  generalize (act fr).eval = ρ at *
  have hb : (binOp .eql t v .nilIface).run c.P w = .ok (.bool b) w := by
    have e : binOp .eql t v .nilIface = (do pure (.bool (← Op.equal t v .nilIface)) : Sem Value) := by cases v <;> first | rfl | (simp [isNilI] at hv)
    rw [e, Sem.run_bind, run_eqNilI hu hv]
    rfl
  simp only [execOp, hx, hy, Sem.run_bind, eqGuard_nilI, Result.andThen_ok, hb]
  rfl⟩⟩
theorem OthP.ifNe {T : Ty} {d : Option Nat} {t yt ty : TypeId} {x : Operand} {pos : String} {after : Array Edge} {gd : Option (Nat × Bool)} {fr : Fr} {ms : Array (String × TypeId)} {v : Value} {b : Bool} {K : Value → Prop} (hT : TOk c.P T) (ht : (lookT T t).d = .interface ms)
    (hx : evK fr x fun u => u = v) (hv : isNilI v = some b) (k : K (.bool (!b))) : OthP c ⟨d, .binOp .neq t x (.const .nilIface) yt, ty, pos, after, gd⟩ fr H K := ⟨⟨_, k, fun w _ => by
  rw [evK_eq] at hx
  have hu := (lookT_ok hT (t := t) (by rw [ht]; intro h; cases h)).1
  rw [ht] at hu
  have hy : (act fr).eval (.const .nilIface) = .nilIface := rfl
  generalize (act fr).eval = ρ at *
  have hb : (binOp .neq t v .nilIface).run c.P w = .ok (.bool (!b)) w := by
    have e : binOp .neq t v .nilIface = (do pure (.bool (!(← Op.equal t v .nilIface))) : Sem Value) := by cases v <;> first | rfl | (simp [isNilI] at hv)
    rw [e, Sem.run_bind, run_eqNilI hu hv]
    rfl
  simp only [execOp, hx, hy, Sem.run_bind, eqGuard_nilI, Result.andThen_ok, hb]
  rfl⟩⟩
/-- A value is wrapped into an interface's. -/
theorem OthP.mkI {T : Ty} {d : Option Nat} {xt ty : TypeId} {x : Operand} {pos : String} {after : Array Edge} {gd : Option (Nat × Bool)} {fr : Fr} {v : Value} {K : Value → Prop} (hT : TOk c.P T) (ht : (match (lookT T xt).d with | .interface _ => false | .invalid => false | _ => true) = true)
    (hx : evK fr x fun u => u = v) (k : K (.iface xt v)) : OthP c ⟨d, .makeInterface xt x, ty, pos, after, gd⟩ fr H K := ⟨⟨_, k, fun w _ => by
  rw [evK_eq] at hx
  have hu := (lookT_ok hT (t := xt) (by intro h; rw [h] at ht; cases ht)).1
  generalize (act fr).eval = ρ at *
  have hr : (Instr.makeInterface xt v).run c.P w = .ok (.iface xt v) w := by
    unfold Instr.makeInterface
    rw [Sem.run_bind, run_underlying hu]
    cases hd : (lookT T xt).d <;> rw [hd] at ht <;> first | rfl | cases ht
  simp only [execOp, hx, Sem.run_bind, hr, Result.andThen_ok, Sem.run_pure]⟩⟩
/-- Any operation on two integers, by its own run. -/
theorem OthP.ints {d : Option Nat} {op : BinOp} {t yt ty : TypeId} {x y : Operand} {pos : String} {after : Array Edge} {gd : Option (Nat × Bool)} {fr : Fr} {k k' : IntKind} {a b : Int} {v : Value} {K : Value → Prop}
    (hx : evK fr x fun u => u = .int k a) (hy : evK fr y fun u => u = .int k' b) (hr : ∀ w, (binOp op t (.int k a) (.int k' b)).run c.P w = .ok v w) (kk : K v) : OthP c ⟨d, .binOp op t x y yt, ty, pos, after, gd⟩ fr H K := ⟨⟨_, kk, fun w _ => by
  rw [evK_eq] at hx hy
  generalize (act fr).eval = ρ at *
  have hg : (eqGuard op t x y (.int k a) (.int k' b)).run c.P w = .ok () w := by
    unfold eqGuard
    split <;> rfl
  simp only [execOp, hx, hy, Sem.run_bind, hg, Result.andThen_ok, hr]
  rfl⟩⟩
end
/-! The steps that a walk takes by itself, in short: what they ask is shown in passing. -/
section
variable {c : Ctx} {H : Hp}
theorem tk1 {b i : Nat} {vs : List Value} {t : TypeId} {f : List Value → Hp} {v : Value} {K : Value → Prop} [h : BoxAt b H vs t f] (k : K v) (hv : vs[i]? = some v := by exact rfl) : Ld c H (.pointer (some ⟨b, i, none⟩)) none K := Ld.tc hv k
theorem tk2 {b n : Nat} {vs : List Value} {t : TypeId} {f : List Value → Hp} {K : Value → Prop} [h : BoxAt b H vs t f] (k : K (.agg ⟨vs⟩)) (hn : vs.length = n := by exact rfl) : Ld c H (.pointer (some ⟨b, 0, none⟩)) (some n) K := Ld.tv hn k
theorem tk3 {b i n : Nat} {vs us : List Value} {t : TypeId} {f : List Value → Hp} {K : Value → Prop} [h : BoxAt b H vs t f] (k : K (.agg ⟨us⟩)) (hu : (vs.drop i).take n = us := by exact rfl) (hn : us.length = n := by exact rfl) : Ld c H (.pointer (some ⟨b, i, none⟩)) (some n) K := Ld.tw hu hn k
theorem tk4 {z : Int} {K : Value → Prop} (k : K (.int .i64 z)) (h : -9223372036854775808 ≤ z := by first | omega | decide | (simp only [List.length_cons, List.length_nil, List.length_append]; omega)) (h' : z ≤ 9223372036854775807 := by first | omega | decide | (simp only [List.length_cons, List.length_nil, List.length_append]; omega)) : Ar .i64 z K := Ar.in64 h h' k
theorem tk5 {p : Prop} {K : Value → Prop} (k : K (.bool true)) (h : p := by first | omega | decide | (simp only [List.length_cons, List.length_nil, List.length_append]; omega)) : Cmp p K := Cmp.t h k
theorem tk6 {p : Prop} {K : Value → Prop} (k : K (.bool false)) (h : ¬ p := by first | omega | decide | (simp only [List.length_cons, List.length_nil, List.length_append]; omega)) : Cmp p K := Cmp.f h k
theorem tk7 {b n : Nat} {vs xs : List Value} {t : TypeId} {f : List Value → Hp} {K : Hp → Prop} [h : BoxAt b H vs t f] (k : K (f xs)) (hn : xs.length = n := by exact rfl) (hv : vs.length = n := by exact rfl) (h1 : ∀ x ∈ xs, x.oneCell' = true := by simp [Value.oneCell']) : Sto c H (.pointer (some ⟨b, 0, none⟩)) (.agg ⟨xs⟩) n K := Sto.tv hn hv h1 k
theorem tk8 {b i : Nat} {vs vs' : List Value} {t : TypeId} {f : List Value → Hp} {v : Value} {K : Hp → Prop} [h : BoxAt b H vs t f] (k : K (f vs')) (hv : vs.set i v = vs' := by exact rfl) (hi : i < vs.length := by exact Nat.le_of_ble_eq_true (by exact rfl)) (h1 : v.oneCell' = true := by exact rfl) : Sto c H (.pointer (some ⟨b, i, none⟩)) v 1 K := Sto.tc hv hi h1 k
theorem tk9 {b i n : Nat} {vs xs vs' : List Value} {t : TypeId} {f : List Value → Hp} {K : Hp → Prop} [h : BoxAt b H vs t f] (k : K (f vs')) (hv : vs.take i ++ xs ++ vs.drop (i + n) = vs' := by exact rfl) (hn : xs.length = n := by exact rfl) (hi : i + n ≤ vs.length := by exact Nat.le_of_ble_eq_true (by exact rfl)) (h1 : ∀ x ∈ xs, x.oneCell' = true := by simp [Value.oneCell']) : Sto c H (.pointer (some ⟨b, i, none⟩)) (.agg ⟨xs⟩) n K := Sto.tw hv hn hi h1 k
theorem tk10 {l : List UInt8} {e : Nat} {K : Value → Hp → Prop} (k : ∀ b cp, K (.slice (some ⟨b, 0, none⟩) l.length cp) (.row (.slice (some ⟨b, 0, none⟩) l.length cp) e 1 l.length (l.map byteV) :: H)) (h : l.length ≤ 9223372036854775807 := by omega) : S2B l e H K := S2B.go h k
theorem tk11 {vs : List Value} {e sz n : Nat} {K : Value → Hp → Prop} (k : ∀ b, K (.slice (some ⟨b, 0, none⟩) n n) (.row (.slice (some ⟨b, 0, none⟩) n n) e sz n vs :: H)) (h : vs.length = n * sz := by exact rfl) (h1 : n * sz ≤ 16777216 := by decide) (h2 : n ≤ 16777216 := by decide) : BSl vs e sz n H K := BSl.go h h1 h2 k
theorem tk12 {vs : List Value} {t : Nat} {K : Value → Hp → Prop} (k : ∀ b, K (.pointer (some ⟨b, 0, none⟩)) (.box b vs t :: H)) : Alc vs t H K := Alc.mk k
theorem slc {l : List UInt8} {lo hi : Int} {K : Value → Prop} (k : K (str ((l.take hi.toNat).drop lo.toNat))) (h0 : 0 ≤ lo := by first | omega | decide | (simp only [List.length_cons, List.length_nil, List.length_append]; omega)) (h1 : lo ≤ hi := by first | omega | decide | (simp only [List.length_cons, List.length_nil, List.length_append]; omega)) (h2 : hi ≤ l.length := by first | omega | decide | (simp only [List.length_cons, List.length_nil, List.length_append]; omega)) : SlcS l lo hi K := SlcS.at h0 h1 h2 k
end
theorem Fn.to {P : Program} {g : GI} {f : FuncId} {args : List Value} {v v' : Value} (h : Fn P g f args v) (e : v = v') : Fn P g f args v' := e ▸ h
theorem FnE.toV {P : Program} {g : GI} {f : FuncId} {args : List Value} {pre : World → Prop} {v v' : Value} (h : FnE P g f args pre fun _ x _ => x = v) (e : v = v') : FnE P g f args pre fun _ x _ => x = v' := e ▸ h
theorem CallK.fnAny {c : Ctx} {H : Hp} {m : Bool} {f : Nat} {args : List Value} {pre : World → Prop} {K : Value → Hp → Prop} (h : FnE c.P c.g f args pre fun _ v _ => ∃ b, v = .bool b) (hp : ∀ w, St c H w → pre w) (k : ∀ b, K (.bool b) H) : CallK c m f args H K :=
  CallK.fnE h hp fun _ _ _ hs hv hr => by
    obtain ⟨b, rfl⟩ := hv
    exact ⟨_, hs.below hr, k b⟩
theorem FnE.toS {P : Program} {g : GI} {f : FuncId} {args : List Value} {L : List (Option Addr × List Value)} {e sz n n' : Nat} {xs xs' : List Value} (h : FnS P g f args L e sz n xs) (e1 : n = n') (e2 : xs = xs') : FnS P g f args L e sz n' xs' := e1 ▸ e2 ▸ h
end Go.Proofs.YtnnpnkmdhfjccaaDoor.Vex
/- Arguments of any readable type: what their cells are, and what they lean on in the memory; what an UptoSaid's bound gives of them. -/
namespace Go.Proofs.YtnnpnkmdhfjccaaDoor.Vex
open Go Go.RowKit Go.ChangeShapes Go.WideShapes Go.Deep

/-- A kind of data: its cells, what it asks of a world, and how much it weighs at least. -/
structure Shape where
  α : Type
  n : Nat
  f : α → List Value
  ok : World → α → Prop
  wt : α → Nat
/-- Cells of type t that can be read are data of this kind. -/
def Opens (P : Program) (t : TypeId) (S : Shape) : Prop := P.cellsOf t = S.n ∧ ∀ {H : Type} {enc : TypeId × Value → H} {W : World} {fuel : Nat} {cs : List Value} {d : DataW H} {p : List MemPlace},
  DataW.trod enc P W 0 (fun _ => true) true fuel t cs = some (d, p) → ∃ x : S.α, cs = S.f x ∧ S.ok W x ∧ S.wt x ≤ Rows.uptoBulk d ∧ (S.f x).length = S.n
/-- Some fields of a struct, from one place on. -/
def OpensL (P : Program) (fl : List Field) (o : Nat) (S : Shape) : Prop := ∀ {H : Type} {enc : TypeId × Value → H} {W : World} {fuel : Nat} {cs : List Value} {xs : List (DataW H × List MemPlace)},
  xs.length = fl.length → (∀ (i : Nat) (f : Field), fl[i]? = some f → DataW.trod enc P W 0 (fun _ => true) true fuel f.type ((cs.drop f.offset).take (P.cellsOf f.type)) = xs[i]?) →
  ∃ x : S.α, (cs.drop o).take S.n = S.f x ∧ S.ok W x ∧ S.wt x ≤ Rows.uptoBulkAll (xs.map (·.1)) ∧ (S.f x).length = S.n

abbrev strShape : Shape := ⟨List UInt8, 1, fun l => [str l], fun _ l => l.length ≤ 9223372036854775807, fun l => l.length + 1⟩
abbrev intShape (k : IntKind) : Shape := ⟨Int, 1, fun n => [.int k n], fun _ n => k.min ≤ n ∧ n ≤ k.max, fun _ => 1⟩
abbrev boolShape : Shape := ⟨Bool, 1, fun b => [.bool b], fun _ _ => True, fun _ => 1⟩
abbrev unitShape : Shape := ⟨Unit, 0, fun _ => [], fun _ _ => True, fun _ => 0⟩
abbrev pairShape (S T : Shape) : Shape := ⟨S.α × T.α, S.n + T.n, fun x => S.f x.1 ++ T.f x.2, fun w x => S.ok w x.1 ∧ T.ok w x.2, fun x => S.wt x.1 + T.wt x.2⟩
/-- A slice that came in. -/
structure Sl (α : Type) where
  A : Option Addr
  cp : Nat
  l : List α
abbrev sliceShape (S : Shape) : Shape := ⟨Sl S.α, 1, fun x => [.slice x.A x.l.length x.cp], fun w x => x.l.length ≤ x.cp ∧ Rdw w x.A (x.l.flatMap S.f) ∧ ∀ e ∈ x.l, S.ok w e, fun x => (x.l.map S.wt).sum + 1⟩

section
variable {P : Program}
theorem opens_str {t : TypeId} (ht : P.underlying t = some .string) (hc : P.cellsOf t = 1) : Opens P t strShape := ⟨hc, fun h => by
  obtain ⟨s, rfl, hx, hs⟩ := DataW.trod_string ht h
  refine ⟨s.data.toList, rfl, ?_, ?_, rfl⟩
  · unfold maxLen at hs
    exact (show s.data.toList.length ≤ _ by rw [Array.length_toList]; exact hs)
  · rw [(Prod.mk.inj hx).1]
    simp [Rows.uptoBulk]⟩
theorem opens_int {t : TypeId} {k : IntKind} (ht : P.underlying t = some (.int k)) (hc : P.cellsOf t = 1) : Opens P t (intShape k) := ⟨hc, fun h => by
  obtain ⟨n, rfl, hx, hw⟩ := DataW.trod_int ht h
  refine ⟨n, rfl, by simpa [Lit.wf] using hw, ?_, rfl⟩
  rw [(Prod.mk.inj hx).1]
  simp [Rows.uptoBulk]⟩
theorem opens_bool {t : TypeId} (ht : P.underlying t = some .bool) (hc : P.cellsOf t = 1) : Opens P t boolShape := ⟨hc, fun h => by
  obtain ⟨n, rfl, hx⟩ := DataW.trod_bool ht h
  refine ⟨n, rfl, trivial, ?_, rfl⟩
  rw [(Prod.mk.inj hx).1]
  simp [Rows.uptoBulk]⟩
theorem opensL_nil (o : Nat) : OpensL P [] o unitShape := fun {H enc W fuel cs xs} hl _ => by
  obtain rfl : xs = [] := List.eq_nil_of_length_eq_zero hl
  exact ⟨(), by simp, trivial, by simp [Rows.uptoBulkAll], rfl⟩
theorem opensL_cons {f : Field} {r : List Field} {o : Nat} {S T : Shape} (ho : f.offset = o) (h1 : Opens P f.type S) (h2 : OpensL P r (o + S.n) T) : OpensL P (f :: r) o (pairShape S T) := fun {H enc W fuel cs xs} hl h => by
  cases xs with
  | nil => simp at hl
  | cons x xs =>
    have h0 := h 0 f rfl
    rw [ho, h1.1] at h0
    obtain ⟨a, ha, ka, wa, la⟩ := h1.2 (show DataW.trod enc P W 0 (fun _ => true) true fuel f.type ((cs.drop o).take S.n) = some (x.1, x.2) from h0)
    obtain ⟨b, hb, kb, wb, lb⟩ := h2 (xs := xs) (by simpa using hl) (fun i g hg => by simpa using h (i + 1) g (by simpa using hg))
    refine ⟨(a, b), ?_, ⟨ka, kb⟩, ?_, ?_⟩
    · show (cs.drop o).take (S.n + T.n) = S.f a ++ T.f b
      rw [List.take_add, ha, List.drop_drop, hb]
    · show S.wt a + T.wt b ≤ _
      simp only [List.map_cons, Rows.uptoBulkAll]
      omega
    · show (S.f a ++ T.f b).length = _
      rw [List.length_append, la, lb]
theorem opens_struct {t : TypeId} {fs : Array Field} {S : Shape} (ht : P.underlying t = some (.struct fs)) (hc : P.cellsOf t = S.n) (h : OpensL P fs.toList 0 S) : Opens P t ⟨S.α, S.n, S.f, S.ok, fun x => S.wt x + 1⟩ := ⟨hc, fun {H enc W fuel cs d p} hd => by
  obtain ⟨xs, n, rfl, hx, hl, hxl, hall⟩ := DataW.trod_struct ht hd
  obtain ⟨x, h1, h2, h3, h4⟩ := h (cs := cs) (xs := xs) (by simpa using hxl) (fun i f hf => hall i f (by simpa using hf))
  refine ⟨x, ?_, h2, ?_, h4⟩
  · rw [List.drop_zero, List.take_of_length_le (by rw [hl, hc]; exact Nat.le_refl _)] at h1
    exact h1
  · rw [(Prod.mk.inj hx).1]
    simp only [Rows.uptoBulk]
    omega⟩
theorem flat_get {α : Type} (f : α → List Value) (n : Nat) : ∀ (l : List α), (∀ e ∈ l, (f e).length = n) → ∀ (j : Nat) (u : Value), (l.flatMap f)[j]? = some u → ∃ (i : Nat) (h : i < l.length), i * n ≤ j ∧ j < i * n + n ∧ (f l[i])[j - i * n]? = some u
  | [], _, j, u, h => by simp at h
  | a :: r, hn, j, u, h => by
    have ha := hn a (by simp)
    rw [List.flatMap_cons] at h
    by_cases hj : j < n
    · rw [List.getElem?_append_left (by omega)] at h
      exact ⟨0, by simp, by omega, by omega, by simpa using h⟩
    · rw [List.getElem?_append_right (by omega), ha] at h
      obtain ⟨i, hi, h1, h2, h3⟩ := flat_get f n r (fun e he => hn e (by simp [he])) _ _ h
      refine ⟨i + 1, by simp; omega, by rw [Nat.add_mul]; omega, by rw [Nat.add_mul]; omega, ?_⟩
      rw [show j - (i + 1) * n = j - n - i * n by rw [Nat.add_mul]; omega]
      simpa using h3
theorem cells_get {w : World} {a : Addr} : ∀ {n : Nat} {cs : List Value}, w.cells? 0 a n = some cs → cs.length = n ∧ ∀ (j : Nat) (u : Value), cs[j]? = some u → w.cell? (a.add j) = some u := by
  intro n cs h
  unfold World.cells? at h
  rw [if_pos (Nat.zero_le _)] at h
  have hm := h
  have hml := Lib.mapM_length hm
  simp only [List.length_range] at hml
  refine ⟨hml, fun j u hj => ?_⟩
  have hjn : j < n := by
    have := (List.getElem?_eq_some_iff.1 hj).1
    omega
  obtain ⟨b, hb, hf⟩ := Lib.mapM_at hm j j (by simp [hjn])
  rw [hj] at hb
  cases hb
  exact hf
theorem choose_list {α : Type} : ∀ {n : Nat} {p : Nat → α → Prop}, (∀ i, i < n → ∃ x, p i x) → ∃ l : List α, l.length = n ∧ ∀ (i : Nat) (h : i < l.length), p i l[i]
  | 0, _, _ => ⟨[], rfl, fun _ h => absurd h (by simp)⟩
  | n + 1, p, h => by
    obtain ⟨x, hx⟩ := h 0 (by omega)
    obtain ⟨l, hl, hp⟩ := choose_list (n := n) (p := fun i => p (i + 1)) (fun i hi => h (i + 1) (by omega))
    refine ⟨x :: l, by simp [hl], fun i hi => ?_⟩
    cases i with
    | zero => exact hx
    | succ i => exact hp i (by simpa using hi)
theorem sum_map_le {α : Type} {f : α → Nat} {g : Nat → Nat} : ∀ (l : List α) (o : Nat), (∀ (i : Nat) (h : i < l.length), f l[i] ≤ g (o + i)) → (l.map f).sum ≤ ((List.range' o l.length).map g).sum
  | [], o, _ => by simp
  | a :: r, o, h => by
    have h0 := h 0 (by simp)
    have ih := sum_map_le r (o + 1) (fun i hi => by
      have := h (i + 1) (by simpa using hi)
      rw [show o + (i + 1) = o + 1 + i by omega] at this
      exact this)
    simp only [List.length_cons, List.range'_succ, List.map_cons, List.sum_cons]
    simp at h0
    omega
theorem opens_slice {t e : TypeId} {S : Shape} (ht : P.underlying t = some (.slice e)) (hc : P.cellsOf t = 1) (h : Opens P e S) : Opens P t (sliceShape S) := ⟨hc, fun {H enc W fuel cs d p} hd => by
  rcases open_slice ht hd with ⟨rfl, hx⟩ | ⟨a, len, cap, m, n, D, Pl, rfl, _, hl, hm, hmm, hx, hi⟩
  · refine ⟨⟨none, 0, []⟩, rfl, ⟨Nat.le_refl _, fun j u hj => by simp at hj, fun e he => by cases he⟩, ?_, rfl⟩
    rw [(Prod.mk.inj hx).1]
    simp [Rows.uptoBulk]
  · have hlm : len ≤ m := by rw [hmm]; split <;> omega
    have each : ∀ i, i < len → ∃ x : S.α, (∃ cs', W.cells? 0 (a.add (i * S.n)) S.n = some cs' ∧ cs' = S.f x) ∧ S.ok W x ∧ S.wt x ≤ Rows.uptoBulk (D i) ∧ (S.f x).length = S.n := fun i hil => by
      obtain ⟨cs', hcs, htr⟩ := hi i (by omega)
      rw [h.1] at hcs
      obtain ⟨x, hx1, hx2, hx3, hx4⟩ := h.2 htr
      exact ⟨x, ⟨cs', hcs, hx1⟩, hx2, hx3, hx4⟩
    obtain ⟨q, hlen, hq⟩ := choose_list each
    refine ⟨⟨some a, cap, q⟩, ?_, ⟨?_, ?_, ?_⟩, ?_, rfl⟩
    · show _ = [Value.slice (some a) q.length cap]
      rw [hlen]
    · show q.length ≤ cap
      rw [hlen]; exact hl
    · intro j u hj
      obtain ⟨i, hil, h1, h2, h3⟩ := flat_get S.f S.n _ (fun e he => by
        obtain ⟨i, hi', rfl⟩ := List.mem_iff_getElem.1 he
        exact (hq i hi').2.2.2) j u hj
      obtain ⟨⟨cs', hcs, rfl⟩, _⟩ := hq i hil
      have h5 := (cells_get hcs).2 _ _ h3
      rw [add_add, show i * S.n + (j - i * S.n) = j by omega] at h5
      exact ⟨a, rfl, h5⟩
    · intro e he
      obtain ⟨i, hi', rfl⟩ := List.mem_iff_getElem.1 he
      exact (hq i hi').2.1
    · have h1 := sum_map_le (f := S.wt) (g := fun i => Rows.uptoBulk (D i)) q 0 (fun i hi' => by rw [Nat.zero_add]; exact (hq i hi').2.2.1)
      have h2 : ∀ r : List Nat, Rows.uptoBulkAll (r.map D) = (r.map fun i => Rows.uptoBulk (D i)).sum := fun r => by
        induction r with
        | nil => simp [Rows.uptoBulkAll]
        | cons i r ih => simp only [List.map_cons, List.sum_cons, Rows.uptoBulkAll, ih]
      rw [(Prod.mk.inj hx).1]
      simp only [Rows.uptoBulk, h2]
      rw [hlen, ← List.range_eq_range'] at h1
      omega⟩
theorem opens_as {t : TypeId} {S T : Shape} (h : Opens P t S) (he : S = T) : Opens P t T := he ▸ h
end

/-- An argument that is one cell. -/
theorem open_cell {H : Type} {r : Reach} {b0 : Nat} {P : Program} {enc : TypeId × Value → H} {W : World} {t : TypeId} {v : Value} {d : DataW H} {p : List MemPlace} {S : Shape} (hS : Opens P t S) (hn : match P.underlying t with | some (.struct _) => false | some (.array _ _) => false | _ => true)
    (hv : Value.okWide P W r b0 t v) (h : DataW.Trod enc P W 0 (fun _ => true) true t v d p) : ∃ x : S.α, [v] = S.f x ∧ S.ok W x ∧ S.wt x ≤ Rows.uptoBulk d := by
  obtain ⟨fuel, hf⟩ := h
  obtain ⟨x, h1, h2, h3, _⟩ := hS.2 hf
  have hc : v.cells.toList = [v] := by
    unfold Value.okWide at hv
    split at hv
    · rename_i hu; rw [hu] at hn; cases hn
    · rename_i hu; rw [hu] at hn; cases hn
    · cases v <;> first | rfl | (exfalso; simp [Cell.okWide, Cell.ok] at hv)
  exact ⟨x, by rw [← hc]; exact h1, h2, h3⟩
/-- An argument that is a struct. -/
theorem open_whole {H : Type} {r : Reach} {b0 : Nat} {P : Program} {enc : TypeId × Value → H} {W : World} {t : TypeId} {fs : Array Field} {v : Value} {d : DataW H} {p : List MemPlace} {S : Shape} (hS : Opens P t S) (hu : P.underlying t = some (.struct fs))
    (hv : Value.okWide P W r b0 t v) (h : DataW.Trod enc P W 0 (fun _ => true) true t v d p) : ∃ x : S.α, v = .agg ⟨S.f x⟩ ∧ S.ok W x ∧ S.wt x ≤ Rows.uptoBulk d := by
  obtain ⟨cs, rfl, _⟩ := okWide_struct hu hv
  obtain ⟨fuel, hf⟩ := h
  obtain ⟨x, h1, h2, h3, _⟩ := hS.2 hf
  refine ⟨x, ?_, h2, h3⟩
  have : cs.toList = S.f x := h1
  rw [← this]
theorem done_F {P : Program} {g : GI} {f : FuncId} {args : List Value} {W : World} (h : Fn P g f args (.bool true)) (hG : g.G W) : Calls P f ⟨args⟩ W fun e W' => e = .returned (.bool true) ∧ Below W.heap.size W W' :=
  (h.ok W hG).mono fun _ _ ⟨he, hR⟩ => ⟨he, hR⟩
theorem done_E {P : Program} {g : GI} {f : FuncId} {args : List Value} {pre : World → Prop} {W : World} (h : FnE P g f args pre fun _ v _ => v = .bool true) (hG : g.G W) (hp : pre W) : Calls P f ⟨args⟩ W fun e W' => e = .returned (.bool true) ∧ Below W.heap.size W W' :=
  (h.ok W hG hp).mono fun _ _ ⟨_, he, hv, hR⟩ => ⟨by rw [he, hv], hR⟩
theorem bulk_part2 {H : Type} {d : DataW H} {l : List (DataW H)} (h : d ∈ l) : Rows.uptoBulk d ≤ Rows.uptoBulkAll l := by
  induction l with
  | nil => cases h
  | cons x r ih =>
    simp only [Rows.uptoBulkAll]
    cases List.mem_cons.1 h with
    | inl e => subst e; omega
    | inr e => have := ih e; omega
theorem bulk_of2 {H : Type} {l : List (DataW H)} (hk : Rows.uptoSmall H l = true) : Rows.uptoBulkAll l ≤ 1048576 := by simpa [Rows.uptoSmall] using hk
end Go.Proofs.YtnnpnkmdhfjccaaDoor.Vex
/- The table of types of this seat's program, each row read off the program by the kernel. (Written by vextys.py.) -/
namespace Go.Proofs.YtnnpnkmdhfjccaaDoor.Vex
open Go Go.RowKit

def tys : Ty := [
  (1, ⟨(TypeDesc.func #[] #[] false), .nilFunc, 1, 8, []⟩),
  (2, ⟨(TypeDesc.int IntKind.i64), .int .i64 0, 1, 8, []⟩),
  (3, ⟨(TypeDesc.int IntKind.i64), .int .i64 0, 1, 8, []⟩),
  (4, ⟨TypeDesc.bool, .bool false, 1, 1, []⟩),
  (5, ⟨(TypeDesc.int IntKind.u8), .int .u8 0, 1, 1, []⟩),
  (6, ⟨(TypeDesc.int IntKind.u8), .int .u8 0, 1, 1, []⟩),
  (7, ⟨(TypeDesc.struct #[{ name := "x", type := 2, offset := 0, embedded := false, tag := "", pkgPath := "runtime", byteOffset := 0 }, { name := "y", type := 3, offset := 1, embedded := false, tag := "", pkgPath := "runtime", byteOffset := 8 }, { name := "signed", type := 4, offset := 2, embedded := false, tag := "", pkgPath := "runtime", byteOffset := 16 }, { name := "code", type := 6, offset := 3, embedded := false, tag := "", pkgPath := "runtime", byteOffset := 17 }]), .agg ⟨[.int .i64 0, .int .i64 0, .bool false, .int .u8 0]⟩, 4, 24, [(0, 1), (1, 1), (2, 1), (3, 1)]⟩),
  (8, ⟨(TypeDesc.struct #[{ name := "x", type := 2, offset := 0, embedded := false, tag := "", pkgPath := "runtime", byteOffset := 0 }, { name := "y", type := 3, offset := 1, embedded := false, tag := "", pkgPath := "runtime", byteOffset := 8 }, { name := "signed", type := 4, offset := 2, embedded := false, tag := "", pkgPath := "runtime", byteOffset := 16 }, { name := "code", type := 6, offset := 3, embedded := false, tag := "", pkgPath := "runtime", byteOffset := 17 }]), .agg ⟨[.int .i64 0, .int .i64 0, .bool false, .int .u8 0]⟩, 4, 24, [(0, 1), (1, 1), (2, 1), (3, 1)]⟩),
  (9, ⟨TypeDesc.string, str [], 1, 16, []⟩),
  (10, ⟨TypeDesc.string, str [], 1, 16, []⟩),
  (11, ⟨TypeDesc.string, str [], 1, 16, []⟩),
  (12, ⟨(TypeDesc.int IntKind.u64), .int .u64 0, 1, 8, []⟩),
  (13, ⟨(TypeDesc.struct #[{ name := "msg", type := 9, offset := 0, embedded := false, tag := "", pkgPath := "runtime", byteOffset := 0 }, { name := "addr", type := 12, offset := 1, embedded := false, tag := "", pkgPath := "runtime", byteOffset := 16 }]), .agg ⟨[str [], .int .u64 0]⟩, 2, 24, [(0, 1), (1, 1)]⟩),
  (14, ⟨(TypeDesc.struct #[{ name := "msg", type := 9, offset := 0, embedded := false, tag := "", pkgPath := "runtime", byteOffset := 0 }, { name := "addr", type := 12, offset := 1, embedded := false, tag := "", pkgPath := "runtime", byteOffset := 16 }]), .agg ⟨[str [], .int .u64 0]⟩, 2, 24, [(0, 1), (1, 1)]⟩),
  (15, ⟨(TypeDesc.pointer 193), .pointer none, 1, 8, []⟩),
  (16, ⟨(TypeDesc.pointer 196), .pointer none, 1, 8, []⟩),
  (17, ⟨(TypeDesc.pointer 204), .pointer none, 1, 8, []⟩),
  (18, ⟨(TypeDesc.struct #[{ name := "typ", type := 17, offset := 0, embedded := false, tag := "", pkgPath := "internal/runtime/maps", byteOffset := 0 }]), .agg ⟨[.pointer none]⟩, 1, 8, [(0, 1)]⟩),
  (19, ⟨(TypeDesc.struct #[{ name := "typ", type := 17, offset := 0, embedded := false, tag := "", pkgPath := "internal/runtime/maps", byteOffset := 0 }]), .agg ⟨[.pointer none]⟩, 1, 8, [(0, 1)]⟩),
  (20, ⟨(TypeDesc.interface #[]), .nilIface, 1, 16, []⟩),
  (21, ⟨(TypeDesc.int IntKind.i32), .int .i32 0, 1, 4, []⟩),
  (22, ⟨(TypeDesc.slice 63), .slice none 0 0, 1, 24, []⟩),
  (23, ⟨(TypeDesc.slice 37), .slice none 0 0, 1, 24, []⟩),
  (24, ⟨(TypeDesc.struct #[{ name := "Status", type := 3, offset := 0, embedded := false, tag := "", pkgPath := "", byteOffset := 0 }, { name := "Fields", type := 22, offset := 1, embedded := false, tag := "", pkgPath := "", byteOffset := 8 }, { name := "Parts", type := 23, offset := 2, embedded := false, tag := "", pkgPath := "", byteOffset := 32 }, { name := "Coding", type := 5, offset := 3, embedded := false, tag := "", pkgPath := "", byteOffset := 56 }, { name := "Tag", type := 9, offset := 4, embedded := false, tag := "", pkgPath := "", byteOffset := 64 }, { name := "Press", type := 4, offset := 5, embedded := false, tag := "", pkgPath := "", byteOffset := 80 }]), .agg ⟨[.int .i64 0, .slice none 0 0, .slice none 0 0, .int .u8 0, str [], .bool false]⟩, 6, 88, [(0, 1), (1, 1), (2, 1), (3, 1), (4, 1), (5, 1)]⟩),
  (25, ⟨(TypeDesc.struct #[{ name := "Status", type := 3, offset := 0, embedded := false, tag := "", pkgPath := "", byteOffset := 0 }, { name := "Fields", type := 22, offset := 1, embedded := false, tag := "", pkgPath := "", byteOffset := 8 }, { name := "Parts", type := 23, offset := 2, embedded := false, tag := "", pkgPath := "", byteOffset := 32 }, { name := "Coding", type := 5, offset := 3, embedded := false, tag := "", pkgPath := "", byteOffset := 56 }, { name := "Tag", type := 9, offset := 4, embedded := false, tag := "", pkgPath := "", byteOffset := 64 }, { name := "Press", type := 4, offset := 5, embedded := false, tag := "", pkgPath := "", byteOffset := 80 }]), .agg ⟨[.int .i64 0, .slice none 0 0, .slice none 0 0, .int .u8 0, str [], .bool false]⟩, 6, 88, [(0, 1), (1, 1), (2, 1), (3, 1), (4, 1), (5, 1)]⟩),
  (26, ⟨(TypeDesc.func #[25] #[4] false), .nilFunc, 1, 8, []⟩),
  (27, ⟨(TypeDesc.int IntKind.i64), .int .i64 0, 1, 8, []⟩),
  (29, ⟨(TypeDesc.func #[25, 3, 4, 4] #[23, 4, 27] false), .nilFunc, 1, 8, []⟩),
  (31, ⟨(TypeDesc.func #[25, 3, 4, 4] #[23, 4, 3] false), .nilFunc, 1, 8, []⟩),
  (32, ⟨(TypeDesc.func #[23, 23] #[4] false), .nilFunc, 1, 8, []⟩),
  (33, ⟨(TypeDesc.func #[25] #[27] false), .nilFunc, 1, 8, []⟩),
  (34, ⟨(TypeDesc.func #[25] #[3] false), .nilFunc, 1, 8, []⟩),
  (35, ⟨(TypeDesc.slice 5), .slice none 0 0, 1, 24, []⟩),
  (36, ⟨(TypeDesc.struct #[{ name := "Bytes", type := 35, offset := 0, embedded := false, tag := "", pkgPath := "", byteOffset := 0 }, { name := "Flush", type := 4, offset := 1, embedded := false, tag := "", pkgPath := "", byteOffset := 24 }]), .agg ⟨[.slice none 0 0, .bool false]⟩, 2, 32, [(0, 1), (1, 1)]⟩),
  (37, ⟨(TypeDesc.struct #[{ name := "Bytes", type := 35, offset := 0, embedded := false, tag := "", pkgPath := "", byteOffset := 0 }, { name := "Flush", type := 4, offset := 1, embedded := false, tag := "", pkgPath := "", byteOffset := 24 }]), .agg ⟨[.slice none 0 0, .bool false]⟩, 2, 32, [(0, 1), (1, 1)]⟩),
  (38, ⟨(TypeDesc.func #[25, 3, 4, 4] #[4] false), .nilFunc, 1, 8, []⟩),
  (39, ⟨(TypeDesc.slice 44), .slice none 0 0, 1, 24, []⟩),
  (40, ⟨(TypeDesc.func #[] #[4] false), .nilFunc, 1, 8, []⟩),
  (41, ⟨(TypeDesc.func #[39] #[4] false), .nilFunc, 1, 8, []⟩),
  (42, ⟨(TypeDesc.slice 206), .slice none 0 0, 1, 24, []⟩),
  (43, ⟨(TypeDesc.struct #[{ name := "Method", type := 9, offset := 0, embedded := false, tag := "", pkgPath := "", byteOffset := 0 }, { name := "Pattern", type := 9, offset := 1, embedded := false, tag := "", pkgPath := "", byteOffset := 16 }, { name := "Status", type := 3, offset := 2, embedded := false, tag := "", pkgPath := "", byteOffset := 32 }, { name := "Fields", type := 22, offset := 3, embedded := false, tag := "", pkgPath := "", byteOffset := 40 }, { name := "Tag", type := 9, offset := 4, embedded := false, tag := "", pkgPath := "", byteOffset := 64 }, { name := "Press", type := 4, offset := 5, embedded := false, tag := "", pkgPath := "", byteOffset := 80 }, { name := "Pieces", type := 42, offset := 6, embedded := false, tag := "", pkgPath := "", byteOffset := 88 }]), .agg ⟨[str [], str [], .int .i64 0, .slice none 0 0, str [], .bool false, .slice none 0 0]⟩, 7, 112, [(0, 1), (1, 1), (2, 1), (3, 1), (4, 1), (5, 1), (6, 1)]⟩),
  (44, ⟨(TypeDesc.struct #[{ name := "Method", type := 9, offset := 0, embedded := false, tag := "", pkgPath := "", byteOffset := 0 }, { name := "Pattern", type := 9, offset := 1, embedded := false, tag := "", pkgPath := "", byteOffset := 16 }, { name := "Status", type := 3, offset := 2, embedded := false, tag := "", pkgPath := "", byteOffset := 32 }, { name := "Fields", type := 22, offset := 3, embedded := false, tag := "", pkgPath := "", byteOffset := 40 }, { name := "Tag", type := 9, offset := 4, embedded := false, tag := "", pkgPath := "", byteOffset := 64 }, { name := "Press", type := 4, offset := 5, embedded := false, tag := "", pkgPath := "", byteOffset := 80 }, { name := "Pieces", type := 42, offset := 6, embedded := false, tag := "", pkgPath := "", byteOffset := 88 }]), .agg ⟨[str [], str [], .int .i64 0, .slice none 0 0, str [], .bool false, .slice none 0 0]⟩, 7, 112, [(0, 1), (1, 1), (2, 1), (3, 1), (4, 1), (5, 1), (6, 1)]⟩),
  (46, ⟨(TypeDesc.func #[39, 9, 9] #[3, 22, 3, 27] false), .nilFunc, 1, 8, []⟩),
  (47, ⟨(TypeDesc.func #[22, 22] #[4] false), .nilFunc, 1, 8, []⟩),
  (48, ⟨(TypeDesc.func #[39, 9, 9, 3] #[4] false), .nilFunc, 1, 8, []⟩),
  (49, ⟨(TypeDesc.func #[39] #[27] false), .nilFunc, 1, 8, []⟩),
  (50, ⟨(TypeDesc.func #[39, 3] #[4] false), .nilFunc, 1, 8, []⟩),
  (51, ⟨(TypeDesc.func #[22] #[4] false), .nilFunc, 1, 8, []⟩),
  (52, ⟨(TypeDesc.pointer 54), .pointer none, 1, 8, []⟩),
  (53, ⟨(TypeDesc.struct #[{ name := "open", type := 35, offset := 0, embedded := false, tag := "", pkgPath := "bellows/reply", byteOffset := 0 }, { name := "all", type := 23, offset := 1, embedded := false, tag := "", pkgPath := "bellows/reply", byteOffset := 24 }]), .agg ⟨[.slice none 0 0, .slice none 0 0]⟩, 2, 48, [(0, 1), (1, 1)]⟩),
  (54, ⟨(TypeDesc.struct #[{ name := "open", type := 35, offset := 0, embedded := false, tag := "", pkgPath := "bellows/reply", byteOffset := 0 }, { name := "all", type := 23, offset := 1, embedded := false, tag := "", pkgPath := "bellows/reply", byteOffset := 24 }]), .agg ⟨[.slice none 0 0, .slice none 0 0]⟩, 2, 48, [(0, 1), (1, 1)]⟩),
  (55, ⟨(TypeDesc.func #[3] #[4] false), .nilFunc, 1, 8, []⟩),
  (56, ⟨(TypeDesc.func #[25, 4, 4] #[] false), .nilFunc, 1, 8, []⟩),
  (57, ⟨(TypeDesc.func #[35] #[35] false), .nilFunc, 1, 8, []⟩),
  (58, ⟨(TypeDesc.func #[66] #[] true), .nilFunc, 1, 8, []⟩),
  (59, ⟨(TypeDesc.func #[4] #[] false), .nilFunc, 1, 8, []⟩),
  (60, ⟨(TypeDesc.func #[] #[35] false), .nilFunc, 1, 8, []⟩),
  (61, ⟨(TypeDesc.func #[25, 3, 4, 4] #[23] false), .nilFunc, 1, 8, []⟩),
  (62, ⟨(TypeDesc.struct #[{ name := "Name", type := 9, offset := 0, embedded := false, tag := "", pkgPath := "", byteOffset := 0 }, { name := "Value", type := 9, offset := 1, embedded := false, tag := "", pkgPath := "", byteOffset := 16 }]), .agg ⟨[str [], str []]⟩, 2, 32, [(0, 1), (1, 1)]⟩),
  (63, ⟨(TypeDesc.struct #[{ name := "Name", type := 9, offset := 0, embedded := false, tag := "", pkgPath := "", byteOffset := 0 }, { name := "Value", type := 9, offset := 1, embedded := false, tag := "", pkgPath := "", byteOffset := 16 }]), .agg ⟨[str [], str []]⟩, 2, 32, [(0, 1), (1, 1)]⟩),
  (64, ⟨(TypeDesc.func #[63] #[27] false), .nilFunc, 1, 8, []⟩),
  (65, ⟨(TypeDesc.func #[66, 9] #[4] false), .nilFunc, 1, 8, []⟩),
  (66, ⟨(TypeDesc.slice 9), .slice none 0 0, 1, 24, []⟩),
  (67, ⟨(TypeDesc.func #[] #[66] false), .nilFunc, 1, 8, []⟩),
  (68, ⟨(TypeDesc.func #[9, 9, 3, 3, 9, 9] #[4] false), .nilFunc, 1, 8, []⟩),
  (69, ⟨(TypeDesc.pointer 78), .pointer none, 1, 8, []⟩),
  (71, ⟨(TypeDesc.func #[39] #[69, 27] false), .nilFunc, 1, 8, []⟩),
  (73, ⟨(TypeDesc.func #[9] #[66, 27] false), .nilFunc, 1, 8, []⟩),
  (74, ⟨(TypeDesc.func #[66, 80] #[4] false), .nilFunc, 1, 8, []⟩),
  (75, ⟨(TypeDesc.map 9 3), .map none, 1, 8, []⟩),
  (76, ⟨(TypeDesc.map 108 69), .map none, 1, 8, []⟩),
  (77, ⟨(TypeDesc.struct #[{ name := "pages", type := 75, offset := 0, embedded := false, tag := "", pkgPath := "bellows/route", byteOffset := 0 }, { name := "next", type := 76, offset := 1, embedded := false, tag := "", pkgPath := "bellows/route", byteOffset := 8 }]), .agg ⟨[.map none, .map none]⟩, 2, 16, [(0, 1), (1, 1)]⟩),
  (78, ⟨(TypeDesc.struct #[{ name := "pages", type := 75, offset := 0, embedded := false, tag := "", pkgPath := "bellows/route", byteOffset := 0 }, { name := "next", type := 76, offset := 1, embedded := false, tag := "", pkgPath := "bellows/route", byteOffset := 8 }]), .agg ⟨[.map none, .map none]⟩, 2, 16, [(0, 1), (1, 1)]⟩),
  (80, ⟨(TypeDesc.func #[69] #[4] false), .nilFunc, 1, 8, []⟩),
  (81, ⟨(TypeDesc.slice 108), .slice none 0 0, 1, 24, []⟩),
  (83, ⟨(TypeDesc.func #[9] #[81, 4] false), .nilFunc, 1, 8, []⟩),
  (84, ⟨(TypeDesc.func #[81, 66] #[22] false), .nilFunc, 1, 8, []⟩),
  (85, ⟨(TypeDesc.func #[3] #[9] false), .nilFunc, 1, 8, []⟩),
  (86, ⟨(TypeDesc.func #[9, 9] #[] false), .nilFunc, 1, 8, []⟩),
  (88, ⟨(TypeDesc.func #[5] #[9, 27] false), .nilFunc, 1, 8, []⟩),
  (89, ⟨(TypeDesc.func #[23] #[35] false), .nilFunc, 1, 8, []⟩),
  (90, ⟨(TypeDesc.func #[112] #[] false), .nilFunc, 1, 8, []⟩),
  (91, ⟨(TypeDesc.func #[112] #[] false), .nilFunc, 1, 8, []⟩),
  (92, ⟨(TypeDesc.func #[35, 3] #[91] false), .nilFunc, 1, 8, []⟩),
  (94, ⟨(TypeDesc.func #[35] #[35, 27] false), .nilFunc, 1, 8, []⟩),
  (95, ⟨(TypeDesc.func #[63] #[4] false), .nilFunc, 1, 8, []⟩),
  (96, ⟨(TypeDesc.func #[9] #[4] false), .nilFunc, 1, 8, []⟩),
  (97, ⟨(TypeDesc.func #[25, 3, 4] #[9] false), .nilFunc, 1, 8, []⟩),
  (98, ⟨(TypeDesc.func #[9] #[9] false), .nilFunc, 1, 8, []⟩),
  (99, ⟨(TypeDesc.func #[66, 9] #[3] false), .nilFunc, 1, 8, []⟩),
  (100, ⟨(TypeDesc.func #[] #[39] false), .nilFunc, 1, 8, []⟩),
  (101, ⟨(TypeDesc.slice 81), .slice none 0 0, 1, 24, []⟩),
  (102, ⟨(TypeDesc.func #[] #[69] false), .nilFunc, 1, 8, []⟩),
  (103, ⟨(TypeDesc.func #[3, 9, 81] #[4] false), .nilFunc, 1, 8, []⟩),
  (104, ⟨(TypeDesc.func #[96] #[] false), .nilFunc, 1, 8, []⟩),
  (105, ⟨(TypeDesc.func #[96] #[] false), .nilFunc, 1, 8, []⟩),
  (106, ⟨(TypeDesc.func #[9, 9] #[105] false), .nilFunc, 1, 8, []⟩),
  (107, ⟨(TypeDesc.struct #[{ name := "kind", type := 3, offset := 0, embedded := false, tag := "", pkgPath := "bellows/route", byteOffset := 0 }, { name := "text", type := 9, offset := 1, embedded := false, tag := "", pkgPath := "bellows/route", byteOffset := 8 }]), .agg ⟨[.int .i64 0, str []]⟩, 2, 24, [(0, 1), (1, 1)]⟩),
  (108, ⟨(TypeDesc.struct #[{ name := "kind", type := 3, offset := 0, embedded := false, tag := "", pkgPath := "bellows/route", byteOffset := 0 }, { name := "text", type := 9, offset := 1, embedded := false, tag := "", pkgPath := "bellows/route", byteOffset := 8 }]), .agg ⟨[.int .i64 0, str []]⟩, 2, 24, [(0, 1), (1, 1)]⟩),
  (109, ⟨(TypeDesc.func #[9, 9] #[66] false), .nilFunc, 1, 8, []⟩),
  (110, ⟨(TypeDesc.func #[9, 9] #[4] false), .nilFunc, 1, 8, []⟩),
  (111, ⟨(TypeDesc.func #[66, 9] #[9] false), .nilFunc, 1, 8, []⟩),
  (112, ⟨(TypeDesc.func #[35] #[4] false), .nilFunc, 1, 8, []⟩),
  (113, ⟨(TypeDesc.func #[2, 3] #[9] false), .nilFunc, 1, 8, []⟩),
  (114, ⟨(TypeDesc.func #[134] #[35] true), .nilFunc, 1, 8, []⟩),
  (115, ⟨(TypeDesc.func #[5] #[9] false), .nilFunc, 1, 8, []⟩),
  (116, ⟨TypeDesc.string, str [], 1, 16, []⟩),
  (117, ⟨(TypeDesc.func #[118] #[4] false), .nilFunc, 1, 8, []⟩),
  (118, ⟨(TypeDesc.func #[5] #[4] false), .nilFunc, 1, 8, []⟩),
  (119, ⟨(TypeDesc.func #[9, 5] #[3] false), .nilFunc, 1, 8, []⟩),
  (120, ⟨(TypeDesc.func #[9, 9] #[9] false), .nilFunc, 1, 8, []⟩),
  (121, ⟨(TypeDesc.func #[9, 9, 3] #[105] false), .nilFunc, 1, 8, []⟩),
  (123, ⟨(TypeDesc.func #[9] #[5, 4] false), .nilFunc, 1, 8, []⟩),
  (124, ⟨(TypeDesc.func #[9, 9, 3, 3] #[66] false), .nilFunc, 1, 8, []⟩),
  (125, ⟨(TypeDesc.pointer 127), .pointer none, 1, 8, []⟩),
  (126, ⟨(TypeDesc.struct #[{ name := "addr", type := 125, offset := 0, embedded := false, tag := "", pkgPath := "strings", byteOffset := 0 }, { name := "buf", type := 35, offset := 1, embedded := false, tag := "", pkgPath := "strings", byteOffset := 8 }]), .agg ⟨[.pointer none, .slice none 0 0]⟩, 2, 32, [(0, 1), (1, 1)]⟩),
  (127, ⟨(TypeDesc.struct #[{ name := "addr", type := 125, offset := 0, embedded := false, tag := "", pkgPath := "strings", byteOffset := 0 }, { name := "buf", type := 35, offset := 1, embedded := false, tag := "", pkgPath := "strings", byteOffset := 8 }]), .agg ⟨[.pointer none, .slice none 0 0]⟩, 2, 32, [(0, 1), (1, 1)]⟩),
  (128, ⟨(TypeDesc.func #[3] #[] false), .nilFunc, 1, 8, []⟩),
  (129, ⟨(TypeDesc.interface #[("Error", 133)]), .nilIface, 1, 16, []⟩),
  (130, ⟨(TypeDesc.interface #[("Error", 133)]), .nilIface, 1, 16, []⟩),
  (132, ⟨(TypeDesc.func #[9] #[3, 130] false), .nilFunc, 1, 8, []⟩),
  (133, ⟨(TypeDesc.func #[] #[9] false), .nilFunc, 1, 8, []⟩),
  (134, ⟨(TypeDesc.slice 35), .slice none 0 0, 1, 24, []⟩),
  (135, ⟨(TypeDesc.func #[35, 3] #[35] false), .nilFunc, 1, 8, []⟩),
  (136, ⟨(TypeDesc.func #[9, 5] #[9] false), .nilFunc, 1, 8, []⟩),
  (137, ⟨(TypeDesc.array 256 4), .agg ⟨List.replicate 256 (.bool false)⟩, 256, 256, []⟩),
  (138, ⟨(TypeDesc.array 256 4), .agg ⟨List.replicate 256 (.bool false)⟩, 256, 256, []⟩),
  (140, ⟨(TypeDesc.func #[9] #[138, 4] false), .nilFunc, 1, 8, []⟩),
  (141, ⟨(TypeDesc.func #[9, 142] #[9] false), .nilFunc, 1, 8, []⟩),
  (142, ⟨(TypeDesc.pointer 138), .pointer none, 1, 8, []⟩),
  (143, ⟨(TypeDesc.func #[5, 9] #[4] false), .nilFunc, 1, 8, []⟩),
  (145, ⟨(TypeDesc.func #[9] #[21, 3] false), .nilFunc, 1, 8, []⟩),
  (146, ⟨(TypeDesc.func #[9, 9] #[3] false), .nilFunc, 1, 8, []⟩),
  (147, ⟨(TypeDesc.int IntKind.u64), .int .u64 0, 1, 8, []⟩),
  (149, ⟨(TypeDesc.func #[9, 3, 3] #[147, 130] false), .nilFunc, 1, 8, []⟩),
  (150, ⟨(TypeDesc.func #[9, 3] #[66] false), .nilFunc, 1, 8, []⟩),
  (151, ⟨(TypeDesc.pointer 5), .pointer none, 1, 8, []⟩),
  (152, ⟨(TypeDesc.array 24 5), .agg ⟨[.int .u8 0, .int .u8 0, .int .u8 0, .int .u8 0, .int .u8 0, .int .u8 0, .int .u8 0, .int .u8 0, .int .u8 0, .int .u8 0, .int .u8 0, .int .u8 0, .int .u8 0, .int .u8 0, .int .u8 0, .int .u8 0, .int .u8 0, .int .u8 0, .int .u8 0, .int .u8 0, .int .u8 0, .int .u8 0, .int .u8 0, .int .u8 0]⟩, 24, 24, []⟩),
  (153, ⟨(TypeDesc.func #[147] #[3] false), .nilFunc, 1, 8, []⟩),
  (154, ⟨(TypeDesc.func #[35, 147] #[] false), .nilFunc, 1, 8, []⟩),
  (156, ⟨(TypeDesc.func #[35, 147, 3, 4, 4] #[35, 9] false), .nilFunc, 1, 8, []⟩),
  (157, ⟨(TypeDesc.func #[9, 21] #[4] false), .nilFunc, 1, 8, []⟩),
  (158, ⟨(TypeDesc.func #[9, 9, 3, 3, 130] #[130] false), .nilFunc, 1, 8, []⟩),
  (159, ⟨(TypeDesc.func #[9] #[3] false), .nilFunc, 1, 8, []⟩),
  (160, ⟨TypeDesc.unsafePointer, .pointer none, 1, 8, []⟩),
  (161, ⟨(TypeDesc.func #[160] #[160] false), .nilFunc, 1, 8, []⟩),
  (162, ⟨(TypeDesc.func #[3] #[35] false), .nilFunc, 1, 8, []⟩),
  (163, ⟨(TypeDesc.func #[3] #[3] false), .nilFunc, 1, 8, []⟩),
  (164, ⟨(TypeDesc.func #[4] #[3] false), .nilFunc, 1, 8, []⟩),
  (165, ⟨(TypeDesc.array 20 147), .agg ⟨[.int .u64 0, .int .u64 0, .int .u64 0, .int .u64 0, .int .u64 0, .int .u64 0, .int .u64 0, .int .u64 0, .int .u64 0, .int .u64 0, .int .u64 0, .int .u64 0, .int .u64 0, .int .u64 0, .int .u64 0, .int .u64 0, .int .u64 0, .int .u64 0, .int .u64 0, .int .u64 0]⟩, 20, 160, []⟩),
  (166, ⟨(TypeDesc.int IntKind.u32), .int .u32 0, 1, 4, []⟩),
  (167, ⟨(TypeDesc.array 65 5), .agg ⟨List.replicate 65 (.int .u8 0)⟩, 65, 65, []⟩),
  (168, ⟨(TypeDesc.int IntKind.u64), .int .u64 0, 1, 8, []⟩),
  (169, ⟨(TypeDesc.func #[168] #[3] false), .nilFunc, 1, 8, []⟩),
  (170, ⟨(TypeDesc.func #[9, 21] #[3] false), .nilFunc, 1, 8, []⟩),
  (171, ⟨(TypeDesc.array 256 5), .agg ⟨List.replicate 256 (.int .u8 0)⟩, 256, 256, []⟩),
  (172, ⟨(TypeDesc.struct #[{ name := "lo", type := 5, offset := 0, embedded := false, tag := "", pkgPath := "unicode/utf8", byteOffset := 0 }, { name := "hi", type := 5, offset := 1, embedded := false, tag := "", pkgPath := "unicode/utf8", byteOffset := 1 }]), .agg ⟨[.int .u8 0, .int .u8 0]⟩, 2, 2, [(0, 1), (1, 1)]⟩),
  (173, ⟨(TypeDesc.struct #[{ name := "lo", type := 5, offset := 0, embedded := false, tag := "", pkgPath := "unicode/utf8", byteOffset := 0 }, { name := "hi", type := 5, offset := 1, embedded := false, tag := "", pkgPath := "unicode/utf8", byteOffset := 1 }]), .agg ⟨[.int .u8 0, .int .u8 0]⟩, 2, 2, [(0, 1), (1, 1)]⟩),
  (174, ⟨(TypeDesc.array 16 173), .agg ⟨[.int .u8 0, .int .u8 0, .int .u8 0, .int .u8 0, .int .u8 0, .int .u8 0, .int .u8 0, .int .u8 0, .int .u8 0, .int .u8 0, .int .u8 0, .int .u8 0, .int .u8 0, .int .u8 0, .int .u8 0, .int .u8 0, .int .u8 0, .int .u8 0, .int .u8 0, .int .u8 0, .int .u8 0, .int .u8 0, .int .u8 0, .int .u8 0, .int .u8 0, .int .u8 0, .int .u8 0, .int .u8 0, .int .u8 0, .int .u8 0, .int .u8 0, .int .u8 0]⟩, 32, 32, []⟩),
  (175, ⟨(TypeDesc.int IntKind.i64), .int .i64 0, 1, 8, []⟩),
  (176, ⟨(TypeDesc.func #[5] #[5] false), .nilFunc, 1, 8, []⟩),
  (177, ⟨(TypeDesc.pointer 185), .pointer none, 1, 8, []⟩),
  (178, ⟨(TypeDesc.func #[9, 9] #[177] false), .nilFunc, 1, 8, []⟩),
  (179, ⟨(TypeDesc.func #[9, 9, 3] #[177] false), .nilFunc, 1, 8, []⟩),
  (180, ⟨(TypeDesc.func #[166] #[3] false), .nilFunc, 1, 8, []⟩),
  (181, ⟨(TypeDesc.func #[21] #[4] false), .nilFunc, 1, 8, []⟩),
  (183, ⟨(TypeDesc.func #[9] #[166, 166] false), .nilFunc, 1, 8, []⟩),
  (184, ⟨(TypeDesc.struct #[{ name := "Func", type := 9, offset := 0, embedded := false, tag := "", pkgPath := "", byteOffset := 0 }, { name := "Num", type := 9, offset := 1, embedded := false, tag := "", pkgPath := "", byteOffset := 16 }, { name := "Err", type := 130, offset := 2, embedded := false, tag := "", pkgPath := "", byteOffset := 32 }]), .agg ⟨[str [], str [], .nilIface]⟩, 3, 48, [(0, 1), (1, 1), (2, 1)]⟩),
  (185, ⟨(TypeDesc.struct #[{ name := "Func", type := 9, offset := 0, embedded := false, tag := "", pkgPath := "", byteOffset := 0 }, { name := "Num", type := 9, offset := 1, embedded := false, tag := "", pkgPath := "", byteOffset := 16 }, { name := "Err", type := 130, offset := 2, embedded := false, tag := "", pkgPath := "", byteOffset := 32 }]), .agg ⟨[str [], str [], .nilIface]⟩, 3, 48, [(0, 1), (1, 1), (2, 1)]⟩),
  (186, ⟨(TypeDesc.func #[9] #[130] false), .nilFunc, 1, 8, []⟩),
  (187, ⟨(TypeDesc.array 32 5), .agg ⟨[.int .u8 0, .int .u8 0, .int .u8 0, .int .u8 0, .int .u8 0, .int .u8 0, .int .u8 0, .int .u8 0, .int .u8 0, .int .u8 0, .int .u8 0, .int .u8 0, .int .u8 0, .int .u8 0, .int .u8 0, .int .u8 0, .int .u8 0, .int .u8 0, .int .u8 0, .int .u8 0, .int .u8 0, .int .u8 0, .int .u8 0, .int .u8 0, .int .u8 0, .int .u8 0, .int .u8 0, .int .u8 0, .int .u8 0, .int .u8 0, .int .u8 0, .int .u8 0]⟩, 32, 32, []⟩),
  (188, ⟨(TypeDesc.array 64 5), .agg ⟨[.int .u8 0, .int .u8 0, .int .u8 0, .int .u8 0, .int .u8 0, .int .u8 0, .int .u8 0, .int .u8 0, .int .u8 0, .int .u8 0, .int .u8 0, .int .u8 0, .int .u8 0, .int .u8 0, .int .u8 0, .int .u8 0, .int .u8 0, .int .u8 0, .int .u8 0, .int .u8 0, .int .u8 0, .int .u8 0, .int .u8 0, .int .u8 0, .int .u8 0, .int .u8 0, .int .u8 0, .int .u8 0, .int .u8 0, .int .u8 0, .int .u8 0, .int .u8 0, .int .u8 0, .int .u8 0, .int .u8 0, .int .u8 0, .int .u8 0, .int .u8 0, .int .u8 0, .int .u8 0, .int .u8 0, .int .u8 0, .int .u8 0, .int .u8 0, .int .u8 0, .int .u8 0, .int .u8 0, .int .u8 0, .int .u8 0, .int .u8 0, .int .u8 0, .int .u8 0, .int .u8 0, .int .u8 0, .int .u8 0, .int .u8 0, .int .u8 0, .int .u8 0, .int .u8 0, .int .u8 0, .int .u8 0, .int .u8 0, .int .u8 0, .int .u8 0]⟩, 64, 64, []⟩),
  (189, ⟨(TypeDesc.pointer 191), .pointer none, 1, 8, []⟩),
  (190, ⟨(TypeDesc.struct #[{ name := "s", type := 9, offset := 0, embedded := false, tag := "", pkgPath := "errors", byteOffset := 0 }]), .agg ⟨[str []]⟩, 1, 16, [(0, 1)]⟩),
  (191, ⟨(TypeDesc.struct #[{ name := "s", type := 9, offset := 0, embedded := false, tag := "", pkgPath := "errors", byteOffset := 0 }]), .agg ⟨[str []]⟩, 1, 16, [(0, 1)]⟩),
  (192, ⟨(TypeDesc.struct #[{ name := "_interface", type := 17, offset := 0, embedded := false, tag := "", pkgPath := "runtime", byteOffset := 0 }, { name := "concrete", type := 17, offset := 1, embedded := false, tag := "", pkgPath := "runtime", byteOffset := 8 }, { name := "asserted", type := 17, offset := 2, embedded := false, tag := "", pkgPath := "runtime", byteOffset := 16 }, { name := "missingMethod", type := 9, offset := 3, embedded := false, tag := "", pkgPath := "runtime", byteOffset := 24 }]), .agg ⟨[.pointer none, .pointer none, .pointer none, str []]⟩, 4, 40, [(0, 1), (1, 1), (2, 1), (3, 1)]⟩),
  (193, ⟨(TypeDesc.struct #[{ name := "_interface", type := 17, offset := 0, embedded := false, tag := "", pkgPath := "runtime", byteOffset := 0 }, { name := "concrete", type := 17, offset := 1, embedded := false, tag := "", pkgPath := "runtime", byteOffset := 8 }, { name := "asserted", type := 17, offset := 2, embedded := false, tag := "", pkgPath := "runtime", byteOffset := 16 }, { name := "missingMethod", type := 9, offset := 3, embedded := false, tag := "", pkgPath := "runtime", byteOffset := 24 }]), .agg ⟨[.pointer none, .pointer none, .pointer none, str []]⟩, 4, 40, [(0, 1), (1, 1), (2, 1), (3, 1)]⟩),
  (194, ⟨(TypeDesc.array 0 16), .agg ⟨[]⟩, 0, 0, []⟩),
  (195, ⟨(TypeDesc.struct #[{ name := "_", type := 194, offset := 0, embedded := false, tag := "", pkgPath := "runtime", byteOffset := 0 }]), .agg ⟨[]⟩, 0, 0, [(0, 0)]⟩),
  (196, ⟨(TypeDesc.struct #[{ name := "_", type := 194, offset := 0, embedded := false, tag := "", pkgPath := "runtime", byteOffset := 0 }]), .agg ⟨[]⟩, 0, 0, [(0, 0)]⟩),
  (197, ⟨(TypeDesc.func #[] #[3] false), .nilFunc, 1, 8, []⟩),
  (198, ⟨(TypeDesc.int IntKind.u8), .int .u8 0, 1, 1, []⟩),
  (199, ⟨(TypeDesc.int IntKind.u8), .int .u8 0, 1, 1, []⟩),
  (200, ⟨(TypeDesc.func #[160, 160] #[4] false), .nilFunc, 1, 8, []⟩),
  (201, ⟨(TypeDesc.int IntKind.i32), .int .i32 0, 1, 4, []⟩),
  (202, ⟨(TypeDesc.int IntKind.i32), .int .i32 0, 1, 4, []⟩),
  (203, ⟨(TypeDesc.struct #[{ name := "Size_", type := 12, offset := 0, embedded := false, tag := "", pkgPath := "", byteOffset := 0 }, { name := "PtrBytes", type := 12, offset := 1, embedded := false, tag := "", pkgPath := "", byteOffset := 8 }, { name := "Hash", type := 166, offset := 2, embedded := false, tag := "", pkgPath := "", byteOffset := 16 }, { name := "TFlag", type := 198, offset := 3, embedded := false, tag := "", pkgPath := "", byteOffset := 20 }, { name := "Align_", type := 5, offset := 4, embedded := false, tag := "", pkgPath := "", byteOffset := 21 }, { name := "FieldAlign_", type := 5, offset := 5, embedded := false, tag := "", pkgPath := "", byteOffset := 22 }, { name := "Kind_", type := 199, offset := 6, embedded := false, tag := "", pkgPath := "", byteOffset := 23 }, { name := "Equal", type := 200, offset := 7, embedded := false, tag := "", pkgPath := "", byteOffset := 24 }, { name := "GCData", type := 151, offset := 8, embedded := false, tag := "", pkgPath := "", byteOffset := 32 }, { name := "Str", type := 201, offset := 9, embedded := false, tag := "", pkgPath := "", byteOffset := 40 }, { name := "PtrToThis", type := 202, offset := 10, embedded := false, tag := "", pkgPath := "", byteOffset := 44 }]), .agg ⟨[.int .u64 0, .int .u64 0, .int .u32 0, .int .u8 0, .int .u8 0, .int .u8 0, .int .u8 0, .nilFunc, .pointer none, .int .i32 0, .int .i32 0]⟩, 11, 48, [(0, 1), (1, 1), (2, 1), (3, 1), (4, 1), (5, 1), (6, 1), (7, 1), (8, 1), (9, 1), (10, 1)]⟩),
  (204, ⟨(TypeDesc.struct #[{ name := "Size_", type := 12, offset := 0, embedded := false, tag := "", pkgPath := "", byteOffset := 0 }, { name := "PtrBytes", type := 12, offset := 1, embedded := false, tag := "", pkgPath := "", byteOffset := 8 }, { name := "Hash", type := 166, offset := 2, embedded := false, tag := "", pkgPath := "", byteOffset := 16 }, { name := "TFlag", type := 198, offset := 3, embedded := false, tag := "", pkgPath := "", byteOffset := 20 }, { name := "Align_", type := 5, offset := 4, embedded := false, tag := "", pkgPath := "", byteOffset := 21 }, { name := "FieldAlign_", type := 5, offset := 5, embedded := false, tag := "", pkgPath := "", byteOffset := 22 }, { name := "Kind_", type := 199, offset := 6, embedded := false, tag := "", pkgPath := "", byteOffset := 23 }, { name := "Equal", type := 200, offset := 7, embedded := false, tag := "", pkgPath := "", byteOffset := 24 }, { name := "GCData", type := 151, offset := 8, embedded := false, tag := "", pkgPath := "", byteOffset := 32 }, { name := "Str", type := 201, offset := 9, embedded := false, tag := "", pkgPath := "", byteOffset := 40 }, { name := "PtrToThis", type := 202, offset := 10, embedded := false, tag := "", pkgPath := "", byteOffset := 44 }]), .agg ⟨[.int .u64 0, .int .u64 0, .int .u32 0, .int .u8 0, .int .u8 0, .int .u8 0, .int .u8 0, .nilFunc, .pointer none, .int .i32 0, .int .i32 0]⟩, 11, 48, [(0, 1), (1, 1), (2, 1), (3, 1), (4, 1), (5, 1), (6, 1), (7, 1), (8, 1), (9, 1), (10, 1)]⟩),
  (205, ⟨(TypeDesc.struct #[{ name := "Kind", type := 5, offset := 0, embedded := false, tag := "", pkgPath := "", byteOffset := 0 }, { name := "Text", type := 9, offset := 1, embedded := false, tag := "", pkgPath := "", byteOffset := 8 }, { name := "Many", type := 3, offset := 2, embedded := false, tag := "", pkgPath := "", byteOffset := 24 }, { name := "Flush", type := 4, offset := 3, embedded := false, tag := "", pkgPath := "", byteOffset := 32 }]), .agg ⟨[.int .u8 0, str [], .int .i64 0, .bool false]⟩, 4, 40, [(0, 1), (1, 1), (2, 1), (3, 1)]⟩),
  (206, ⟨(TypeDesc.struct #[{ name := "Kind", type := 5, offset := 0, embedded := false, tag := "", pkgPath := "", byteOffset := 0 }, { name := "Text", type := 9, offset := 1, embedded := false, tag := "", pkgPath := "", byteOffset := 8 }, { name := "Many", type := 3, offset := 2, embedded := false, tag := "", pkgPath := "", byteOffset := 24 }, { name := "Flush", type := 4, offset := 3, embedded := false, tag := "", pkgPath := "", byteOffset := 32 }]), .agg ⟨[.int .u8 0, str [], .int .i64 0, .bool false]⟩, 4, 40, [(0, 1), (1, 1), (2, 1), (3, 1)]⟩)]
set_option maxRecDepth 100000 in
theorem tys_ok : TOk Tryd.prog tys :=
  TOk.cons ⟨Tryd.underlying1, by kernel_rfl, trivial⟩
  (TOk.cons ⟨Tryd.underlying2, by kernel_rfl, trivial⟩
  (TOk.cons ⟨Tryd.underlying3, by kernel_rfl, trivial⟩
  (TOk.cons ⟨Tryd.underlying4, by kernel_rfl, trivial⟩
  (TOk.cons ⟨Tryd.underlying5, by kernel_rfl, trivial⟩
  (TOk.cons ⟨Tryd.underlying6, by kernel_rfl, trivial⟩
  (TOk.cons ⟨Tryd.underlying7, by kernel_rfl, by show (_ : List (Nat × Option Nat)) = _; kernel_rfl⟩
  (TOk.cons ⟨Tryd.underlying8, by kernel_rfl, by show (_ : List (Nat × Option Nat)) = _; kernel_rfl⟩
  (TOk.cons ⟨Tryd.underlying9, by kernel_rfl, trivial⟩
  (TOk.cons ⟨Tryd.underlying10, by kernel_rfl, trivial⟩
  (TOk.cons ⟨Tryd.underlying11, by kernel_rfl, trivial⟩
  (TOk.cons ⟨Tryd.underlying12, by kernel_rfl, trivial⟩
  (TOk.cons ⟨Tryd.underlying13, by kernel_rfl, by show (_ : List (Nat × Option Nat)) = _; kernel_rfl⟩
  (TOk.cons ⟨Tryd.underlying14, by kernel_rfl, by show (_ : List (Nat × Option Nat)) = _; kernel_rfl⟩
  (TOk.cons ⟨Tryd.underlying15, by kernel_rfl, trivial⟩
  (TOk.cons ⟨Tryd.underlying16, by kernel_rfl, trivial⟩
  (TOk.cons ⟨Tryd.underlying17, by kernel_rfl, trivial⟩
  (TOk.cons ⟨Tryd.underlying18, by kernel_rfl, by show (_ : List (Nat × Option Nat)) = _; kernel_rfl⟩
  (TOk.cons ⟨Tryd.underlying19, by kernel_rfl, by show (_ : List (Nat × Option Nat)) = _; kernel_rfl⟩
  (TOk.cons ⟨Tryd.underlying20, by kernel_rfl, trivial⟩
  (TOk.cons ⟨Tryd.underlying21, by kernel_rfl, trivial⟩
  (TOk.cons ⟨Tryd.underlying22, by kernel_rfl, trivial⟩
  (TOk.cons ⟨Tryd.underlying23, by kernel_rfl, trivial⟩
  (TOk.cons ⟨Tryd.underlying24, by kernel_rfl, by show (_ : List (Nat × Option Nat)) = _; kernel_rfl⟩
  (TOk.cons ⟨Tryd.underlying25, by kernel_rfl, by show (_ : List (Nat × Option Nat)) = _; kernel_rfl⟩
  (TOk.cons ⟨Tryd.underlying26, by kernel_rfl, trivial⟩
  (TOk.cons ⟨Tryd.underlying27, by kernel_rfl, trivial⟩
  (TOk.cons ⟨Tryd.underlying29, by kernel_rfl, trivial⟩
  (TOk.cons ⟨Tryd.underlying31, by kernel_rfl, trivial⟩
  (TOk.cons ⟨Tryd.underlying32, by kernel_rfl, trivial⟩
  (TOk.cons ⟨Tryd.underlying33, by kernel_rfl, trivial⟩
  (TOk.cons ⟨Tryd.underlying34, by kernel_rfl, trivial⟩
  (TOk.cons ⟨Tryd.underlying35, by kernel_rfl, trivial⟩
  (TOk.cons ⟨Tryd.underlying36, by kernel_rfl, by show (_ : List (Nat × Option Nat)) = _; kernel_rfl⟩
  (TOk.cons ⟨Tryd.underlying37, by kernel_rfl, by show (_ : List (Nat × Option Nat)) = _; kernel_rfl⟩
  (TOk.cons ⟨Tryd.underlying38, by kernel_rfl, trivial⟩
  (TOk.cons ⟨Tryd.underlying39, by kernel_rfl, trivial⟩
  (TOk.cons ⟨Tryd.underlying40, by kernel_rfl, trivial⟩
  (TOk.cons ⟨Tryd.underlying41, by kernel_rfl, trivial⟩
  (TOk.cons ⟨Tryd.underlying42, by kernel_rfl, trivial⟩
  (TOk.cons ⟨Tryd.underlying43, by kernel_rfl, by show (_ : List (Nat × Option Nat)) = _; kernel_rfl⟩
  (TOk.cons ⟨Tryd.underlying44, by kernel_rfl, by show (_ : List (Nat × Option Nat)) = _; kernel_rfl⟩
  (TOk.cons ⟨Tryd.underlying46, by kernel_rfl, trivial⟩
  (TOk.cons ⟨Tryd.underlying47, by kernel_rfl, trivial⟩
  (TOk.cons ⟨Tryd.underlying48, by kernel_rfl, trivial⟩
  (TOk.cons ⟨Tryd.underlying49, by kernel_rfl, trivial⟩
  (TOk.cons ⟨Tryd.underlying50, by kernel_rfl, trivial⟩
  (TOk.cons ⟨Tryd.underlying51, by kernel_rfl, trivial⟩
  (TOk.cons ⟨Tryd.underlying52, by kernel_rfl, trivial⟩
  (TOk.cons ⟨Tryd.underlying53, by kernel_rfl, by show (_ : List (Nat × Option Nat)) = _; kernel_rfl⟩
  (TOk.cons ⟨Tryd.underlying54, by kernel_rfl, by show (_ : List (Nat × Option Nat)) = _; kernel_rfl⟩
  (TOk.cons ⟨Tryd.underlying55, by kernel_rfl, trivial⟩
  (TOk.cons ⟨Tryd.underlying56, by kernel_rfl, trivial⟩
  (TOk.cons ⟨Tryd.underlying57, by kernel_rfl, trivial⟩
  (TOk.cons ⟨Tryd.underlying58, by kernel_rfl, trivial⟩
  (TOk.cons ⟨Tryd.underlying59, by kernel_rfl, trivial⟩
  (TOk.cons ⟨Tryd.underlying60, by kernel_rfl, trivial⟩
  (TOk.cons ⟨Tryd.underlying61, by kernel_rfl, trivial⟩
  (TOk.cons ⟨Tryd.underlying62, by kernel_rfl, by show (_ : List (Nat × Option Nat)) = _; kernel_rfl⟩
  (TOk.cons ⟨Tryd.underlying63, by kernel_rfl, by show (_ : List (Nat × Option Nat)) = _; kernel_rfl⟩
  (TOk.cons ⟨Tryd.underlying64, by kernel_rfl, trivial⟩
  (TOk.cons ⟨Tryd.underlying65, by kernel_rfl, trivial⟩
  (TOk.cons ⟨Tryd.underlying66, by kernel_rfl, trivial⟩
  (TOk.cons ⟨Tryd.underlying67, by kernel_rfl, trivial⟩
  (TOk.cons ⟨Tryd.underlying68, by kernel_rfl, trivial⟩
  (TOk.cons ⟨Tryd.underlying69, by kernel_rfl, trivial⟩
  (TOk.cons ⟨Tryd.underlying71, by kernel_rfl, trivial⟩
  (TOk.cons ⟨Tryd.underlying73, by kernel_rfl, trivial⟩
  (TOk.cons ⟨Tryd.underlying74, by kernel_rfl, trivial⟩
  (TOk.cons ⟨Tryd.underlying75, by kernel_rfl, trivial⟩
  (TOk.cons ⟨Tryd.underlying76, by kernel_rfl, trivial⟩
  (TOk.cons ⟨Tryd.underlying77, by kernel_rfl, by show (_ : List (Nat × Option Nat)) = _; kernel_rfl⟩
  (TOk.cons ⟨Tryd.underlying78, by kernel_rfl, by show (_ : List (Nat × Option Nat)) = _; kernel_rfl⟩
  (TOk.cons ⟨Tryd.underlying80, by kernel_rfl, trivial⟩
  (TOk.cons ⟨Tryd.underlying81, by kernel_rfl, trivial⟩
  (TOk.cons ⟨Tryd.underlying83, by kernel_rfl, trivial⟩
  (TOk.cons ⟨Tryd.underlying84, by kernel_rfl, trivial⟩
  (TOk.cons ⟨Tryd.underlying85, by kernel_rfl, trivial⟩
  (TOk.cons ⟨Tryd.underlying86, by kernel_rfl, trivial⟩
  (TOk.cons ⟨Tryd.underlying88, by kernel_rfl, trivial⟩
  (TOk.cons ⟨Tryd.underlying89, by kernel_rfl, trivial⟩
  (TOk.cons ⟨Tryd.underlying90, by kernel_rfl, trivial⟩
  (TOk.cons ⟨Tryd.underlying91, by kernel_rfl, trivial⟩
  (TOk.cons ⟨Tryd.underlying92, by kernel_rfl, trivial⟩
  (TOk.cons ⟨Tryd.underlying94, by kernel_rfl, trivial⟩
  (TOk.cons ⟨Tryd.underlying95, by kernel_rfl, trivial⟩
  (TOk.cons ⟨Tryd.underlying96, by kernel_rfl, trivial⟩
  (TOk.cons ⟨Tryd.underlying97, by kernel_rfl, trivial⟩
  (TOk.cons ⟨Tryd.underlying98, by kernel_rfl, trivial⟩
  (TOk.cons ⟨Tryd.underlying99, by kernel_rfl, trivial⟩
  (TOk.cons ⟨Tryd.underlying100, by kernel_rfl, trivial⟩
  (TOk.cons ⟨Tryd.underlying101, by kernel_rfl, trivial⟩
  (TOk.cons ⟨Tryd.underlying102, by kernel_rfl, trivial⟩
  (TOk.cons ⟨Tryd.underlying103, by kernel_rfl, trivial⟩
  (TOk.cons ⟨Tryd.underlying104, by kernel_rfl, trivial⟩
  (TOk.cons ⟨Tryd.underlying105, by kernel_rfl, trivial⟩
  (TOk.cons ⟨Tryd.underlying106, by kernel_rfl, trivial⟩
  (TOk.cons ⟨Tryd.underlying107, by kernel_rfl, by show (_ : List (Nat × Option Nat)) = _; kernel_rfl⟩
  (TOk.cons ⟨Tryd.underlying108, by kernel_rfl, by show (_ : List (Nat × Option Nat)) = _; kernel_rfl⟩
  (TOk.cons ⟨Tryd.underlying109, by kernel_rfl, trivial⟩
  (TOk.cons ⟨Tryd.underlying110, by kernel_rfl, trivial⟩
  (TOk.cons ⟨Tryd.underlying111, by kernel_rfl, trivial⟩
  (TOk.cons ⟨Tryd.underlying112, by kernel_rfl, trivial⟩
  (TOk.cons ⟨Tryd.underlying113, by kernel_rfl, trivial⟩
  (TOk.cons ⟨Tryd.underlying114, by kernel_rfl, trivial⟩
  (TOk.cons ⟨Tryd.underlying115, by kernel_rfl, trivial⟩
  (TOk.cons ⟨Tryd.underlying116, by kernel_rfl, trivial⟩
  (TOk.cons ⟨Tryd.underlying117, by kernel_rfl, trivial⟩
  (TOk.cons ⟨Tryd.underlying118, by kernel_rfl, trivial⟩
  (TOk.cons ⟨Tryd.underlying119, by kernel_rfl, trivial⟩
  (TOk.cons ⟨Tryd.underlying120, by kernel_rfl, trivial⟩
  (TOk.cons ⟨Tryd.underlying121, by kernel_rfl, trivial⟩
  (TOk.cons ⟨Tryd.underlying123, by kernel_rfl, trivial⟩
  (TOk.cons ⟨Tryd.underlying124, by kernel_rfl, trivial⟩
  (TOk.cons ⟨Tryd.underlying125, by kernel_rfl, trivial⟩
  (TOk.cons ⟨Tryd.underlying126, by kernel_rfl, by show (_ : List (Nat × Option Nat)) = _; kernel_rfl⟩
  (TOk.cons ⟨Tryd.underlying127, by kernel_rfl, by show (_ : List (Nat × Option Nat)) = _; kernel_rfl⟩
  (TOk.cons ⟨Tryd.underlying128, by kernel_rfl, trivial⟩
  (TOk.cons ⟨Tryd.underlying129, by kernel_rfl, trivial⟩
  (TOk.cons ⟨Tryd.underlying130, by kernel_rfl, trivial⟩
  (TOk.cons ⟨Tryd.underlying132, by kernel_rfl, trivial⟩
  (TOk.cons ⟨Tryd.underlying133, by kernel_rfl, trivial⟩
  (TOk.cons ⟨Tryd.underlying134, by kernel_rfl, trivial⟩
  (TOk.cons ⟨Tryd.underlying135, by kernel_rfl, trivial⟩
  (TOk.cons ⟨Tryd.underlying136, by kernel_rfl, trivial⟩
  (TOk.cons ⟨Tryd.underlying137, by kernel_rfl, trivial⟩
  (TOk.cons ⟨Tryd.underlying138, by kernel_rfl, trivial⟩
  (TOk.cons ⟨Tryd.underlying140, by kernel_rfl, trivial⟩
  (TOk.cons ⟨Tryd.underlying141, by kernel_rfl, trivial⟩
  (TOk.cons ⟨Tryd.underlying142, by kernel_rfl, trivial⟩
  (TOk.cons ⟨Tryd.underlying143, by kernel_rfl, trivial⟩
  (TOk.cons ⟨Tryd.underlying145, by kernel_rfl, trivial⟩
  (TOk.cons ⟨Tryd.underlying146, by kernel_rfl, trivial⟩
  (TOk.cons ⟨Tryd.underlying147, by kernel_rfl, trivial⟩
  (TOk.cons ⟨Tryd.underlying149, by kernel_rfl, trivial⟩
  (TOk.cons ⟨Tryd.underlying150, by kernel_rfl, trivial⟩
  (TOk.cons ⟨Tryd.underlying151, by kernel_rfl, trivial⟩
  (TOk.cons ⟨Tryd.underlying152, by kernel_rfl, trivial⟩
  (TOk.cons ⟨Tryd.underlying153, by kernel_rfl, trivial⟩
  (TOk.cons ⟨Tryd.underlying154, by kernel_rfl, trivial⟩
  (TOk.cons ⟨Tryd.underlying156, by kernel_rfl, trivial⟩
  (TOk.cons ⟨Tryd.underlying157, by kernel_rfl, trivial⟩
  (TOk.cons ⟨Tryd.underlying158, by kernel_rfl, trivial⟩
  (TOk.cons ⟨Tryd.underlying159, by kernel_rfl, trivial⟩
  (TOk.cons ⟨Tryd.underlying160, by kernel_rfl, trivial⟩
  (TOk.cons ⟨Tryd.underlying161, by kernel_rfl, trivial⟩
  (TOk.cons ⟨Tryd.underlying162, by kernel_rfl, trivial⟩
  (TOk.cons ⟨Tryd.underlying163, by kernel_rfl, trivial⟩
  (TOk.cons ⟨Tryd.underlying164, by kernel_rfl, trivial⟩
  (TOk.cons ⟨Tryd.underlying165, by kernel_rfl, trivial⟩
  (TOk.cons ⟨Tryd.underlying166, by kernel_rfl, trivial⟩
  (TOk.cons ⟨Tryd.underlying167, by kernel_rfl, trivial⟩
  (TOk.cons ⟨Tryd.underlying168, by kernel_rfl, trivial⟩
  (TOk.cons ⟨Tryd.underlying169, by kernel_rfl, trivial⟩
  (TOk.cons ⟨Tryd.underlying170, by kernel_rfl, trivial⟩
  (TOk.cons ⟨Tryd.underlying171, by kernel_rfl, trivial⟩
  (TOk.cons ⟨Tryd.underlying172, by kernel_rfl, by show (_ : List (Nat × Option Nat)) = _; kernel_rfl⟩
  (TOk.cons ⟨Tryd.underlying173, by kernel_rfl, by show (_ : List (Nat × Option Nat)) = _; kernel_rfl⟩
  (TOk.cons ⟨Tryd.underlying174, by kernel_rfl, trivial⟩
  (TOk.cons ⟨Tryd.underlying175, by kernel_rfl, trivial⟩
  (TOk.cons ⟨Tryd.underlying176, by kernel_rfl, trivial⟩
  (TOk.cons ⟨Tryd.underlying177, by kernel_rfl, trivial⟩
  (TOk.cons ⟨Tryd.underlying178, by kernel_rfl, trivial⟩
  (TOk.cons ⟨Tryd.underlying179, by kernel_rfl, trivial⟩
  (TOk.cons ⟨Tryd.underlying180, by kernel_rfl, trivial⟩
  (TOk.cons ⟨Tryd.underlying181, by kernel_rfl, trivial⟩
  (TOk.cons ⟨Tryd.underlying183, by kernel_rfl, trivial⟩
  (TOk.cons ⟨Tryd.underlying184, by kernel_rfl, by show (_ : List (Nat × Option Nat)) = _; kernel_rfl⟩
  (TOk.cons ⟨Tryd.underlying185, by kernel_rfl, by show (_ : List (Nat × Option Nat)) = _; kernel_rfl⟩
  (TOk.cons ⟨Tryd.underlying186, by kernel_rfl, trivial⟩
  (TOk.cons ⟨Tryd.underlying187, by kernel_rfl, trivial⟩
  (TOk.cons ⟨Tryd.underlying188, by kernel_rfl, trivial⟩
  (TOk.cons ⟨Tryd.underlying189, by kernel_rfl, trivial⟩
  (TOk.cons ⟨Tryd.underlying190, by kernel_rfl, by show (_ : List (Nat × Option Nat)) = _; kernel_rfl⟩
  (TOk.cons ⟨Tryd.underlying191, by kernel_rfl, by show (_ : List (Nat × Option Nat)) = _; kernel_rfl⟩
  (TOk.cons ⟨Tryd.underlying192, by kernel_rfl, by show (_ : List (Nat × Option Nat)) = _; kernel_rfl⟩
  (TOk.cons ⟨Tryd.underlying193, by kernel_rfl, by show (_ : List (Nat × Option Nat)) = _; kernel_rfl⟩
  (TOk.cons ⟨Tryd.underlying194, by kernel_rfl, trivial⟩
  (TOk.cons ⟨Tryd.underlying195, by kernel_rfl, by show (_ : List (Nat × Option Nat)) = _; kernel_rfl⟩
  (TOk.cons ⟨Tryd.underlying196, by kernel_rfl, by show (_ : List (Nat × Option Nat)) = _; kernel_rfl⟩
  (TOk.cons ⟨Tryd.underlying197, by kernel_rfl, trivial⟩
  (TOk.cons ⟨Tryd.underlying198, by kernel_rfl, trivial⟩
  (TOk.cons ⟨Tryd.underlying199, by kernel_rfl, trivial⟩
  (TOk.cons ⟨Tryd.underlying200, by kernel_rfl, trivial⟩
  (TOk.cons ⟨Tryd.underlying201, by kernel_rfl, trivial⟩
  (TOk.cons ⟨Tryd.underlying202, by kernel_rfl, trivial⟩
  (TOk.cons ⟨Tryd.underlying203, by kernel_rfl, by show (_ : List (Nat × Option Nat)) = _; kernel_rfl⟩
  (TOk.cons ⟨Tryd.underlying204, by kernel_rfl, by show (_ : List (Nat × Option Nat)) = _; kernel_rfl⟩
  (TOk.cons ⟨Tryd.underlying205, by kernel_rfl, by show (_ : List (Nat × Option Nat)) = _; kernel_rfl⟩
  (TOk.cons ⟨Tryd.underlying206, by kernel_rfl, by show (_ : List (Nat × Option Nat)) = _; kernel_rfl⟩
  (TOk.nil _))))))))))))))))))))))))))))))))))))))))))))))))))))))))))))))))))))))))))))))))))))))))))))))))))))))))))))))))))))))))))))))))))))))))))))))))))))))))))))))))))))))))))))))))))))))))))))))
theorem mixed : Tryd.prog.follows .mixedOrders = true := by kernel_rfl
end Go.Proofs.YtnnpnkmdhfjccaaDoor.Vex
/- The library's contracts, laid at this seat's dump by the kit's tools lay-shelf and lay-plain: each holds for whatever its own premises allow. -/
/-
  DERIVED: THE SHELF's CONTRACTS AT THIS DUMP, IN PLAIN WORDS (tools/lay-plain.mjs out of 'TrydShelf.lean', which tools/lay-shelf.mjs wrote): THE SAME DECLARATIONS UNDER THE SAME NAMES: 'import', 'namespace', 'open', 'def', 'theorem' AND NOTHING ELSE: no command of the shelf's: FOR A HAND-IN. Each laying: the table of numbers ('.._ren') and one theorem, a field a fact of the dump's own or the kernel's comparison; each contract: ONE APPLICATION.
-/
namespace Go.Proofs
open Go.Shelf
def Tryd.lays169_ren : Go.Shelf.Ren := ⟨fun | 169 => 90 | n => n, fun | 70 => 125 | 9 => 9 | 0 => 0 | 72 => 127 | 37 => 35 | 127 => 151 | 3 => 3 | 5 => 5 | n => n, fun | n => n⟩
theorem Tryd.lays169 : Go.Proofs.Lays.n169 Tryd.prog Tryd.lays169_ren := {
  mixed := by kernel_rfl
  f169 := Tryd.func90.trans (congrArg some (by kernel_rfl))
  t0 := Tryd.underlying0
  a0 := Tryd.isAgg0
  z0 := Tryd.sizeOf0
  v0 := Tryd.zeroValue0
  t3 := Tryd.underlying3
  a3 := Tryd.isAgg3
  z3 := Tryd.sizeOf3
  v3 := Tryd.zeroValue3
  t9 := Tryd.underlying9
  a9 := Tryd.isAgg9
  z9 := Tryd.sizeOf9
  v9 := Tryd.zeroValue9
  t37 := Tryd.underlying35
  a37 := Tryd.isAgg35
  z37 := Tryd.sizeOf35
  v37 := Tryd.zeroValue35
  t70 := Tryd.underlying125
  a70 := Tryd.isAgg125
  z70 := Tryd.sizeOf125
  v70 := Tryd.zeroValue125
  t72 := Tryd.underlying127
  a72 := Tryd.isAgg127
  z72 := Tryd.sizeOf127
  v72 := Tryd.zeroValue127
  t127 := Tryd.underlying151
  a127 := Tryd.isAgg151
  z127 := Tryd.sizeOf151
  v127 := Tryd.zeroValue151 }
theorem Tryd.Builder_Extra_169 : Builder.Extra Tryd.prog Tryd.lays169_ren := {
  sizeBuilder := by kernel_rfl
  liesBuilder := by kernel_rfl
  t5 := Tryd.underlying5
  a5 := Tryd.isAgg5
  z5 := Tryd.sizeOf5
  v5 := Tryd.zeroValue5
  infoByte := by kernel_rfl
  cellsByte := by kernel_rfl
  sizeByte := by kernel_rfl
  neB5 := by decide }
open Go.RowKit in
/-- (*strings.Builder).String: "String returns the accumulated string.": OF A BUILDER THAT HOLDS AT LEAST ONE BYTE. ✋ THE MODEL FREEZES THOSE BYTES IN THE BUFFER (unsafe.String): a later write INTO them ends the model's run without an answer; a later append BEHIND them goes on. The statement's order of evaluation is drawn: one draw. (LAID: no walk: one application.) -/
theorem Tryd.Builder_String (B b : Nat) (l : List UInt8) (w : World) (h : Lib.IsBuilder 127 5 B b (Lib.byteCells l) w) (h0 : l ≠ []) :
    Calls Tryd.prog 90 #[.pointer (some ⟨b, 0, none⟩)] w fun e w' => e = .returned (.string ⟨l.toArray⟩) ∧ Below B w w' := Any.Builder_String Tryd.lays169 Tryd.Builder_Extra_169 B b l w h h0
open Go.RowKit in
/-- (*strings.Builder).String OF A BUILDER THAT HOLDS NO BYTE: the empty string. (Its buffer is nil, or a row of which it has taken nothing yet; where that row has NO capacity the model lays one new block for unsafe.SliceData's 'some address'.) One draw. (LAID: no walk: one application.) -/
theorem Tryd.Builder_String_empty (B b : Nat) (w : World) (h : Lib.IsBuilder 127 5 B b [] w) (hBw : B ≤ w.heap.size) :
    Calls Tryd.prog 90 #[.pointer (some ⟨b, 0, none⟩)] w fun e w' => e = .returned (.string ⟨#[]⟩) ∧ Below B w w' := Any.Builder_String_empty Tryd.lays169 Tryd.Builder_Extra_169 B b w h hBw
open Go.RowKit in
/-- (*strings.Builder).String: "String returns the accumulated string.": WHATEVER THE BUILDER HOLDS. (LAID: no walk: one application.) -/
theorem Tryd.Builder_String_any (B b : Nat) (l : List UInt8) (w : World) (h : Lib.IsBuilder 127 5 B b (Lib.byteCells l) w) (hBw : B ≤ w.heap.size) :
    Calls Tryd.prog 90 #[.pointer (some ⟨b, 0, none⟩)] w fun e w' => e = .returned (.string ⟨l.toArray⟩) ∧ Below B w w' := Any.Builder_String_any Tryd.lays169 Tryd.Builder_Extra_169 B b l w h hBw
def Tryd.lays241_ren : Go.Shelf.Ren := ⟨fun | 241 => 113 | 277 => 129 | n => n, fun | 70 => 125 | 3 => 3 | 0 => 0 | 72 => 127 | 37 => 35 | 5 => 5 | n => n, fun | n => n⟩
theorem Tryd.lays241 : Go.Proofs.Lays.n241 Tryd.prog Tryd.lays241_ren := {
  mixed := by kernel_rfl
  f241 := Tryd.func113.trans (congrArg some (by kernel_rfl))
  f277 := Tryd.func129.trans (congrArg some (by kernel_rfl))
  t0 := Tryd.underlying0
  a0 := Tryd.isAgg0
  z0 := Tryd.sizeOf0
  v0 := Tryd.zeroValue0
  t3 := Tryd.underlying3
  a3 := Tryd.isAgg3
  z3 := Tryd.sizeOf3
  v3 := Tryd.zeroValue3
  t37 := Tryd.underlying35
  a37 := Tryd.isAgg35
  z37 := Tryd.sizeOf35
  v37 := Tryd.zeroValue35
  t70 := Tryd.underlying125
  a70 := Tryd.isAgg125
  z70 := Tryd.sizeOf125
  v70 := Tryd.zeroValue125
  t72 := Tryd.underlying127
  a72 := Tryd.isAgg127
  z72 := Tryd.sizeOf127
  v72 := Tryd.zeroValue127 }
theorem Tryd.Builder_Extra_241 : Builder.Extra Tryd.prog Tryd.lays241_ren := {
  sizeBuilder := by kernel_rfl
  liesBuilder := by kernel_rfl
  t5 := Tryd.underlying5
  a5 := Tryd.isAgg5
  z5 := Tryd.sizeOf5
  v5 := Tryd.zeroValue5
  infoByte := by kernel_rfl
  cellsByte := by kernel_rfl
  sizeByte := by kernel_rfl
  neB5 := by decide }
open Go.RowKit in
/-- (*strings.Builder).grow (no doc but "grow copies the buffer to a new, larger buffer so that there are at least n bytes of capacity beyond len(b.buf)."): AT A BUILDER WITHOUT A BUFFER: a new row of whatever bytes for its buffer, none of them its own yet. Three draws. (LAID: no walk: one application.) -/
theorem Tryd.Builder_grow_fresh (B b n : Nat) (w : World) (hB : B ≤ b) (hbk : w.heap[b]? = some (.cells #[.pointer (some ⟨b, 0, none⟩), .slice none 0 0] 127 (0, 0))) (hBw : B ≤ w.heap.size) (hn : n ≤ 281474976710656) :
    Calls Tryd.prog 113 #[.pointer (some ⟨b, 0, none⟩), .int .i64 n] w fun e w' => e = .returned (.tuple #[]) ∧ (Lib.BuilderAt 127 5 B b (.pointer (some ⟨b, 0, none⟩)) [] w' ∧ Below B w w') := Any.Builder_grow_fresh Tryd.lays241 Tryd.Builder_Extra_241 B b n w hB hbk hBw hn
def Tryd.lays165_ren : Go.Shelf.Ren := ⟨fun | 165 => 88 | 240 => 112 | 241 => 113 | 276 => 128 | 277 => 129 | n => n, fun | 70 => 125 | 3 => 3 | 0 => 0 | 4 => 4 | 9 => 9 | 20 => 20 | 72 => 127 | 37 => 35 | 164 => 160 | 5 => 5 | n => n, fun | n => n⟩
theorem Tryd.lays165 : Go.Proofs.Lays.n165 Tryd.prog Tryd.lays165_ren := {
  mixed := by kernel_rfl
  f165 := Tryd.func88.trans (congrArg some (by kernel_rfl))
  f240 := Tryd.func112.trans (congrArg some (by kernel_rfl))
  f241 := Tryd.func113.trans (congrArg some (by kernel_rfl))
  f276 := Tryd.func128.trans (congrArg some (by kernel_rfl))
  f277 := Tryd.func129.trans (congrArg some (by kernel_rfl))
  t0 := Tryd.underlying0
  a0 := Tryd.isAgg0
  z0 := Tryd.sizeOf0
  v0 := Tryd.zeroValue0
  t3 := Tryd.underlying3
  a3 := Tryd.isAgg3
  z3 := Tryd.sizeOf3
  v3 := Tryd.zeroValue3
  t4 := Tryd.underlying4
  a4 := Tryd.isAgg4
  z4 := Tryd.sizeOf4
  v4 := Tryd.zeroValue4
  t9 := Tryd.underlying9
  a9 := Tryd.isAgg9
  z9 := Tryd.sizeOf9
  v9 := Tryd.zeroValue9
  t20 := Tryd.underlying20
  a20 := Tryd.isAgg20
  z20 := Tryd.sizeOf20
  v20 := Tryd.zeroValue20
  t37 := Tryd.underlying35
  a37 := Tryd.isAgg35
  z37 := Tryd.sizeOf35
  v37 := Tryd.zeroValue35
  t70 := Tryd.underlying125
  a70 := Tryd.isAgg125
  z70 := Tryd.sizeOf125
  v70 := Tryd.zeroValue125
  t72 := Tryd.underlying127
  a72 := Tryd.isAgg127
  z72 := Tryd.sizeOf127
  v72 := Tryd.zeroValue127
  t164 := Tryd.underlying160
  a164 := Tryd.isAgg160
  z164 := Tryd.sizeOf160
  v164 := Tryd.zeroValue160 }
theorem Tryd.Builder_Extra_165 : Builder.Extra Tryd.prog Tryd.lays165_ren := {
  sizeBuilder := by kernel_rfl
  liesBuilder := by kernel_rfl
  t5 := Tryd.underlying5
  a5 := Tryd.isAgg5
  z5 := Tryd.sizeOf5
  v5 := Tryd.zeroValue5
  infoByte := by kernel_rfl
  cellsByte := by kernel_rfl
  sizeByte := by kernel_rfl
  neB5 := by decide }
open Go.RowKit in
/-- (*strings.Builder).Grow AT A BUILDER THAT HAS NOT BEEN WRITTEN ('var b strings.Builder; b.Grow(n)'): "Grow grows b's capacity, if necessary, to guarantee space for another n bytes.": it holds no byte behind it as before it. (LAID: no walk: one application.) -/
theorem Tryd.Builder_Grow_fresh (B b n : Nat) (w : World) (hB : B ≤ b) (hbk : w.heap[b]? = some (.cells #[.pointer none, .slice none 0 0] 127 (0, 0))) (hBw : B ≤ w.heap.size) (hn : n ≤ 281474976710656) :
    Calls Tryd.prog 88 #[.pointer (some ⟨b, 0, none⟩), .int .i64 n] w fun e w' => e = .returned (.tuple #[]) ∧ (Lib.BuilderAt 127 5 B b (.pointer (some ⟨b, 0, none⟩)) [] w' ∧ Below B w w') := Any.Builder_Grow_fresh Tryd.lays165 Tryd.Builder_Extra_165 B b n w hB hbk hBw hn
def Tryd.lays156_ren : Go.Shelf.Ren := ⟨fun | 156 => 63 | 165 => 88 | 166 => 89 | 169 => 90 | 240 => 112 | 241 => 113 | 276 => 128 | 277 => 129 | n => n, fun | 31 => 66 | 9 => 9 | 3 => 3 | 4 => 4 | 0 => 0 | 20 => 20 | 72 => 127 | 76 => 131 | 70 => 125 | 37 => 35 | 75 => 130 | 127 => 151 | 164 => 160 | 5 => 5 | 80 => 133 | n => n, fun | n => n⟩
theorem Tryd.lays156 : Go.Proofs.Lays.n156 Tryd.prog Tryd.lays156_ren := {
  mixed := by kernel_rfl
  f156 := Tryd.func63.trans (congrArg some (by kernel_rfl))
  f165 := Tryd.func88.trans (congrArg some (by kernel_rfl))
  f166 := Tryd.func89.trans (congrArg some (by kernel_rfl))
  f169 := Tryd.func90.trans (congrArg some (by kernel_rfl))
  f240 := Tryd.func112.trans (congrArg some (by kernel_rfl))
  f241 := Tryd.func113.trans (congrArg some (by kernel_rfl))
  f276 := Tryd.func128.trans (congrArg some (by kernel_rfl))
  f277 := Tryd.func129.trans (congrArg some (by kernel_rfl))
  t0 := Tryd.underlying0
  a0 := Tryd.isAgg0
  z0 := Tryd.sizeOf0
  v0 := Tryd.zeroValue0
  t3 := Tryd.underlying3
  a3 := Tryd.isAgg3
  z3 := Tryd.sizeOf3
  v3 := Tryd.zeroValue3
  t4 := Tryd.underlying4
  a4 := Tryd.isAgg4
  z4 := Tryd.sizeOf4
  v4 := Tryd.zeroValue4
  t9 := Tryd.underlying9
  a9 := Tryd.isAgg9
  z9 := Tryd.sizeOf9
  v9 := Tryd.zeroValue9
  t20 := Tryd.underlying20
  a20 := Tryd.isAgg20
  z20 := Tryd.sizeOf20
  v20 := Tryd.zeroValue20
  t31 := Tryd.underlying66
  a31 := Tryd.isAgg66
  z31 := Tryd.sizeOf66
  v31 := Tryd.zeroValue66
  t37 := Tryd.underlying35
  a37 := Tryd.isAgg35
  z37 := Tryd.sizeOf35
  v37 := Tryd.zeroValue35
  t70 := Tryd.underlying125
  a70 := Tryd.isAgg125
  z70 := Tryd.sizeOf125
  v70 := Tryd.zeroValue125
  t72 := Tryd.underlying127
  a72 := Tryd.isAgg127
  z72 := Tryd.sizeOf127
  v72 := Tryd.zeroValue127
  t75 := Tryd.underlying130
  a75 := Tryd.isAgg130
  z75 := Tryd.sizeOf130
  v75 := Tryd.zeroValue130
  t76 := Tryd.underlying131
  a76 := Tryd.isAgg131
  z76 := Tryd.sizeOf131
  v76 := Tryd.zeroValue131
  t127 := Tryd.underlying151
  a127 := Tryd.isAgg151
  z127 := Tryd.sizeOf151
  v127 := Tryd.zeroValue151
  t164 := Tryd.underlying160
  a164 := Tryd.isAgg160
  z164 := Tryd.sizeOf160
  v164 := Tryd.zeroValue160 }
theorem Tryd.Builder_Extra_156 : Builder.Extra Tryd.prog Tryd.lays156_ren := {
  sizeBuilder := by kernel_rfl
  liesBuilder := by kernel_rfl
  t5 := Tryd.underlying5
  a5 := Tryd.isAgg5
  z5 := Tryd.sizeOf5
  v5 := Tryd.zeroValue5
  infoByte := by kernel_rfl
  cellsByte := by kernel_rfl
  sizeByte := by kernel_rfl
  neB5 := by decide }
open Go.RowKit in
/-- No element: the empty string; the world is as it was. (Whatever the slice's address and capacity: a nil slice too.) (LAID: no walk: one application.) -/
theorem Tryd.strings_Join_none (a : Option Addr) (c : Nat) (sep : ByteArray) (w : World) :
    Calls Tryd.prog 63 #[.slice a 0 c, .string sep] w fun e w' => e = .returned (.string ⟨#[]⟩) ∧ w' = w := Any.strings_Join_none Tryd.lays156 Tryd.Builder_Extra_156 a c sep w
open Go.RowKit in
/-- strings.Join: "Join concatenates the elements of its first argument to create a single string. The separator string sep is placed between elements in the resulting string.": HOWEVER MANY ELEMENTS. Below the heap's end the world is as it was. (LAID: no walk: one application.) -/
theorem Tryd.strings_Join (bk o c : Nat) (xs : List ByteArray) (sep : ByteArray) (w : World) (hcells : ∀ (j : Nat) x, xs[j]? = some x → w.cell? ⟨bk, o + j, none⟩ = some (.string x)) (hbk : bk < w.heap.size) (hN : xs.length ≤ 140737488355328) (hcap : xs.length ≤ c) (hlen : (Lib.join (xs.map (·.data.toList)) sep.data.toList).length ≤ 140737488355328) :
    Calls Tryd.prog 63 #[.slice (some ⟨bk, o, none⟩) xs.length c, .string sep] w fun e w' => e = .returned (.string ⟨(Lib.join (xs.map (·.data.toList)) sep.data.toList).toArray⟩) ∧ Below w.heap.size w w' := Any.strings_Join Tryd.lays156 Tryd.Builder_Extra_156 bk o c xs sep w hcells hbk hN hcap hlen
def Tryd.lays231_ren : Go.Shelf.Ren := ⟨fun | 231 => 98 | n => n, fun | 9 => 9 | 5 => 5 | 3 => 3 | 4 => 4 | n => n, fun | n => n⟩
theorem Tryd.lays231 : Go.Proofs.Lays.n231 Tryd.prog Tryd.lays231_ren := {
  mixed := by kernel_rfl
  f231 := Tryd.func98.trans (congrArg some (by kernel_rfl))
  t3 := Tryd.underlying3
  a3 := Tryd.isAgg3
  z3 := Tryd.sizeOf3
  v3 := Tryd.zeroValue3
  t4 := Tryd.underlying4
  a4 := Tryd.isAgg4
  z4 := Tryd.sizeOf4
  v4 := Tryd.zeroValue4
  t5 := Tryd.underlying5
  a5 := Tryd.isAgg5
  z5 := Tryd.sizeOf5
  v5 := Tryd.zeroValue5
  t9 := Tryd.underlying9
  a9 := Tryd.isAgg9
  z9 := Tryd.sizeOf9
  v9 := Tryd.zeroValue9 }
open Go.RowKit in
/-- strings.trimLeftByte (no doc; what TrimLeft and Trim call at a cutset of one ASCII byte): the leading bytes that are c are cut off. The world is as it was. (LAID: no walk: one application.) -/
theorem Tryd.strings_trimLeftByte (s : ByteArray) (c : UInt8) (w : World) :
    Calls Tryd.prog 98 #[.string s, .int .u8 c.toNat] w fun e w' => e = .returned (.string ⟨(Lib.trimLeftB s.data.toList c).toArray⟩) ∧ w' = w := Any.strings_trimLeftByte Tryd.lays231 s c w
def Tryd.lays232_ren : Go.Shelf.Ren := ⟨fun | 232 => 99 | n => n, fun | 9 => 9 | 5 => 5 | 3 => 3 | 4 => 4 | n => n, fun | n => n⟩
theorem Tryd.lays232 : Go.Proofs.Lays.n232 Tryd.prog Tryd.lays232_ren := {
  mixed := by kernel_rfl
  f232 := Tryd.func99.trans (congrArg some (by kernel_rfl))
  t3 := Tryd.underlying3
  a3 := Tryd.isAgg3
  z3 := Tryd.sizeOf3
  v3 := Tryd.zeroValue3
  t4 := Tryd.underlying4
  a4 := Tryd.isAgg4
  z4 := Tryd.sizeOf4
  v4 := Tryd.zeroValue4
  t5 := Tryd.underlying5
  a5 := Tryd.isAgg5
  z5 := Tryd.sizeOf5
  v5 := Tryd.zeroValue5
  t9 := Tryd.underlying9
  a9 := Tryd.isAgg9
  z9 := Tryd.sizeOf9
  v9 := Tryd.zeroValue9 }
open Go.RowKit in
/-- strings.trimRightByte (no doc; what TrimRight and Trim call at a cutset of one ASCII byte): the trailing bytes that are c are cut off. The world is as it was. ('hs': a string's length is a number that an int holds.) (LAID: no walk: one application.) -/
theorem Tryd.strings_trimRightByte (s : ByteArray) (c : UInt8) (w : World) (hs : s.size ≤ 9223372036854775807) :
    Calls Tryd.prog 99 #[.string s, .int .u8 c.toNat] w fun e w' => e = .returned (.string ⟨(Lib.trimRightB s.data.toList c).toArray⟩) ∧ w' = w := Any.strings_trimRightByte Tryd.lays232 s c w hs
def Tryd.lays160_ren : Go.Shelf.Ren := ⟨fun | 160 => 81 | 232 => 99 | 231 => 98 | 227 => 100 | 234 => 102 | 233 => 101 | 236 => 104 | 235 => 103 | 228 => 119 | 271 => 121 | 151 => 120 | 197 => 107 | 120 => 136 | 152 => 135 | 260 => 122 | 137 => 80 | 119 => 148 | 224 => 138 | 225 => 137 | 217 => 97 | 266 => 118 | n => n, fun | 9 => 9 | 4 => 4 | 3 => 3 | 5 => 5 | 117 => 139 | 116 => 138 | 0 => 0 | 124 => 142 | 21 => 21 | 105 => 144 | 46 => 168 | 119 => 171 | 139 => 174 | 138 => 173 | n => n, fun | 3 => 2 | 4 => 3 | n => n⟩
theorem Tryd.lays160 : Go.Proofs.Lays.n160 Tryd.prog Tryd.lays160_ren := {
  mixed := by kernel_rfl
  f119 := Tryd.func148.trans (congrArg some (by kernel_rfl))
  f120 := Tryd.func136.trans (congrArg some (by kernel_rfl))
  f137 := Tryd.func80.trans (congrArg some (by kernel_rfl))
  f151 := Tryd.func120.trans (congrArg some (by kernel_rfl))
  f152 := Tryd.func135.trans (congrArg some (by kernel_rfl))
  f160 := Tryd.func81.trans (congrArg some (by kernel_rfl))
  f197 := Tryd.func107.trans (congrArg some (by kernel_rfl))
  f217 := Tryd.func97.trans (congrArg some (by kernel_rfl))
  f224 := Tryd.func138.trans (congrArg some (by kernel_rfl))
  f225 := Tryd.func137.trans (congrArg some (by kernel_rfl))
  f227 := Tryd.func100.trans (congrArg some (by kernel_rfl))
  f228 := Tryd.func119.trans (congrArg some (by kernel_rfl))
  f231 := Tryd.func98.trans (congrArg some (by kernel_rfl))
  f232 := Tryd.func99.trans (congrArg some (by kernel_rfl))
  f233 := Tryd.func101.trans (congrArg some (by kernel_rfl))
  f234 := Tryd.func102.trans (congrArg some (by kernel_rfl))
  f235 := Tryd.func103.trans (congrArg some (by kernel_rfl))
  f236 := Tryd.func104.trans (congrArg some (by kernel_rfl))
  f260 := Tryd.func122.trans (congrArg some (by kernel_rfl))
  f266 := Tryd.func118.trans (congrArg some (by kernel_rfl))
  f271 := Tryd.func121.trans (congrArg some (by kernel_rfl))
  t0 := Tryd.underlying0
  a0 := Tryd.isAgg0
  z0 := Tryd.sizeOf0
  v0 := Tryd.zeroValue0
  t3 := Tryd.underlying3
  a3 := Tryd.isAgg3
  z3 := Tryd.sizeOf3
  v3 := Tryd.zeroValue3
  t4 := Tryd.underlying4
  a4 := Tryd.isAgg4
  z4 := Tryd.sizeOf4
  v4 := Tryd.zeroValue4
  t5 := Tryd.underlying5
  a5 := Tryd.isAgg5
  z5 := Tryd.sizeOf5
  v5 := Tryd.zeroValue5
  t9 := Tryd.underlying9
  a9 := Tryd.isAgg9
  z9 := Tryd.sizeOf9
  v9 := Tryd.zeroValue9
  t21 := Tryd.underlying21
  a21 := Tryd.isAgg21
  z21 := Tryd.sizeOf21
  v21 := Tryd.zeroValue21
  t46 := Tryd.underlying168
  a46 := Tryd.isAgg168
  z46 := Tryd.sizeOf168
  v46 := Tryd.zeroValue168
  t105 := Tryd.underlying144
  a105 := Tryd.isAgg144
  z105 := Tryd.sizeOf144
  v105 := Tryd.zeroValue144
  t116 := Tryd.underlying138
  a116 := Tryd.isAgg138
  z116 := Tryd.sizeOf138
  t117 := Tryd.underlying139
  a117 := Tryd.isAgg139
  z117 := Tryd.sizeOf139
  v117 := Tryd.zeroValue139
  t119 := Tryd.underlying171
  a119 := Tryd.isAgg171
  z119 := Tryd.sizeOf171
  t124 := Tryd.underlying142
  a124 := Tryd.isAgg142
  z124 := Tryd.sizeOf142
  v124 := Tryd.zeroValue142
  t138 := Tryd.underlying173
  a138 := Tryd.isAgg173
  z138 := Tryd.sizeOf173
  v138 := Tryd.zeroValue173
  t139 := Tryd.underlying174
  a139 := Tryd.isAgg174
  z139 := Tryd.sizeOf174
  v139 := Tryd.zeroValue174
  g3 := by kernel_rfl
  g4 := by kernel_rfl }
open Go.RowKit in
/-- strings.Trim: "Trim returns a slice of the string s with all leading and trailing Unicode code points contained in cutset removed.": AT A cutset OF ONE ASCII BYTE. THE WORLD BEHIND IT: as it was, or (where s is not empty) with ONE DRAW MORE off the tape: the statement 'return trimLeftByte(trimRightByte(s, c), c)' draws its order of evaluation. (LAID: no walk: one application.) -/
theorem Tryd.strings_Trim_one (s : ByteArray) (c : UInt8) (hc : c.toNat < 128) (w : World) (hs : s.size ≤ 9223372036854775807) :
    Calls Tryd.prog 81 #[.string s, .string ⟨#[c]⟩] w fun e w' => e = .returned (.string ⟨(Lib.trimB s.data.toList c).toArray⟩) ∧ (w' = w ∨ w' = w.drew) := Any.strings_Trim_one Tryd.lays160 s c hc w hs
def Tryd.lays119_ren : Go.Shelf.Ren := ⟨fun | 119 => 148 | n => n, fun | 21 => 21 | 4 => 4 | n => n, fun | n => n⟩
theorem Tryd.lays119 : Go.Proofs.Lays.n119 Tryd.prog Tryd.lays119_ren := {
  mixed := by kernel_rfl
  f119 := Tryd.func148.trans (congrArg some (by kernel_rfl))
  t4 := Tryd.underlying4
  a4 := Tryd.isAgg4
  z4 := Tryd.sizeOf4
  v4 := Tryd.zeroValue4
  t21 := Tryd.underlying21
  a21 := Tryd.isAgg21
  z21 := Tryd.sizeOf21
  v21 := Tryd.zeroValue21 }
/-- utf8.ValidRune: "ValidRune reports whether r can be legally encoded as UTF-8. Code points that are out of range or a surrogate half are illegal.": IT RETURNS 'Lib.validRune r'; the world is as it was. (LAID: no walk: one application.) -/
theorem Tryd.utf8_ValidRune (r : Int) (w : World) :
    Calls Tryd.prog 148 #[.int .i32 r] w fun e w' => e = .returned (.bool (Lib.validRune r)) ∧ w' = w := Any.utf8_ValidRune Tryd.lays119 r w
def Tryd.lays120_ren : Go.Shelf.Ren := ⟨fun | 120 => 136 | n => n, fun | 5 => 5 | 4 => 4 | n => n, fun | n => n⟩
theorem Tryd.lays120 : Go.Proofs.Lays.n120 Tryd.prog Tryd.lays120_ren := {
  mixed := by kernel_rfl
  f120 := Tryd.func136.trans (congrArg some (by kernel_rfl))
  t4 := Tryd.underlying4
  a4 := Tryd.isAgg4
  z4 := Tryd.sizeOf4
  v4 := Tryd.zeroValue4
  t5 := Tryd.underlying5
  a5 := Tryd.isAgg5
  z5 := Tryd.sizeOf5
  v5 := Tryd.zeroValue5 }
/-- utf8.RuneStart: "RuneStart reports whether the byte could be the first byte of an encoded, possibly invalid rune. Second and subsequent bytes always have the top two bits set to 10.": IT RETURNS 'Lib.runeStart b'; the world is as it was. ('h0', 'h1': b is a byte: a caller has it of every byte that it was handed.) (LAID: no walk: one application.) -/
theorem Tryd.utf8_RuneStart (b : Int) (w : World) (h0 : 0 ≤ b) (h1 : b < 256) :
    Calls Tryd.prog 136 #[.int .u8 b] w fun e w' => e = .returned (.bool (Lib.runeStart b)) ∧ w' = w := Any.utf8_RuneStart Tryd.lays120 b w h0 h1
def Tryd.lays137_ren : Go.Shelf.Ren := ⟨fun | 137 => 80 | 217 => 97 | 266 => 118 | n => n, fun | 9 => 9 | 5 => 5 | 3 => 3 | n => n, fun | n => n⟩
theorem Tryd.lays137 : Go.Proofs.Lays.n137 Tryd.prog Tryd.lays137_ren := {
  mixed := by kernel_rfl
  f137 := Tryd.func80.trans (congrArg some (by kernel_rfl))
  f217 := Tryd.func97.trans (congrArg some (by kernel_rfl))
  f266 := Tryd.func118.trans (congrArg some (by kernel_rfl))
  t3 := Tryd.underlying3
  a3 := Tryd.isAgg3
  z3 := Tryd.sizeOf3
  v3 := Tryd.zeroValue3
  t5 := Tryd.underlying5
  a5 := Tryd.isAgg5
  z5 := Tryd.sizeOf5
  v5 := Tryd.zeroValue5
  t9 := Tryd.underlying9
  a9 := Tryd.isAgg9
  z9 := Tryd.sizeOf9
  v9 := Tryd.zeroValue9 }
open Go.RowKit in
/-- strings.IndexByte: "IndexByte returns the index of the first instance of c in s, or -1 if c is not present in s.": IT RETURNS 'Lib.indexByte s c'; the world is as it was. (LAID: no walk: one application.) -/
theorem Tryd.strings_IndexByte (s : ByteArray) (c : Int) (w : World) :
    Calls Tryd.prog 80 #[.string s, .int .u8 c] w fun e w' => e = .returned (.int .i64 (Lib.indexByte s.data.toList c.toNat.toUInt8)) ∧ w' = w := Any.strings_IndexByte Tryd.lays137 s c w
open Go.RowKit in
/-- (*strings.Builder).String: "String returns the accumulated string.": OF A BUILDER THAT HOLDS AT LEAST ONE BYTE. ✋ THE MODEL FREEZES THOSE BYTES IN THE BUFFER (unsafe.String): a later write INTO them ends the model's run without an answer; a later append BEHIND them goes on. The statement's order of evaluation is drawn: one draw. THE FORM '_f': IT SAYS BESIDES THAT THE BUILDER IS A BUILDER STILL ('Lib.IsBuilderF', the same bytes): SO IT CAN BE WRITTEN ON: 'b.WriteString(b.String()[:k])'. (LAID: no walk: one application.) -/
theorem Tryd.Builder_String_f (B b : Nat) (l : List UInt8) (w : World) (h : Lib.IsBuilderF 127 5 B b (Lib.byteCells l) w) (h0 : l ≠ []) :
    Calls Tryd.prog 90 #[.pointer (some ⟨b, 0, none⟩)] w fun e w' => e = .returned (.string ⟨l.toArray⟩) ∧ (Lib.IsBuilderF 127 5 B b (Lib.byteCells l) w' ∧ Below B w w') := Any.Builder_String_f Tryd.lays169 Tryd.Builder_Extra_169 B b l w h h0
open Go.RowKit in
/-- (*strings.Builder).String OF A BUILDER THAT HOLDS NO BYTE: the empty string; THE FORM '_f': a builder still. (LAID: no walk: one application.) -/
theorem Tryd.Builder_String_empty_f (B b : Nat) (w : World) (h : Lib.IsBuilderF 127 5 B b [] w) (hBw : B ≤ w.heap.size) :
    Calls Tryd.prog 90 #[.pointer (some ⟨b, 0, none⟩)] w fun e w' => e = .returned (.string ⟨#[]⟩) ∧ (Lib.IsBuilderF 127 5 B b [] w' ∧ Below B w w') := Any.Builder_String_empty_f Tryd.lays169 Tryd.Builder_Extra_169 B b w h hBw
open Go.RowKit in
/-- (*strings.Builder).String: "String returns the accumulated string.": WHATEVER THE BUILDER HOLDS; THE FORM '_f': OF A BUILDER THAT MAY HAVE BEEN READ BEFORE; AND IT IS A BUILDER STILL, holding the same bytes: it can be written on. (LAID: no walk: one application.) -/
theorem Tryd.Builder_String_any_f (B b : Nat) (l : List UInt8) (w : World) (h : Lib.IsBuilderF 127 5 B b (Lib.byteCells l) w) (hBw : B ≤ w.heap.size) :
    Calls Tryd.prog 90 #[.pointer (some ⟨b, 0, none⟩)] w fun e w' => e = .returned (.string ⟨l.toArray⟩) ∧ (Lib.IsBuilderF 127 5 B b (Lib.byteCells l) w' ∧ Below B w w') := Any.Builder_String_any_f Tryd.lays169 Tryd.Builder_Extra_169 B b l w h hBw
def Tryd.lays129_ren : Go.Shelf.Ren := ⟨fun | 129 => 131 | n => n, fun | 53 => 147 | 3 => 3 | 4 => 4 | 46 => 168 | 5 => 5 | 9 => 9 | n => n, fun | n => n⟩
theorem Tryd.lays129 : Go.Proofs.Lays.n129 Tryd.prog Tryd.lays129_ren := {
  mixed := by kernel_rfl
  f129 := Tryd.func131.trans (congrArg some (by kernel_rfl))
  t3 := Tryd.underlying3
  a3 := Tryd.isAgg3
  z3 := Tryd.sizeOf3
  v3 := Tryd.zeroValue3
  t4 := Tryd.underlying4
  a4 := Tryd.isAgg4
  z4 := Tryd.sizeOf4
  v4 := Tryd.zeroValue4
  t5 := Tryd.underlying5
  a5 := Tryd.isAgg5
  z5 := Tryd.sizeOf5
  v5 := Tryd.zeroValue5
  t9 := Tryd.underlying9
  a9 := Tryd.isAgg9
  z9 := Tryd.sizeOf9
  v9 := Tryd.zeroValue9
  t46 := Tryd.underlying168
  a46 := Tryd.isAgg168
  z46 := Tryd.sizeOf168
  v46 := Tryd.zeroValue168
  t53 := Tryd.underlying147
  a53 := Tryd.isAgg147
  z53 := Tryd.sizeOf147
  v53 := Tryd.zeroValue147 }
/-- bits.Len64: "Len64 returns the minimum number of bits required to represent x; the result is 0 for x == 0.": IT RETURNS 'Lib.bitLen x'; the world is as it was. ('h0', 'h1': x is a uint64.) (LAID: no walk: one application.) -/
theorem Tryd.bits_Len64 (x : Int) (w : World) (h0 : 0 ≤ x) (h1 : x ≤ 18446744073709551615) :
    Calls Tryd.prog 131 #[.int .u64 x] w fun e w' => e = .returned (.int .i64 (Lib.bitLen x.toNat)) ∧ w' = w := Any.bits_Len64 Tryd.lays129 x w h0 h1
def Tryd.lays317_ren : Go.Shelf.Ren := ⟨fun | 317 => 130 | n => n, fun | 3 => 3 | 46 => 168 | n => n, fun | n => n⟩
theorem Tryd.lays317 : Go.Proofs.Lays.n317 Tryd.prog Tryd.lays317_ren := {
  mixed := by kernel_rfl
  f317 := Tryd.func130.trans (congrArg some (by kernel_rfl))
  t3 := Tryd.underlying3
  a3 := Tryd.isAgg3
  z3 := Tryd.sizeOf3
  v3 := Tryd.zeroValue3
  t46 := Tryd.underlying168
  a46 := Tryd.isAgg168
  z46 := Tryd.sizeOf168
  v46 := Tryd.zeroValue168 }
open Go.Lib in
/-- internal/strconv.log10Pow2: "log10Pow2(x) returns ⌊log₁₀ 2**x⌋ = ⌊x * log₁₀ 2⌋.": '(x * 78913) >> 18', at an x up to 64 (a length in bits). The world is as it was. (LAID: no walk: one application.) -/
theorem Tryd.internal_strconv_log10Pow2 (x : Nat) (h : x ≤ 64) (w : World) :
    Calls Tryd.prog 130 #[.int .i64 x] w fun e w' => e = .returned (.int .i64 (Lib.l10 x)) ∧ w' = w := Any.internal_strconv_log10Pow2 Tryd.lays317 x h w
def Tryd.lays318_ren : Go.Shelf.Ren := ⟨fun | 318 => 132 | n => n, fun | 3 => 3 | 4 => 4 | n => n, fun | n => n⟩
theorem Tryd.lays318 : Go.Proofs.Lays.n318 Tryd.prog Tryd.lays318_ren := {
  mixed := by kernel_rfl
  f318 := Tryd.func132.trans (congrArg some (by kernel_rfl))
  t3 := Tryd.underlying3
  a3 := Tryd.isAgg3
  z3 := Tryd.sizeOf3
  v3 := Tryd.zeroValue3
  t4 := Tryd.underlying4
  a4 := Tryd.isAgg4
  z4 := Tryd.sizeOf4
  v4 := Tryd.zeroValue4 }
open Go.Lib in
/-- internal/strconv.bool2: "bool2 converts b to an integer: 1 for true, 0 for false." The world is as it was. (LAID: no walk: one application.) -/
theorem Tryd.internal_strconv_bool2_int (b : Bool) (w : World) :
    Calls Tryd.prog 132 #[.bool b] w fun e w' => e = .returned (.int .i64 (if b then 1 else 0)) ∧ w' = w := Any.internal_strconv_bool2_int Tryd.lays318 b w
def Tryd.lays283_ren : Go.Shelf.Ren := ⟨fun | 283 => 114 | n => n, fun | 3 => 3 | 9 => 9 | 4 => 4 | n => n, fun | n => n⟩
theorem Tryd.lays283 : Go.Proofs.Lays.n283 Tryd.prog Tryd.lays283_ren := {
  mixed := by kernel_rfl
  f283 := Tryd.func114.trans (congrArg some (by kernel_rfl))
  t3 := Tryd.underlying3
  a3 := Tryd.isAgg3
  z3 := Tryd.sizeOf3
  v3 := Tryd.zeroValue3
  t4 := Tryd.underlying4
  a4 := Tryd.isAgg4
  z4 := Tryd.sizeOf4
  v4 := Tryd.zeroValue4
  t9 := Tryd.underlying9
  a9 := Tryd.isAgg9
  z9 := Tryd.sizeOf9
  v9 := Tryd.zeroValue9 }
open Go.Lib in
/-- internal/strconv.small: "small returns the string for an i with 0 <= i < nSmalls.": i's decimal numeral. The world is as it was. (LAID: no walk: one application.) -/
theorem Tryd.internal_strconv_small (i : Nat) (h : i < 100) (w : World) :
    Calls Tryd.prog 114 #[.int .i64 i] w fun e w' => e = .returned (.string ⟨(Lib.decDigits i).toArray⟩) ∧ w' = w := Any.internal_strconv_small Tryd.lays283 i h w
def Tryd.laysM284_ren : Go.Shelf.Ren := ⟨fun | 284 => 115 | 129 => 131 | 317 => 130 | 318 => 132 | n => n, fun | 53 => 147 | 3 => 3 | 212 => 165 | 0 => 0 | 4 => 4 | 46 => 168 | 5 => 5 | 9 => 9 | n => n, fun | 17 => 0 | n => n⟩
theorem Tryd.laysM284 : Go.Proofs.LaysM.n284 Tryd.prog Tryd.laysM284_ren := {
  mixed := by kernel_rfl
  f129 := Tryd.func131.trans (congrArg some (by kernel_rfl))
  f284 := Tryd.func115.trans (congrArg some (by kernel_rfl))
  f317 := Tryd.func130.trans (congrArg some (by kernel_rfl))
  f318 := Tryd.func132.trans (congrArg some (by kernel_rfl))
  t0 := Tryd.underlying0
  a0 := Tryd.isAgg0
  z0 := Tryd.sizeOf0
  v0 := Tryd.zeroValue0
  t3 := Tryd.underlying3
  a3 := Tryd.isAgg3
  z3 := Tryd.sizeOf3
  v3 := Tryd.zeroValue3
  t4 := Tryd.underlying4
  a4 := Tryd.isAgg4
  z4 := Tryd.sizeOf4
  v4 := Tryd.zeroValue4
  t5 := Tryd.underlying5
  a5 := Tryd.isAgg5
  z5 := Tryd.sizeOf5
  v5 := Tryd.zeroValue5
  t9 := Tryd.underlying9
  a9 := Tryd.isAgg9
  z9 := Tryd.sizeOf9
  v9 := Tryd.zeroValue9
  t46 := Tryd.underlying168
  a46 := Tryd.isAgg168
  z46 := Tryd.sizeOf168
  v46 := Tryd.zeroValue168
  t53 := Tryd.underlying147
  a53 := Tryd.isAgg147
  z53 := Tryd.sizeOf147
  v53 := Tryd.zeroValue147
  t212 := Tryd.underlying165
  a212 := Tryd.isAgg165
  z212 := Tryd.sizeOf165
  v212 := Tryd.zeroValue165
  g17 := by kernel_rfl
  i0 := by kernel_rfl
  i3 := by kernel_rfl
  i4 := by kernel_rfl
  i5 := by kernel_rfl
  i9 := by kernel_rfl
  i46 := by kernel_rfl
  i53 := by kernel_rfl
  i212 := by kernel_rfl
  m17 := by kernel_rfl }
open Go.Lib in
/-- internal/strconv.numDigits, at a d that is not 0: THE NUMBER OF d's DECIMAL DIGITS. The world is as it was. (LAID: no walk: one application.) -/
theorem Tryd.internal_strconv_numDigits (u : Nat) (h1 : 1 ≤ u) (h2 : u < 18446744073709551616) (w : World) (htab : Lib.TabIs Tryd.prog w "internal/strconv.uint64pow10" .u64 Lib.pow10Tab) :
    Calls Tryd.prog 115 #[.int .u64 u] w fun e w' => e = .returned (.int .i64 (Lib.nDigits u)) ∧ w' = w := Any.internal_strconv_numDigits Tryd.laysM284 u h1 h2 w htab
def Tryd.lays285_ren : Go.Shelf.Ren := ⟨fun | 285 => 116 | n => n, fun | 37 => 35 | 53 => 147 | 3 => 3 | 4 => 4 | 51 => 166 | 9 => 9 | 5 => 5 | 0 => 0 | n => n, fun | n => n⟩
theorem Tryd.lays285 : Go.Proofs.Lays.n285 Tryd.prog Tryd.lays285_ren := {
  mixed := by kernel_rfl
  f285 := Tryd.func116.trans (congrArg some (by kernel_rfl))
  t0 := Tryd.underlying0
  a0 := Tryd.isAgg0
  z0 := Tryd.sizeOf0
  v0 := Tryd.zeroValue0
  t3 := Tryd.underlying3
  a3 := Tryd.isAgg3
  z3 := Tryd.sizeOf3
  v3 := Tryd.zeroValue3
  t4 := Tryd.underlying4
  a4 := Tryd.isAgg4
  z4 := Tryd.sizeOf4
  v4 := Tryd.zeroValue4
  t5 := Tryd.underlying5
  a5 := Tryd.isAgg5
  z5 := Tryd.sizeOf5
  v5 := Tryd.zeroValue5
  t9 := Tryd.underlying9
  a9 := Tryd.isAgg9
  z9 := Tryd.sizeOf9
  v9 := Tryd.zeroValue9
  t37 := Tryd.underlying35
  a37 := Tryd.isAgg35
  z37 := Tryd.sizeOf35
  v37 := Tryd.zeroValue35
  t51 := Tryd.underlying166
  a51 := Tryd.isAgg166
  z51 := Tryd.sizeOf166
  v51 := Tryd.zeroValue166
  t53 := Tryd.underlying147
  a53 := Tryd.isAgg147
  z53 := Tryd.sizeOf147
  v53 := Tryd.zeroValue147 }
open Go.RowKit Go.Sort Go.Lib in
/-- internal/strconv.formatBase10: "formatBase10 formats the decimal representation of u into a. The caller is responsible for ensuring that a is big enough to hold u. If a is too big, leading zeros will be filled in as needed.": THE ROW HOLDS u's DIGITS ('FmtInv .. 0 ..': every place t holds 'dg u (len - 1 - t)'); all else is as it was but for the count of draws. (LAID: no walk: one application.) -/
theorem Tryd.internal_strconv_formatBase10 (blk off cap : Nat) (u : Nat) (d : Array UInt8) (w : World) (hH : Holds (fun (b : UInt8) => Value.int .u8 (b.toNat : Int)) w blk off d) (hu : u < 10 ^ d.size) (hu64 : u < 18446744073709551616) (hsz : d.size < 4611686018427387904) :
    Calls Tryd.prog 116 #[.slice (some ⟨blk, off, none⟩) d.size cap, .int .u64 u] w fun e w' =>
      e = .returned (.tuple #[]) ∧ ∃ (n v' : Nat) (dk : Array UInt8), w' = (putRow (fun (b : UInt8) => Value.int .u8 (b.toNat : Int)) w blk off dk).drewN n ∧ FmtInv d.size u 0 v' dk := Any.internal_strconv_formatBase10 Tryd.lays285 blk off cap u d w hH hu hu64 hsz
def Tryd.laysM246_ren : Go.Shelf.Ren := ⟨fun | 246 => 91 | 283 => 114 | 284 => 115 | 285 => 116 | 286 => 117 | 129 => 131 | 317 => 130 | 318 => 132 | 319 => 133 | 320 => 134 | 337 => 146 | 338 => 147 | n => n, fun | 2 => 2 | 3 => 3 | 9 => 9 | 4 => 4 | 171 => 152 | 0 => 0 | 53 => 147 | 37 => 35 | 5 => 5 | 173 => 155 | 212 => 165 | 51 => 166 | 20 => 20 | 213 => 167 | 46 => 168 | 232 => 187 | 233 => 188 | n => n, fun | 17 => 0 | 18 => 6 | 19 => 7 | n => n⟩
theorem Tryd.laysM246 : Go.Proofs.LaysM.n246 Tryd.prog Tryd.laysM246_ren := {
  mixed := by kernel_rfl
  f129 := Tryd.func131.trans (congrArg some (by kernel_rfl))
  f246 := Tryd.func91.trans (congrArg some (by kernel_rfl))
  f283 := Tryd.func114.trans (congrArg some (by kernel_rfl))
  f284 := Tryd.func115.trans (congrArg some (by kernel_rfl))
  f285 := Tryd.func116.trans (congrArg some (by kernel_rfl))
  f286 := Tryd.func117.trans (congrArg some (by kernel_rfl))
  f317 := Tryd.func130.trans (congrArg some (by kernel_rfl))
  f318 := Tryd.func132.trans (congrArg some (by kernel_rfl))
  f319 := Tryd.func133.trans (congrArg some (by kernel_rfl))
  f320 := Tryd.func134.trans (congrArg some (by kernel_rfl))
  f337 := Tryd.func146.trans (congrArg some (by kernel_rfl))
  f338 := Tryd.func147.trans (congrArg some (by kernel_rfl))
  t0 := Tryd.underlying0
  a0 := Tryd.isAgg0
  z0 := Tryd.sizeOf0
  v0 := Tryd.zeroValue0
  t2 := Tryd.underlying2
  a2 := Tryd.isAgg2
  z2 := Tryd.sizeOf2
  v2 := Tryd.zeroValue2
  t3 := Tryd.underlying3
  a3 := Tryd.isAgg3
  z3 := Tryd.sizeOf3
  v3 := Tryd.zeroValue3
  t4 := Tryd.underlying4
  a4 := Tryd.isAgg4
  z4 := Tryd.sizeOf4
  v4 := Tryd.zeroValue4
  t5 := Tryd.underlying5
  a5 := Tryd.isAgg5
  z5 := Tryd.sizeOf5
  v5 := Tryd.zeroValue5
  t9 := Tryd.underlying9
  a9 := Tryd.isAgg9
  z9 := Tryd.sizeOf9
  v9 := Tryd.zeroValue9
  t20 := Tryd.underlying20
  a20 := Tryd.isAgg20
  z20 := Tryd.sizeOf20
  v20 := Tryd.zeroValue20
  t37 := Tryd.underlying35
  a37 := Tryd.isAgg35
  z37 := Tryd.sizeOf35
  v37 := Tryd.zeroValue35
  t46 := Tryd.underlying168
  a46 := Tryd.isAgg168
  z46 := Tryd.sizeOf168
  v46 := Tryd.zeroValue168
  t51 := Tryd.underlying166
  a51 := Tryd.isAgg166
  z51 := Tryd.sizeOf166
  v51 := Tryd.zeroValue166
  t53 := Tryd.underlying147
  a53 := Tryd.isAgg147
  z53 := Tryd.sizeOf147
  v53 := Tryd.zeroValue147
  t171 := Tryd.underlying152
  a171 := Tryd.isAgg152
  z171 := Tryd.sizeOf152
  v171 := Tryd.zeroValue152
  t173 := Tryd.underlying155
  a173 := Tryd.isAgg155
  z173 := Tryd.sizeOf155
  v173 := Tryd.zeroValue155
  t212 := Tryd.underlying165
  a212 := Tryd.isAgg165
  z212 := Tryd.sizeOf165
  v212 := Tryd.zeroValue165
  t213 := Tryd.underlying167
  a213 := Tryd.isAgg167
  z213 := Tryd.sizeOf167
  t232 := Tryd.underlying187
  a232 := Tryd.isAgg187
  z232 := Tryd.sizeOf187
  v232 := Tryd.zeroValue187
  t233 := Tryd.underlying188
  a233 := Tryd.isAgg188
  z233 := Tryd.sizeOf188
  v233 := Tryd.zeroValue188
  g17 := by kernel_rfl
  g18 := by kernel_rfl
  g19 := by kernel_rfl
  i0 := by kernel_rfl
  i2 := by kernel_rfl
  i3 := by kernel_rfl
  i4 := by kernel_rfl
  i5 := by kernel_rfl
  i9 := by kernel_rfl
  i20 := by kernel_rfl
  i37 := by kernel_rfl
  i46 := by kernel_rfl
  i51 := by kernel_rfl
  i53 := by kernel_rfl
  i171 := by kernel_rfl
  i173 := by kernel_rfl
  i212 := by kernel_rfl
  i232 := by kernel_rfl
  i233 := by kernel_rfl
  m17 := by kernel_rfl
  m18 := by kernel_rfl
  m19 := by kernel_rfl }
open Go.RowKit Go.Sort Go.Lib in
/-- internal/strconv.FormatInt: "FormatInt returns the string representation of i in the given base": AT BASE 10: i's decimal numeral, for every int64. The world behind the call: the world before it, new blocks behind the heap, draws. (LAID: no walk: one application.) -/
theorem Tryd.internal_strconv_FormatInt_10 (n : Int) (h0 : -9223372036854775808 ≤ n) (h1 : n ≤ 9223372036854775807) (w : World) (htab : Lib.TabIs Tryd.prog w "internal/strconv.uint64pow10" .u64 Lib.pow10Tab) :
    Calls Tryd.prog 91 #[.int .i64 n, .int .i64 10] w fun e w' => e = .returned (.string ⟨(Lib.itoa n).toArray⟩) ∧ ∃ k os, w' = grow (w.drewN k) os := Any.internal_strconv_FormatInt_10 Tryd.laysM246 n h0 h1 w htab
def Tryd.lays246_ren : Go.Shelf.Ren := ⟨fun | 246 => 91 | 283 => 114 | 284 => 115 | 285 => 116 | 286 => 117 | 129 => 131 | 317 => 130 | 318 => 132 | 319 => 133 | 320 => 134 | 337 => 146 | 338 => 147 | n => n, fun | 2 => 2 | 3 => 3 | 9 => 9 | 4 => 4 | 171 => 152 | 0 => 0 | 53 => 147 | 37 => 35 | 5 => 5 | 173 => 155 | 212 => 165 | 51 => 166 | 20 => 20 | 213 => 167 | 46 => 168 | 232 => 187 | 233 => 188 | n => n, fun | 17 => 0 | 18 => 6 | 19 => 7 | n => n⟩
theorem Tryd.lays246 : Go.Proofs.Lays.n246 Tryd.prog Tryd.lays246_ren := {
  mixed := by kernel_rfl
  f129 := Tryd.func131.trans (congrArg some (by kernel_rfl))
  f246 := Tryd.func91.trans (congrArg some (by kernel_rfl))
  f283 := Tryd.func114.trans (congrArg some (by kernel_rfl))
  f284 := Tryd.func115.trans (congrArg some (by kernel_rfl))
  f285 := Tryd.func116.trans (congrArg some (by kernel_rfl))
  f286 := Tryd.func117.trans (congrArg some (by kernel_rfl))
  f317 := Tryd.func130.trans (congrArg some (by kernel_rfl))
  f318 := Tryd.func132.trans (congrArg some (by kernel_rfl))
  f319 := Tryd.func133.trans (congrArg some (by kernel_rfl))
  f320 := Tryd.func134.trans (congrArg some (by kernel_rfl))
  f337 := Tryd.func146.trans (congrArg some (by kernel_rfl))
  f338 := Tryd.func147.trans (congrArg some (by kernel_rfl))
  t0 := Tryd.underlying0
  a0 := Tryd.isAgg0
  z0 := Tryd.sizeOf0
  v0 := Tryd.zeroValue0
  t2 := Tryd.underlying2
  a2 := Tryd.isAgg2
  z2 := Tryd.sizeOf2
  v2 := Tryd.zeroValue2
  t3 := Tryd.underlying3
  a3 := Tryd.isAgg3
  z3 := Tryd.sizeOf3
  v3 := Tryd.zeroValue3
  t4 := Tryd.underlying4
  a4 := Tryd.isAgg4
  z4 := Tryd.sizeOf4
  v4 := Tryd.zeroValue4
  t5 := Tryd.underlying5
  a5 := Tryd.isAgg5
  z5 := Tryd.sizeOf5
  v5 := Tryd.zeroValue5
  t9 := Tryd.underlying9
  a9 := Tryd.isAgg9
  z9 := Tryd.sizeOf9
  v9 := Tryd.zeroValue9
  t20 := Tryd.underlying20
  a20 := Tryd.isAgg20
  z20 := Tryd.sizeOf20
  v20 := Tryd.zeroValue20
  t37 := Tryd.underlying35
  a37 := Tryd.isAgg35
  z37 := Tryd.sizeOf35
  v37 := Tryd.zeroValue35
  t46 := Tryd.underlying168
  a46 := Tryd.isAgg168
  z46 := Tryd.sizeOf168
  v46 := Tryd.zeroValue168
  t51 := Tryd.underlying166
  a51 := Tryd.isAgg166
  z51 := Tryd.sizeOf166
  v51 := Tryd.zeroValue166
  t53 := Tryd.underlying147
  a53 := Tryd.isAgg147
  z53 := Tryd.sizeOf147
  v53 := Tryd.zeroValue147
  t171 := Tryd.underlying152
  a171 := Tryd.isAgg152
  z171 := Tryd.sizeOf152
  v171 := Tryd.zeroValue152
  t173 := Tryd.underlying155
  a173 := Tryd.isAgg155
  z173 := Tryd.sizeOf155
  v173 := Tryd.zeroValue155
  t212 := Tryd.underlying165
  a212 := Tryd.isAgg165
  z212 := Tryd.sizeOf165
  v212 := Tryd.zeroValue165
  t213 := Tryd.underlying167
  a213 := Tryd.isAgg167
  z213 := Tryd.sizeOf167
  t232 := Tryd.underlying187
  a232 := Tryd.isAgg187
  z232 := Tryd.sizeOf187
  v232 := Tryd.zeroValue187
  t233 := Tryd.underlying188
  a233 := Tryd.isAgg188
  z233 := Tryd.sizeOf188
  v233 := Tryd.zeroValue188
  g17 := by kernel_rfl
  g18 := by kernel_rfl
  g19 := by kernel_rfl }
open Go.RowKit Go.Sort Go.Lib in
/-- THE ROAD WITHOUT THE TABLE: 0 <= i < 100: two constants are read, nothing is laid: no premise on the world, and the world is as it was. (LAID: no walk: one application.) -/
theorem Tryd.internal_strconv_FormatInt_10_small (i : Nat) (hi : i < 100) (w : World) :
    Calls Tryd.prog 91 #[.int .i64 i, .int .i64 10] w fun e w' => e = .returned (.string ⟨(Lib.decDigits i).toArray⟩) ∧ w' = w := Any.internal_strconv_FormatInt_10_small Tryd.lays246 i hi w
def Tryd.laysM243_ren : Go.Shelf.Ren := ⟨fun | 243 => 64 | 246 => 91 | 283 => 114 | 284 => 115 | 285 => 116 | 286 => 117 | 129 => 131 | 317 => 130 | 318 => 132 | 319 => 133 | 320 => 134 | 337 => 146 | 338 => 147 | n => n, fun | 3 => 3 | 9 => 9 | 2 => 2 | 4 => 4 | 171 => 152 | 0 => 0 | 53 => 147 | 37 => 35 | 5 => 5 | 173 => 155 | 212 => 165 | 51 => 166 | 20 => 20 | 213 => 167 | 46 => 168 | 232 => 187 | 233 => 188 | n => n, fun | 17 => 0 | 18 => 6 | 19 => 7 | n => n⟩
theorem Tryd.laysM243 : Go.Proofs.LaysM.n243 Tryd.prog Tryd.laysM243_ren := {
  mixed := by kernel_rfl
  f129 := Tryd.func131.trans (congrArg some (by kernel_rfl))
  f243 := Tryd.func64.trans (congrArg some (by kernel_rfl))
  f246 := Tryd.func91.trans (congrArg some (by kernel_rfl))
  f283 := Tryd.func114.trans (congrArg some (by kernel_rfl))
  f284 := Tryd.func115.trans (congrArg some (by kernel_rfl))
  f285 := Tryd.func116.trans (congrArg some (by kernel_rfl))
  f286 := Tryd.func117.trans (congrArg some (by kernel_rfl))
  f317 := Tryd.func130.trans (congrArg some (by kernel_rfl))
  f318 := Tryd.func132.trans (congrArg some (by kernel_rfl))
  f319 := Tryd.func133.trans (congrArg some (by kernel_rfl))
  f320 := Tryd.func134.trans (congrArg some (by kernel_rfl))
  f337 := Tryd.func146.trans (congrArg some (by kernel_rfl))
  f338 := Tryd.func147.trans (congrArg some (by kernel_rfl))
  t0 := Tryd.underlying0
  a0 := Tryd.isAgg0
  z0 := Tryd.sizeOf0
  v0 := Tryd.zeroValue0
  t2 := Tryd.underlying2
  a2 := Tryd.isAgg2
  z2 := Tryd.sizeOf2
  v2 := Tryd.zeroValue2
  t3 := Tryd.underlying3
  a3 := Tryd.isAgg3
  z3 := Tryd.sizeOf3
  v3 := Tryd.zeroValue3
  t4 := Tryd.underlying4
  a4 := Tryd.isAgg4
  z4 := Tryd.sizeOf4
  v4 := Tryd.zeroValue4
  t5 := Tryd.underlying5
  a5 := Tryd.isAgg5
  z5 := Tryd.sizeOf5
  v5 := Tryd.zeroValue5
  t9 := Tryd.underlying9
  a9 := Tryd.isAgg9
  z9 := Tryd.sizeOf9
  v9 := Tryd.zeroValue9
  t20 := Tryd.underlying20
  a20 := Tryd.isAgg20
  z20 := Tryd.sizeOf20
  v20 := Tryd.zeroValue20
  t37 := Tryd.underlying35
  a37 := Tryd.isAgg35
  z37 := Tryd.sizeOf35
  v37 := Tryd.zeroValue35
  t46 := Tryd.underlying168
  a46 := Tryd.isAgg168
  z46 := Tryd.sizeOf168
  v46 := Tryd.zeroValue168
  t51 := Tryd.underlying166
  a51 := Tryd.isAgg166
  z51 := Tryd.sizeOf166
  v51 := Tryd.zeroValue166
  t53 := Tryd.underlying147
  a53 := Tryd.isAgg147
  z53 := Tryd.sizeOf147
  v53 := Tryd.zeroValue147
  t171 := Tryd.underlying152
  a171 := Tryd.isAgg152
  z171 := Tryd.sizeOf152
  v171 := Tryd.zeroValue152
  t173 := Tryd.underlying155
  a173 := Tryd.isAgg155
  z173 := Tryd.sizeOf155
  v173 := Tryd.zeroValue155
  t212 := Tryd.underlying165
  a212 := Tryd.isAgg165
  z212 := Tryd.sizeOf165
  v212 := Tryd.zeroValue165
  t213 := Tryd.underlying167
  a213 := Tryd.isAgg167
  z213 := Tryd.sizeOf167
  t232 := Tryd.underlying187
  a232 := Tryd.isAgg187
  z232 := Tryd.sizeOf187
  v232 := Tryd.zeroValue187
  t233 := Tryd.underlying188
  a233 := Tryd.isAgg188
  z233 := Tryd.sizeOf188
  v233 := Tryd.zeroValue188
  g17 := by kernel_rfl
  g18 := by kernel_rfl
  g19 := by kernel_rfl
  i0 := by kernel_rfl
  i2 := by kernel_rfl
  i3 := by kernel_rfl
  i4 := by kernel_rfl
  i5 := by kernel_rfl
  i9 := by kernel_rfl
  i20 := by kernel_rfl
  i37 := by kernel_rfl
  i46 := by kernel_rfl
  i51 := by kernel_rfl
  i53 := by kernel_rfl
  i171 := by kernel_rfl
  i173 := by kernel_rfl
  i212 := by kernel_rfl
  i232 := by kernel_rfl
  i233 := by kernel_rfl
  m17 := by kernel_rfl
  m18 := by kernel_rfl
  m19 := by kernel_rfl }
open Go.RowKit Go.Sort Go.Lib in
/-- internal/strconv.Itoa: "Itoa is equivalent to FormatInt(int64(i), 10).": i's decimal numeral, for every int. (LAID: no walk: one application.) -/
theorem Tryd.internal_strconv_Itoa (n : Int) (h0 : -9223372036854775808 ≤ n) (h1 : n ≤ 9223372036854775807) (w : World) (htab : Lib.TabIs Tryd.prog w "internal/strconv.uint64pow10" .u64 Lib.pow10Tab) :
    Calls Tryd.prog 64 #[.int .i64 n] w fun e w' => e = .returned (.string ⟨(Lib.itoa n).toArray⟩) ∧ ∃ k os, w' = grow (w.drewN k) os := Any.internal_strconv_Itoa Tryd.laysM243 n h0 h1 w htab
def Tryd.lays243_ren : Go.Shelf.Ren := ⟨fun | 243 => 64 | 246 => 91 | 283 => 114 | 284 => 115 | 285 => 116 | 286 => 117 | 129 => 131 | 317 => 130 | 318 => 132 | 319 => 133 | 320 => 134 | 337 => 146 | 338 => 147 | n => n, fun | 3 => 3 | 9 => 9 | 2 => 2 | 4 => 4 | 171 => 152 | 0 => 0 | 53 => 147 | 37 => 35 | 5 => 5 | 173 => 155 | 212 => 165 | 51 => 166 | 20 => 20 | 213 => 167 | 46 => 168 | 232 => 187 | 233 => 188 | n => n, fun | 17 => 0 | 18 => 6 | 19 => 7 | n => n⟩
theorem Tryd.lays243 : Go.Proofs.Lays.n243 Tryd.prog Tryd.lays243_ren := {
  mixed := by kernel_rfl
  f129 := Tryd.func131.trans (congrArg some (by kernel_rfl))
  f243 := Tryd.func64.trans (congrArg some (by kernel_rfl))
  f246 := Tryd.func91.trans (congrArg some (by kernel_rfl))
  f283 := Tryd.func114.trans (congrArg some (by kernel_rfl))
  f284 := Tryd.func115.trans (congrArg some (by kernel_rfl))
  f285 := Tryd.func116.trans (congrArg some (by kernel_rfl))
  f286 := Tryd.func117.trans (congrArg some (by kernel_rfl))
  f317 := Tryd.func130.trans (congrArg some (by kernel_rfl))
  f318 := Tryd.func132.trans (congrArg some (by kernel_rfl))
  f319 := Tryd.func133.trans (congrArg some (by kernel_rfl))
  f320 := Tryd.func134.trans (congrArg some (by kernel_rfl))
  f337 := Tryd.func146.trans (congrArg some (by kernel_rfl))
  f338 := Tryd.func147.trans (congrArg some (by kernel_rfl))
  t0 := Tryd.underlying0
  a0 := Tryd.isAgg0
  z0 := Tryd.sizeOf0
  v0 := Tryd.zeroValue0
  t2 := Tryd.underlying2
  a2 := Tryd.isAgg2
  z2 := Tryd.sizeOf2
  v2 := Tryd.zeroValue2
  t3 := Tryd.underlying3
  a3 := Tryd.isAgg3
  z3 := Tryd.sizeOf3
  v3 := Tryd.zeroValue3
  t4 := Tryd.underlying4
  a4 := Tryd.isAgg4
  z4 := Tryd.sizeOf4
  v4 := Tryd.zeroValue4
  t5 := Tryd.underlying5
  a5 := Tryd.isAgg5
  z5 := Tryd.sizeOf5
  v5 := Tryd.zeroValue5
  t9 := Tryd.underlying9
  a9 := Tryd.isAgg9
  z9 := Tryd.sizeOf9
  v9 := Tryd.zeroValue9
  t20 := Tryd.underlying20
  a20 := Tryd.isAgg20
  z20 := Tryd.sizeOf20
  v20 := Tryd.zeroValue20
  t37 := Tryd.underlying35
  a37 := Tryd.isAgg35
  z37 := Tryd.sizeOf35
  v37 := Tryd.zeroValue35
  t46 := Tryd.underlying168
  a46 := Tryd.isAgg168
  z46 := Tryd.sizeOf168
  v46 := Tryd.zeroValue168
  t51 := Tryd.underlying166
  a51 := Tryd.isAgg166
  z51 := Tryd.sizeOf166
  v51 := Tryd.zeroValue166
  t53 := Tryd.underlying147
  a53 := Tryd.isAgg147
  z53 := Tryd.sizeOf147
  v53 := Tryd.zeroValue147
  t171 := Tryd.underlying152
  a171 := Tryd.isAgg152
  z171 := Tryd.sizeOf152
  v171 := Tryd.zeroValue152
  t173 := Tryd.underlying155
  a173 := Tryd.isAgg155
  z173 := Tryd.sizeOf155
  v173 := Tryd.zeroValue155
  t212 := Tryd.underlying165
  a212 := Tryd.isAgg165
  z212 := Tryd.sizeOf165
  v212 := Tryd.zeroValue165
  t213 := Tryd.underlying167
  a213 := Tryd.isAgg167
  z213 := Tryd.sizeOf167
  t232 := Tryd.underlying187
  a232 := Tryd.isAgg187
  z232 := Tryd.sizeOf187
  v232 := Tryd.zeroValue187
  t233 := Tryd.underlying188
  a233 := Tryd.isAgg188
  z233 := Tryd.sizeOf188
  v233 := Tryd.zeroValue188
  g17 := by kernel_rfl
  g18 := by kernel_rfl
  g19 := by kernel_rfl }
open Go.RowKit Go.Sort Go.Lib in
/-- THE ROAD WITHOUT THE TABLE: 0 <= i < 100. (LAID: no walk: one application.) -/
theorem Tryd.internal_strconv_Itoa_small (i : Nat) (hi : i < 100) (w : World) :
    Calls Tryd.prog 64 #[.int .i64 i] w fun e w' => e = .returned (.string ⟨(Lib.decDigits i).toArray⟩) ∧ w' = w := Any.internal_strconv_Itoa_small Tryd.lays243 i hi w
def Tryd.laysM171_ren : Go.Shelf.Ren := ⟨fun | 171 => 37 | 243 => 64 | 246 => 91 | 283 => 114 | 284 => 115 | 285 => 116 | 286 => 117 | 129 => 131 | 317 => 130 | 318 => 132 | 319 => 133 | 320 => 134 | 337 => 146 | 338 => 147 | n => n, fun | 3 => 3 | 9 => 9 | 2 => 2 | 4 => 4 | 171 => 152 | 0 => 0 | 53 => 147 | 37 => 35 | 5 => 5 | 173 => 155 | 212 => 165 | 51 => 166 | 20 => 20 | 213 => 167 | 46 => 168 | 232 => 187 | 233 => 188 | n => n, fun | 17 => 0 | 18 => 6 | 19 => 7 | n => n⟩
theorem Tryd.laysM171 : Go.Proofs.LaysM.n171 Tryd.prog Tryd.laysM171_ren := {
  mixed := by kernel_rfl
  f129 := Tryd.func131.trans (congrArg some (by kernel_rfl))
  f171 := Tryd.func37.trans (congrArg some (by kernel_rfl))
  f243 := Tryd.func64.trans (congrArg some (by kernel_rfl))
  f246 := Tryd.func91.trans (congrArg some (by kernel_rfl))
  f283 := Tryd.func114.trans (congrArg some (by kernel_rfl))
  f284 := Tryd.func115.trans (congrArg some (by kernel_rfl))
  f285 := Tryd.func116.trans (congrArg some (by kernel_rfl))
  f286 := Tryd.func117.trans (congrArg some (by kernel_rfl))
  f317 := Tryd.func130.trans (congrArg some (by kernel_rfl))
  f318 := Tryd.func132.trans (congrArg some (by kernel_rfl))
  f319 := Tryd.func133.trans (congrArg some (by kernel_rfl))
  f320 := Tryd.func134.trans (congrArg some (by kernel_rfl))
  f337 := Tryd.func146.trans (congrArg some (by kernel_rfl))
  f338 := Tryd.func147.trans (congrArg some (by kernel_rfl))
  t0 := Tryd.underlying0
  a0 := Tryd.isAgg0
  z0 := Tryd.sizeOf0
  v0 := Tryd.zeroValue0
  t2 := Tryd.underlying2
  a2 := Tryd.isAgg2
  z2 := Tryd.sizeOf2
  v2 := Tryd.zeroValue2
  t3 := Tryd.underlying3
  a3 := Tryd.isAgg3
  z3 := Tryd.sizeOf3
  v3 := Tryd.zeroValue3
  t4 := Tryd.underlying4
  a4 := Tryd.isAgg4
  z4 := Tryd.sizeOf4
  v4 := Tryd.zeroValue4
  t5 := Tryd.underlying5
  a5 := Tryd.isAgg5
  z5 := Tryd.sizeOf5
  v5 := Tryd.zeroValue5
  t9 := Tryd.underlying9
  a9 := Tryd.isAgg9
  z9 := Tryd.sizeOf9
  v9 := Tryd.zeroValue9
  t20 := Tryd.underlying20
  a20 := Tryd.isAgg20
  z20 := Tryd.sizeOf20
  v20 := Tryd.zeroValue20
  t37 := Tryd.underlying35
  a37 := Tryd.isAgg35
  z37 := Tryd.sizeOf35
  v37 := Tryd.zeroValue35
  t46 := Tryd.underlying168
  a46 := Tryd.isAgg168
  z46 := Tryd.sizeOf168
  v46 := Tryd.zeroValue168
  t51 := Tryd.underlying166
  a51 := Tryd.isAgg166
  z51 := Tryd.sizeOf166
  v51 := Tryd.zeroValue166
  t53 := Tryd.underlying147
  a53 := Tryd.isAgg147
  z53 := Tryd.sizeOf147
  v53 := Tryd.zeroValue147
  t171 := Tryd.underlying152
  a171 := Tryd.isAgg152
  z171 := Tryd.sizeOf152
  v171 := Tryd.zeroValue152
  t173 := Tryd.underlying155
  a173 := Tryd.isAgg155
  z173 := Tryd.sizeOf155
  v173 := Tryd.zeroValue155
  t212 := Tryd.underlying165
  a212 := Tryd.isAgg165
  z212 := Tryd.sizeOf165
  v212 := Tryd.zeroValue165
  t213 := Tryd.underlying167
  a213 := Tryd.isAgg167
  z213 := Tryd.sizeOf167
  t232 := Tryd.underlying187
  a232 := Tryd.isAgg187
  z232 := Tryd.sizeOf187
  v232 := Tryd.zeroValue187
  t233 := Tryd.underlying188
  a233 := Tryd.isAgg188
  z233 := Tryd.sizeOf188
  v233 := Tryd.zeroValue188
  g17 := by kernel_rfl
  g18 := by kernel_rfl
  g19 := by kernel_rfl
  i0 := by kernel_rfl
  i2 := by kernel_rfl
  i3 := by kernel_rfl
  i4 := by kernel_rfl
  i5 := by kernel_rfl
  i9 := by kernel_rfl
  i20 := by kernel_rfl
  i37 := by kernel_rfl
  i46 := by kernel_rfl
  i51 := by kernel_rfl
  i53 := by kernel_rfl
  i171 := by kernel_rfl
  i173 := by kernel_rfl
  i212 := by kernel_rfl
  i232 := by kernel_rfl
  i233 := by kernel_rfl
  m17 := by kernel_rfl
  m18 := by kernel_rfl
  m19 := by kernel_rfl }
open Go.RowKit Go.Sort Go.Lib in
/-- strconv.Itoa: "Itoa is equivalent to FormatInt(int64(i), 10).": i's DECIMAL NUMERAL ('Lib.itoa': a '-' where i is negative, then the digits), FOR EVERY int. The world behind the call: the world before it, new blocks behind the heap (the library's 'var a [24]byte'), draws. (LAID: no walk: one application.) -/
theorem Tryd.strconv_Itoa (n : Int) (h0 : -9223372036854775808 ≤ n) (h1 : n ≤ 9223372036854775807) (w : World) (htab : Lib.TabIs Tryd.prog w "internal/strconv.uint64pow10" .u64 Lib.pow10Tab) :
    Calls Tryd.prog 37 #[.int .i64 n] w fun e w' => e = .returned (.string ⟨(Lib.itoa n).toArray⟩) ∧ ∃ k os, w' = grow (w.drewN k) os := Any.strconv_Itoa Tryd.laysM171 n h0 h1 w htab
def Tryd.lays171_ren : Go.Shelf.Ren := ⟨fun | 171 => 37 | 243 => 64 | 246 => 91 | 283 => 114 | 284 => 115 | 285 => 116 | 286 => 117 | 129 => 131 | 317 => 130 | 318 => 132 | 319 => 133 | 320 => 134 | 337 => 146 | 338 => 147 | n => n, fun | 3 => 3 | 9 => 9 | 2 => 2 | 4 => 4 | 171 => 152 | 0 => 0 | 53 => 147 | 37 => 35 | 5 => 5 | 173 => 155 | 212 => 165 | 51 => 166 | 20 => 20 | 213 => 167 | 46 => 168 | 232 => 187 | 233 => 188 | n => n, fun | 17 => 0 | 18 => 6 | 19 => 7 | n => n⟩
theorem Tryd.lays171 : Go.Proofs.Lays.n171 Tryd.prog Tryd.lays171_ren := {
  mixed := by kernel_rfl
  f129 := Tryd.func131.trans (congrArg some (by kernel_rfl))
  f171 := Tryd.func37.trans (congrArg some (by kernel_rfl))
  f243 := Tryd.func64.trans (congrArg some (by kernel_rfl))
  f246 := Tryd.func91.trans (congrArg some (by kernel_rfl))
  f283 := Tryd.func114.trans (congrArg some (by kernel_rfl))
  f284 := Tryd.func115.trans (congrArg some (by kernel_rfl))
  f285 := Tryd.func116.trans (congrArg some (by kernel_rfl))
  f286 := Tryd.func117.trans (congrArg some (by kernel_rfl))
  f317 := Tryd.func130.trans (congrArg some (by kernel_rfl))
  f318 := Tryd.func132.trans (congrArg some (by kernel_rfl))
  f319 := Tryd.func133.trans (congrArg some (by kernel_rfl))
  f320 := Tryd.func134.trans (congrArg some (by kernel_rfl))
  f337 := Tryd.func146.trans (congrArg some (by kernel_rfl))
  f338 := Tryd.func147.trans (congrArg some (by kernel_rfl))
  t0 := Tryd.underlying0
  a0 := Tryd.isAgg0
  z0 := Tryd.sizeOf0
  v0 := Tryd.zeroValue0
  t2 := Tryd.underlying2
  a2 := Tryd.isAgg2
  z2 := Tryd.sizeOf2
  v2 := Tryd.zeroValue2
  t3 := Tryd.underlying3
  a3 := Tryd.isAgg3
  z3 := Tryd.sizeOf3
  v3 := Tryd.zeroValue3
  t4 := Tryd.underlying4
  a4 := Tryd.isAgg4
  z4 := Tryd.sizeOf4
  v4 := Tryd.zeroValue4
  t5 := Tryd.underlying5
  a5 := Tryd.isAgg5
  z5 := Tryd.sizeOf5
  v5 := Tryd.zeroValue5
  t9 := Tryd.underlying9
  a9 := Tryd.isAgg9
  z9 := Tryd.sizeOf9
  v9 := Tryd.zeroValue9
  t20 := Tryd.underlying20
  a20 := Tryd.isAgg20
  z20 := Tryd.sizeOf20
  v20 := Tryd.zeroValue20
  t37 := Tryd.underlying35
  a37 := Tryd.isAgg35
  z37 := Tryd.sizeOf35
  v37 := Tryd.zeroValue35
  t46 := Tryd.underlying168
  a46 := Tryd.isAgg168
  z46 := Tryd.sizeOf168
  v46 := Tryd.zeroValue168
  t51 := Tryd.underlying166
  a51 := Tryd.isAgg166
  z51 := Tryd.sizeOf166
  v51 := Tryd.zeroValue166
  t53 := Tryd.underlying147
  a53 := Tryd.isAgg147
  z53 := Tryd.sizeOf147
  v53 := Tryd.zeroValue147
  t171 := Tryd.underlying152
  a171 := Tryd.isAgg152
  z171 := Tryd.sizeOf152
  v171 := Tryd.zeroValue152
  t173 := Tryd.underlying155
  a173 := Tryd.isAgg155
  z173 := Tryd.sizeOf155
  v173 := Tryd.zeroValue155
  t212 := Tryd.underlying165
  a212 := Tryd.isAgg165
  z212 := Tryd.sizeOf165
  v212 := Tryd.zeroValue165
  t213 := Tryd.underlying167
  a213 := Tryd.isAgg167
  z213 := Tryd.sizeOf167
  t232 := Tryd.underlying187
  a232 := Tryd.isAgg187
  z232 := Tryd.sizeOf187
  v232 := Tryd.zeroValue187
  t233 := Tryd.underlying188
  a233 := Tryd.isAgg188
  z233 := Tryd.sizeOf188
  v233 := Tryd.zeroValue188
  g17 := by kernel_rfl
  g18 := by kernel_rfl
  g19 := by kernel_rfl }
open Go.RowKit Go.Sort Go.Lib in
/-- THE ROAD WITHOUT THE TABLE: 0 <= i < 100: NO PREMISE ON THE WORLD, AND THE WORLD IS AS IT WAS: a row that keeps its argument in that range need list no table ('laid = []'). (LAID: no walk: one application.) -/
theorem Tryd.strconv_Itoa_small (i : Nat) (hi : i < 100) (w : World) :
    Calls Tryd.prog 37 #[.int .i64 i] w fun e w' => e = .returned (.string ⟨(Lib.decDigits i).toArray⟩) ∧ w' = w := Any.strconv_Itoa_small Tryd.lays171 i hi w
def Tryd.laysM316_ren : Go.Shelf.Ren := ⟨fun | 316 => 150 | n => n, fun | 9 => 9 | 3 => 3 | 4 => 4 | 37 => 35 | 0 => 0 | 127 => 151 | 5 => 5 | n => n, fun | n => n⟩
theorem Tryd.laysM316 : Go.Proofs.LaysM.n316 Tryd.prog Tryd.laysM316_ren := {
  mixed := by kernel_rfl
  f316 := Tryd.func150.trans (congrArg some (by kernel_rfl))
  t0 := Tryd.underlying0
  a0 := Tryd.isAgg0
  z0 := Tryd.sizeOf0
  v0 := Tryd.zeroValue0
  t3 := Tryd.underlying3
  a3 := Tryd.isAgg3
  z3 := Tryd.sizeOf3
  v3 := Tryd.zeroValue3
  t4 := Tryd.underlying4
  a4 := Tryd.isAgg4
  z4 := Tryd.sizeOf4
  v4 := Tryd.zeroValue4
  t9 := Tryd.underlying9
  a9 := Tryd.isAgg9
  z9 := Tryd.sizeOf9
  v9 := Tryd.zeroValue9
  t37 := Tryd.underlying35
  a37 := Tryd.isAgg35
  z37 := Tryd.sizeOf35
  v37 := Tryd.zeroValue35
  t127 := Tryd.underlying151
  a127 := Tryd.isAgg151
  z127 := Tryd.sizeOf151
  v127 := Tryd.zeroValue151
  t5 := Tryd.underlying5
  a5 := Tryd.isAgg5
  z5 := Tryd.sizeOf5
  v5 := Tryd.zeroValue5
  i0 := by kernel_rfl
  i3 := by kernel_rfl
  i4 := by kernel_rfl
  i5 := by kernel_rfl
  i9 := by kernel_rfl
  i37 := by kernel_rfl
  i127 := by kernel_rfl }
open Go.RowKit in
/-- internal/stringslite.Clone (what strings.Clone calls): "Clone returns a fresh copy of s.": THE SAME BYTES. Of what was there nothing has turned (a new row is laid, and frozen, where s is not empty). (LAID: no walk: one application.) -/
theorem Tryd.stringslite_Clone (s : ByteArray) (w : World) (hlim : s.size ≤ 281474976710656) :
    Calls Tryd.prog 150 #[.string s] w fun e w' => e = .returned (.string s) ∧ Below w.heap.size w w' := Any.stringslite_Clone Tryd.laysM316 s w hlim
def Tryd.laysM279_ren : Go.Shelf.Ren := ⟨fun | 279 => 142 | 316 => 150 | n => n, fun | 9 => 9 | 168 => 177 | 75 => 130 | 210 => 185 | 3 => 3 | 4 => 4 | 37 => 35 | 0 => 0 | 127 => 151 | 80 => 133 | 5 => 5 | n => n, fun | 15 => 4 | n => n⟩
theorem Tryd.laysM279 : Go.Proofs.LaysM.n279 Tryd.prog Tryd.laysM279_ren := {
  mixed := by kernel_rfl
  f279 := Tryd.func142.trans (congrArg some (by kernel_rfl))
  f316 := Tryd.func150.trans (congrArg some (by kernel_rfl))
  t0 := Tryd.underlying0
  a0 := Tryd.isAgg0
  z0 := Tryd.sizeOf0
  v0 := Tryd.zeroValue0
  t3 := Tryd.underlying3
  a3 := Tryd.isAgg3
  z3 := Tryd.sizeOf3
  v3 := Tryd.zeroValue3
  t4 := Tryd.underlying4
  a4 := Tryd.isAgg4
  z4 := Tryd.sizeOf4
  v4 := Tryd.zeroValue4
  t9 := Tryd.underlying9
  a9 := Tryd.isAgg9
  z9 := Tryd.sizeOf9
  v9 := Tryd.zeroValue9
  t37 := Tryd.underlying35
  a37 := Tryd.isAgg35
  z37 := Tryd.sizeOf35
  v37 := Tryd.zeroValue35
  t75 := Tryd.underlying130
  a75 := Tryd.isAgg130
  z75 := Tryd.sizeOf130
  v75 := Tryd.zeroValue130
  t127 := Tryd.underlying151
  a127 := Tryd.isAgg151
  z127 := Tryd.sizeOf151
  v127 := Tryd.zeroValue151
  t168 := Tryd.underlying177
  a168 := Tryd.isAgg177
  z168 := Tryd.sizeOf177
  v168 := Tryd.zeroValue177
  t210 := Tryd.underlying185
  a210 := Tryd.isAgg185
  z210 := Tryd.sizeOf185
  v210 := Tryd.zeroValue185
  g15 := by kernel_rfl
  t5 := Tryd.underlying5
  a5 := Tryd.isAgg5
  z5 := Tryd.sizeOf5
  v5 := Tryd.zeroValue5
  t80 := Tryd.underlying133
  a80 := Tryd.isAgg133
  z80 := Tryd.sizeOf133
  v80 := Tryd.zeroValue133
  i0 := by kernel_rfl
  i3 := by kernel_rfl
  i4 := by kernel_rfl
  i5 := by kernel_rfl
  i9 := by kernel_rfl
  i37 := by kernel_rfl
  i75 := by kernel_rfl
  i80 := by kernel_rfl
  i127 := by kernel_rfl
  i168 := by kernel_rfl
  i210 := by kernel_rfl
  m15 := by kernel_rfl }
open Go.RowKit in
/-- strconv.syntaxError: '&NumError{fn, stringslite.Clone(str), ErrSyntax}': A POINTER TO A NEW BLOCK that holds fn, str's bytes, and what the variable ErrSyntax holds. Of what was there nothing has turned. (LAID: no walk: one application.) -/
theorem Tryd.strconv_syntaxError (fn s : ByteArray) (ev : Value) (w : World) (hlim : s.size ≤ 281474976710656) (hv : w.cell? ⟨4, 0, none⟩ = some ev) (hev : ev = .nilIface ∨ ∃ te pe, ev = .iface te pe) :
    Calls Tryd.prog 142 #[.string fn, .string s] w fun e w' => ∃ N, e = .returned (.pointer (some ⟨N, 0, none⟩)) ∧ w.heap.size ≤ N ∧ w'.heap[N]? = some (.cells #[.string fn, .string s, ev] 185 (0, 0)) ∧ Below w.heap.size w w' := Any.strconv_syntaxError Tryd.laysM279 fn s ev w hlim hv hev
def Tryd.laysC245_ren : Go.Shelf.Ren := ⟨fun | 245 => 125 | 279 => 142 | 280 => 143 | 281 => 144 | 282 => 145 | 316 => 150 | 171 => 37 | 205 => 151 | 243 => 64 | 246 => 91 | 283 => 114 | 284 => 115 | 285 => 116 | 286 => 117 | 129 => 131 | 317 => 130 | 318 => 132 | 319 => 133 | 320 => 134 | 337 => 146 | 338 => 147 | n => n, fun | 9 => 9 | 3 => 3 | 75 => 130 | 167 => 175 | 4 => 4 | 168 => 177 | 210 => 185 | 37 => 35 | 0 => 0 | 127 => 151 | 145 => 191 | 143 => 189 | 2 => 2 | 171 => 152 | 53 => 147 | 5 => 5 | 173 => 155 | 212 => 165 | 51 => 166 | 20 => 20 | 213 => 167 | 46 => 168 | 232 => 187 | 233 => 188 | 80 => 133 | n => n, fun | 15 => 4 | 16 => 5 | 17 => 0 | 18 => 6 | 19 => 7 | n => n⟩
theorem Tryd.laysC245 : Go.Proofs.LaysC.n245 Tryd.prog Tryd.laysC245_ren := {
  mixed := by kernel_rfl
  f129 := Tryd.func131.trans (congrArg some (by kernel_rfl))
  f171 := Tryd.func37.trans (congrArg some (by kernel_rfl))
  f205 := Tryd.func151.trans (congrArg some (by kernel_rfl))
  f243 := Tryd.func64.trans (congrArg some (by kernel_rfl))
  f245 := Tryd.func125.trans (congrArg some (by kernel_rfl))
  f246 := Tryd.func91.trans (congrArg some (by kernel_rfl))
  f279 := Tryd.func142.trans (congrArg some (by kernel_rfl))
  f280 := Tryd.func143.trans (congrArg some (by kernel_rfl))
  f281 := Tryd.func144.trans (congrArg some (by kernel_rfl))
  f282 := Tryd.func145.trans (congrArg some (by kernel_rfl))
  f283 := Tryd.func114.trans (congrArg some (by kernel_rfl))
  f284 := Tryd.func115.trans (congrArg some (by kernel_rfl))
  f285 := Tryd.func116.trans (congrArg some (by kernel_rfl))
  f286 := Tryd.func117.trans (congrArg some (by kernel_rfl))
  f316 := Tryd.func150.trans (congrArg some (by kernel_rfl))
  f317 := Tryd.func130.trans (congrArg some (by kernel_rfl))
  f318 := Tryd.func132.trans (congrArg some (by kernel_rfl))
  f319 := Tryd.func133.trans (congrArg some (by kernel_rfl))
  f320 := Tryd.func134.trans (congrArg some (by kernel_rfl))
  f337 := Tryd.func146.trans (congrArg some (by kernel_rfl))
  f338 := Tryd.func147.trans (congrArg some (by kernel_rfl))
  t0 := Tryd.underlying0
  a0 := Tryd.isAgg0
  z0 := Tryd.sizeOf0
  v0 := Tryd.zeroValue0
  t2 := Tryd.underlying2
  a2 := Tryd.isAgg2
  z2 := Tryd.sizeOf2
  v2 := Tryd.zeroValue2
  t3 := Tryd.underlying3
  a3 := Tryd.isAgg3
  z3 := Tryd.sizeOf3
  v3 := Tryd.zeroValue3
  t4 := Tryd.underlying4
  a4 := Tryd.isAgg4
  z4 := Tryd.sizeOf4
  v4 := Tryd.zeroValue4
  t5 := Tryd.underlying5
  a5 := Tryd.isAgg5
  z5 := Tryd.sizeOf5
  v5 := Tryd.zeroValue5
  t9 := Tryd.underlying9
  a9 := Tryd.isAgg9
  z9 := Tryd.sizeOf9
  v9 := Tryd.zeroValue9
  t20 := Tryd.underlying20
  a20 := Tryd.isAgg20
  z20 := Tryd.sizeOf20
  v20 := Tryd.zeroValue20
  t37 := Tryd.underlying35
  a37 := Tryd.isAgg35
  z37 := Tryd.sizeOf35
  v37 := Tryd.zeroValue35
  t46 := Tryd.underlying168
  a46 := Tryd.isAgg168
  z46 := Tryd.sizeOf168
  v46 := Tryd.zeroValue168
  t51 := Tryd.underlying166
  a51 := Tryd.isAgg166
  z51 := Tryd.sizeOf166
  v51 := Tryd.zeroValue166
  t53 := Tryd.underlying147
  a53 := Tryd.isAgg147
  z53 := Tryd.sizeOf147
  v53 := Tryd.zeroValue147
  t75 := Tryd.underlying130
  a75 := Tryd.isAgg130
  z75 := Tryd.sizeOf130
  v75 := Tryd.zeroValue130
  t127 := Tryd.underlying151
  a127 := Tryd.isAgg151
  z127 := Tryd.sizeOf151
  v127 := Tryd.zeroValue151
  t143 := Tryd.underlying189
  a143 := Tryd.isAgg189
  z143 := Tryd.sizeOf189
  v143 := Tryd.zeroValue189
  t145 := Tryd.underlying191
  a145 := Tryd.isAgg191
  z145 := Tryd.sizeOf191
  v145 := Tryd.zeroValue191
  t167 := Tryd.underlying175
  a167 := Tryd.isAgg175
  z167 := Tryd.sizeOf175
  v167 := Tryd.zeroValue175
  t168 := Tryd.underlying177
  a168 := Tryd.isAgg177
  z168 := Tryd.sizeOf177
  v168 := Tryd.zeroValue177
  t171 := Tryd.underlying152
  a171 := Tryd.isAgg152
  z171 := Tryd.sizeOf152
  v171 := Tryd.zeroValue152
  t173 := Tryd.underlying155
  a173 := Tryd.isAgg155
  z173 := Tryd.sizeOf155
  v173 := Tryd.zeroValue155
  t210 := Tryd.underlying185
  a210 := Tryd.isAgg185
  z210 := Tryd.sizeOf185
  v210 := Tryd.zeroValue185
  t212 := Tryd.underlying165
  a212 := Tryd.isAgg165
  z212 := Tryd.sizeOf165
  v212 := Tryd.zeroValue165
  t213 := Tryd.underlying167
  a213 := Tryd.isAgg167
  z213 := Tryd.sizeOf167
  t232 := Tryd.underlying187
  a232 := Tryd.isAgg187
  z232 := Tryd.sizeOf187
  v232 := Tryd.zeroValue187
  t233 := Tryd.underlying188
  a233 := Tryd.isAgg188
  z233 := Tryd.sizeOf188
  v233 := Tryd.zeroValue188
  g15 := by kernel_rfl
  g16 := by kernel_rfl
  g17 := by kernel_rfl
  g18 := by kernel_rfl
  g19 := by kernel_rfl
  t80 := Tryd.underlying133
  a80 := Tryd.isAgg133
  z80 := Tryd.sizeOf133
  v80 := Tryd.zeroValue133
  i0 := by kernel_rfl
  i2 := by kernel_rfl
  i3 := by kernel_rfl
  i4 := by kernel_rfl
  i5 := by kernel_rfl
  i9 := by kernel_rfl
  i20 := by kernel_rfl
  i37 := by kernel_rfl
  i46 := by kernel_rfl
  i51 := by kernel_rfl
  i53 := by kernel_rfl
  i75 := by kernel_rfl
  i80 := by kernel_rfl
  i127 := by kernel_rfl
  i143 := by kernel_rfl
  i145 := by kernel_rfl
  i167 := by kernel_rfl
  i168 := by kernel_rfl
  i171 := by kernel_rfl
  i173 := by kernel_rfl
  i210 := by kernel_rfl
  i212 := by kernel_rfl
  i232 := by kernel_rfl
  i233 := by kernel_rfl
  m15 := by kernel_rfl
  m16 := by kernel_rfl
  m17 := by kernel_rfl
  m18 := by kernel_rfl
  m19 := by kernel_rfl
  c0 := by kernel_rfl
  c2 := by kernel_rfl
  c3 := by kernel_rfl
  c4 := by kernel_rfl
  c5 := by kernel_rfl
  c9 := by kernel_rfl
  c20 := by kernel_rfl
  c37 := by kernel_rfl
  c46 := by kernel_rfl
  c51 := by kernel_rfl
  c53 := by kernel_rfl
  c75 := by kernel_rfl
  c80 := by kernel_rfl
  c127 := by kernel_rfl
  c143 := by kernel_rfl
  c145 := by kernel_rfl
  c167 := by kernel_rfl
  c168 := by kernel_rfl
  c171 := by kernel_rfl
  c173 := by kernel_rfl
  c210 := by kernel_rfl
  c212 := by kernel_rfl
  c213 := by kernel_rfl
  c232 := by kernel_rfl
  c233 := by kernel_rfl }
open Go.RowKit in
/-- strconv.toError, at the inner package's ErrSyntax: 'syntaxError(fn, s)' as an error: A *NumError IN A NEW BLOCK. (LAID: no walk: one application.) -/
theorem Tryd.strconv_toError_syntax (fn s : ByteArray) (base bits : Int) (ev : Value) (w : World) (hlim : s.size ≤ 281474976710656) (hv : w.cell? ⟨4, 0, none⟩ = some ev) (hev : ev = .nilIface ∨ ∃ te pe, ev = .iface te pe) :
    Calls Tryd.prog 125 #[.string fn, .string s, .int .i64 base, .int .i64 bits, .iface 175 (.int .i64 2)] w fun e w' => ∃ N, e = .returned (.iface 177 (.pointer (some ⟨N, 0, none⟩))) ∧ w.heap.size ≤ N ∧ w'.heap[N]? = some (.cells #[.string fn, .string s, ev] 185 (0, 0)) ∧ Below w.heap.size w w' := Any.strconv_toError_syntax Tryd.laysC245 fn s base bits ev w hlim hv hev
def Tryd.lays321_ren : Go.Shelf.Ren := ⟨fun | 321 => 140 | n => n, fun | 5 => 5 | n => n, fun | n => n⟩
theorem Tryd.lays321 : Go.Proofs.Lays.n321 Tryd.prog Tryd.lays321_ren := {
  mixed := by kernel_rfl
  f321 := Tryd.func140.trans (congrArg some (by kernel_rfl))
  t5 := Tryd.underlying5
  a5 := Tryd.isAgg5
  z5 := Tryd.sizeOf5
  v5 := Tryd.zeroValue5 }
open Go.RowKit in
/-- internal/strconv.lower: 'c | ('x' - 'X')': the bit 32 set. The world is as it was. (LAID: no walk: one application.) -/
theorem Tryd.internal_strconv_lower (c : Int) (w : World) :
    Calls Tryd.prog 140 #[.int .u8 c] w fun e w' => e = .returned (.int .u8 (bits .or .u8 c 32)) ∧ w' = w := Any.internal_strconv_lower Tryd.lays321 c w
def Tryd.laysM280_ren : Go.Shelf.Ren := ⟨fun | 280 => 143 | 316 => 150 | n => n, fun | 9 => 9 | 168 => 177 | 75 => 130 | 210 => 185 | 3 => 3 | 4 => 4 | 37 => 35 | 0 => 0 | 127 => 151 | 80 => 133 | 5 => 5 | n => n, fun | 16 => 5 | n => n⟩
theorem Tryd.laysM280 : Go.Proofs.LaysM.n280 Tryd.prog Tryd.laysM280_ren := {
  mixed := by kernel_rfl
  f280 := Tryd.func143.trans (congrArg some (by kernel_rfl))
  f316 := Tryd.func150.trans (congrArg some (by kernel_rfl))
  t0 := Tryd.underlying0
  a0 := Tryd.isAgg0
  z0 := Tryd.sizeOf0
  v0 := Tryd.zeroValue0
  t3 := Tryd.underlying3
  a3 := Tryd.isAgg3
  z3 := Tryd.sizeOf3
  v3 := Tryd.zeroValue3
  t4 := Tryd.underlying4
  a4 := Tryd.isAgg4
  z4 := Tryd.sizeOf4
  v4 := Tryd.zeroValue4
  t9 := Tryd.underlying9
  a9 := Tryd.isAgg9
  z9 := Tryd.sizeOf9
  v9 := Tryd.zeroValue9
  t37 := Tryd.underlying35
  a37 := Tryd.isAgg35
  z37 := Tryd.sizeOf35
  v37 := Tryd.zeroValue35
  t75 := Tryd.underlying130
  a75 := Tryd.isAgg130
  z75 := Tryd.sizeOf130
  v75 := Tryd.zeroValue130
  t127 := Tryd.underlying151
  a127 := Tryd.isAgg151
  z127 := Tryd.sizeOf151
  v127 := Tryd.zeroValue151
  t168 := Tryd.underlying177
  a168 := Tryd.isAgg177
  z168 := Tryd.sizeOf177
  v168 := Tryd.zeroValue177
  t210 := Tryd.underlying185
  a210 := Tryd.isAgg185
  z210 := Tryd.sizeOf185
  v210 := Tryd.zeroValue185
  g16 := by kernel_rfl
  t5 := Tryd.underlying5
  a5 := Tryd.isAgg5
  z5 := Tryd.sizeOf5
  v5 := Tryd.zeroValue5
  t80 := Tryd.underlying133
  a80 := Tryd.isAgg133
  z80 := Tryd.sizeOf133
  v80 := Tryd.zeroValue133
  i0 := by kernel_rfl
  i3 := by kernel_rfl
  i4 := by kernel_rfl
  i5 := by kernel_rfl
  i9 := by kernel_rfl
  i37 := by kernel_rfl
  i75 := by kernel_rfl
  i80 := by kernel_rfl
  i127 := by kernel_rfl
  i168 := by kernel_rfl
  i210 := by kernel_rfl
  m16 := by kernel_rfl }
open Go.RowKit in
/-- strconv.rangeError: '&NumError{fn, stringslite.Clone(str), ErrRange}': A POINTER TO A NEW BLOCK that holds fn, str's bytes, and what the variable ErrRange holds. Of what was there nothing has turned. (LAID: no walk: one application.) -/
theorem Tryd.strconv_rangeError (fn s : ByteArray) (ev : Value) (w : World) (hlim : s.size ≤ 281474976710656) (hv : w.cell? ⟨5, 0, none⟩ = some ev) (hev : ev = .nilIface ∨ ∃ te pe, ev = .iface te pe) :
    Calls Tryd.prog 143 #[.string fn, .string s] w fun e w' => ∃ N, e = .returned (.pointer (some ⟨N, 0, none⟩)) ∧ w.heap.size ≤ N ∧ w'.heap[N]? = some (.cells #[.string fn, .string s, ev] 185 (0, 0)) ∧ Below w.heap.size w w' := Any.strconv_rangeError Tryd.laysM280 fn s ev w hlim hv hev
open Go.RowKit in
/-- strconv.toError, at the inner package's ErrRange: 'rangeError(fn, s)' as an error: A *NumError IN A NEW BLOCK. (LAID: no walk: one application.) -/
theorem Tryd.strconv_toError_range (fn s : ByteArray) (base bits : Int) (ev : Value) (w : World) (hlim : s.size ≤ 281474976710656) (hv : w.cell? ⟨5, 0, none⟩ = some ev) (hev : ev = .nilIface ∨ ∃ te pe, ev = .iface te pe) :
    Calls Tryd.prog 125 #[.string fn, .string s, .int .i64 base, .int .i64 bits, .iface 175 (.int .i64 1)] w fun e w' => ∃ N, e = .returned (.iface 177 (.pointer (some ⟨N, 0, none⟩))) ∧ w.heap.size ≤ N ∧ w'.heap[N]? = some (.cells #[.string fn, .string s, ev] 185 (0, 0)) ∧ Below w.heap.size w w' := Any.strconv_toError_range Tryd.laysC245 fn s base bits ev w hlim hv hev
def Tryd.lays217_ren : Go.Shelf.Ren := ⟨fun | 217 => 97 | 266 => 118 | n => n, fun | 9 => 9 | 5 => 5 | 3 => 3 | n => n, fun | n => n⟩
theorem Tryd.lays217 : Go.Proofs.Lays.n217 Tryd.prog Tryd.lays217_ren := {
  mixed := by kernel_rfl
  f217 := Tryd.func97.trans (congrArg some (by kernel_rfl))
  f266 := Tryd.func118.trans (congrArg some (by kernel_rfl))
  t3 := Tryd.underlying3
  a3 := Tryd.isAgg3
  z3 := Tryd.sizeOf3
  v3 := Tryd.zeroValue3
  t5 := Tryd.underlying5
  a5 := Tryd.isAgg5
  z5 := Tryd.sizeOf5
  v5 := Tryd.zeroValue5
  t9 := Tryd.underlying9
  a9 := Tryd.isAgg9
  z9 := Tryd.sizeOf9
  v9 := Tryd.zeroValue9 }
open Go.RowKit Go.Lib in
/-- internal/stringslite.IndexByte (what strings.IndexByte calls): IT RETURNS 'Lib.indexByte s c'; the world is as it was. (LAID: no walk: one application.) -/
theorem Tryd.stringslite_IndexByte (s : ByteArray) (c : Int) (w : World) :
    Calls Tryd.prog 97 #[.string s, .int .u8 c] w fun e w' => e = .returned (.int .i64 (Lib.indexByte s.data.toList c.toNat.toUInt8)) ∧ w' = w := Any.stringslite_IndexByte Tryd.lays217 s c w
def Tryd.lays224_ren : Go.Shelf.Ren := ⟨fun | 224 => 138 | n => n, fun | 3 => 3 | n => n, fun | n => n⟩
theorem Tryd.lays224 : Go.Proofs.Lays.n224 Tryd.prog Tryd.lays224_ren := {
  mixed := by kernel_rfl
  f224 := Tryd.func138.trans (congrArg some (by kernel_rfl))
  t3 := Tryd.underlying3
  a3 := Tryd.isAgg3
  z3 := Tryd.sizeOf3
  v3 := Tryd.zeroValue3 }
open Go.RowKit Go.Lib in
/-- internal/bytealg.Cutover: "Cutover reports the number of failures of IndexByte we should tolerate before switching over to Index. n is the number of bytes processed so far.": on amd64: (n + 16) / 8. (LAID: no walk: one application.) -/
theorem Tryd.bytealg_Cutover (n : Int) (h0 : 0 ≤ n) (h1 : n < 4611686018427387904) (w : World) :
    Calls Tryd.prog 138 #[.int .i64 n] w fun e w' => e = .returned (.int .i64 ((n + 16) / 8)) ∧ w' = w := Any.bytealg_Cutover Tryd.lays224 n h0 h1 w
def Tryd.lays314_ren : Go.Shelf.Ren := ⟨fun | 314 => 149 | n => n, fun | 9 => 9 | 51 => 166 | 3 => 3 | 4 => 4 | 5 => 5 | 46 => 168 | n => n, fun | n => n⟩
theorem Tryd.lays314 : Go.Proofs.Lays.n314 Tryd.prog Tryd.lays314_ren := {
  mixed := by kernel_rfl
  f314 := Tryd.func149.trans (congrArg some (by kernel_rfl))
  t3 := Tryd.underlying3
  a3 := Tryd.isAgg3
  z3 := Tryd.sizeOf3
  v3 := Tryd.zeroValue3
  t4 := Tryd.underlying4
  a4 := Tryd.isAgg4
  z4 := Tryd.sizeOf4
  v4 := Tryd.zeroValue4
  t5 := Tryd.underlying5
  a5 := Tryd.isAgg5
  z5 := Tryd.sizeOf5
  v5 := Tryd.zeroValue5
  t9 := Tryd.underlying9
  a9 := Tryd.isAgg9
  z9 := Tryd.sizeOf9
  v9 := Tryd.zeroValue9
  t46 := Tryd.underlying168
  a46 := Tryd.isAgg168
  z46 := Tryd.sizeOf168
  v46 := Tryd.zeroValue168
  t51 := Tryd.underlying166
  a51 := Tryd.isAgg166
  z51 := Tryd.sizeOf166
  v51 := Tryd.zeroValue166 }
open Go.RowKit Go.Lib in
/-- hashStr: "returns the hash and the appropriate multiplicative factor for use in Rabin-Karp algorithm": THE HASH OF ALL OF sep, AND 16777619 ^ len(sep), both in uint32. (LAID: no walk: one application.) -/
theorem Tryd.bytealg_hashStr (sep : ByteArray) (hs : sep.size < 4294967281) (w : World) :
    Calls Tryd.prog 149 #[.string sep] w fun e w' => e = .returned (.tuple #[.int .u32 (RK.H sep.data.toList % 4294967296), .int .u32 (16777619 ^ sep.size % 4294967296)]) ∧ w' = w := Any.bytealg_hashStr Tryd.lays314 sep hs w
def Tryd.lays267_ren : Go.Shelf.Ren := ⟨fun | 267 => 139 | 314 => 149 | n => n, fun | 9 => 9 | 3 => 3 | 146 => 182 | 51 => 166 | 4 => 4 | 5 => 5 | 46 => 168 | n => n, fun | n => n⟩
theorem Tryd.lays267 : Go.Proofs.Lays.n267 Tryd.prog Tryd.lays267_ren := {
  mixed := by kernel_rfl
  f267 := Tryd.func139.trans (congrArg some (by kernel_rfl))
  f314 := Tryd.func149.trans (congrArg some (by kernel_rfl))
  t3 := Tryd.underlying3
  a3 := Tryd.isAgg3
  z3 := Tryd.sizeOf3
  v3 := Tryd.zeroValue3
  t4 := Tryd.underlying4
  a4 := Tryd.isAgg4
  z4 := Tryd.sizeOf4
  v4 := Tryd.zeroValue4
  t5 := Tryd.underlying5
  a5 := Tryd.isAgg5
  z5 := Tryd.sizeOf5
  v5 := Tryd.zeroValue5
  t9 := Tryd.underlying9
  a9 := Tryd.isAgg9
  z9 := Tryd.sizeOf9
  v9 := Tryd.zeroValue9
  t46 := Tryd.underlying168
  a46 := Tryd.isAgg168
  z46 := Tryd.sizeOf168
  v46 := Tryd.zeroValue168
  t51 := Tryd.underlying166
  a51 := Tryd.isAgg166
  z51 := Tryd.sizeOf166
  v51 := Tryd.zeroValue166
  t146 := Tryd.underlying182
  a146 := Tryd.isAgg182
  z146 := Tryd.sizeOf182
  v146 := Tryd.zeroValue182 }
open Go.RowKit Go.Lib in
theorem Tryd.bytealg_IndexRabinKarp (s sep : ByteArray) (h1 : 1 ≤ sep.size) (h2 : sep.size ≤ s.size) (hs : s.size < 4294967281) (w : World) :
    Calls Tryd.prog 139 #[.string s, .string sep] w fun e w' => e = .returned (.int .i64 (Lib.index s.data.toList sep.data.toList)) ∧ w' = w := Any.bytealg_IndexRabinKarp Tryd.lays267 s sep h1 h2 hs w
def Tryd.lays219_ren : Go.Shelf.Ren := ⟨fun | 219 => 123 | 217 => 97 | 225 => 137 | 224 => 138 | 267 => 139 | 266 => 118 | 314 => 149 | n => n, fun | 9 => 9 | 3 => 3 | 4 => 4 | 5 => 5 | 46 => 168 | 146 => 182 | 51 => 166 | n => n, fun | 1 => 1 | n => n⟩
theorem Tryd.lays219 : Go.Proofs.Lays.n219 Tryd.prog Tryd.lays219_ren := {
  mixed := by kernel_rfl
  f217 := Tryd.func97.trans (congrArg some (by kernel_rfl))
  f219 := Tryd.func123.trans (congrArg some (by kernel_rfl))
  f224 := Tryd.func138.trans (congrArg some (by kernel_rfl))
  f225 := Tryd.func137.trans (congrArg some (by kernel_rfl))
  f266 := Tryd.func118.trans (congrArg some (by kernel_rfl))
  f267 := Tryd.func139.trans (congrArg some (by kernel_rfl))
  f314 := Tryd.func149.trans (congrArg some (by kernel_rfl))
  t3 := Tryd.underlying3
  a3 := Tryd.isAgg3
  z3 := Tryd.sizeOf3
  v3 := Tryd.zeroValue3
  t4 := Tryd.underlying4
  a4 := Tryd.isAgg4
  z4 := Tryd.sizeOf4
  v4 := Tryd.zeroValue4
  t5 := Tryd.underlying5
  a5 := Tryd.isAgg5
  z5 := Tryd.sizeOf5
  v5 := Tryd.zeroValue5
  t9 := Tryd.underlying9
  a9 := Tryd.isAgg9
  z9 := Tryd.sizeOf9
  v9 := Tryd.zeroValue9
  t46 := Tryd.underlying168
  a46 := Tryd.isAgg168
  z46 := Tryd.sizeOf168
  v46 := Tryd.zeroValue168
  t51 := Tryd.underlying166
  a51 := Tryd.isAgg166
  z51 := Tryd.sizeOf166
  v51 := Tryd.zeroValue166
  t146 := Tryd.underlying182
  a146 := Tryd.isAgg182
  z146 := Tryd.sizeOf182
  v146 := Tryd.zeroValue182
  g1 := by kernel_rfl }
open Go.RowKit Go.Lib in
/-- internal/stringslite.Index (what strings.Index calls) AT A substr OF ONE BYTE c: IT RETURNS 'Lib.indexByte s c'; the world is as it was. (LAID: no walk: one application.) -/
theorem Tryd.stringslite_Index_one (s : ByteArray) (c : UInt8) (w : World) :
    Calls Tryd.prog 123 #[.string s, .string ⟨#[c]⟩] w fun e w' => e = .returned (.int .i64 (Lib.indexByte s.data.toList c)) ∧ w' = w := Any.stringslite_Index_one Tryd.lays219 s c w
open Go.RowKit Go.Lib in
/-- internal/stringslite.Index (what strings.Index calls) AT A substr OF WHATEVER LENGTH: IT RETURNS 'Lib.index s substr'; the world is as it was. 'm': what internal/bytealg.MaxLen holds: whatever. (LAID: no walk: one application.) -/
theorem Tryd.stringslite_Index (s sub : ByteArray) (m : Int) (w : World) (hs : s.size < 4294967281) (hm : w.cell? ⟨1, 0, none⟩ = some (.int .i64 m)) :
    Calls Tryd.prog 123 #[.string s, .string sub] w fun e w' => e = .returned (.int .i64 (Lib.index s.data.toList sub.data.toList)) ∧ w' = w := Any.stringslite_Index Tryd.lays219 s sub m w hs hm
def Tryd.lays143_ren : Go.Shelf.Ren := ⟨fun | 143 => 108 | 219 => 123 | 217 => 97 | 225 => 137 | 224 => 138 | 267 => 139 | 266 => 118 | 314 => 149 | n => n, fun | 9 => 9 | 3 => 3 | 4 => 4 | 5 => 5 | 46 => 168 | 146 => 182 | 51 => 166 | n => n, fun | 1 => 1 | n => n⟩
theorem Tryd.lays143 : Go.Proofs.Lays.n143 Tryd.prog Tryd.lays143_ren := {
  mixed := by kernel_rfl
  f143 := Tryd.func108.trans (congrArg some (by kernel_rfl))
  f217 := Tryd.func97.trans (congrArg some (by kernel_rfl))
  f219 := Tryd.func123.trans (congrArg some (by kernel_rfl))
  f224 := Tryd.func138.trans (congrArg some (by kernel_rfl))
  f225 := Tryd.func137.trans (congrArg some (by kernel_rfl))
  f266 := Tryd.func118.trans (congrArg some (by kernel_rfl))
  f267 := Tryd.func139.trans (congrArg some (by kernel_rfl))
  f314 := Tryd.func149.trans (congrArg some (by kernel_rfl))
  t3 := Tryd.underlying3
  a3 := Tryd.isAgg3
  z3 := Tryd.sizeOf3
  v3 := Tryd.zeroValue3
  t4 := Tryd.underlying4
  a4 := Tryd.isAgg4
  z4 := Tryd.sizeOf4
  v4 := Tryd.zeroValue4
  t5 := Tryd.underlying5
  a5 := Tryd.isAgg5
  z5 := Tryd.sizeOf5
  v5 := Tryd.zeroValue5
  t9 := Tryd.underlying9
  a9 := Tryd.isAgg9
  z9 := Tryd.sizeOf9
  v9 := Tryd.zeroValue9
  t46 := Tryd.underlying168
  a46 := Tryd.isAgg168
  z46 := Tryd.sizeOf168
  v46 := Tryd.zeroValue168
  t51 := Tryd.underlying166
  a51 := Tryd.isAgg166
  z51 := Tryd.sizeOf166
  v51 := Tryd.zeroValue166
  t146 := Tryd.underlying182
  a146 := Tryd.isAgg182
  z146 := Tryd.sizeOf182
  v146 := Tryd.zeroValue182
  g1 := by kernel_rfl }
open Go.RowKit Go.Lib in
/-- strings.Index: "Index returns the index of the first instance of substr in s, or -1 if substr is not present in s.": AT A substr OF ONE BYTE c: IT RETURNS 'Lib.indexByte s c'; the world is as it was. (LAID: no walk: one application.) -/
theorem Tryd.strings_Index_one (s : ByteArray) (c : UInt8) (w : World) :
    Calls Tryd.prog 108 #[.string s, .string ⟨#[c]⟩] w fun e w' => e = .returned (.int .i64 (Lib.indexByte s.data.toList c)) ∧ w' = w := Any.strings_Index_one Tryd.lays143 s c w
open Go.RowKit Go.Lib in
/-- strings.Index: "Index returns the index of the first instance of substr in s, or -1 if substr is not present in s.": IT RETURNS 'Lib.index s substr'; the world is as it was. (LAID: no walk: one application.) -/
theorem Tryd.strings_Index (s sub : ByteArray) (m : Int) (w : World) (hs : s.size < 4294967281) (hm : w.cell? ⟨1, 0, none⟩ = some (.int .i64 m)) :
    Calls Tryd.prog 108 #[.string s, .string sub] w fun e w' => e = .returned (.int .i64 (Lib.index s.data.toList sub.data.toList)) ∧ w' = w := Any.strings_Index Tryd.lays143 s sub m w hs hm
def Tryd.lays138_ren : Go.Shelf.Ren := ⟨fun | 138 => 111 | 195 => 126 | 218 => 127 | 143 => 108 | 219 => 123 | 217 => 97 | 225 => 137 | 224 => 138 | 267 => 139 | 266 => 118 | 314 => 149 | n => n, fun | 9 => 9 | 3 => 3 | 4 => 4 | 5 => 5 | 0 => 0 | 46 => 168 | 146 => 182 | 51 => 166 | n => n, fun | 1 => 1 | n => n⟩
theorem Tryd.lays138 : Go.Proofs.Lays.n138 Tryd.prog Tryd.lays138_ren := {
  mixed := by kernel_rfl
  f138 := Tryd.func111.trans (congrArg some (by kernel_rfl))
  f143 := Tryd.func108.trans (congrArg some (by kernel_rfl))
  f195 := Tryd.func126.trans (congrArg some (by kernel_rfl))
  f217 := Tryd.func97.trans (congrArg some (by kernel_rfl))
  f218 := Tryd.func127.trans (congrArg some (by kernel_rfl))
  f219 := Tryd.func123.trans (congrArg some (by kernel_rfl))
  f224 := Tryd.func138.trans (congrArg some (by kernel_rfl))
  f225 := Tryd.func137.trans (congrArg some (by kernel_rfl))
  f266 := Tryd.func118.trans (congrArg some (by kernel_rfl))
  f267 := Tryd.func139.trans (congrArg some (by kernel_rfl))
  f314 := Tryd.func149.trans (congrArg some (by kernel_rfl))
  t0 := Tryd.underlying0
  a0 := Tryd.isAgg0
  z0 := Tryd.sizeOf0
  v0 := Tryd.zeroValue0
  t3 := Tryd.underlying3
  a3 := Tryd.isAgg3
  z3 := Tryd.sizeOf3
  v3 := Tryd.zeroValue3
  t4 := Tryd.underlying4
  a4 := Tryd.isAgg4
  z4 := Tryd.sizeOf4
  v4 := Tryd.zeroValue4
  t5 := Tryd.underlying5
  a5 := Tryd.isAgg5
  z5 := Tryd.sizeOf5
  v5 := Tryd.zeroValue5
  t9 := Tryd.underlying9
  a9 := Tryd.isAgg9
  z9 := Tryd.sizeOf9
  v9 := Tryd.zeroValue9
  t46 := Tryd.underlying168
  a46 := Tryd.isAgg168
  z46 := Tryd.sizeOf168
  v46 := Tryd.zeroValue168
  t51 := Tryd.underlying166
  a51 := Tryd.isAgg166
  z51 := Tryd.sizeOf166
  v51 := Tryd.zeroValue166
  t146 := Tryd.underlying182
  a146 := Tryd.isAgg182
  z146 := Tryd.sizeOf182
  v146 := Tryd.zeroValue182
  g1 := by kernel_rfl }
open Go.RowKit Go.Lib in
/-- strings.Count AT A substr OF ONE BYTE ('hp'): "Count counts the number of non-overlapping instances of substr in s.": IT RETURNS 'Lib.countByte s (that byte)'; the world is as it was. ✋ NO CONTRACT HERE YET at an empty substr (utf8.RuneCountInString) or at a longer one (a loop over strings.Index). (LAID: no walk: one application.) -/
theorem Tryd.strings_Count_one (s : ByteArray) (c : UInt8) (w : World) :
    Calls Tryd.prog 111 #[.string s, .string ⟨#[c]⟩] w fun e w' => e = .returned (.int .i64 (Lib.countByte s.data.toList c)) ∧ w' = w := Any.strings_Count_one Tryd.lays138 s c w
open Go.RowKit Go.Lib in
/-- strings.Count AT A substr OF TWO BYTES OR MORE: "Count counts the number of non-overlapping instances of substr in s.": IT RETURNS 'Lib.count s substr'; the world is as it was. (LAID: no walk: one application.) -/
theorem Tryd.strings_Count (s sub : ByteArray) (m : Int) (w : World) (hs : s.size < 4294967281) (hm : w.cell? ⟨1, 0, none⟩ = some (.int .i64 m)) (h2 : 2 ≤ sub.size) :
    Calls Tryd.prog 111 #[.string s, .string sub] w fun e w' => e = .returned (.int .i64 (Lib.countB s sub)) ∧ w' = w := Any.strings_Count Tryd.lays138 s sub m w hs hm h2
def Tryd.laysM219_ren : Go.Shelf.Ren := ⟨fun | 219 => 123 | 217 => 97 | 225 => 137 | 224 => 138 | 267 => 139 | 266 => 118 | 314 => 149 | n => n, fun | 9 => 9 | 3 => 3 | 4 => 4 | 5 => 5 | 46 => 168 | 146 => 182 | 51 => 166 | n => n, fun | 1 => 1 | n => n⟩
theorem Tryd.laysM219 : Go.Proofs.LaysM.n219 Tryd.prog Tryd.laysM219_ren := {
  mixed := by kernel_rfl
  f217 := Tryd.func97.trans (congrArg some (by kernel_rfl))
  f219 := Tryd.func123.trans (congrArg some (by kernel_rfl))
  f224 := Tryd.func138.trans (congrArg some (by kernel_rfl))
  f225 := Tryd.func137.trans (congrArg some (by kernel_rfl))
  f266 := Tryd.func118.trans (congrArg some (by kernel_rfl))
  f267 := Tryd.func139.trans (congrArg some (by kernel_rfl))
  f314 := Tryd.func149.trans (congrArg some (by kernel_rfl))
  t3 := Tryd.underlying3
  a3 := Tryd.isAgg3
  z3 := Tryd.sizeOf3
  v3 := Tryd.zeroValue3
  t4 := Tryd.underlying4
  a4 := Tryd.isAgg4
  z4 := Tryd.sizeOf4
  v4 := Tryd.zeroValue4
  t5 := Tryd.underlying5
  a5 := Tryd.isAgg5
  z5 := Tryd.sizeOf5
  v5 := Tryd.zeroValue5
  t9 := Tryd.underlying9
  a9 := Tryd.isAgg9
  z9 := Tryd.sizeOf9
  v9 := Tryd.zeroValue9
  t46 := Tryd.underlying168
  a46 := Tryd.isAgg168
  z46 := Tryd.sizeOf168
  v46 := Tryd.zeroValue168
  t51 := Tryd.underlying166
  a51 := Tryd.isAgg166
  z51 := Tryd.sizeOf166
  v51 := Tryd.zeroValue166
  t146 := Tryd.underlying182
  a146 := Tryd.isAgg182
  z146 := Tryd.sizeOf182
  v146 := Tryd.zeroValue182
  g1 := by kernel_rfl
  i3 := by kernel_rfl
  i4 := by kernel_rfl
  i5 := by kernel_rfl
  i9 := by kernel_rfl
  i46 := by kernel_rfl
  i51 := by kernel_rfl
  i146 := by kernel_rfl
  m1 := by kernel_rfl
  s1_3 := fun w h => Go.Proofs.cell_of_shapedOpen_int (zero := #[.int .i64 0]) (t := 3) h (of_decide_eq_true (by kernel_rfl)) (by kernel_rfl) rfl (by kernel_rfl) (by kernel_rfl) Tryd.underlying3 }
open Go.RowKit Go.Lib in
theorem Tryd.stringslite_Index_shaped (s sub : ByteArray) (w : World) (h : w.ShapedOpen Tryd.prog) (hs : s.size < 4294967281) :
    Calls Tryd.prog 123 #[.string s, .string sub] w fun e w' => e = .returned (.int .i64 (Lib.index s.data.toList sub.data.toList)) ∧ w' = w := Any.stringslite_Index_shaped Tryd.laysM219 s sub w h hs
def Tryd.laysM143_ren : Go.Shelf.Ren := ⟨fun | 143 => 108 | 219 => 123 | 217 => 97 | 225 => 137 | 224 => 138 | 267 => 139 | 266 => 118 | 314 => 149 | n => n, fun | 9 => 9 | 3 => 3 | 4 => 4 | 5 => 5 | 46 => 168 | 146 => 182 | 51 => 166 | n => n, fun | 1 => 1 | n => n⟩
theorem Tryd.laysM143 : Go.Proofs.LaysM.n143 Tryd.prog Tryd.laysM143_ren := {
  mixed := by kernel_rfl
  f143 := Tryd.func108.trans (congrArg some (by kernel_rfl))
  f217 := Tryd.func97.trans (congrArg some (by kernel_rfl))
  f219 := Tryd.func123.trans (congrArg some (by kernel_rfl))
  f224 := Tryd.func138.trans (congrArg some (by kernel_rfl))
  f225 := Tryd.func137.trans (congrArg some (by kernel_rfl))
  f266 := Tryd.func118.trans (congrArg some (by kernel_rfl))
  f267 := Tryd.func139.trans (congrArg some (by kernel_rfl))
  f314 := Tryd.func149.trans (congrArg some (by kernel_rfl))
  t3 := Tryd.underlying3
  a3 := Tryd.isAgg3
  z3 := Tryd.sizeOf3
  v3 := Tryd.zeroValue3
  t4 := Tryd.underlying4
  a4 := Tryd.isAgg4
  z4 := Tryd.sizeOf4
  v4 := Tryd.zeroValue4
  t5 := Tryd.underlying5
  a5 := Tryd.isAgg5
  z5 := Tryd.sizeOf5
  v5 := Tryd.zeroValue5
  t9 := Tryd.underlying9
  a9 := Tryd.isAgg9
  z9 := Tryd.sizeOf9
  v9 := Tryd.zeroValue9
  t46 := Tryd.underlying168
  a46 := Tryd.isAgg168
  z46 := Tryd.sizeOf168
  v46 := Tryd.zeroValue168
  t51 := Tryd.underlying166
  a51 := Tryd.isAgg166
  z51 := Tryd.sizeOf166
  v51 := Tryd.zeroValue166
  t146 := Tryd.underlying182
  a146 := Tryd.isAgg182
  z146 := Tryd.sizeOf182
  v146 := Tryd.zeroValue182
  g1 := by kernel_rfl
  i3 := by kernel_rfl
  i4 := by kernel_rfl
  i5 := by kernel_rfl
  i9 := by kernel_rfl
  i46 := by kernel_rfl
  i51 := by kernel_rfl
  i146 := by kernel_rfl
  m1 := by kernel_rfl
  s1_3 := fun w h => Go.Proofs.cell_of_shapedOpen_int (zero := #[.int .i64 0]) (t := 3) h (of_decide_eq_true (by kernel_rfl)) (by kernel_rfl) rfl (by kernel_rfl) (by kernel_rfl) Tryd.underlying3 }
open Go.RowKit Go.Lib in
theorem Tryd.strings_Index_shaped (s sub : ByteArray) (w : World) (h : w.ShapedOpen Tryd.prog) (hs : s.size < 4294967281) :
    Calls Tryd.prog 108 #[.string s, .string sub] w fun e w' => e = .returned (.int .i64 (Lib.index s.data.toList sub.data.toList)) ∧ w' = w := Any.strings_Index_shaped Tryd.laysM143 s sub w h hs
def Tryd.laysM138_ren : Go.Shelf.Ren := ⟨fun | 138 => 111 | 195 => 126 | 218 => 127 | 143 => 108 | 219 => 123 | 217 => 97 | 225 => 137 | 224 => 138 | 267 => 139 | 266 => 118 | 314 => 149 | n => n, fun | 9 => 9 | 3 => 3 | 4 => 4 | 5 => 5 | 0 => 0 | 46 => 168 | 146 => 182 | 51 => 166 | n => n, fun | 1 => 1 | n => n⟩
theorem Tryd.laysM138 : Go.Proofs.LaysM.n138 Tryd.prog Tryd.laysM138_ren := {
  mixed := by kernel_rfl
  f138 := Tryd.func111.trans (congrArg some (by kernel_rfl))
  f143 := Tryd.func108.trans (congrArg some (by kernel_rfl))
  f195 := Tryd.func126.trans (congrArg some (by kernel_rfl))
  f217 := Tryd.func97.trans (congrArg some (by kernel_rfl))
  f218 := Tryd.func127.trans (congrArg some (by kernel_rfl))
  f219 := Tryd.func123.trans (congrArg some (by kernel_rfl))
  f224 := Tryd.func138.trans (congrArg some (by kernel_rfl))
  f225 := Tryd.func137.trans (congrArg some (by kernel_rfl))
  f266 := Tryd.func118.trans (congrArg some (by kernel_rfl))
  f267 := Tryd.func139.trans (congrArg some (by kernel_rfl))
  f314 := Tryd.func149.trans (congrArg some (by kernel_rfl))
  t0 := Tryd.underlying0
  a0 := Tryd.isAgg0
  z0 := Tryd.sizeOf0
  v0 := Tryd.zeroValue0
  t3 := Tryd.underlying3
  a3 := Tryd.isAgg3
  z3 := Tryd.sizeOf3
  v3 := Tryd.zeroValue3
  t4 := Tryd.underlying4
  a4 := Tryd.isAgg4
  z4 := Tryd.sizeOf4
  v4 := Tryd.zeroValue4
  t5 := Tryd.underlying5
  a5 := Tryd.isAgg5
  z5 := Tryd.sizeOf5
  v5 := Tryd.zeroValue5
  t9 := Tryd.underlying9
  a9 := Tryd.isAgg9
  z9 := Tryd.sizeOf9
  v9 := Tryd.zeroValue9
  t46 := Tryd.underlying168
  a46 := Tryd.isAgg168
  z46 := Tryd.sizeOf168
  v46 := Tryd.zeroValue168
  t51 := Tryd.underlying166
  a51 := Tryd.isAgg166
  z51 := Tryd.sizeOf166
  v51 := Tryd.zeroValue166
  t146 := Tryd.underlying182
  a146 := Tryd.isAgg182
  z146 := Tryd.sizeOf182
  v146 := Tryd.zeroValue182
  g1 := by kernel_rfl
  i0 := by kernel_rfl
  i3 := by kernel_rfl
  i4 := by kernel_rfl
  i5 := by kernel_rfl
  i9 := by kernel_rfl
  i46 := by kernel_rfl
  i51 := by kernel_rfl
  i146 := by kernel_rfl
  m1 := by kernel_rfl
  s1_3 := fun w h => Go.Proofs.cell_of_shapedOpen_int (zero := #[.int .i64 0]) (t := 3) h (of_decide_eq_true (by kernel_rfl)) (by kernel_rfl) rfl (by kernel_rfl) (by kernel_rfl) Tryd.underlying3 }
open Go.RowKit Go.Lib in
theorem Tryd.strings_Count_shaped (s sub : ByteArray) (w : World) (h : w.ShapedOpen Tryd.prog) (hs : s.size < 4294967281) (h2 : 2 ≤ sub.size) :
    Calls Tryd.prog 111 #[.string s, .string sub] w fun e w' => e = .returned (.int .i64 (Lib.countB s sub)) ∧ w' = w := Any.strings_Count_shaped Tryd.laysM138 s sub w h hs h2
def Tryd.lays206_ren : Go.Shelf.Ren := ⟨fun | 206 => 87 | n => n, fun | 9 => 9 | 4 => 4 | 3 => 3 | n => n, fun | n => n⟩
theorem Tryd.lays206 : Go.Proofs.Lays.n206 Tryd.prog Tryd.lays206_ren := {
  mixed := by kernel_rfl
  f206 := Tryd.func87.trans (congrArg some (by kernel_rfl))
  t3 := Tryd.underlying3
  a3 := Tryd.isAgg3
  z3 := Tryd.sizeOf3
  v3 := Tryd.zeroValue3
  t4 := Tryd.underlying4
  a4 := Tryd.isAgg4
  z4 := Tryd.sizeOf4
  v4 := Tryd.zeroValue4
  t9 := Tryd.underlying9
  a9 := Tryd.isAgg9
  z9 := Tryd.sizeOf9
  v9 := Tryd.zeroValue9 }
open Go.RowKit Go.Lib in
/-- internal/stringslite.HasPrefix (what strings.HasPrefix calls). (LAID: no walk: one application.) -/
theorem Tryd.stringslite_HasPrefix (s p : ByteArray) (w : World) :
    Calls Tryd.prog 87 #[.string s, .string p] w fun e w' => e = .returned (.bool (Lib.hasPrefix s.data.toList p.data.toList)) ∧ w' = w := Any.stringslite_HasPrefix Tryd.lays206 s p w
def Tryd.lays99_ren : Go.Shelf.Ren := ⟨fun | 99 => 61 | 206 => 87 | n => n, fun | 9 => 9 | 4 => 4 | 3 => 3 | n => n, fun | n => n⟩
theorem Tryd.lays99 : Go.Proofs.Lays.n99 Tryd.prog Tryd.lays99_ren := {
  mixed := by kernel_rfl
  f99 := Tryd.func61.trans (congrArg some (by kernel_rfl))
  f206 := Tryd.func87.trans (congrArg some (by kernel_rfl))
  t3 := Tryd.underlying3
  a3 := Tryd.isAgg3
  z3 := Tryd.sizeOf3
  v3 := Tryd.zeroValue3
  t4 := Tryd.underlying4
  a4 := Tryd.isAgg4
  z4 := Tryd.sizeOf4
  v4 := Tryd.zeroValue4
  t9 := Tryd.underlying9
  a9 := Tryd.isAgg9
  z9 := Tryd.sizeOf9
  v9 := Tryd.zeroValue9 }
open Go.RowKit Go.Lib in
/-- strings.HasPrefix: "HasPrefix reports whether the string s begins with prefix.": IT RETURNS 'Lib.hasPrefix s prefix'; the world is as it was. (LAID: no walk: one application.) -/
theorem Tryd.strings_HasPrefix (s p : ByteArray) (w : World) :
    Calls Tryd.prog 61 #[.string s, .string p] w fun e w' => e = .returned (.bool (Lib.hasPrefix s.data.toList p.data.toList)) ∧ w' = w := Any.strings_HasPrefix Tryd.lays99 s p w
def Tryd.lays152_ren : Go.Shelf.Ren := ⟨fun | 152 => 135 | 137 => 80 | 119 => 148 | 224 => 138 | 225 => 137 | 217 => 97 | 266 => 118 | n => n, fun | 9 => 9 | 21 => 21 | 3 => 3 | 4 => 4 | 5 => 5 | 0 => 0 | 46 => 168 | n => n, fun | n => n⟩
theorem Tryd.lays152 : Go.Proofs.Lays.n152 Tryd.prog Tryd.lays152_ren := {
  mixed := by kernel_rfl
  f119 := Tryd.func148.trans (congrArg some (by kernel_rfl))
  f137 := Tryd.func80.trans (congrArg some (by kernel_rfl))
  f152 := Tryd.func135.trans (congrArg some (by kernel_rfl))
  f217 := Tryd.func97.trans (congrArg some (by kernel_rfl))
  f224 := Tryd.func138.trans (congrArg some (by kernel_rfl))
  f225 := Tryd.func137.trans (congrArg some (by kernel_rfl))
  f266 := Tryd.func118.trans (congrArg some (by kernel_rfl))
  t0 := Tryd.underlying0
  a0 := Tryd.isAgg0
  z0 := Tryd.sizeOf0
  v0 := Tryd.zeroValue0
  t3 := Tryd.underlying3
  a3 := Tryd.isAgg3
  z3 := Tryd.sizeOf3
  v3 := Tryd.zeroValue3
  t4 := Tryd.underlying4
  a4 := Tryd.isAgg4
  z4 := Tryd.sizeOf4
  v4 := Tryd.zeroValue4
  t5 := Tryd.underlying5
  a5 := Tryd.isAgg5
  z5 := Tryd.sizeOf5
  v5 := Tryd.zeroValue5
  t9 := Tryd.underlying9
  a9 := Tryd.isAgg9
  z9 := Tryd.sizeOf9
  v9 := Tryd.zeroValue9
  t21 := Tryd.underlying21
  a21 := Tryd.isAgg21
  z21 := Tryd.sizeOf21
  v21 := Tryd.zeroValue21
  t46 := Tryd.underlying168
  a46 := Tryd.isAgg168
  z46 := Tryd.sizeOf168
  v46 := Tryd.zeroValue168 }
open Go.RowKit Go.Lib in
theorem Tryd.strings_IndexRune_ascii (s : ByteArray) (r : Int) (w : World) (h0 : 0 ≤ r) (h1 : r < 128) :
    Calls Tryd.prog 135 #[.string s, .int .i32 r] w fun e w' => e = .returned (.int .i64 (Lib.indexByte s.data.toList r.toNat.toUInt8)) ∧ w' = w := Any.strings_IndexRune_ascii Tryd.lays152 s r w h0 h1
def Tryd.lays151_ren : Go.Shelf.Ren := ⟨fun | 151 => 120 | 152 => 135 | 137 => 80 | 119 => 148 | 224 => 138 | 225 => 137 | 217 => 97 | 266 => 118 | n => n, fun | 9 => 9 | 21 => 21 | 4 => 4 | 3 => 3 | 5 => 5 | 0 => 0 | 46 => 168 | n => n, fun | n => n⟩
theorem Tryd.lays151 : Go.Proofs.Lays.n151 Tryd.prog Tryd.lays151_ren := {
  mixed := by kernel_rfl
  f119 := Tryd.func148.trans (congrArg some (by kernel_rfl))
  f137 := Tryd.func80.trans (congrArg some (by kernel_rfl))
  f151 := Tryd.func120.trans (congrArg some (by kernel_rfl))
  f152 := Tryd.func135.trans (congrArg some (by kernel_rfl))
  f217 := Tryd.func97.trans (congrArg some (by kernel_rfl))
  f224 := Tryd.func138.trans (congrArg some (by kernel_rfl))
  f225 := Tryd.func137.trans (congrArg some (by kernel_rfl))
  f266 := Tryd.func118.trans (congrArg some (by kernel_rfl))
  t0 := Tryd.underlying0
  a0 := Tryd.isAgg0
  z0 := Tryd.sizeOf0
  v0 := Tryd.zeroValue0
  t3 := Tryd.underlying3
  a3 := Tryd.isAgg3
  z3 := Tryd.sizeOf3
  v3 := Tryd.zeroValue3
  t4 := Tryd.underlying4
  a4 := Tryd.isAgg4
  z4 := Tryd.sizeOf4
  v4 := Tryd.zeroValue4
  t5 := Tryd.underlying5
  a5 := Tryd.isAgg5
  z5 := Tryd.sizeOf5
  v5 := Tryd.zeroValue5
  t9 := Tryd.underlying9
  a9 := Tryd.isAgg9
  z9 := Tryd.sizeOf9
  v9 := Tryd.zeroValue9
  t21 := Tryd.underlying21
  a21 := Tryd.isAgg21
  z21 := Tryd.sizeOf21
  v21 := Tryd.zeroValue21
  t46 := Tryd.underlying168
  a46 := Tryd.isAgg168
  z46 := Tryd.sizeOf168
  v46 := Tryd.zeroValue168 }
open Go.RowKit Go.Lib in
theorem Tryd.strings_ContainsRune_ascii (s : ByteArray) (r : Int) (w : World) (h0 : 0 ≤ r) (h1 : r < 128) :
    Calls Tryd.prog 120 #[.string s, .int .i32 r] w fun e w' => e = .returned (.bool (decide (0 ≤ Lib.indexByte s.data.toList r.toNat.toUInt8))) ∧ w' = w := Any.strings_ContainsRune_ascii Tryd.lays151 s r w h0 h1
def Tryd.lays227_ren : Go.Shelf.Ren := ⟨fun | 227 => 100 | n => n, fun | 9 => 9 | 116 => 138 | 4 => 4 | 0 => 0 | 3 => 3 | 5 => 5 | n => n, fun | n => n⟩
theorem Tryd.lays227 : Go.Proofs.Lays.n227 Tryd.prog Tryd.lays227_ren := {
  mixed := by kernel_rfl
  f227 := Tryd.func100.trans (congrArg some (by kernel_rfl))
  t0 := Tryd.underlying0
  a0 := Tryd.isAgg0
  z0 := Tryd.sizeOf0
  v0 := Tryd.zeroValue0
  t3 := Tryd.underlying3
  a3 := Tryd.isAgg3
  z3 := Tryd.sizeOf3
  v3 := Tryd.zeroValue3
  t4 := Tryd.underlying4
  a4 := Tryd.isAgg4
  z4 := Tryd.sizeOf4
  v4 := Tryd.zeroValue4
  t5 := Tryd.underlying5
  a5 := Tryd.isAgg5
  z5 := Tryd.sizeOf5
  v5 := Tryd.zeroValue5
  t9 := Tryd.underlying9
  a9 := Tryd.isAgg9
  z9 := Tryd.sizeOf9
  v9 := Tryd.zeroValue9
  t116 := Tryd.underlying138
  a116 := Tryd.isAgg138
  z116 := Tryd.sizeOf138 }
open Go.RowKit Go.Lib in
theorem Tryd.strings_makeASCIISet (hv116 : ∀ w, (zeroValue 138).run Tryd.prog w = .ok (.agg (Array.replicate 256 (.bool false))) w) (chars : ByteArray) (w : World) (hs : chars.size < 4294967281) (hascii : ∀ (j : Nat) b, chars.data.toList[j]? = some b → b.toNat < 128) :
    Calls Tryd.prog 100 #[.string chars] w fun e w' => e = .returned (.tuple #[.agg (Lib.setCells chars.data.toList), .bool true]) ∧ w' = w.alloc (.cells (Lib.setCells chars.data.toList) 138) := Any.strings_makeASCIISet Tryd.lays227 hv116 (by kernel_rfl) chars w hs hascii
def Tryd.lays228_ren : Go.Shelf.Ren := ⟨fun | 228 => 119 | n => n, fun | 124 => 142 | 5 => 5 | 4 => 4 | 0 => 0 | 116 => 138 | n => n, fun | n => n⟩
theorem Tryd.lays228 : Go.Proofs.Lays.n228 Tryd.prog Tryd.lays228_ren := {
  mixed := by kernel_rfl
  f228 := Tryd.func119.trans (congrArg some (by kernel_rfl))
  t0 := Tryd.underlying0
  a0 := Tryd.isAgg0
  z0 := Tryd.sizeOf0
  v0 := Tryd.zeroValue0
  t4 := Tryd.underlying4
  a4 := Tryd.isAgg4
  z4 := Tryd.sizeOf4
  v4 := Tryd.zeroValue4
  t5 := Tryd.underlying5
  a5 := Tryd.isAgg5
  z5 := Tryd.sizeOf5
  v5 := Tryd.zeroValue5
  t116 := Tryd.underlying138
  a116 := Tryd.isAgg138
  z116 := Tryd.sizeOf138
  t124 := Tryd.underlying142
  a124 := Tryd.isAgg142
  z124 := Tryd.sizeOf142
  v124 := Tryd.zeroValue142 }
open Go.RowKit Go.Lib in
/-- '(as *asciiSet) contains(c)': 'as[c]': the set lies at block b, whole. (LAID: no walk: one application.) -/
theorem Tryd.asciiSet_contains (b : Nat) (x : UInt8) (v : Bool) (w : World) (hc : w.cell? ⟨b, x.toNat, none⟩ = some (.bool v)) :
    Calls Tryd.prog 119 #[.pointer (some ⟨b, 0, none⟩), .int .u8 x.toNat] w fun e w' => e = .returned (.bool v) ∧ w' = w := Any.asciiSet_contains Tryd.lays228 b x v w hc
def Tryd.lays260_ren : Go.Shelf.Ren := ⟨fun | 260 => 122 | n => n, fun | 9 => 9 | 21 => 21 | 3 => 3 | 4 => 4 | 5 => 5 | 119 => 171 | 0 => 0 | 46 => 168 | 139 => 174 | 138 => 173 | n => n, fun | 3 => 2 | 4 => 3 | n => n⟩
theorem Tryd.lays260 : Go.Proofs.Lays.n260 Tryd.prog Tryd.lays260_ren := {
  mixed := by kernel_rfl
  f260 := Tryd.func122.trans (congrArg some (by kernel_rfl))
  t0 := Tryd.underlying0
  a0 := Tryd.isAgg0
  z0 := Tryd.sizeOf0
  v0 := Tryd.zeroValue0
  t3 := Tryd.underlying3
  a3 := Tryd.isAgg3
  z3 := Tryd.sizeOf3
  v3 := Tryd.zeroValue3
  t4 := Tryd.underlying4
  a4 := Tryd.isAgg4
  z4 := Tryd.sizeOf4
  v4 := Tryd.zeroValue4
  t5 := Tryd.underlying5
  a5 := Tryd.isAgg5
  z5 := Tryd.sizeOf5
  v5 := Tryd.zeroValue5
  t9 := Tryd.underlying9
  a9 := Tryd.isAgg9
  z9 := Tryd.sizeOf9
  v9 := Tryd.zeroValue9
  t21 := Tryd.underlying21
  a21 := Tryd.isAgg21
  z21 := Tryd.sizeOf21
  v21 := Tryd.zeroValue21
  t46 := Tryd.underlying168
  a46 := Tryd.isAgg168
  z46 := Tryd.sizeOf168
  v46 := Tryd.zeroValue168
  t119 := Tryd.underlying171
  a119 := Tryd.isAgg171
  z119 := Tryd.sizeOf171
  t138 := Tryd.underlying173
  a138 := Tryd.isAgg173
  z138 := Tryd.sizeOf173
  v138 := Tryd.zeroValue173
  t139 := Tryd.underlying174
  a139 := Tryd.isAgg174
  z139 := Tryd.sizeOf174
  v139 := Tryd.zeroValue174
  g3 := by kernel_rfl
  g4 := by kernel_rfl }
open Go.RowKit Go.Lib in
theorem Tryd.utf8_decodeRuneInStringSlow (s : ByteArray) (w : World) (hT : Lib.Utf8Tabs 2 3 w) :
    Calls Tryd.prog 122 #[.string s] w fun e w' => e = .returned (.tuple #[.int .i32 (Lib.decodeGo s).1, .int .i64 (Lib.decodeGo s).2]) ∧ Below w.heap.size w w' := Any.utf8_decodeRuneInStringSlow Tryd.lays260 s w hT
def Tryd.lays197_ren : Go.Shelf.Ren := ⟨fun | 197 => 107 | 260 => 122 | n => n, fun | 9 => 9 | 21 => 21 | 3 => 3 | 4 => 4 | 5 => 5 | 105 => 144 | 119 => 171 | 0 => 0 | 46 => 168 | 139 => 174 | 138 => 173 | n => n, fun | 3 => 2 | 4 => 3 | n => n⟩
theorem Tryd.lays197 : Go.Proofs.Lays.n197 Tryd.prog Tryd.lays197_ren := {
  mixed := by kernel_rfl
  f197 := Tryd.func107.trans (congrArg some (by kernel_rfl))
  f260 := Tryd.func122.trans (congrArg some (by kernel_rfl))
  t0 := Tryd.underlying0
  a0 := Tryd.isAgg0
  z0 := Tryd.sizeOf0
  v0 := Tryd.zeroValue0
  t3 := Tryd.underlying3
  a3 := Tryd.isAgg3
  z3 := Tryd.sizeOf3
  v3 := Tryd.zeroValue3
  t4 := Tryd.underlying4
  a4 := Tryd.isAgg4
  z4 := Tryd.sizeOf4
  v4 := Tryd.zeroValue4
  t5 := Tryd.underlying5
  a5 := Tryd.isAgg5
  z5 := Tryd.sizeOf5
  v5 := Tryd.zeroValue5
  t9 := Tryd.underlying9
  a9 := Tryd.isAgg9
  z9 := Tryd.sizeOf9
  v9 := Tryd.zeroValue9
  t21 := Tryd.underlying21
  a21 := Tryd.isAgg21
  z21 := Tryd.sizeOf21
  v21 := Tryd.zeroValue21
  t46 := Tryd.underlying168
  a46 := Tryd.isAgg168
  z46 := Tryd.sizeOf168
  v46 := Tryd.zeroValue168
  t105 := Tryd.underlying144
  a105 := Tryd.isAgg144
  z105 := Tryd.sizeOf144
  v105 := Tryd.zeroValue144
  t119 := Tryd.underlying171
  a119 := Tryd.isAgg171
  z119 := Tryd.sizeOf171
  t138 := Tryd.underlying173
  a138 := Tryd.isAgg173
  z138 := Tryd.sizeOf173
  v138 := Tryd.zeroValue173
  t139 := Tryd.underlying174
  a139 := Tryd.isAgg174
  z139 := Tryd.sizeOf174
  v139 := Tryd.zeroValue174
  g3 := by kernel_rfl
  g4 := by kernel_rfl }
open Go.RowKit Go.Lib in
/-- **unicode/utf8.DecodeRuneInString AT EVERY STRING.** (LAID: no walk: one application.) -/
theorem Tryd.utf8_DecodeRuneInString (s : ByteArray) (w : World) (hT : Lib.Utf8Tabs 2 3 w) :
    Calls Tryd.prog 107 #[.string s] w fun e w' => e = .returned (.tuple #[.int .i32 (Lib.decodeGo s).1, .int .i64 (Lib.decodeGo s).2]) ∧ Below w.heap.size w w' := Any.utf8_DecodeRuneInString Tryd.lays197 s w hT
def Tryd.lays271_ren : Go.Shelf.Ren := ⟨fun | 271 => 121 | 120 => 136 | 197 => 107 | 260 => 122 | n => n, fun | 9 => 9 | 21 => 21 | 3 => 3 | 4 => 4 | 5 => 5 | 105 => 144 | 119 => 171 | 0 => 0 | 46 => 168 | 139 => 174 | 138 => 173 | n => n, fun | 3 => 2 | 4 => 3 | n => n⟩
theorem Tryd.lays271 : Go.Proofs.Lays.n271 Tryd.prog Tryd.lays271_ren := {
  mixed := by kernel_rfl
  f120 := Tryd.func136.trans (congrArg some (by kernel_rfl))
  f197 := Tryd.func107.trans (congrArg some (by kernel_rfl))
  f260 := Tryd.func122.trans (congrArg some (by kernel_rfl))
  f271 := Tryd.func121.trans (congrArg some (by kernel_rfl))
  t0 := Tryd.underlying0
  a0 := Tryd.isAgg0
  z0 := Tryd.sizeOf0
  v0 := Tryd.zeroValue0
  t3 := Tryd.underlying3
  a3 := Tryd.isAgg3
  z3 := Tryd.sizeOf3
  v3 := Tryd.zeroValue3
  t4 := Tryd.underlying4
  a4 := Tryd.isAgg4
  z4 := Tryd.sizeOf4
  v4 := Tryd.zeroValue4
  t5 := Tryd.underlying5
  a5 := Tryd.isAgg5
  z5 := Tryd.sizeOf5
  v5 := Tryd.zeroValue5
  t9 := Tryd.underlying9
  a9 := Tryd.isAgg9
  z9 := Tryd.sizeOf9
  v9 := Tryd.zeroValue9
  t21 := Tryd.underlying21
  a21 := Tryd.isAgg21
  z21 := Tryd.sizeOf21
  v21 := Tryd.zeroValue21
  t46 := Tryd.underlying168
  a46 := Tryd.isAgg168
  z46 := Tryd.sizeOf168
  v46 := Tryd.zeroValue168
  t105 := Tryd.underlying144
  a105 := Tryd.isAgg144
  z105 := Tryd.sizeOf144
  v105 := Tryd.zeroValue144
  t119 := Tryd.underlying171
  a119 := Tryd.isAgg171
  z119 := Tryd.sizeOf171
  t138 := Tryd.underlying173
  a138 := Tryd.isAgg173
  z138 := Tryd.sizeOf173
  v138 := Tryd.zeroValue173
  t139 := Tryd.underlying174
  a139 := Tryd.isAgg174
  z139 := Tryd.sizeOf174
  v139 := Tryd.zeroValue174
  g3 := by kernel_rfl
  g4 := by kernel_rfl }
open Go.RowKit Go.Lib in
/-- **unicode/utf8.DecodeLastRuneInString AT EVERY STRING.** (LAID: no walk: one application.) -/
theorem Tryd.utf8_DecodeLastRuneInString (s : ByteArray) (w : World) (hs : s.size ≤ 9223372036854775807) (hT : Lib.Utf8Tabs 2 3 w) :
    Calls Tryd.prog 121 #[.string s] w fun e w' => e = .returned (.tuple #[.int .i32 (Lib.decodeLastL s.data.toList).1, .int .i64 (Lib.decodeLastL s.data.toList).2]) ∧ Below w.heap.size w w' := Any.utf8_DecodeLastRuneInString Tryd.lays271 s w hs hT
def Tryd.lays109_ren : Go.Shelf.Ren := ⟨fun | 109 => 53 | n => n, fun | 31 => 66 | 9 => 9 | 3 => 3 | 0 => 0 | 4 => 4 | n => n, fun | n => n⟩
theorem Tryd.lays109 : Go.Proofs.Lays.n109 Tryd.prog Tryd.lays109_ren := {
  mixed := by kernel_rfl
  f109 := Tryd.func53.trans (congrArg some (by kernel_rfl))
  t0 := Tryd.underlying0
  a0 := Tryd.isAgg0
  z0 := Tryd.sizeOf0
  v0 := Tryd.zeroValue0
  t3 := Tryd.underlying3
  a3 := Tryd.isAgg3
  z3 := Tryd.sizeOf3
  v3 := Tryd.zeroValue3
  t4 := Tryd.underlying4
  a4 := Tryd.isAgg4
  z4 := Tryd.sizeOf4
  v4 := Tryd.zeroValue4
  t9 := Tryd.underlying9
  a9 := Tryd.isAgg9
  z9 := Tryd.sizeOf9
  v9 := Tryd.zeroValue9
  t31 := Tryd.underlying66
  a31 := Tryd.isAgg66
  z31 := Tryd.sizeOf66
  v31 := Tryd.zeroValue66 }
open Go.Lib in
/-- slices.Index at []string: "Index returns the index of the first occurrence of v in s, or -1 if not present.": IT RETURNS 'Lib.idxOfS (the elements) v'; the world is as it was. 'zs': what the cells behind the slice's address hold (its spare capacity too, if you have it); 'zs.take n': its elements. (LAID: no walk: one application.) -/
theorem Tryd.slices_Index_string (b off n c : Nat) (zs : List ByteArray) (x : ByteArray) (w : World) (hz : n ≤ zs.length) (hbig : n ≤ 9223372036854775807) (hc : ∀ j, j < zs.length → w.cell? ⟨b, off + j, none⟩ = some (.string (zs.getD j ByteArray.empty))) :
    Calls Tryd.prog 53 #[.slice (some ⟨b, off, none⟩) n c, .string x] w fun e w' => e = .returned (.int .i64 (Lib.idxOfS (zs.take n) x)) ∧ w' = w := Any.slices_Index_string Tryd.lays109 b off n c zs x w hz hbig hc
open Go.Lib in
/-- The same at a slice of length 0, a nil one too: no cell is known, none is asked for. (LAID: no walk: one application.) -/
theorem Tryd.slices_Index_string_empty (a : Option Addr) (c : Nat) (x : ByteArray) (w : World) :
    Calls Tryd.prog 53 #[.slice a 0 c, .string x] w fun e w' => e = .returned (.int .i64 (Lib.idxOfS [] x)) ∧ w' = w := Any.slices_Index_string_empty Tryd.lays109 a c x w
def Tryd.lays110_ren : Go.Shelf.Ren := ⟨fun | 110 => 28 | 109 => 53 | n => n, fun | 31 => 66 | 9 => 9 | 4 => 4 | 3 => 3 | 0 => 0 | n => n, fun | n => n⟩
theorem Tryd.lays110 : Go.Proofs.Lays.n110 Tryd.prog Tryd.lays110_ren := {
  mixed := by kernel_rfl
  f109 := Tryd.func53.trans (congrArg some (by kernel_rfl))
  f110 := Tryd.func28.trans (congrArg some (by kernel_rfl))
  t0 := Tryd.underlying0
  a0 := Tryd.isAgg0
  z0 := Tryd.sizeOf0
  v0 := Tryd.zeroValue0
  t3 := Tryd.underlying3
  a3 := Tryd.isAgg3
  z3 := Tryd.sizeOf3
  v3 := Tryd.zeroValue3
  t4 := Tryd.underlying4
  a4 := Tryd.isAgg4
  z4 := Tryd.sizeOf4
  v4 := Tryd.zeroValue4
  t9 := Tryd.underlying9
  a9 := Tryd.isAgg9
  z9 := Tryd.sizeOf9
  v9 := Tryd.zeroValue9
  t31 := Tryd.underlying66
  a31 := Tryd.isAgg66
  z31 := Tryd.sizeOf66
  v31 := Tryd.zeroValue66 }
open Go.Lib in
/-- slices.Contains at []string: "Contains reports whether v is present in s.": IT RETURNS 'Lib.containsS (the elements) v', which is true just where v is among them ('Lib.containsS_iff'); the world is as it was. ITS CALLEE slices.Index IS MET BY ITS OWN CONTRACT OFF THE SHELF (lay that first): no loop is walked here. (LAID: no walk: one application.) -/
theorem Tryd.slices_Contains_string (b off n c : Nat) (zs : List ByteArray) (x : ByteArray) (w : World) (hz : n ≤ zs.length) (hbig : n ≤ 9223372036854775807) (hc : ∀ j, j < zs.length → w.cell? ⟨b, off + j, none⟩ = some (.string (zs.getD j ByteArray.empty))) :
    Calls Tryd.prog 28 #[.slice (some ⟨b, off, none⟩) n c, .string x] w fun e w' => e = .returned (.bool (Lib.containsS (zs.take n) x)) ∧ w' = w := Any.slices_Contains_string Tryd.lays110 b off n c zs x w hz hbig hc
open Go.Lib in
/-- The same at a slice of length 0, a nil one too. (LAID: no walk: one application.) -/
theorem Tryd.slices_Contains_string_empty (a : Option Addr) (c : Nat) (x : ByteArray) (w : World) :
    Calls Tryd.prog 28 #[.slice a 0 c, .string x] w fun e w' => e = .returned (.bool false) ∧ w' = w := Any.slices_Contains_string_empty Tryd.lays110 a c x w
end Go.Proofs
/- The library's functions, restated over byte lists: what each call computes, and that nothing that lay before has turned. -/
namespace Go.Proofs.YtnnpnkmdhfjccaaDoor
open Go.RowKit

theorem dropWhile_le (p : UInt8 → Bool) (l : List UInt8) : (l.dropWhile p).length ≤ l.length := (List.dropWhile_sublist p).length_le
theorem trimLS_le (l c : List UInt8) : (Lib.trimLeftS l c).length ≤ l.length := dropWhile_le _ _
theorem trimRS_le (l c : List UInt8) : (Lib.trimRightS l c).length ≤ l.length := by
  unfold Lib.trimRightS
  have := dropWhile_le (c.contains ·) l.reverse
  simpa using this
theorem trimS_le (l c : List UInt8) : (Lib.trimS l c).length ≤ l.length := Nat.le_trans (trimLS_le _ _) (trimRS_le _ _)

theorem Trim_c (s : ByteArray) (w : World) (hs : s.size ≤ 9223372036854775807) :
    Calls Tryd.prog 81 #[.string s, .string ⟨#[32, 9]⟩] w fun e w' => ∃ r, e = .returned (.string r) ∧ r.size ≤ s.size ∧ Hid (L r = trimB (L s)) ∧ Below w.heap.size w w' :=
  (Any.strings_Trim_laid Tryd.lays160 (by kernel_rfl) s ⟨#[32, 9]⟩ w hs (by decide) (ascii_of_all (by decide))).mono fun e w' ⟨he, hb⟩ =>
    ⟨_, he, by rw [← L_length, L_mk, ← L_length]; exact trimS_le _ _, L_mk _, hb⟩
end Go.Proofs.YtnnpnkmdhfjccaaDoor
/- What of the program's variables the walks lean on; the library's functions, restated over byte lists. -/
namespace Go.Proofs.YtnnpnkmdhfjccaaDoor.Vex
open Go Go.RowKit

/-- What a walk may know of the program's variables. -/
class HasMax (g : GI) : Prop where
  ok : ∀ w, g.G w → ∃ m, w.cell? ⟨1, 0, none⟩ = some (.int .i64 m)
/-- A variable of an interface's type. -/
def ErrCell (g : Nat) (w : World) : Prop := ∃ ev, w.cell? ⟨g, 0, none⟩ = some ev ∧ (ev = .nilIface ∨ ∃ te pe, ev = .iface te pe)
theorem ErrCell.keep {g : Nat} {w w' : World} (h : ErrCell g w) (hb : w'.heap[g]? = w.heap[g]?) : ErrCell g w' := by
  obtain ⟨ev, h1, h2⟩ := h
  exact ⟨ev, (World.cell?_of_block hb).trans h1, h2⟩
theorem ErrCell.lt {g : Nat} {w : World} (h : ErrCell g w) : g < w.heap.size := by
  obtain ⟨ev, h1, _⟩ := h
  exact World.block_lt_of_cell? _ _ h1
class HasErr (g : GI) : Prop where
  ok : ∀ w, g.G w → ErrCell 4 w ∧ ErrCell 5 w
class HasPow (g : GI) : Prop where
  ok : ∀ w, g.G w → Lib.TabIs Tryd.prog w "internal/strconv.uint64pow10" .u64 Lib.pow10Tab
def gB : GI where
  n := 1 + 1
  G w := ∃ m, w.cell? ⟨1, 0, none⟩ = some (.int .i64 m)
  keep w w' h := fun ⟨m, h2⟩ => ⟨m, (World.cell?_of_block (h 1 (by omega))).trans h2⟩
  size w := fun ⟨_, h⟩ => World.block_lt_of_cell? _ _ h
instance : HasMax gB := ⟨fun _ h => h⟩
def gE : GI where
  n := max (1 + 1) (max (4 + 1) (5 + 1))
  G w := gB.G w ∧ ErrCell 4 w ∧ ErrCell 5 w
  keep w w' h := fun ⟨h1, h2, h3⟩ => ⟨gB.keep w w' (fun k hk => h k (Nat.lt_of_lt_of_le hk (Nat.le_max_left _ _))) h1, h2.keep (h _ (by omega)), h3.keep (h _ (by omega))⟩
  size w := fun ⟨h1, h2, h3⟩ => Nat.max_le.2 ⟨gB.size w h1, Nat.max_le.2 ⟨h2.lt, h3.lt⟩⟩
instance : HasMax gE := ⟨fun _ h => h.1⟩
instance : HasErr gE := ⟨fun _ h => h.2⟩
theorem pow_name : Tryd.prog.globalNamed "internal/strconv.uint64pow10" = some 0 := by kernel_rfl
def gP : GI where
  n := max gE.n (0 + 1)
  G w := gE.G w ∧ Lib.TabIs Tryd.prog w "internal/strconv.uint64pow10" .u64 Lib.pow10Tab
  keep w w' h := fun ⟨h1, h2⟩ => ⟨gE.keep w w' (fun k hk => h k (Nat.lt_of_lt_of_le hk (Nat.le_max_left _ _))) h1, by
    unfold Lib.TabIs World.var? at *
    rw [pow_name] at *
    simp only [Option.bind_some] at *
    rw [h 0 (by omega)]
    exact h2⟩
  size w := fun ⟨h1, h2⟩ => Nat.max_le.2 ⟨gE.size w h1, by
    have := h2.cell pow_name 0 (by decide)
    exact World.block_lt_of_cell? _ _ this⟩
instance : HasMax gP := ⟨fun _ h => h.1.1⟩
instance : HasErr gP := ⟨fun _ h => h.1.2⟩
instance : HasPow gP := ⟨fun _ h => h.2⟩
set_option linter.unusedSectionVars false
variable {gI : GI} [HasMax gI]
abbrev qs (n : Nat) : List (Nat × Bool) := (List.range n).map fun i => (i, true)
theorem b2b {w w' : World} (h : Below w.heap.size w w') : R w w' := h

theorem Trim_f (l : List UInt8) (hs : l.length ≤ 9223372036854775807) : Fn Tryd.prog gI 81 [str l, str [32, 9]] (str (trimB l)) :=
  ⟨callable Tryd.func81 rfl (by kernel_rfl), fun w _ => (Trim_c ⟨⟨l⟩⟩ w hs).mono fun e w' ⟨r, he, _, hr, hb⟩ => ⟨by rw [he, str_L]; exact congrArg (fun x => Ending.returned (str x)) hr.out, hb⟩⟩
theorem IndexByte_f (l : List UInt8) (x : Int) : Fn Tryd.prog gI 80 [str l, .int .u8 x] (.int .i64 (Lib.indexByte l x.toNat.toUInt8)) :=
  ⟨callable Tryd.func80 rfl (by kernel_rfl), fun w _ => (Tryd.strings_IndexByte ⟨⟨l⟩⟩ x w).mono fun _ _ ⟨he, hw⟩ => ⟨he, by rw [hw]; exact R.refl _⟩⟩
theorem Index_f (l p : List UInt8) (hs : l.length < 4294967281) : Fn Tryd.prog gI 108 [str l, str p] (.int .i64 (Lib.index l p)) :=
  ⟨callable Tryd.func108 rfl (by kernel_rfl), fun w hG => by
    obtain ⟨m, hm⟩ := HasMax.ok w hG
    exact (Tryd.strings_Index ⟨⟨l⟩⟩ ⟨⟨p⟩⟩ m w hs hm).mono fun _ _ ⟨he, hw⟩ => ⟨he, by rw [hw]; exact R.refl _⟩⟩
end Go.Proofs.YtnnpnkmdhfjccaaDoor.Vex
/- Plain definitions on fields, as byte lists: tokens, values, small letters, lines. No program in sight. -/
namespace Go.Proofs.YtnnpnkmdhfjccaaDoor

def smallI (x : Int) : Bool := (decide (97 ≤ x) && decide (x ≤ 122)) || (decide (48 ≤ x) && decide (x ≤ 57))
def greatI (x : Int) : Bool := decide (65 ≤ x) && decide (x ≤ 90)
def marksL : List UInt8 := [33, 35, 36, 37, 38, 39, 42, 43, 45, 46, 94, 95, 96, 124, 126]
def markI (x : Int) : Bool := marksL.any fun m => ((m.toNat : Nat) : Int) == x
def tokI (x : Int) : Bool := smallI x || greatI x || markI x
def tokB (x : UInt8) : Bool := tokI x.toNat
def valI (x : Int) : Bool := (decide (32 ≤ x) && x != 127) || x == 9
def valB (x : UInt8) : Bool := valI x.toNat
def tokenOf (l : List UInt8) : Bool := !l.isEmpty && l.all tokB
def valueOf (l : List UInt8) : Bool := (trimB l == l) && l.all valB
def lowI (x : Int) : Int := if greatI x then x + 32 else x
def lowB (x : UInt8) : UInt8 := if greatI x.toNat then x + 32 else x
def smallOf (l : List UInt8) : List UInt8 := l.map lowB
def fieldOK (n v : List UInt8) : Bool := decide (n.length ≤ 4096) && (decide (v.length ≤ 4096) && (tokenOf n && ((smallOf n == n) && valueOf v)))
def fieldE (n v : List UInt8) : Int := if fieldOK n v then 0 else 3
/-- What stands ahead of the first colon, what behind it, and whether there is one. -/
def cutC : List UInt8 → List UInt8 × List UInt8 × Bool
  | [] => ([], [], false)
  | x :: r => if x.toNat = 58 then ([], r, true) else (x :: (cutC r).1, (cutC r).2.1, (cutC r).2.2)
def parseOK (l : List UInt8) : Bool := decide (l.length ≤ 4096) && ((cutC l).2.2 && fieldOK (smallOf (cutC l).1) (trimB (cutC l).2.1))
def parseE (l : List UInt8) : Int := if parseOK l then 0 else 3
def parseN (l : List UInt8) : List UInt8 := if parseOK l then smallOf (cutC l).1 else []
def parseV (l : List UInt8) : List UInt8 := if parseOK l then trimB (cutC l).2.1 else []
def lineOf (n v : List UInt8) : List UInt8 := if fieldOK n v then n ++ [58, 32] ++ v else []

theorem lowB_toNat (x : UInt8) : (((lowB x).toNat : Nat) : Int) = lowI x.toNat := by
  unfold lowB lowI
  split
  · rename_i h
    simp [greatI] at h
    have h1 : x.toNat + 32 < 256 := by omega
    rw [UInt8.toNat_add]
    simp only [UInt8.reduceToNat]
    rw [Nat.mod_eq_of_lt (by omega)]
    omega
  · rfl
theorem smallOf_length (l : List UInt8) : (smallOf l).length = l.length := by simp [smallOf]
end Go.Proofs.YtnnpnkmdhfjccaaDoor
/- The program's functions on fields: small, great, all, Token, Value, Small. -/
namespace Go.Proofs.YtnnpnkmdhfjccaaDoor
open Go.RowKit

theorem small_c (x : Int) (w : World) : Calls Tryd.prog 78 #[.int .u8 x] w fun e w' => e = .returned (.bool (smallI x)) ∧ w = w' := by
  go_enter Tryd.func78, Tryd.ntmps78
  go_wp2
  all_goals go_ret
  all_goals refine ⟨ret_bool ?_, rfl⟩
  all_goals first | (simp [smallI, *]; done) | (rw [Bool.eq_iff_iff]; simp [smallI, *]; done) | (rw [Bool.eq_iff_iff]; simp [smallI, *]; omega) | (rw [Bool.eq_iff_iff]; simp [smallI] at *; omega)
theorem great_c (x : Int) (w : World) : Calls Tryd.prog 79 #[.int .u8 x] w fun e w' => e = .returned (.bool (greatI x)) ∧ w = w' := by
  go_enter Tryd.func79, Tryd.ntmps79
  go_wp2
  all_goals go_ret
  all_goals refine ⟨ret_bool ?_, rfl⟩
  all_goals first | (simp [greatI, *]; done) | (rw [Bool.eq_iff_iff]; simp [greatI, *]; done) | (rw [Bool.eq_iff_iff]; simp [greatI, *]; omega) | (rw [Bool.eq_iff_iff]; simp [greatI] at *; omega)
theorem Value1_c (x : Int) (w : World) : Calls Tryd.prog 82 #[.int .u8 x] w fun e w' => e = .returned (.bool (valI x)) ∧ w = w' := by
  go_enter Tryd.func82, Tryd.ntmps82
  go_wp2
  all_goals go_ret
  all_goals refine ⟨ret_bool ?_, rfl⟩
  all_goals first | (simp [valI, *]; done) | (rw [Bool.eq_iff_iff]; simp [valI, *]; done) | (rw [Bool.eq_iff_iff]; simp [valI, *]; omega) | (rw [Bool.eq_iff_iff]; simp [valI] at *; omega)
theorem IndexByte_c (s : ByteArray) (c : Int) (w : World) : Calls Tryd.prog 80 #[.string s, .int .u8 c] w fun e w' => e = .returned (.int .i64 (Lib.indexByte (L s) c.toNat.toUInt8)) ∧ w = w' :=
  (Tryd.strings_IndexByte s c w).mono fun _ _ ⟨he, hw⟩ => ⟨he, hw.symm⟩
theorem marks_index (x : Int) (h0 : 0 ≤ x) (h1 : x ≤ 255) : decide (0 ≤ Lib.indexByte marksL x.toNat.toUInt8) = markI x := by
  have : ∀ n : Fin 256, decide (0 ≤ Lib.indexByte marksL n.val.toUInt8) = markI (n.val : Int) := by decide +kernel
  have h := this ⟨x.toNat, by omega⟩
  simpa [show ((x.toNat : Nat) : Int) = x from by omega] using h
theorem Token1_c (x : Int) (w : World) (h0 : 0 ≤ x) (h1 : x ≤ 255) : Calls Tryd.prog 77 #[.int .u8 x] w fun e w' => e = .returned (.bool (tokI x)) ∧ w = w' := by
  have hm := Lib.hid (marks_index x h0 h1)
  have CI := fun w => Lib.hid (IndexByte_c ⟨#[33, 35, 36, 37, 38, 39, 42, 43, 45, 46, 94, 95, 96, 124, 126]⟩ x w)
  obtain ⟨I, hI⟩ : ∃ I : Int, Lib.indexByte marksL x.toNat.toUInt8 = I := ⟨_, rfl⟩
  rw [hI] at hm
  have CI' : ∀ w, Hid (Calls Tryd.prog 80 #[.string ⟨#[33, 35, 36, 37, 38, 39, 42, 43, 45, 46, 94, 95, 96, 124, 126]⟩, .int .u8 x] w fun e w' => e = .returned (.int .i64 I) ∧ w = w') := fun w => by rw [← hI]; exact CI w
  clear CI hI
  cases hs : smallI x
  · cases hg : greatI x
    · go_enter Tryd.func77, Tryd.ntmps77
      go_wp2_with (first
        | (go_at_call 78; refine (small_c _ _).mono ?_; rintro e w1 ⟨rfl, rfl⟩)
        | (go_at_call 79; refine (great_c _ _).mono ?_; rintro e w1 ⟨rfl, rfl⟩)
        | (go_at_call 80; refine (CI' _).out.mono ?_; rintro e w1 ⟨rfl, rfl⟩))
      go_ret
      exact ⟨ret_bool (by rw [tokI, hs, hg, ← hm.out]; rfl), rfl⟩
    · go_enter Tryd.func77, Tryd.ntmps77
      go_wp2_with (first
        | (go_at_call 78; refine (small_c _ _).mono ?_; rintro e w1 ⟨rfl, rfl⟩)
        | (go_at_call 79; refine (great_c _ _).mono ?_; rintro e w1 ⟨rfl, rfl⟩))
      go_ret
      exact ⟨ret_bool (by rw [tokI, hs, hg]; rfl), rfl⟩
  · go_enter Tryd.func77, Tryd.ntmps77
    go_wp2_with (first
      | (go_at_call 78; refine (small_c _ _).mono ?_; rintro e w1 ⟨rfl, rfl⟩)
      | (go_at_call 79; refine (great_c _ _).mono ?_; rintro e w1 ⟨rfl, rfl⟩))
    go_ret
    exact ⟨ret_bool (by rw [tokI, hs]; rfl), rfl⟩

theorem u8_range (x : UInt8) : 0 ≤ ((x.toNat : Nat) : Int) ∧ ((x.toNat : Nat) : Int) ≤ 255 := by have := x.toNat_lt; omega
/-- A text all of whose bytes are tested. -/
theorem all_tok (s : ByteArray) (w : World) (hs : s.size ≤ 1000000000000) :
    Calls Tryd.prog 76 #[.string s, .func (.func 77) #[] #[]] w fun e w' => e = .returned (.bool ((L s).all tokB)) ∧ w = w' := by
  go_enter Tryd.func76, Tryd.ntmps76
  go_wp2_with fail
  go_loop [8] (fun i => ∃ k : Nat, k ≤ s.size ∧ i = .int .i64 k ∧ Hid ((L s).all tokB = ((L s).drop k).all tokB)) (fun i => s.size - (intOf i).toNat)
  case atStart => exact ⟨0, Nat.zero_le _, rfl, rfl⟩
  case round =>
    obtain ⟨k, hk, rfl, hI⟩ := hrel
    by_cases hlt : k < s.size
    · have hd := Lib.hid (L_drop s k hlt)
      cases hq : tokI s[k].toNat
      · have HQ : Hid (tokB s[k] = false) := hq
        go_wp2_with (go_at_call 77; refine (Token1_c _ _ (u8_range _).1 (u8_range _).2).mono ?_; rintro e w1 ⟨rfl, rfl⟩)
        go_ret
        refine ⟨ret_bool ?_, rfl⟩
        rw [hI.out, hd.out, List.all_cons, HQ.out]; rfl
      · have HQ : Hid (tokB s[k] = true) := hq
        go_wp2_with (go_at_call 77; refine (Token1_c _ _ (u8_range _).1 (u8_range _).2).mono ?_; rintro e w1 ⟨rfl, rfl⟩)
        go_round
        case rel => exact ⟨k + 1, by omega, by go_num, by show _ = _; rw [hI.out, hd.out, List.all_cons, HQ.out]; rfl⟩
        case measure => simp [intOf]; omega
    · go_wp2_with fail
      go_ret
      refine ⟨ret_bool ?_, rfl⟩
      rw [hI.out, List.drop_eq_nil_of_le (by rw [L_length]; omega)]
      rfl
theorem all_val (s : ByteArray) (w : World) (hs : s.size ≤ 1000000000000) :
    Calls Tryd.prog 76 #[.string s, .func (.func 82) #[] #[]] w fun e w' => e = .returned (.bool ((L s).all valB)) ∧ w = w' := by
  go_enter Tryd.func76, Tryd.ntmps76
  go_wp2_with fail
  go_loop [8] (fun i => ∃ k : Nat, k ≤ s.size ∧ i = .int .i64 k ∧ Hid ((L s).all valB = ((L s).drop k).all valB)) (fun i => s.size - (intOf i).toNat)
  case atStart => exact ⟨0, Nat.zero_le _, rfl, rfl⟩
  case round =>
    obtain ⟨k, hk, rfl, hI⟩ := hrel
    by_cases hlt : k < s.size
    · have hd := Lib.hid (L_drop s k hlt)
      cases hq : valI s[k].toNat
      · have HQ : Hid (valB s[k] = false) := hq
        go_wp2_with (go_at_call 82; refine (Value1_c _ _).mono ?_; rintro e w1 ⟨rfl, rfl⟩)
        go_ret
        refine ⟨ret_bool ?_, rfl⟩
        rw [hI.out, hd.out, List.all_cons, HQ.out]; rfl
      · have HQ : Hid (valB s[k] = true) := hq
        go_wp2_with (go_at_call 82; refine (Value1_c _ _).mono ?_; rintro e w1 ⟨rfl, rfl⟩)
        go_round
        case rel => exact ⟨k + 1, by omega, by go_num, by show _ = _; rw [hI.out, hd.out, List.all_cons, HQ.out]; rfl⟩
        case measure => simp [intOf]; omega
    · go_wp2_with fail
      go_ret
      refine ⟨ret_bool ?_, rfl⟩
      rw [hI.out, List.drop_eq_nil_of_le (by rw [L_length]; omega)]
      rfl
end Go.Proofs.YtnnpnkmdhfjccaaDoor
/- A row of bytes in memory: a string made bytes, written, and made a string again. -/
namespace Go.Proofs.YtnnpnkmdhfjccaaDoor
open Go.RowKit

/-- Block b holds these bytes from its head on, and they may be written. -/
def Row8 (w : World) (b : Nat) (l : List UInt8) : Prop :=
  b < w.heap.size ∧ ∀ (j : Nat) (x : UInt8), l[j]? = some x → w.cell? ⟨b, j, none⟩ = some (.int .u8 (x.toNat : Int)) ∧ w.frozen? ⟨b, j, none⟩ = false

theorem conv_bytes {P : Program} (w : World) (src dst e : TypeId) (s : ByteArray) {u : TypeDesc} (hs : P.underlying src = some u) (hd : P.underlying dst = some (.slice e)) (he : P.underlying e = some (.int .u8)) :
    ∃ cap w1, (convert src dst (.string s)).run P w = .ok (.slice (some ⟨w.heap.size, 0, none⟩) s.size cap) w1 ∧ Row8 w1 w.heap.size (L s) ∧ Below w.heap.size w w1 := by
  refine ⟨_, _, Lib.run_convert_string_bytes w src dst e s hs hd he, ⟨by rw [Lib.bytesWorld_size]; omega, fun j x hx => ⟨?_, ?_⟩⟩, ?_⟩
  · obtain ⟨hj, hv⟩ := List.getElem?_eq_some_iff.1 hx
    rw [L_length] at hj
    rw [Lib.bytesWorld_cell w e s j hj]
    have : s.data.toList.getD j 0 = x := by
      rw [List.getD_eq_getElem?_getD, show s.data.toList[j]? = some x from hx]; rfl
    rw [this]
  · have hj : j < s.size := by rw [← L_length]; exact (List.getElem?_eq_some_iff.1 hx).1
    have hc : s.size ≤ (Lib.bytesCells w e s).size := by simp [Lib.bytesCells]
    simp only [World.frozen?, Lib.bytesWorld_at_new]
    simp
    omega
  · exact ⟨rfl, rfl, rfl, by rw [Lib.bytesWorld_size]; omega, fun k hk => Lib.bytesWorld_at_old w e s k hk⟩

theorem Row8.set {w : World} {b : Nat} {l : List UInt8} (h : Row8 w b l) (j : Nat) (x : UInt8) (hj : j < l.length) : Row8 (w.setCell ⟨b, j, none⟩ (.int .u8 (x.toNat : Int))) b (l.set j x) := by
  refine ⟨by simpa [World.setCell] using h.1, fun i y hy => ?_⟩
  rw [World.frozen?_setCell]
  by_cases hij : j = i
  · subst hij
    rw [List.getElem?_set_self hj] at hy
    obtain rfl := Option.some.inj hy
    obtain ⟨hc, hf⟩ := h.2 j l[j] (List.getElem?_eq_getElem hj)
    exact ⟨World.cell?_setCell_same' _ _ _ (by rw [hc]; rfl), hf⟩
  · rw [List.getElem?_set_ne hij] at hy
    obtain ⟨hc, hf⟩ := h.2 i y hy
    exact ⟨(World.cell?_setCell_other _ _ _ _ (fun e => hij (by injection e))).trans hc, hf⟩
theorem Row8.back {P : Program} {w : World} {b : Nat} {l : List UInt8} (h : Row8 w b l) (src dst e : TypeId) (cap n : Nat) (hn : n = l.length) (hs : P.underlying src = some (.slice e)) (he : P.underlying e = some (.int .u8)) (hd : P.underlying dst = some .string) :
    (convert src dst (.slice (some ⟨b, 0, none⟩) n cap)).run P w = .ok (.string ⟨l.toArray⟩) w := by
  subst hn
  exact run_convert_bytes_back w src dst e ⟨b, 0, none⟩ cap l hs he hd fun j hj => by
    have := (h.2 j l[j] (List.getElem?_eq_getElem hj)).1
    rw [Addr.add_lit]
    simpa using this
theorem Row8.below {w w' : World} {b : Nat} {l : List UInt8} (h : Row8 w b l) {B : Nat} (hb : Below B w w') (hB : b < B) : Row8 w' b l :=
  ⟨Nat.lt_of_lt_of_le h.1 hb.size, fun j x hx => ⟨(hb.cell (p := ⟨b, j, none⟩) hB).trans (h.2 j x hx).1, (hb.frozen (p := ⟨b, j, none⟩) hB).trans (h.2 j x hx).2⟩⟩
end Go.Proofs.YtnnpnkmdhfjccaaDoor
/- The program's functions on fields: Token, Value, Small. -/
namespace Go.Proofs.YtnnpnkmdhfjccaaDoor
open Go.RowKit

theorem Token_c (s : ByteArray) (w : World) (hs : s.size ≤ 1000000000000) : Calls Tryd.prog 50 #[.string s] w fun e w' => e = .returned (.bool (tokenOf (L s))) ∧ w = w' := by
  cases h0 : s.toList.isEmpty
  · have HT : Hid (tokenOf (L s) = (L s).all tokB) := by show _ = _; rw [toList_L] at h0; simp [tokenOf, h0]
    go_enter Tryd.func50, Tryd.ntmps50
    go_wp2_with (go_at_call 76; refine (all_tok _ _ hs).mono ?_; rintro e w1 ⟨rfl, rfl⟩)
    go_ret
    exact ⟨ret_bool HT.out.symm, rfl⟩
  · have HT : Hid (tokenOf (L s) = false) := by show _ = _; rw [toList_L] at h0; simp [tokenOf, h0]
    go_enter Tryd.func50, Tryd.ntmps50
    go_wp2_with (go_at_call 76; refine (all_tok _ _ hs).mono ?_; rintro e w1 ⟨rfl, rfl⟩)
    go_ret
    exact ⟨ret_bool HT.out.symm, rfl⟩

theorem Value_c (s : ByteArray) (w : World) (hs : s.size ≤ 1000000000000) : Calls Tryd.prog 52 #[.string s] w fun e w' => e = .returned (.bool (valueOf (L s))) ∧ Below w.heap.size w w' := by
  go_enter Tryd.func52, Tryd.ntmps52
  go_wp2_with fail
  refine (Trim_c s _ (by omega)).mono ?_
  rintro e w1 ⟨t, rfl, htz, ht, hb⟩
  cases hq : (t.toList == s.toList)
  · have HT : Hid (valueOf (L s) = false) := by
      show _ = _
      rw [toList_L, toList_L, ht.out] at hq
      rw [valueOf, hq]; rfl
    go_wp2_with (go_at_call 76; refine (all_val _ _ hs).mono ?_; rintro e w1 ⟨rfl, rfl⟩)
    go_ret
    exact ⟨ret_bool HT.out.symm, hb⟩
  · have HT : Hid (valueOf (L s) = (L s).all valB) := by
      show _ = _
      rw [toList_L, toList_L, ht.out] at hq
      rw [valueOf, hq]; rfl
    go_wp2_with (go_at_call 76; refine (all_val _ _ hs).mono ?_; rintro e w1 ⟨rfl, rfl⟩)
    go_ret
    exact ⟨ret_bool HT.out.symm, hb⟩

/-- A text of which the first k letters have been made small. -/
def mid (l : List UInt8) (k : Nat) : List UInt8 := smallOf (l.take k) ++ l.drop k
theorem mid_length (l : List UInt8) (k : Nat) : (mid l k).length = l.length := by
  unfold mid smallOf; simp; omega
theorem mid_at (s : ByteArray) (k : Nat) (h : k < s.size) : (mid (L s) k)[k]? = some s[k] := by
  unfold mid
  have h1 : (smallOf ((L s).take k)).length = k := by rw [smallOf_length, List.length_take, L_length]; omega
  rw [List.getElem?_append_right (by omega), h1, Nat.sub_self, List.getElem?_drop, Nat.add_zero, L_get? s k h]
theorem mid_next (s : ByteArray) (k : Nat) (h : k < s.size) : mid (L s) (k + 1) = (mid (L s) k).set k (lowB s[k]) := by
  have h1 : (smallOf ((L s).take k)).length = k := by rw [smallOf_length, List.length_take, L_length]; omega
  unfold mid
  rw [L_take s k h, L_drop s k h, List.set_append_right _ _ (by omega), h1, Nat.sub_self, List.set_cons_zero]
  simp [smallOf]
theorem mid_same (s : ByteArray) (k : Nat) (h : k < s.size) (hg : greatI s[k].toNat = false) : mid (L s) (k + 1) = mid (L s) k := by
  have h1 : (smallOf ((L s).take k)).length = k := by rw [smallOf_length, List.length_take, L_length]; omega
  unfold mid
  rw [L_take s k h, L_drop s k h]
  simp [smallOf, lowB, hg]

set_option maxRecDepth 100000 in
set_option maxHeartbeats 1000000 in
theorem Small_c (s : ByteArray) (w : World) (hs : s.size ≤ 1000000000000) : Calls Tryd.prog 51 #[.string s] w fun e w' => ∃ r, e = .returned (.string r) ∧ r.size ≤ s.size ∧ Hid (L r = smallOf (L s)) ∧ Below w.heap.size w w' := by
  obtain ⟨cap, w1, hconv, hrow, hbel⟩ := conv_bytes w 9 35 5 s Tryd.underlying9 Tryd.underlying35 Tryd.underlying5
  go_enter Tryd.func51, Tryd.ntmps51
  go_wp2_with fail
  clear hconv
  have HR := Lib.hid hrow; clear hrow
  go_loopw [10] (fun i wr => ∃ k : Nat, k ≤ s.size ∧ i = .int .i64 k ∧ Hid (Row8 wr w.heap.size (mid (L s) k)) ∧ Below w.heap.size w wr) (fun i _ => s.size - (intOf i).toNat)
  case atStart => exact ⟨0, Nat.zero_le _, rfl, HR.out, hbel⟩
  case round =>
    obtain ⟨k, hk, rfl, hR, hb⟩ := hrel
    by_cases hlt : k < s.size
    · have hcell := (hR.out.2 k _ (mid_at s k hlt)).1
      have hfroz := (hR.out.2 k _ (mid_at s k hlt)).2
      cases hg : greatI s[k].toNat
      · have HM := Lib.hid (mid_same s k hlt hg)
        go_wp2_with (go_at_call 79; refine (great_c _ _).mono ?_; rintro e w1 ⟨rfl, rfl⟩)
        go_roundw
        case rel => exact ⟨k + 1, by omega, by go_num, by show Row8 _ _ _; rw [HM.out]; exact hR.out, hb⟩
        case measure => simp [intOf]; omega
      · have HM := Lib.hid (mid_next s k hlt)
        have hg2 : 65 ≤ ((s[k].toNat : Nat) : Int) ∧ ((s[k].toNat : Nat) : Int) ≤ 90 := by simpa [greatI] using hg
        obtain ⟨hg3, hg4⟩ := hg2
        have HV : Hid (((lowB s[k]).toNat : Int) = ((s[k].toNat : Nat) : Int) + 97 - 65) := by show _ = _; rw [lowB_toNat, lowI, if_pos hg]; omega
        go_wp2_with (go_at_call 79; refine (great_c _ _).mono ?_; rintro e w1 ⟨rfl, rfl⟩)
        go_roundw
        case rel => exact ⟨k + 1, by omega, by go_num, by
          show Row8 _ _ _
          rw [HM.out, ← HV.out]
          exact hR.out.set k _ (by rw [mid_length, L_length]; exact hlt), hb.setCell (p := ⟨w.heap.size, k, none⟩) (Nat.le_refl _) _⟩
        case measure => simp [intOf]; omega
    · have hbk := hR.out.back 35 9 5 cap s.size (by rw [mid_length, L_length]) Tryd.underlying35 Tryd.underlying5 Tryd.underlying9
      have HK : Hid (mid (L s) k = smallOf (L s)) := by
        show _ = _
        unfold mid
        rw [List.take_of_length_le (by rw [L_length]; omega), List.drop_eq_nil_of_le (by rw [L_length]; omega), List.append_nil]
      go_wp2_with fail
      go_ret
      exact ⟨_, rfl, by rw [← L_length, L_mk, mid_length, L_length]; exact Nat.le_refl _, by show _ = _; rw [L_mk, HK.out], hb⟩
end Go.Proofs.YtnnpnkmdhfjccaaDoor
/- Plain facts on fields: what a value is, by its ends; the cut at a colon. -/
namespace Go.Proofs.YtnnpnkmdhfjccaaDoor

theorem trimLB_short (l : List UInt8) : (trimLB l).length ≤ l.length := trimLB_le l
theorem trimRB_short (l : List UInt8) : (trimRB l).length ≤ l.length := by
  unfold trimRB Lib.trimRightS
  have := (List.dropWhile_sublist (([32, 9] : List UInt8).contains ·) (l := l.reverse)).length_le
  simpa using this
/-- A text is its own trimmed one just where it is empty, or no blank stands at an end. -/
theorem trimB_self (x : UInt8) (l : List UInt8) (m : List UInt8) (y : UInt8) (h : x :: l = m ++ [y]) : (trimB (x :: l) == x :: l) = (!blankB x && !blankB y) := by
  rw [Bool.eq_iff_iff]
  simp only [beq_iff_eq, Bool.and_eq_true, Bool.not_eq_true']
  rw [trimB_eq]
  constructor
  · intro he
    cases hx : blankB x
    · refine ⟨rfl, ?_⟩
      cases hy : blankB y
      · rfl
      · rw [trimLB_other x l hx, h, trimRB_blank y m hy] at he
        have := trimRB_short m
        rw [he] at this
        simp at this
        omega
    · rw [trimLB_blank x l hx] at he
      have h1 := trimRB_short (trimLB l)
      have h2 := trimLB_short l
      rw [he] at h1
      simp at h1
      omega
  · intro ⟨hx, hy⟩
    rw [trimLB_other x l hx, h, trimRB_other y m hy]
theorem valueOf_nil : valueOf [] = true := rfl
theorem valueOf_ends (x : UInt8) (l m : List UInt8) (y : UInt8) (h : x :: l = m ++ [y]) : valueOf (x :: l) = ((x :: l).all valB && (!blankB x && !blankB y)) := by
  unfold valueOf
  rw [trimB_self x l m y h, Bool.and_comm]
/-! The cut at a colon. -/
theorem index_colon (x : UInt8) (l : List UInt8) : Lib.index (x :: l) [58] = if x.toNat = 58 then 0 else (if Lib.index l [58] = -1 then -1 else Lib.index l [58] + 1) := by
  rw [Lib.index]
  by_cases hx : x.toNat = 58
  · have hx' : x = 58 := b8 (n := 58) (by decide) hx
    subst hx'
    simp
  · have hx' : ¬ (58 : UInt8) = x := fun h => hx (by rw [← h]; rfl)
    rw [if_neg (by simp [hx']), if_neg hx]
    simp only [beq_iff_eq]
theorem cut_colon : ∀ l : List UInt8, Lib.cut l [58] = cutC l
  | [] => rfl
  | x :: l => by
    have ih := cut_colon l
    have hge := Lib.index_ge l [58]
    unfold Lib.cut at ih ⊢
    rw [index_colon, cutC]
    by_cases hx : x.toNat = 58
    · simp [hx]
    · rw [if_neg hx, if_neg hx]
      by_cases hi : Lib.index l [58] = -1
      · rw [if_pos hi]
        rw [hi] at ih
        simp only [show ¬ (0 : Int) ≤ -1 by omega, if_false] at ih ⊢
        rw [← ih]
      · rw [if_neg hi]
        have h0 : 0 ≤ Lib.index l [58] := by omega
        rw [if_pos h0] at ih
        rw [if_pos (by omega), ← ih]
        have e : (Lib.index l [58] + 1).toNat = (Lib.index l [58]).toNat + 1 := by omega
        rw [e]
        simp only [List.take_succ_cons, List.length_cons, List.length_nil, Nat.zero_add, List.drop_succ_cons]
theorem cutC_at : ∀ (l : List UInt8) (k : Nat), (∀ j (x : UInt8), j < k → l[j]? = some x → ¬ x.toNat = 58) → ∀ x, l[k]? = some x → x.toNat = 58 → cutC l = (l.take k, l.drop (k + 1), true)
  | [], k, _, x, hx, _ => by simp at hx
  | y :: l, 0, _, x, hx, h58 => by
    simp at hx
    subst hx
    rw [cutC, if_pos h58]
    rfl
  | y :: l, k + 1, h, x, hx, h58 => by
    have hy := h 0 y (by omega) rfl
    have ih := cutC_at l k (fun j x hj hx => h (j + 1) x (by omega) (by simpa using hx)) x (by simpa using hx) h58
    rw [cutC, if_neg hy, ih]
    rfl
theorem cutC_none : ∀ (l : List UInt8), (∀ x ∈ l, ¬ x.toNat = 58) → (cutC l).2.2 = false
  | [], _ => rfl
  | y :: l, h => by
    rw [cutC, if_neg (h y (by simp))]
    exact cutC_none l fun x hx => h x (by simp [hx])
end Go.Proofs.YtnnpnkmdhfjccaaDoor
/- Plain laws on fields: a field's line tells it. No program in sight. -/
namespace Go.Proofs.YtnnpnkmdhfjccaaDoor

theorem tok_no_colon (x : UInt8) (h : tokB x = true) : ¬ x.toNat = 58 := by
  intro h58
  have : x = 58 := b8 (n := 58) (by decide) h58
  subst this
  revert h
  decide
theorem cutC_token (n r : List UInt8) (h : n.all tokB = true) : cutC (n ++ 58 :: r) = (n, r, true) := by
  induction n with
  | nil => rw [List.nil_append, cutC, if_pos (by decide)]
  | cons x n ih =>
    rw [List.all_cons, Bool.and_eq_true] at h
    rw [List.cons_append, cutC, if_neg (tok_no_colon x h.1), ih h.2]
theorem fieldOK_parts {n v : List UInt8} (h : fieldOK n v = true) : n.length ≤ 4096 ∧ v.length ≤ 4096 ∧ tokenOf n = true ∧ smallOf n = n ∧ valueOf v = true := by
  unfold fieldOK at h
  simpa using h
theorem token_all {n : List UInt8} (h : tokenOf n = true) : n.all tokB = true := by
  unfold tokenOf at h
  rw [Bool.and_eq_true] at h
  exact h.2
theorem value_trim {v : List UInt8} (h : valueOf v = true) : trimB v = v := by
  unfold valueOf at h
  rw [Bool.and_eq_true, beq_iff_eq] at h
  exact h.1
theorem trimB_front (x : UInt8) (l : List UInt8) (h : blankB x = true) : trimB (x :: l) = trimB l := by rw [trimB_eq, trimB_eq, trimLB_blank x l h]
theorem trimB_back (x : UInt8) (l : List UInt8) (h : blankB x = true) : trimB (l ++ [x]) = trimB l := by
  unfold trimB Lib.trimS
  have : Lib.trimRightS (l ++ [x]) [32, 9] = Lib.trimRightS l [32, 9] := trimRB_blank x l h
  rw [this]
theorem trimB_blanks (k : Nat) (l : List UInt8) : trimB (List.replicate k 32 ++ l) = trimB l := by
  induction k with
  | zero => rfl
  | succ k ih => rw [List.replicate_succ, List.cons_append, trimB_front _ _ (by decide), ih]
/-- A line of a field, with blanks about its value, is read as that field. -/
theorem parse_line (n v l : List UInt8) (h : fieldOK n v = true) (hl : (n ++ 58 :: l).length ≤ 4096) (ht : trimB l = v) : parseOK (n ++ 58 :: l) = true ∧ parseN (n ++ 58 :: l) = n ∧ parseV (n ++ 58 :: l) = v := by
  obtain ⟨_, _, h3, h4, h5⟩ := fieldOK_parts h
  have hc := cutC_token n l (token_all h3)
  have hok : parseOK (n ++ 58 :: l) = true := by
    unfold parseOK
    rw [hc]
    simp only [Bool.and_eq_true, decide_eq_true_eq]
    exact ⟨hl, trivial, by rw [h4, ht]; exact h⟩
  refine ⟨hok, ?_, ?_⟩
  · unfold parseN; rw [if_pos hok, hc]; exact h4
  · unfold parseV; rw [if_pos hok, hc]; exact ht
theorem parse_plain (n v : List UInt8) (h : fieldOK n v = true) (hl : n.length + v.length ≤ 4000) : parseOK (lineOf n v) = true ∧ parseN (lineOf n v) = n ∧ parseV (lineOf n v) = v := by
  have e : lineOf n v = n ++ 58 :: (32 :: v) := by unfold lineOf; rw [if_pos h]; simp
  rw [e]
  exact parse_line n v _ h (by simp; omega) (by rw [trimB_front _ _ (by decide), value_trim (fieldOK_parts h).2.2.2.2])
theorem parse_wide (n v : List UInt8) (k : Nat) (h : fieldOK n v = true) (hl : n.length + v.length ≤ 4000) (hk : k ≤ 9) :
    parseOK (n ++ [58] ++ List.replicate k 32 ++ v ++ [9]) = true ∧ parseN (n ++ [58] ++ List.replicate k 32 ++ v ++ [9]) = n ∧ parseV (n ++ [58] ++ List.replicate k 32 ++ v ++ [9]) = v := by
  have e : n ++ [58] ++ List.replicate k 32 ++ v ++ [9] = n ++ 58 :: (List.replicate k 32 ++ (v ++ [9])) := by simp
  rw [e]
  refine parse_line n v _ h (by simp; omega) ?_
  rw [trimB_blanks, trimB_back _ _ (by decide), value_trim (fieldOK_parts h).2.2.2.2]
theorem cutC_length : ∀ l : List UInt8, (cutC l).1.length + (cutC l).2.1.length ≤ l.length
  | [] => by simp [cutC]
  | x :: l => by
    have ih := cutC_length l
    rw [cutC]
    split
    · simp
    · simp only [List.length_cons]; omega
theorem trimB_length (l : List UInt8) : (trimB l).length ≤ l.length := by
  rw [trimB_eq]
  exact Nat.le_trans (trimRB_short _) (trimLB_short _)
theorem parse_field {l : List UInt8} (h : parseOK l = true) : fieldOK (parseN l) (parseV l) = true ∧ (parseN l).length + (parseV l).length ≤ l.length := by
  have hN : parseN l = smallOf (cutC l).1 := by unfold parseN; rw [if_pos h]
  have hV : parseV l = trimB (cutC l).2.1 := by unfold parseV; rw [if_pos h]
  rw [hN, hV]
  constructor
  · unfold parseOK at h
    rw [Bool.and_eq_true, Bool.and_eq_true] at h
    exact h.2.2
  · have h1 := cutC_length l
    have h2 := trimB_length (cutC l).2.1
    rw [smallOf_length]
    omega
end Go.Proofs.YtnnpnkmdhfjccaaDoor
/- The program's functions on fields, reckoned. -/
namespace Go.Proofs.YtnnpnkmdhfjccaaDoor.Vex
open Go Go.RowKit
set_option maxRecDepth 100000
set_option linter.unusedSectionVars false
variable {gI : GI} [HasMax gI]

theorem small_f (x : Int) : Fn Tryd.prog gI 78 [.int .u8 x] (.bool (smallI x)) := by
  refine Fn.of tys_ok Tryd.func78 rfl (by kernel_rfl) rfl rfl ?_; intro w hG
  repeat' ((conv => whnf); first | (first | refine tk1 ?_ | refine tk2 ?_ | refine tk3 ?_ | refine tk12 (fun _ => ?_) | refine tk4 ?_ | refine tk5 ?_ | refine tk6 ?_ | refine tk7 ?_ | refine tk8 ?_ | refine tk9 ?_ | refine tk10 (fun _ _ => ?_) | refine tk11 (fun _ => ?_) | refine tk13 ?_ | refine tk14 ?_) | refine Cmp.cases (fun _ => ?_) (fun _ => ?_)); all_goals (conv => whnf)
  all_goals first | rfl | (refine congrArg Value.bool ?_; first | (simp [smallI, *]; done) | (rw [Bool.eq_iff_iff]; simp [smallI]; omega) | (rw [Bool.eq_iff_iff]; simp [smallI, *]; done) | (rw [Bool.eq_iff_iff]; simp [smallI, *]; omega))
theorem great_f (x : Int) : Fn Tryd.prog gI 79 [.int .u8 x] (.bool (greatI x)) := by
  refine Fn.of tys_ok Tryd.func79 rfl (by kernel_rfl) rfl rfl ?_; intro w hG
  repeat' ((conv => whnf); first | (first | refine tk1 ?_ | refine tk2 ?_ | refine tk3 ?_ | refine tk12 (fun _ => ?_) | refine tk4 ?_ | refine tk5 ?_ | refine tk6 ?_ | refine tk7 ?_ | refine tk8 ?_ | refine tk9 ?_ | refine tk10 (fun _ _ => ?_) | refine tk11 (fun _ => ?_) | refine tk13 ?_ | refine tk14 ?_) | refine Cmp.cases (fun _ => ?_) (fun _ => ?_)); all_goals (conv => whnf)
  all_goals first | rfl | (refine congrArg Value.bool ?_; first | (simp [greatI, *]; done) | (rw [Bool.eq_iff_iff]; simp [greatI]; omega) | (rw [Bool.eq_iff_iff]; simp [greatI, *]; done) | (rw [Bool.eq_iff_iff]; simp [greatI, *]; omega))
theorem Value1_f (x : Int) : Fn Tryd.prog gI 82 [.int .u8 x] (.bool (valI x)) := by
  refine Fn.of tys_ok Tryd.func82 rfl (by kernel_rfl) rfl rfl ?_; intro w hG
  repeat' ((conv => whnf); first | (first | refine tk1 ?_ | refine tk2 ?_ | refine tk3 ?_ | refine tk12 (fun _ => ?_) | refine tk4 ?_ | refine tk5 ?_ | refine tk6 ?_ | refine tk7 ?_ | refine tk8 ?_ | refine tk9 ?_ | refine tk10 (fun _ _ => ?_) | refine tk11 (fun _ => ?_) | refine tk13 ?_ | refine tk14 ?_) | refine Cmp.cases (fun _ => ?_) (fun _ => ?_)); all_goals (conv => whnf)
  all_goals first | rfl | (refine congrArg Value.bool ?_; first | (simp [valI, *]; done) | (rw [Bool.eq_iff_iff]; simp [valI]; omega) | (rw [Bool.eq_iff_iff]; simp [valI, *]; done) | (rw [Bool.eq_iff_iff]; simp [valI, *]; omega))
theorem Token1_f (x : Int) (h0 : 0 ≤ x) (h1 : x ≤ 255) : Fn Tryd.prog gI 77 [.int .u8 x] (.bool (tokI x)) := by
  have hm := marks_index x h0 h1
  refine Fn.of tys_ok Tryd.func77 rfl (by kernel_rfl) rfl rfl ?_; intro w hG
  (conv => whnf); repeat ((first | refine tk1 ?_ | refine tk2 ?_ | refine tk3 ?_ | refine tk12 (fun _ => ?_) | refine tk4 ?_ | refine tk5 ?_ | refine tk6 ?_ | refine tk7 ?_ | refine tk8 ?_ | refine tk9 ?_ | refine tk10 (fun _ _ => ?_) | refine tk11 (fun _ => ?_) | refine tk13 ?_ | refine tk14 ?_); (conv => whnf))
  refine CallK.fn (small_f _) ?_
  cases hs : smallI x
  · (conv => whnf); repeat ((first | refine tk1 ?_ | refine tk2 ?_ | refine tk3 ?_ | refine tk12 (fun _ => ?_) | refine tk4 ?_ | refine tk5 ?_ | refine tk6 ?_ | refine tk7 ?_ | refine tk8 ?_ | refine tk9 ?_ | refine tk10 (fun _ _ => ?_) | refine tk11 (fun _ => ?_) | refine tk13 ?_ | refine tk14 ?_); (conv => whnf))
    refine CallK.fn (great_f _) ?_
    cases hg : greatI x
    · (conv => whnf); repeat ((first | refine tk1 ?_ | refine tk2 ?_ | refine tk3 ?_ | refine tk12 (fun _ => ?_) | refine tk4 ?_ | refine tk5 ?_ | refine tk6 ?_ | refine tk7 ?_ | refine tk8 ?_ | refine tk9 ?_ | refine tk10 (fun _ _ => ?_) | refine tk11 (fun _ => ?_) | refine tk13 ?_ | refine tk14 ?_); (conv => whnf))
      refine CallK.fn (IndexByte_f _ _) ?_
      (conv => whnf); repeat ((first | refine tk1 ?_ | refine tk2 ?_ | refine tk3 ?_ | refine tk12 (fun _ => ?_) | refine tk4 ?_ | refine tk5 ?_ | refine tk6 ?_ | refine tk7 ?_ | refine tk8 ?_ | refine tk9 ?_ | refine tk10 (fun _ _ => ?_) | refine tk11 (fun _ => ?_) | refine tk13 ?_ | refine tk14 ?_); (conv => whnf))
      refine Cmp.of (markI x) (by rw [← hm]; simp [marksL]) ?_
      (conv => whnf); repeat ((first | refine tk1 ?_ | refine tk2 ?_ | refine tk3 ?_ | refine tk12 (fun _ => ?_) | refine tk4 ?_ | refine tk5 ?_ | refine tk6 ?_ | refine tk7 ?_ | refine tk8 ?_ | refine tk9 ?_ | refine tk10 (fun _ _ => ?_) | refine tk11 (fun _ => ?_) | refine tk13 ?_ | refine tk14 ?_); (conv => whnf))
      first | rfl | (refine congrArg Value.bool ?_; first | (simp [tokI, *]; done) | (rw [Bool.eq_iff_iff]; simp [tokI]; omega) | (rw [Bool.eq_iff_iff]; simp [tokI, *]; done) | (rw [Bool.eq_iff_iff]; simp [tokI, *]; omega))
    · (conv => whnf); repeat ((first | refine tk1 ?_ | refine tk2 ?_ | refine tk3 ?_ | refine tk12 (fun _ => ?_) | refine tk4 ?_ | refine tk5 ?_ | refine tk6 ?_ | refine tk7 ?_ | refine tk8 ?_ | refine tk9 ?_ | refine tk10 (fun _ _ => ?_) | refine tk11 (fun _ => ?_) | refine tk13 ?_ | refine tk14 ?_); (conv => whnf))
      first | rfl | (refine congrArg Value.bool ?_; first | (simp [tokI, *]; done) | (rw [Bool.eq_iff_iff]; simp [tokI]; omega) | (rw [Bool.eq_iff_iff]; simp [tokI, *]; done) | (rw [Bool.eq_iff_iff]; simp [tokI, *]; omega))
  · (conv => whnf); repeat ((first | refine tk1 ?_ | refine tk2 ?_ | refine tk3 ?_ | refine tk12 (fun _ => ?_) | refine tk4 ?_ | refine tk5 ?_ | refine tk6 ?_ | refine tk7 ?_ | refine tk8 ?_ | refine tk9 ?_ | refine tk10 (fun _ _ => ?_) | refine tk11 (fun _ => ?_) | refine tk13 ?_ | refine tk14 ?_); (conv => whnf))
    first | rfl | (refine congrArg Value.bool ?_; first | (simp [tokI, *]; done) | (rw [Bool.eq_iff_iff]; simp [tokI]; omega) | (rw [Bool.eq_iff_iff]; simp [tokI, *]; done) | (rw [Bool.eq_iff_iff]; simp [tokI, *]; omega))
theorem all_f (f : Nat) (p : Int → Bool) (hf : ∀ x, 0 ≤ x → x ≤ 255 → Fn Tryd.prog gI f [.int .u8 x] (.bool (p x))) (l : List UInt8) (hl : l.length ≤ 1000000000000) :
    Fn Tryd.prog gI 76 [str l, .func (.func f) #[] #[]] (.bool (l.all fun x => p x.toNat)) := by
  refine Fn.of tys_ok Tryd.func76 rfl (by kernel_rfl) rfl rfl ?_; intro w hG
  (conv => whnf); repeat ((first | refine tk1 ?_ | refine tk2 ?_ | refine tk3 ?_ | refine tk12 (fun _ => ?_) | refine tk4 ?_ | refine tk5 ?_ | refine tk6 ?_ | refine tk7 ?_ | refine tk8 ?_ | refine tk9 ?_ | refine tk10 (fun _ _ => ?_) | refine tk11 (fun _ => ?_) | refine tk13 ?_ | refine tk14 ?_); (conv => whnf))
  refine LoopS.lp tys_ok (fun k u => [str l, .func (.func f) #[] #[], u 2, u 3, u 4, u 5, u 6, .int .i64 l.length, .int .i64 (k : Nat), u 9, u 10, u 11, u 12, u 13, u 14, u 15, u 16, u 17]) (fun _ => [])
    (fun k => k ≤ l.length ∧ (l.all fun x => p x.toNat) = ((l.drop k).all fun x => p x.toNat)) (fun k => l.length - k) 0 ⟨Nat.zero_le _, rfl⟩ rfl (by repeat' (first | exact List.Sublist.refl _ | exact List.nil_sublist _ | apply List.Sublist.cons_cons | apply List.Sublist.cons)) ?_
  intro k u ⟨hk, hI⟩
  (conv => whnf); repeat ((first | refine tk1 ?_ | refine tk2 ?_ | refine tk3 ?_ | refine tk12 (fun _ => ?_) | refine tk4 ?_ | refine tk5 ?_ | refine tk6 ?_ | refine tk7 ?_ | refine tk8 ?_ | refine tk9 ?_ | refine tk10 (fun _ _ => ?_) | refine tk11 (fun _ => ?_) | refine tk13 ?_ | refine tk14 ?_); (conv => whnf))
  refine Cmp.cases (fun hlt => ?_) (fun hlt => ?_)
  · have hd : l.drop k = l[k]'(by omega) :: l.drop (k + 1) := List.drop_eq_getElem_cons (by omega)
    (conv => whnf); repeat ((first | refine tk1 ?_ | refine tk2 ?_ | refine tk3 ?_ | refine tk12 (fun _ => ?_) | refine tk4 ?_ | refine tk5 ?_ | refine tk6 ?_ | refine tk7 ?_ | refine tk8 ?_ | refine tk9 ?_ | refine tk10 (fun _ _ => ?_) | refine tk11 (fun _ => ?_) | refine tk13 ?_ | refine tk14 ?_); (conv => whnf))
    refine IdxS.at (l[k]'(by omega)) (List.getElem?_eq_getElem _) (by omega) ?_
    (conv => whnf); repeat ((first | refine tk1 ?_ | refine tk2 ?_ | refine tk3 ?_ | refine tk12 (fun _ => ?_) | refine tk4 ?_ | refine tk5 ?_ | refine tk6 ?_ | refine tk7 ?_ | refine tk8 ?_ | refine tk9 ?_ | refine tk10 (fun _ _ => ?_) | refine tk11 (fun _ => ?_) | refine tk13 ?_ | refine tk14 ?_); (conv => whnf))
    refine CallK.fn (hf _ (by omega) (by have := (l[k]'(by omega)).toNat_lt; omega)) ?_
    cases hq : p (l[k]'(by omega)).toNat
    · (conv => whnf); repeat ((first | refine tk1 ?_ | refine tk2 ?_ | refine tk3 ?_ | refine tk12 (fun _ => ?_) | refine tk4 ?_ | refine tk5 ?_ | refine tk6 ?_ | refine tk7 ?_ | refine tk8 ?_ | refine tk9 ?_ | refine tk10 (fun _ _ => ?_) | refine tk11 (fun _ => ?_) | refine tk13 ?_ | refine tk14 ?_); (conv => whnf))
      rw [hI, hd, List.all_cons, hq]; rfl
    · (conv => whnf); repeat ((first | refine tk1 ?_ | refine tk2 ?_ | refine tk3 ?_ | refine tk12 (fun _ => ?_) | refine tk4 ?_ | refine tk5 ?_ | refine tk6 ?_ | refine tk7 ?_ | refine tk8 ?_ | refine tk9 ?_ | refine tk10 (fun _ _ => ?_) | refine tk11 (fun _ => ?_) | refine tk13 ?_ | refine tk14 ?_); (conv => whnf))
      exact ⟨k + 1, ⟨by omega, by rw [hI, hd, List.all_cons, hq]; rfl⟩, rfl, (by repeat' (first | exact List.Sublist.refl _ | exact List.nil_sublist _ | apply List.Sublist.cons_cons | apply List.Sublist.cons)), by dsimp only; omega⟩
  · (conv => whnf); repeat ((first | refine tk1 ?_ | refine tk2 ?_ | refine tk3 ?_ | refine tk12 (fun _ => ?_) | refine tk4 ?_ | refine tk5 ?_ | refine tk6 ?_ | refine tk7 ?_ | refine tk8 ?_ | refine tk9 ?_ | refine tk10 (fun _ _ => ?_) | refine tk11 (fun _ => ?_) | refine tk13 ?_ | refine tk14 ?_); (conv => whnf))
    rw [hI, List.drop_eq_nil_of_le (by omega)]
    rfl
theorem Token_f (l : List UInt8) (hl : l.length ≤ 1000000000000) : Fn Tryd.prog gI 50 [str l] (.bool (tokenOf l)) := by
  refine Fn.of tys_ok Tryd.func50 rfl (by kernel_rfl) rfl rfl ?_; intro w hG
  (conv => whnf); repeat ((first | refine tk1 ?_ | refine tk2 ?_ | refine tk3 ?_ | refine tk12 (fun _ => ?_) | refine tk4 ?_ | refine tk5 ?_ | refine tk6 ?_ | refine tk7 ?_ | refine tk8 ?_ | refine tk9 ?_ | refine tk10 (fun _ _ => ?_) | refine tk11 (fun _ => ?_) | refine tk13 ?_ | refine tk14 ?_); (conv => whnf))
  refine Cmp.cases (fun h => ?_) (fun h => ?_)
  · (conv => whnf); repeat ((first | refine tk1 ?_ | refine tk2 ?_ | refine tk3 ?_ | refine tk12 (fun _ => ?_) | refine tk4 ?_ | refine tk5 ?_ | refine tk6 ?_ | refine tk7 ?_ | refine tk8 ?_ | refine tk9 ?_ | refine tk10 (fun _ _ => ?_) | refine tk11 (fun _ => ?_) | refine tk13 ?_ | refine tk14 ?_); (conv => whnf))
    refine CallK.fn (all_f _ tokI Token1_f l hl) ?_
    (conv => whnf); repeat ((first | refine tk1 ?_ | refine tk2 ?_ | refine tk3 ?_ | refine tk12 (fun _ => ?_) | refine tk4 ?_ | refine tk5 ?_ | refine tk6 ?_ | refine tk7 ?_ | refine tk8 ?_ | refine tk9 ?_ | refine tk10 (fun _ _ => ?_) | refine tk11 (fun _ => ?_) | refine tk13 ?_ | refine tk14 ?_); (conv => whnf))
    cases l with
    | nil => exact absurd rfl h
    | cons a r => rfl
  · (conv => whnf); repeat ((first | refine tk1 ?_ | refine tk2 ?_ | refine tk3 ?_ | refine tk12 (fun _ => ?_) | refine tk4 ?_ | refine tk5 ?_ | refine tk6 ?_ | refine tk7 ?_ | refine tk8 ?_ | refine tk9 ?_ | refine tk10 (fun _ _ => ?_) | refine tk11 (fun _ => ?_) | refine tk13 ?_ | refine tk14 ?_); (conv => whnf))
    obtain rfl : l = [] := by simpa using h
    rfl
theorem Value_f (l : List UInt8) (hl : l.length ≤ 1000000000000) : Fn Tryd.prog gI 52 [str l] (.bool (valueOf l)) := by
  refine Fn.of tys_ok Tryd.func52 rfl (by kernel_rfl) rfl rfl ?_; intro w hG
  (conv => whnf); repeat ((first | refine tk1 ?_ | refine tk2 ?_ | refine tk3 ?_ | refine tk12 (fun _ => ?_) | refine tk4 ?_ | refine tk5 ?_ | refine tk6 ?_ | refine tk7 ?_ | refine tk8 ?_ | refine tk9 ?_ | refine tk10 (fun _ _ => ?_) | refine tk11 (fun _ => ?_) | refine tk13 ?_ | refine tk14 ?_); (conv => whnf))
  refine CallK.fn (Trim_f l (by omega)) ?_
  (conv => whnf); repeat ((first | refine tk1 ?_ | refine tk2 ?_ | refine tk3 ?_ | refine tk12 (fun _ => ?_) | refine tk4 ?_ | refine tk5 ?_ | refine tk6 ?_ | refine tk7 ?_ | refine tk8 ?_ | refine tk9 ?_ | refine tk10 (fun _ _ => ?_) | refine tk11 (fun _ => ?_) | refine tk13 ?_ | refine tk14 ?_); (conv => whnf))
  refine Cmp.cases (fun h => ?_) (fun h => ?_)
  · (conv => whnf); repeat ((first | refine tk1 ?_ | refine tk2 ?_ | refine tk3 ?_ | refine tk12 (fun _ => ?_) | refine tk4 ?_ | refine tk5 ?_ | refine tk6 ?_ | refine tk7 ?_ | refine tk8 ?_ | refine tk9 ?_ | refine tk10 (fun _ _ => ?_) | refine tk11 (fun _ => ?_) | refine tk13 ?_ | refine tk14 ?_); (conv => whnf))
    refine CallK.fn (all_f _ valI (fun x _ _ => Value1_f x) l hl) ?_
    (conv => whnf); repeat ((first | refine tk1 ?_ | refine tk2 ?_ | refine tk3 ?_ | refine tk12 (fun _ => ?_) | refine tk4 ?_ | refine tk5 ?_ | refine tk6 ?_ | refine tk7 ?_ | refine tk8 ?_ | refine tk9 ?_ | refine tk10 (fun _ _ => ?_) | refine tk11 (fun _ => ?_) | refine tk13 ?_ | refine tk14 ?_); (conv => whnf))
    simp [valueOf, h]
    rfl
  · (conv => whnf); repeat ((first | refine tk1 ?_ | refine tk2 ?_ | refine tk3 ?_ | refine tk12 (fun _ => ?_) | refine tk4 ?_ | refine tk5 ?_ | refine tk6 ?_ | refine tk7 ?_ | refine tk8 ?_ | refine tk9 ?_ | refine tk10 (fun _ _ => ?_) | refine tk11 (fun _ => ?_) | refine tk13 ?_ | refine tk14 ?_); (conv => whnf))
    simp [valueOf, h]

/-- A text of which the first k letters have been made small. -/
theorem midl (l : List UInt8) (k : Nat) (h : k < l.length) : (mid l k)[k]? = some l[k] ∧ mid l (k + 1) = (mid l k).set k (lowB l[k]) :=
  ⟨mid_at ⟨⟨l⟩⟩ k h, mid_next ⟨⟨l⟩⟩ k h⟩
theorem byteV_map_set (l : List UInt8) (k : Nat) (x : UInt8) : (l.map byteV).set k (byteV x) = (l.set k x).map byteV := by rw [List.map_set]
theorem Small_f (l : List UInt8) (hl : l.length ≤ 140737488355328) : Fn Tryd.prog gI 51 [str l] (str (smallOf l)) := by
  refine Fn.of tys_ok Tryd.func51 rfl (by kernel_rfl) rfl rfl ?_; intro w hG
  (conv => whnf); repeat ((first | refine tk1 ?_ | refine tk2 ?_ | refine tk3 ?_ | refine tk12 (fun _ => ?_) | refine tk4 ?_ | refine tk5 ?_ | refine tk6 ?_ | refine tk7 ?_ | refine tk8 ?_ | refine tk9 ?_ | refine tk10 (fun _ _ => ?_) | refine tk11 (fun _ => ?_) | refine tk13 ?_ | refine tk14 ?_); (conv => whnf))
  rename_i b cp
  refine LoopS.lp tys_ok (fun k u => [u 0, u 1, u 2, .slice (some ⟨b, 0, none⟩) l.length cp, u 4, u 5, u 6, u 7, .slice (some ⟨b, 0, none⟩) l.length cp, .int .i64 l.length, .int .i64 (k : Nat), u 11, u 12, u 13, u 14, u 15, u 16, u 17, u 18, u 19, u 20, u 21, u 22, u 23, u 24, u 25])
    (fun k => [.row (.slice (some ⟨b, 0, none⟩) l.length cp) 5 1 l.length ((mid l k).map byteV)]) (fun k => k ≤ l.length) (fun k => l.length - k) 0 (Nat.zero_le _) rfl (by repeat' (first | exact List.Sublist.refl _ | exact List.nil_sublist _ | apply List.Sublist.cons_cons | apply List.Sublist.cons)) ?_
  intro k u hk
  (conv => whnf); repeat ((first | refine tk1 ?_ | refine tk2 ?_ | refine tk3 ?_ | refine tk12 (fun _ => ?_) | refine tk4 ?_ | refine tk5 ?_ | refine tk6 ?_ | refine tk7 ?_ | refine tk8 ?_ | refine tk9 ?_ | refine tk10 (fun _ _ => ?_) | refine tk11 (fun _ => ?_) | refine tk13 ?_ | refine tk14 ?_); (conv => whnf))
  refine Cmp.cases (fun hlt => ?_) (fun hlt => ?_)
  · have hlt' : k < l.length := by omega
    obtain ⟨m1, m2⟩ := midl l k hlt'
    (conv => whnf); repeat ((first | refine tk1 ?_ | refine tk2 ?_ | refine tk3 ?_ | refine tk12 (fun _ => ?_) | refine tk4 ?_ | refine tk5 ?_ | refine tk6 ?_ | refine tk7 ?_ | refine tk8 ?_ | refine tk9 ?_ | refine tk10 (fun _ _ => ?_) | refine tk11 (fun _ => ?_) | refine tk13 ?_ | refine tk14 ?_); (conv => whnf))
    refine IdxA.rd (by repeat' (first | exact RdS.here | apply RdS.skip)) (by simp [mid_length]; omega) (by omega) (by omega) ?_
    (conv => whnf); repeat ((first | refine tk1 ?_ | refine tk2 ?_ | refine tk3 ?_ | refine tk12 (fun _ => ?_) | refine tk4 ?_ | refine tk5 ?_ | refine tk6 ?_ | refine tk7 ?_ | refine tk8 ?_ | refine tk9 ?_ | refine tk10 (fun _ _ => ?_) | refine tk11 (fun _ => ?_) | refine tk13 ?_ | refine tk14 ?_); (conv => whnf))
    refine Ld.rd (by repeat' (first | exact RdS.here | apply RdS.skip)) (v := .int .u8 (l[k].toNat : Int)) (by simp [m1, byteV]) ?_
    (conv => whnf); repeat ((first | refine tk1 ?_ | refine tk2 ?_ | refine tk3 ?_ | refine tk12 (fun _ => ?_) | refine tk4 ?_ | refine tk5 ?_ | refine tk6 ?_ | refine tk7 ?_ | refine tk8 ?_ | refine tk9 ?_ | refine tk10 (fun _ _ => ?_) | refine tk11 (fun _ => ?_) | refine tk13 ?_ | refine tk14 ?_); (conv => whnf))
    refine CallK.fn (great_f _) ?_
    cases hq : greatI l[k].toNat
    · have m3 : mid l (k + 1) = mid l k := mid_same ⟨⟨l⟩⟩ k hlt' hq
      (conv => whnf); repeat ((first | refine tk1 ?_ | refine tk2 ?_ | refine tk3 ?_ | refine tk12 (fun _ => ?_) | refine tk4 ?_ | refine tk5 ?_ | refine tk6 ?_ | refine tk7 ?_ | refine tk8 ?_ | refine tk9 ?_ | refine tk10 (fun _ _ => ?_) | refine tk11 (fun _ => ?_) | refine tk13 ?_ | refine tk14 ?_); (conv => whnf))
      exact ⟨k + 1, by omega, rfl, by dsimp only; rw [m3]; exact List.Sublist.refl _, by dsimp only; omega⟩
    · have hg2 : 65 ≤ ((l[k].toNat : Nat) : Int) ∧ ((l[k].toNat : Nat) : Int) ≤ 90 := by simpa [greatI] using hq
      (conv => whnf); repeat ((first | refine tk1 ?_ | refine tk2 ?_ | refine tk3 ?_ | refine tk12 (fun _ => ?_) | refine tk4 ?_ | refine tk5 ?_ | refine tk6 ?_ | refine tk7 ?_ | refine tk8 ?_ | refine tk9 ?_ | refine tk10 (fun _ _ => ?_) | refine tk11 (fun _ => ?_) | refine tk13 ?_ | refine tk14 ?_); (conv => whnf))
      refine Ar.in8 (by omega) (by omega) ?_
      (conv => whnf); repeat ((first | refine tk1 ?_ | refine tk2 ?_ | refine tk3 ?_ | refine tk12 (fun _ => ?_) | refine tk4 ?_ | refine tk5 ?_ | refine tk6 ?_ | refine tk7 ?_ | refine tk8 ?_ | refine tk9 ?_ | refine tk10 (fun _ _ => ?_) | refine tk11 (fun _ => ?_) | refine tk13 ?_ | refine tk14 ?_); (conv => whnf))
      refine Ar.in8 (by omega) (by omega) ?_
      (conv => whnf); repeat ((first | refine tk1 ?_ | refine tk2 ?_ | refine tk3 ?_ | refine tk12 (fun _ => ?_) | refine tk4 ?_ | refine tk5 ?_ | refine tk6 ?_ | refine tk7 ?_ | refine tk8 ?_ | refine tk9 ?_ | refine tk10 (fun _ _ => ?_) | refine tk11 (fun _ => ?_) | refine tk13 ?_ | refine tk14 ?_); (conv => whnf))
      refine IdxA.rd (by repeat' (first | exact RdS.here | apply RdS.skip)) (by simp [mid_length]; omega) (by omega) (by omega) ?_
      (conv => whnf)
      have hv : (Value.int .u8 (((l[k].toNat : Nat) : Int) + 97 - 65)) = byteV (lowB l[k]) := by
        unfold byteV
        rw [lowB_toNat, lowI, if_pos hq]
        congr 1; omega
      rw [hv]
      refine Sto.row (by simp [mid_length]; omega) rfl ?_
      (conv => whnf); repeat ((first | refine tk1 ?_ | refine tk2 ?_ | refine tk3 ?_ | refine tk12 (fun _ => ?_) | refine tk4 ?_ | refine tk5 ?_ | refine tk6 ?_ | refine tk7 ?_ | refine tk8 ?_ | refine tk9 ?_ | refine tk10 (fun _ _ => ?_) | refine tk11 (fun _ => ?_) | refine tk13 ?_ | refine tk14 ?_); (conv => whnf))
      exact ⟨k + 1, by omega, rfl, by dsimp only; rw [m2, ← byteV_map_set, Int.toNat_natCast, Nat.mul_one]; exact List.Sublist.refl _, by dsimp only; omega⟩
  · have hk' : k = l.length := by omega
    subst hk'
    (conv => whnf); repeat ((first | refine tk1 ?_ | refine tk2 ?_ | refine tk3 ?_ | refine tk12 (fun _ => ?_) | refine tk4 ?_ | refine tk5 ?_ | refine tk6 ?_ | refine tk7 ?_ | refine tk8 ?_ | refine tk9 ?_ | refine tk10 (fun _ _ => ?_) | refine tk11 (fun _ => ?_) | refine tk13 ?_ | refine tk14 ?_); (conv => whnf))
    refine B2S.rd (by repeat' (first | exact RdS.here | apply RdS.skip)) (mid_length _ _) ?_
    (conv => whnf); repeat ((first | refine tk1 ?_ | refine tk2 ?_ | refine tk3 ?_ | refine tk12 (fun _ => ?_) | refine tk4 ?_ | refine tk5 ?_ | refine tk6 ?_ | refine tk7 ?_ | refine tk8 ?_ | refine tk9 ?_ | refine tk10 (fun _ _ => ?_) | refine tk11 (fun _ => ?_) | refine tk13 ?_ | refine tk14 ?_); (conv => whnf))
    unfold mid
    simp

theorem Check_f (n v : List UInt8) (hn : n.length ≤ 1000000000000) : Fn Tryd.prog gI 27 [.agg ⟨[str n, str v]⟩] (.int .i64 (fieldE n v)) := by
  refine Fn.of tys_ok Tryd.func27 rfl (by kernel_rfl) rfl rfl ?_; intro w hG
  (conv => whnf); repeat ((first | refine tk1 ?_ | refine tk2 ?_ | refine tk3 ?_ | refine tk12 (fun _ => ?_) | refine tk4 ?_ | refine tk5 ?_ | refine tk6 ?_ | refine tk7 ?_ | refine tk8 ?_ | refine tk9 ?_ | refine tk10 (fun _ _ => ?_) | refine tk11 (fun _ => ?_) | refine tk13 ?_ | refine tk14 ?_); (conv => whnf))
  refine DrawS.go (qs 30) tys_ok mixed (by kernel_rfl) ?_
  (conv => whnf); repeat ((first | refine tk1 ?_ | refine tk2 ?_ | refine tk3 ?_ | refine tk12 (fun _ => ?_) | refine tk4 ?_ | refine tk5 ?_ | refine tk6 ?_ | refine tk7 ?_ | refine tk8 ?_ | refine tk9 ?_ | refine tk10 (fun _ _ => ?_) | refine tk11 (fun _ => ?_) | refine tk13 ?_ | refine tk14 ?_); (conv => whnf))
  refine Cmp.cases (fun h1 => ?_) (fun h1 => ?_)
  · (conv => whnf); repeat ((first | refine tk1 ?_ | refine tk2 ?_ | refine tk3 ?_ | refine tk12 (fun _ => ?_) | refine tk4 ?_ | refine tk5 ?_ | refine tk6 ?_ | refine tk7 ?_ | refine tk8 ?_ | refine tk9 ?_ | refine tk10 (fun _ _ => ?_) | refine tk11 (fun _ => ?_) | refine tk13 ?_ | refine tk14 ?_); (conv => whnf))
    simp [fieldE, fieldOK]; omega
  (conv => whnf); repeat ((first | refine tk1 ?_ | refine tk2 ?_ | refine tk3 ?_ | refine tk12 (fun _ => ?_) | refine tk4 ?_ | refine tk5 ?_ | refine tk6 ?_ | refine tk7 ?_ | refine tk8 ?_ | refine tk9 ?_ | refine tk10 (fun _ _ => ?_) | refine tk11 (fun _ => ?_) | refine tk13 ?_ | refine tk14 ?_); (conv => whnf))
  refine Cmp.cases (fun h2 => ?_) (fun h2 => ?_)
  · (conv => whnf); repeat ((first | refine tk1 ?_ | refine tk2 ?_ | refine tk3 ?_ | refine tk12 (fun _ => ?_) | refine tk4 ?_ | refine tk5 ?_ | refine tk6 ?_ | refine tk7 ?_ | refine tk8 ?_ | refine tk9 ?_ | refine tk10 (fun _ _ => ?_) | refine tk11 (fun _ => ?_) | refine tk13 ?_ | refine tk14 ?_); (conv => whnf))
    simp [fieldE, fieldOK]; omega
  (conv => whnf); repeat ((first | refine tk1 ?_ | refine tk2 ?_ | refine tk3 ?_ | refine tk12 (fun _ => ?_) | refine tk4 ?_ | refine tk5 ?_ | refine tk6 ?_ | refine tk7 ?_ | refine tk8 ?_ | refine tk9 ?_ | refine tk10 (fun _ _ => ?_) | refine tk11 (fun _ => ?_) | refine tk13 ?_ | refine tk14 ?_); (conv => whnf))
  refine CallQ.fn (Token_f n (by omega)) ?_
  cases h3 : tokenOf n
  · (conv => whnf); repeat ((first | refine tk1 ?_ | refine tk2 ?_ | refine tk3 ?_ | refine tk12 (fun _ => ?_) | refine tk4 ?_ | refine tk5 ?_ | refine tk6 ?_ | refine tk7 ?_ | refine tk8 ?_ | refine tk9 ?_ | refine tk10 (fun _ _ => ?_) | refine tk11 (fun _ => ?_) | refine tk13 ?_ | refine tk14 ?_); (conv => whnf))
    simp [fieldE, fieldOK, h3]
  (conv => whnf); repeat ((first | refine tk1 ?_ | refine tk2 ?_ | refine tk3 ?_ | refine tk12 (fun _ => ?_) | refine tk4 ?_ | refine tk5 ?_ | refine tk6 ?_ | refine tk7 ?_ | refine tk8 ?_ | refine tk9 ?_ | refine tk10 (fun _ _ => ?_) | refine tk11 (fun _ => ?_) | refine tk13 ?_ | refine tk14 ?_); (conv => whnf))
  refine CallQ.fn (Small_f n (by omega)) ?_
  (conv => whnf); repeat ((first | refine tk1 ?_ | refine tk2 ?_ | refine tk3 ?_ | refine tk12 (fun _ => ?_) | refine tk4 ?_ | refine tk5 ?_ | refine tk6 ?_ | refine tk7 ?_ | refine tk8 ?_ | refine tk9 ?_ | refine tk10 (fun _ _ => ?_) | refine tk11 (fun _ => ?_) | refine tk13 ?_ | refine tk14 ?_); (conv => whnf))
  refine Cmp.cases (fun h4 => ?_) (fun h4 => ?_)
  · (conv => whnf); repeat ((first | refine tk1 ?_ | refine tk2 ?_ | refine tk3 ?_ | refine tk12 (fun _ => ?_) | refine tk4 ?_ | refine tk5 ?_ | refine tk6 ?_ | refine tk7 ?_ | refine tk8 ?_ | refine tk9 ?_ | refine tk10 (fun _ _ => ?_) | refine tk11 (fun _ => ?_) | refine tk13 ?_ | refine tk14 ?_); (conv => whnf))
    simp [fieldE, fieldOK, h4]
  (conv => whnf); repeat ((first | refine tk1 ?_ | refine tk2 ?_ | refine tk3 ?_ | refine tk12 (fun _ => ?_) | refine tk4 ?_ | refine tk5 ?_ | refine tk6 ?_ | refine tk7 ?_ | refine tk8 ?_ | refine tk9 ?_ | refine tk10 (fun _ _ => ?_) | refine tk11 (fun _ => ?_) | refine tk13 ?_ | refine tk14 ?_); (conv => whnf))
  refine CallQ.fn (Value_f v (by omega)) ?_
  have h4' : smallOf n = n := by simpa using h4
  cases h5 : valueOf v
  · (conv => whnf); repeat ((first | refine tk1 ?_ | refine tk2 ?_ | refine tk3 ?_ | refine tk12 (fun _ => ?_) | refine tk4 ?_ | refine tk5 ?_ | refine tk6 ?_ | refine tk7 ?_ | refine tk8 ?_ | refine tk9 ?_ | refine tk10 (fun _ _ => ?_) | refine tk11 (fun _ => ?_) | refine tk13 ?_ | refine tk14 ?_); (conv => whnf))
    simp [fieldE, fieldOK, h5]
  · (conv => whnf); repeat ((first | refine tk1 ?_ | refine tk2 ?_ | refine tk3 ?_ | refine tk12 (fun _ => ?_) | refine tk4 ?_ | refine tk5 ?_ | refine tk6 ?_ | refine tk7 ?_ | refine tk8 ?_ | refine tk9 ?_ | refine tk10 (fun _ _ => ?_) | refine tk11 (fun _ => ?_) | refine tk13 ?_ | refine tk14 ?_); (conv => whnf))
    have e1 : n.length ≤ 4096 := by omega
    have e2 : v.length ≤ 4096 := by omega
    simp [fieldE, fieldOK, h3, h4', h5, e1, e2]
end Go.Proofs.YtnnpnkmdhfjccaaDoor.Vex
/- The program's functions on fields, reckoned. -/
namespace Go.Proofs.YtnnpnkmdhfjccaaDoor.Vex
open Go Go.RowKit
set_option maxRecDepth 100000
set_option linter.unusedSectionVars false
variable {gI : GI} [HasMax gI]

end Go.Proofs.YtnnpnkmdhfjccaaDoor.Vex
