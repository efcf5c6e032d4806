/- A walk by reckoning, part fifteen: rows that are cut, cleared, written with several cells at once; nil slices. No program in sight. -/
import Derived.Test.YtnaeeklnlddcaaaGreatDoorMRouteFills1
import Derived.Laws.Cover3
import Derived.Test.YtnaeeklnlddcaaaGreatDoorRows
import Derived.Deep.Slices
import Derived.Lib.LaidTab
import Derived.ProofKit
import Derived.Test.YtnaeeklnlddcaaaGreatDoorProg
import Derived.Shelf.Strings.Builder1
import Derived.Shelf.Strings.Builder2
import Derived.Shelf.Strings.OnBuilder
import Derived.Shelf.Strings.Trim
import Derived.Shelf.Small.Utf8
import Derived.Shelf.Small.Bits
import Derived.Shelf.Small.Strs
import Derived.Shelf.Small.Wraps
import Derived.Shelf.Strings.BuilderF
import Derived.Shelf.Strconv.Atoi
import Derived.Shelf.Strconv.Itoa0
import Derived.Shelf.Strconv.Itoa1
import Derived.Shelf.LaysM
import Derived.Shelf.Strconv.Itoa2
import Derived.Shelf.Strconv.Itoa3
import Derived.Shelf.Strconv.Clone
import Derived.Shelf.Strconv.SyntaxError
import Derived.Shelf.LaysC
import Derived.Shelf.Strconv.ToError
import Derived.Shelf.Strconv.Lower
import Derived.Shelf.Strconv.RangeError
import Derived.Shelf.Strconv.ToErrorRange
import Derived.Shelf.Strings.Search1
import Derived.Shelf.Strings.Search2
import Derived.Shelf.Strings.Search3
import Derived.Shelf.Strings.Cut
import Derived.Shelf.Strings.Count
import Derived.Shelf.Strings.Shaped
import Derived.Shelf.Strings.Prefix
import Derived.Shelf.Strings.Split
import Derived.Shelf.Strings.SplitShaped
import Derived.Shelf.Strings.Runes
import Derived.Shelf.Strings.IndexAny
import Derived.Shelf.Strings.AsciiSet
import Derived.Shelf.Strings.IndexAnyAll
import Derived.Shelf.Unicode.DecodeSlow
import Derived.Shelf.Unicode.DecodeAny
import Derived.Shelf.Unicode.DecodeLast
import Derived.Shelf.Slices.Turned
import Derived.Shelf.Slices.Equal
import Derived.Shelf.Bytes.SlIndexSmall
import Derived.Shelf.Bytes.SlIndexAt
import Derived.Shelf.Bytes.SlSearch0
import Derived.Shelf.Bytes.SlSearch1
import Derived.Shelf.Bytes.SlSearch2
import Derived.Shelf.Bytes.SlIndexWhole
import Derived.Shelf.Bytes.SlSmallAll
import Derived.Ground.SlbtProg
import Derived.Shelf.Bytes.SlCut
import Derived.Shelf.Bytes.Small
import Derived.Shelf.Bytes.IndexByte
import Derived.Shelf.Strings.SlTrimAscii
import Derived.Lib.ConvBytes
import Derived.Laws.IdiomStrings
import Derived.Lib.IndexMore
import Derived.Lib.LaidU8
import Derived.LaidLaws
import Derived.MakeChecks
namespace Go.Proofs.YtnaeeklnlddcaaaGreatDoor.Vex
open Go Go.RowKit

theorem run_storeCells_from (P : Program) (g e o : Nat) (fz : Nat × Nat) : ∀ (vs : List Value) (i : Nat) (cur : List Value) (w : World), w.heap[g]? = some (.cells ⟨cur⟩ e fz) → o + i + vs.length ≤ cur.length → (fz.2 ≤ fz.1 ∨ cur.length ≤ fz.1) → (∀ v ∈ vs, v.oneCell' = true) →
    (storeCells ⟨g, o, none⟩ vs i).run P w = .ok () (w.setCells g (o + i) vs)
  | [], _, _, _, _, _, _, _ => rfl
  | v :: r, i, cur, w, h, hl, hf, h1 => by
    simp only [List.length_cons] at hl
    have hcell : w.cell? ⟨g, o + i, none⟩ = some cur[o + i] := by rw [cell_of_row w g (o + i) _ e fz h]; simp
    have hfro : w.frozen? ⟨g, o + i, none⟩ = false := by
      simp only [World.frozen?, h]
      simp; omega
    have hst : (store ⟨g, o + i, none⟩ v).run P w = .ok () (w.setCell ⟨g, o + i, none⟩ v) := by
      rw [run_store P w _ v _ (h1 v (List.mem_cons_self ..)), hcell]
      simp [hfro]
    have h2 : (w.setCell ⟨g, o + i, none⟩ v).heap[g]? = some (.cells ⟨cur.set (o + i) v⟩ e fz) := by
      simp only [World.setCell, Array.getElem?_modify, if_true, h, Option.map_some]
      simp
    have ih := run_storeCells_from P g e o fz r (i + 1) (cur.set (o + i) v) _ h2 (by rw [List.length_set]; omega) (by rw [List.length_set]; exact hf) fun x hx => h1 x (List.mem_cons_of_mem _ hx)
    simp only [storeCells, Sem.run_bind, Addr.add_lit, hst, Result.andThen_ok]
    exact ih
theorem run_storeCells_row (P : Program) (g e : Nat) (fz : Nat × Nat) (vs : List Value) (o : Nat) (cur : List Value) (w : World) (h : w.heap[g]? = some (.cells ⟨cur⟩ e fz)) (hl : o + vs.length ≤ cur.length) (hf : fz.2 ≤ fz.1 ∨ cur.length ≤ fz.1) (h1 : ∀ v ∈ vs, v.oneCell' = true) :
    (storeCells ⟨g, o, none⟩ vs).run P w = .ok () (w.setCells g o vs) := run_storeCells_from P g e o fz vs 0 cur w h hl hf h1
section
variable {c : Ctx} {H : Hp}
/-- Cells of a row are written: the world behind holds the row anew. -/
theorem St.setRowCells {A : Option Addr} {cp e sz n j : Nat} {xs vs : List Value} {w : World} (hw : St c (.row (.slice A n cp) e sz n xs :: H) w) (hj : j + vs.length ≤ xs.length) (h1 : ∀ v ∈ vs, v.oneCell' = true) (hv : 0 < vs.length) :
    ∃ g, A = some ⟨g, 0, none⟩ ∧ n ≤ cp ∧ (storeCells ⟨g, j, none⟩ vs).run c.P w = .ok () (w.setCells g j vs) ∧ St c (.row (.slice A n cp) e sz n (xs.take j ++ vs ++ xs.drop (j + vs.length)) :: H) (w.setCells g j vs) ∧ w.heap.size ≤ (w.setCells g j vs).heap.size ∧ ∀ k, k ≠ g → (w.setCells g j vs).heap[k]? = w.heap[k]? := by
  have hr : RowH w (.slice A n cp) e sz n xs := (hw.own _ (List.mem_cons_self ..)).1
  have hk := (hw.own _ (List.mem_cons_self ..)).2
  rcases hr.2 with ⟨he, h0⟩ | ⟨g, cap, cur, fz, he, hg, hnc, hcm, hcs, htake, hfz⟩
  · subst h0
    have : xs = [] := List.eq_nil_of_length_eq_zero (by simpa using hr.1)
    subst this
    exfalso
    simp only [List.length_nil] at hj
    omega
  · cases he
    have hxl : xs.length ≤ cur.toList.length := by rw [← htake, List.length_take]; omega
    have hjc : j + vs.length ≤ cur.toList.length := Nat.le_trans hj hxl
    obtain ⟨h2, h3, h4, h5, h6⟩ := setCells_fields g vs j w
    have hg' : w.heap[g]? = some (.cells ⟨cur.toList⟩ e fz) := by simpa using hg
    have hh := heap_setCells g e fz vs j cur.toList w hg' hjc
    have hrun := run_storeCells_row c.P g e fz vs j cur.toList w hg' hjc (by simpa using hfz) h1
    refine ⟨g, rfl, hnc, hrun, ?_, by rw [h5]; exact Nat.le_refl _, h6⟩
    have hrest : St c H w := hw.sub (List.sublist_cons_self _ _)
    have hkg := hk g rfl
    have hn : ∀ y ∈ H, y.blk ≠ some g := fun y hy he => by
      have := hw.apart
      rw [List.filterMap_cons] at this
      exact (List.nodup_cons.1 this).1 (List.mem_filterMap.2 ⟨y, hy, he⟩)
    have hm : ModW c.M c.w0 (w.setCells g j vs) := ⟨h2.trans hw.mod.os, h3.trans hw.mod.tape, h4.trans hw.mod.output, by rw [h5]; exact hw.mod.size, fun k hk' hM => by
      rw [h6 k (fun e' => by subst e'; rcases hkg.2 with h | h; omega; exact hM h)]
      exact hw.mod.block k hk' hM⟩
    refine St.push ⟨hm, fun y hy => ⟨Ent.holds_of_block (hrest.own y hy).1 fun b' e' => h6 b' (fun e2 => by subst e2; exact hn y hy e'), fun b' e' => by rw [h5]; exact (hrest.own y hy).2 b' e'⟩, hrest.apart⟩ ⟨?_, .inr ⟨g, _, _, fz, rfl, hh, hnc, hcm, ?_, ?_, ?_⟩⟩ (fun b' e' => ?_) (fun b' e' y hy => ?_)
    · rw [← hr.1]
      simp only [List.length_append, List.length_take, List.length_drop]
      omega
    · simp only [List.size_toArray, List.length_append, List.length_take, List.length_drop, Array.length_toList] at hjc ⊢
      omega
    · show (cur.toList.take j ++ vs ++ cur.toList.drop (j + vs.length)).take (n * sz) = _
      have hnl : n * sz = xs.length := hr.1.symm
      rw [List.take_append, List.take_of_length_le (by simp; omega)]
      congr 1
      · congr 1
        rw [← htake, List.take_take, Nat.min_eq_left (by omega)]
      · simp only [List.length_append, List.length_take]
        rw [← htake, List.drop_take, Nat.min_eq_left (by omega)]
    · rcases hfz with h | h
      · exact .inl h
      · right
        simp only [List.size_toArray, List.length_append, List.length_take, List.length_drop, Array.length_toList] at hjc ⊢
        omega
    · obtain rfl : g = b' := Option.some.inj e'
      rw [h5]; exact hkg
    · obtain rfl : g = b' := Option.some.inj e'
      exact hn y hy
/-- Several cells of a row are stored. -/
theorem Sto.rowN {A : Option Addr} {cp e sz n j k : Nat} {xs vs : List Value} {K : Hp → Prop} (hk : vs.length = k) (h0 : 0 < k) (hj : j + k ≤ xs.length) (h1 : ∀ v ∈ vs, v.oneCell' = true) (kk : K (.row (.slice A n cp) e sz n (xs.take j ++ vs ++ xs.drop (j + k)) :: H)) : Sto c (.row (.slice A n cp) e sz n xs :: H) (.pointer (some ((A.getD at0).add j))) (.agg ⟨vs⟩) k K := by
  subst hk
  refine ⟨_, _, rfl, rfl, kk, rfl, fun w hw => ?_⟩
  obtain ⟨g, rfl, _, hrun, hs, hz, hf⟩ := hw.setRowCells hj h1 h0
  have hadd : ((some (⟨g, 0, none⟩ : Addr)).getD at0).add j = ⟨g, j, none⟩ := by simp [Addr.add_lit]
  rw [hadd]
  exact ⟨by simp [Ent.blk, Value.ownBlock], _, hrun, hs, hz, hf⟩
theorem Sto.trN {A : Option Addr} {cp e sz n j k : Nat} {xs vs xs' : List Value} {f : List Value → Hp} {K : Hp → Prop} [h : RowAt A H cp e sz n n xs f] (hv : xs.take j ++ vs ++ xs.drop (j + k) = xs') (hk : vs.length = k) (h0 : 0 < k) (hj : j + k ≤ xs.length) (h1 : ∀ v ∈ vs, v.oneCell' = true) (kk : K (f xs')) : Sto c H (.pointer (some ((A.getD at0).add j))) (.agg ⟨vs⟩) k K := by
  obtain ⟨H1, H2, rfl, hf⟩ := h.ok
  refine Sto.skips H1 (Sto.rowN hk h0 hj h1 ?_)
  rw [hv, ← hf]; exact kk
/-- A field of a row's element is stored. -/
theorem Sto.trF {A : Option Addr} {cp e sz n j o : Nat} {xs xs' : List Value} {f : List Value → Hp} {v : Value} {K : Hp → Prop} [h : RowAt A H cp e sz n n xs f] (hv : xs.set (j + o) v = xs') (hj : j + o < xs.length) (h1 : v.oneCell' = true) (k : K (f xs')) : Sto c H (.pointer (some (((A.getD at0).add j).add o))) v 1 K := by
  rw [add_add]
  exact Sto.tr hv hj h1 k
theorem RowAt.cap {A : Option Addr} {cp e sz n n' : Nat} {xs : List Value} {f : List Value → Hp} (h : RowAt A H cp e sz n n' xs f) {w : World} (hw : St c H w) : n' = n ∧ n ≤ cp := by
  obtain ⟨H1, H2, rfl, _⟩ := h.ok
  have hr : RowH w (.slice A n' cp) e sz n xs := (hw.own (.row (.slice A n' cp) e sz n xs) (by simp)).1
  rcases hr.2 with ⟨he, h0⟩ | ⟨g, cap, cur, fz, he, _, hn, _⟩
  · cases he; exact ⟨h0.symm, by omega⟩
  · cases he; exact ⟨rfl, hn⟩
/-- A row's first elements. -/
theorem RowH.cut {w : World} {A : Option Addr} {cp e sz n k : Nat} {xs : List Value} (h : RowH w (.slice A n cp) e sz n xs) (hk : k ≤ n) : RowH w (.slice A k cp) e sz k (xs.take (k * sz)) := by
  have hks : k * sz ≤ n * sz := Nat.mul_le_mul_right _ hk
  refine ⟨by rw [List.length_take, h.1]; omega, ?_⟩
  rcases h.2 with ⟨he, h0⟩ | ⟨g, cap, cur, fz, he, hg, hnc, hcm, hcs, htake, hfz⟩
  · cases he
    obtain rfl : k = 0 := by omega
    exact .inl ⟨rfl, rfl⟩
  · cases he
    exact .inr ⟨g, _, cur, fz, rfl, hg, by omega, hcm, hcs, by rw [← htake, List.take_take, Nat.min_eq_left hks], hfz⟩
theorem St.cut {A : Option Addr} {cp e sz n k : Nat} {xs : List Value} {w : World} (hw : St c (.row (.slice A n cp) e sz n xs :: H) w) (hk : k ≤ n) : St c (.row (.slice A k cp) e sz k (xs.take (k * sz)) :: H) w := by
  have hb : (Ent.row (.slice A k cp) e sz k (xs.take (k * sz))).blk = (Ent.row (.slice A n cp) e sz n xs).blk := by cases A <;> rfl
  exact ⟨hw.mod, fun y hy => by
    rcases List.mem_cons.1 hy with rfl | hy
    · have ho := hw.own _ (List.mem_cons_self ..)
      exact ⟨RowH.cut ho.1 hk, by rw [hb]; exact ho.2⟩
    · exact hw.own y (List.mem_cons_of_mem _ hy), by
    have := hw.apart
    rw [List.filterMap_cons] at this ⊢
    rw [hb]
    exact this⟩
/-- x[:h]: the elements are there. -/
theorem SlcV.to {A : Option Addr} {n cp sz : Nat} {h : Int} {K : Value → Prop} {e sz' n0 n' : Nat} {xs : List Value} {f : List Value → Hp} [hr : RowAt A H cp e sz' n0 n' xs f] (h0 : 0 ≤ h) (h1 : h ≤ n0) (k : K (.slice A h.toNat cp)) : SlcV c H A n cp 0 (some h) sz K := by
  refine ⟨Int.le_refl _, h0, fun h' e w hw => ?_, ?_⟩
  · cases e
    have := (hr.cap hw).2
    omega
  · have : A.map (·.add ((0 : Int).toNat * sz)) = A := by
      cases A with
      | none => rfl
      | some a =>
        simp only [Option.map_some, Int.toNat_zero, Nat.zero_mul, Option.some.injEq]
        unfold Addr.add
        split <;> simp_all
    simp only [this, ite_self, Option.getD_some]
    exact k
/-- x[lo:], of any slice. -/
theorem SlcV.from {A : Option Addr} {n cp sz : Nat} {lo : Int} {K : Value → Prop} (h0 : 0 ≤ lo) (h1 : lo ≤ n) (k : K (.slice (if (cp : Int) = lo then A else A.map (·.add (lo.toNat * sz))) (n - lo.toNat) (cp - lo.toNat))) : SlcV c H A n cp lo none sz K :=
  ⟨h0, by simpa using h1, (fun h' e => (by cases e)), by simpa using k⟩
/-- A slice, held against nil. -/
theorem OthP.nilEq {T : Ty} {d : Option Nat} {t e yt ty : TypeId} {x : Operand} {pos : String} {after : Array Edge} {gd : Option (Nat × Bool)} {fr : Fr} {A : Option Addr} {n cp : Nat} {K : Value → Prop} (hT : TOk c.P T) (ht : (lookT T t).d = .slice e)
    (hx : evK fr x fun v => v = .slice A n cp) (k : K (.bool A.isNone)) : OthP c ⟨d, .binOp .eql t x (.const (.slice none 0 0)) yt, ty, pos, after, gd⟩ fr H K := ⟨⟨_, k, fun w _ => by
  rw [evK_eq] at hx
  have hu := (lookT_ok hT (t := t) (by rw [ht]; intro h; cases h)).1
  rw [ht] at hu
  have hy : (act fr).eval (.const (.slice none 0 0)) = .slice none 0 0 := rfl
  have hr := run_equal_slice_nil (P := c.P) (w := w) t e A n cp hu
  generalize (act fr).eval = ρ at *
  have hg : (eqGuard .eql t x (.const (.slice none 0 0)) (.slice A n cp) (.slice none 0 0)).run c.P w = .ok () w := rfl
  have hb : (binOp .eql t (.slice A n cp) (.slice none 0 0)).run c.P w = .ok (.bool A.isNone) w := by
    show (do pure (.bool (← Op.equal t (.slice A n cp) (.slice none 0 0))) : Sem Value).run c.P w = _
    rw [Sem.run_bind, hr]
    rfl
  simp only [execOp, hx, hy, Sem.run_bind, hg, Result.andThen_ok, hb]
  rfl⟩⟩
theorem zero_one {z : Array Value} (h : ∀ v ∈ z.toList, v.oneCell' = true) (n : Nat) : ∀ v ∈ (Builtin.zeroCells z n).toList, v.oneCell' = true := by
  intro v hv
  simp only [Builtin.zeroCells, Array.toList_map, List.mem_map] at hv
  obtain ⟨i, _, rfl⟩ := hv
  by_cases hz : z.size = 0
  · rename_i hi
    simp [hz] at hi
  · have hlt : i % z.size < z.size := Nat.mod_lt _ (by omega)
    rw [getElem!_pos z _ hlt]
    exact h _ (by simp)
/-- clear(x[lo:]). -/
theorem Oth.clear {T : Ty} {d : Option Nat} {t e ty : TypeId} {x : Operand} {pos : String} {after : Array Edge} {gd : Option (Nat × Bool)} {fr : Fr} {A : Option Addr} {cp sz n lo : Nat} {xs : List Value} {f : List Value → Hp} {K : Value → Hp → Prop} [hr : RowAt A H cp e sz n n xs f] (hT : TOk c.P T)
    (ht : (lookT T t).d = .slice e) (he : (lookT T e).d ≠ .invalid) (hz : (lookT T e).zero.cells.size = sz) (h0 : 0 < sz) (h1 : ∀ v ∈ (lookT T e).zero.cells.toList, v.oneCell' = true) (hlo : lo ≤ n)
    (hx : evK fr x fun v => v = .slice (if (cp : Int) = (lo : Int) then A else A.map (·.add ((lo : Int).toNat * sz))) (n - (lo : Int).toNat) (cp - (lo : Int).toNat))
    (k : ∀ ys, ys.length = xs.length → ys.take (lo * sz) = xs.take (lo * sz) → K (.tuple ⟨[]⟩) (f ys)) : Oth c false ⟨d, .call ⟨.builtin .clear, #[x], #[t]⟩, ty, pos, after, gd⟩ fr H K := ⟨fun w hw => by
  rw [evK_eq] at hx
  have hu := (lookT_ok hT (t := t) (by rw [ht]; intro h; cases h)).1
  rw [ht] at hu
  have hzv := run_zeroValue (lookT_ok hT (t := e) he)
  have hcap := (hr.cap hw).2
  obtain ⟨H1, H2, rfl, hf⟩ := hr.ok
  have hw1 : St c (.row (.slice A n cp) e sz n xs :: (H1 ++ H2)) w := hw.perm List.perm_middle
  have hrow : RowH w (.slice A n cp) e sz n xs := (hw1.own _ (List.mem_cons_self ..)).1
  by_cases hn : n - lo = 0
  · refine ⟨.tuple ⟨[]⟩, w, f xs, ?_, by rw [hf]; exact hw, k xs rfl rfl, fun h => by cases h⟩
    generalize (act fr).eval = ρ at *
    rw [Int.toNat_natCast, hn] at hx
    simp only [go_sem, Builtin.clear_]
    simp [hx, run_underlying hu]
    split <;> simp_all
  · have hlen : (Builtin.zeroCells (lookT T e).zero.cells (n - lo)).toList.length = (n - lo) * sz := by simp [Builtin.zeroCells, hz]
    have hpos : 0 < (n - lo) * sz := Nat.mul_pos (by omega) h0
    have hsum : lo * sz + (n - lo) * sz = n * sz := by rw [← Nat.add_mul]; congr 1; omega
    obtain ⟨g, rfl, _, hrun, hs, _, _⟩ := hw1.setRowCells (j := lo * sz) (vs := (Builtin.zeroCells (lookT T e).zero.cells (n - lo)).toList) (by rw [hlen, hrow.1, hsum]; exact Nat.le_refl _) (zero_one h1 _) (by rw [hlen]; exact hpos)
    refine ⟨.tuple ⟨[]⟩, _, f (xs.take (lo * sz) ++ (Builtin.zeroCells (lookT T e).zero.cells (n - lo)).toList ++ xs.drop (lo * sz + (Builtin.zeroCells (lookT T e).zero.cells (n - lo)).toList.length)), ?_, by rw [hf]; exact hs.perm List.perm_middle.symm, k _ ?_ ?_, fun h => by cases h⟩
    · rw [if_neg (by omega)] at hx
      simp only [Int.toNat_natCast, Option.map_some, Addr.add_lit, Nat.zero_add] at hx
      obtain ⟨q, hq⟩ : ∃ q, n - lo = q + 1 := ⟨n - lo - 1, by omega⟩
      generalize (act fr).eval = ρ at *
      simp only [go_sem, Builtin.clear_]
      simp [hx, run_underlying hu]
      rw [hq] at hrun ⊢
      simp only [hzv, Result.andThen_ok]
      erw [hrun]
      rfl
    · simp only [List.length_append, List.length_take, List.length_drop, hlen, hrow.1]
      omega
    · rw [List.append_assoc, List.take_left' (by rw [List.length_take, hrow.1]; omega)]⟩
/-- What is known behind a call may be turned. -/
theorem CallK.post {m : Bool} {f : Nat} {args : List Value} {K : Value → Hp → Prop} (h : CallK c m f args H fun v H' => ∃ H2, (∀ w, St c H' w → St c H2 w) ∧ K v H2) : CallK c m f args H K :=
  ⟨h.go.imp (fun h => ⟨h.1, fun w hw => (h.2 w hw).mono fun _ w' ⟨v, _, he, hs, ⟨H2, hx, hk⟩, hr⟩ => ⟨v, H2, he, hx w' hs, hk, hr⟩⟩) fun h w hw => by
    obtain ⟨v, w', _, he, hs, ⟨H2, hx, hk⟩, hr⟩ := h w hw
    exact ⟨v, w', H2, he, hx w' hs, hk, hr⟩⟩
/-- A function that gives back a slice of its own, in a form; it has room. -/
theorem CallK.fnG {m : Bool} {f : Nat} {args : List Value} {pre : World → Prop} {G : Value → Value} {e sz n : Nat} {xs : List Value} {K : Value → Hp → Prop} (h : FnE c.P c.g f args pre fun w v w' => ∃ u, v = G u ∧ rowPost e sz n xs w u w') (hp : ∀ w, St c H w → pre w)
    (k : ∀ A cp, n ≤ cp → K (G (.slice A n cp)) (.row (.slice A n cp) e sz n xs :: H)) : CallK c m f args H K :=
  CallK.fnE h hp fun w v w' hw ⟨u, hv, hr, hb⟩ hR => by
    have hu : ∃ A cp, u = .slice A n cp ∧ n ≤ cp := by
      rcases hr.2 with ⟨he, h0⟩ | ⟨g, cap, cur, fz, he, _, hn, _⟩
      · exact ⟨none, 0, by rw [he, h0], by omega⟩
      · exact ⟨_, _, he, hn⟩
    obtain ⟨A, cp, rfl, hc⟩ := hu
    refine ⟨_, (hw.below hR).push (x := .row (.slice A n cp) e sz n xs) hr (fun b hbe => ⟨(hb b hbe).2, .inl (Nat.le_trans hw.mod.size (hb b hbe).1)⟩) (fun b hbe y hy he => ?_), hv ▸ k A cp hc⟩
    have h1 := (hb b hbe).1
    have h2 := ((hw.own y hy).2 b he).1
    omega
theorem FnE.G {P : Program} {g : GI} {f : FuncId} {args : List Value} {L : List (Option Addr × List Value)} {e sz n : Nat} {xs : List Value} (h : FnS P g f args L e sz n xs) : FnE P g f args (fun w => RdL w L) fun w v w' => ∃ u, v = u ∧ rowPost e sz n xs w u w' :=
  ⟨h.can, fun w hG hp => (h.ok w hG hp).mono fun _ _ ⟨v, he, hv, hr⟩ => ⟨v, he, ⟨v, rfl, hv⟩, hr⟩⟩
theorem CallK.fnSc {m : Bool} {f : Nat} {args : List Value} {L : List (Option Addr × List Value)} {e sz n : Nat} {xs : List Value} {K : Value → Hp → Prop} (h : FnS c.P c.g f args L e sz n xs) (hp : RdsL c H L) (k : ∀ A cp, n ≤ cp → K (.slice A n cp) (.row (.slice A n cp) e sz n xs :: H)) : CallK c m f args H K :=
  CallK.fnG (G := fun u => u) h.G (fun _ hw => hp.at hw) k
theorem rowPost.nil {P : Program} {g : GI} {w : World} {hG : g.G w} {H : Hp} (e sz : Nat) : ∀ w', St (mkC P g w hG) H w' → rowPost e sz 0 [] w (.slice none 0 0) w' := fun _ _ => ⟨⟨by simp, .inl ⟨rfl, rfl⟩⟩, fun _ h => by cases h⟩
/-- Is a value of an interface's type nil? -/
def isNilI : Value → Option Bool | .nilIface => some true | .iface _ _ => some false | _ => none
theorem run_eqNilI {P : Program} {t : TypeId} {ms : Array (String × TypeId)} {v : Value} {b : Bool} (hu : P.underlying t = some (.interface ms)) (hv : isNilI v = some b) (w : World) : (Op.equal t v .nilIface).run P w = .ok b w := by
  have e : Op.equal t v .nilIface = Op.equalIn (9999 + 1) t v .nilIface := rfl
  rw [e, Op.equalIn, Sem.run_bind, run_underlying hu]
  cases v <;> simp only [isNilI, Option.some.injEq, reduceCtorEq] at hv
  · subst hv; rfl
  · subst hv; rfl
theorem eqGuard_nilI {P : Program} {op : BinOp} {t : TypeId} {x : Operand} {v : Value} (w : World) : (eqGuard op t x (.const .nilIface) v .nilIface).run P w = .ok () w := by
  cases op <;> cases v <;> first | rfl | (cases x <;> rfl)
theorem OthP.ifEq {T : Ty} {d : Option Nat} {t yt ty : TypeId} {x : Operand} {pos : String} {after : Array Edge} {gd : Option (Nat × Bool)} {fr : Fr} {ms : Array (String × TypeId)} {v : Value} {b : Bool} {K : Value → Prop} (hT : TOk c.P T) (ht : (lookT T t).d = .interface ms)
    (hx : evK fr x fun u => u = v) (hv : isNilI v = some b) (k : K (.bool b)) : OthP c ⟨d, .binOp .eql t x (.const .nilIface) yt, ty, pos, after, gd⟩ fr H K := ⟨⟨_, k, fun w _ => by
  rw [evK_eq] at hx
  have hu := (lookT_ok hT (t := t) (by rw [ht]; intro h; cases h)).1
  rw [ht] at hu
  have hy : (act fr).eval (.const .nilIface) = .nilIface := rfl
  generalize (act fr).eval = ρ at *
  have hb : (binOp .eql t v .nilIface).run c.P w = .ok (.bool b) w := by
    have e : binOp .eql t v .nilIface = (do pure (.bool (← Op.equal t v .nilIface)) : Sem Value) := by cases v <;> first | rfl | (simp [isNilI] at hv)
    rw [e, Sem.run_bind, run_eqNilI hu hv]
    rfl
  simp only [execOp, hx, hy, Sem.run_bind, eqGuard_nilI, Result.andThen_ok, hb]
  rfl⟩⟩
theorem OthP.ifNe {T : Ty} {d : Option Nat} {t yt ty : TypeId} {x : Operand} {pos : String} {after : Array Edge} {gd : Option (Nat × Bool)} {fr : Fr} {ms : Array (String × TypeId)} {v : Value} {b : Bool} {K : Value → Prop} (hT : TOk c.P T) (ht : (lookT T t).d = .interface ms)
    (hx : evK fr x fun u => u = v) (hv : isNilI v = some b) (k : K (.bool (!b))) : OthP c ⟨d, .binOp .neq t x (.const .nilIface) yt, ty, pos, after, gd⟩ fr H K := ⟨⟨_, k, fun w _ => by
  rw [evK_eq] at hx
  have hu := (lookT_ok hT (t := t) (by rw [ht]; intro h; cases h)).1
  rw [ht] at hu
  have hy : (act fr).eval (.const .nilIface) = .nilIface := rfl
  generalize (act fr).eval = ρ at *
  have hb : (binOp .neq t v .nilIface).run c.P w = .ok (.bool (!b)) w := by
    have e : binOp .neq t v .nilIface = (do pure (.bool (!(← Op.equal t v .nilIface))) : Sem Value) := by cases v <;> first | rfl | (simp [isNilI] at hv)
    rw [e, Sem.run_bind, run_eqNilI hu hv]
    rfl
  simp only [execOp, hx, hy, Sem.run_bind, eqGuard_nilI, Result.andThen_ok, hb]
  rfl⟩⟩
/-- A value is wrapped into an interface's. -/
theorem OthP.mkI {T : Ty} {d : Option Nat} {xt ty : TypeId} {x : Operand} {pos : String} {after : Array Edge} {gd : Option (Nat × Bool)} {fr : Fr} {v : Value} {K : Value → Prop} (hT : TOk c.P T) (ht : (match (lookT T xt).d with | .interface _ => false | .invalid => false | _ => true) = true)
    (hx : evK fr x fun u => u = v) (k : K (.iface xt v)) : OthP c ⟨d, .makeInterface xt x, ty, pos, after, gd⟩ fr H K := ⟨⟨_, k, fun w _ => by
  rw [evK_eq] at hx
  have hu := (lookT_ok hT (t := xt) (by intro h; rw [h] at ht; cases ht)).1
  generalize (act fr).eval = ρ at *
  have hr : (Instr.makeInterface xt v).run c.P w = .ok (.iface xt v) w := by
    unfold Instr.makeInterface
    rw [Sem.run_bind, run_underlying hu]
    cases hd : (lookT T xt).d <;> rw [hd] at ht <;> first | rfl | cases ht
  simp only [execOp, hx, Sem.run_bind, hr, Result.andThen_ok, Sem.run_pure]⟩⟩
/-- Any operation on two integers, by its own run. -/
theorem OthP.ints {d : Option Nat} {op : BinOp} {t yt ty : TypeId} {x y : Operand} {pos : String} {after : Array Edge} {gd : Option (Nat × Bool)} {fr : Fr} {k k' : IntKind} {a b : Int} {v : Value} {K : Value → Prop}
    (hx : evK fr x fun u => u = .int k a) (hy : evK fr y fun u => u = .int k' b) (hr : ∀ w, (binOp op t (.int k a) (.int k' b)).run c.P w = .ok v w) (kk : K v) : OthP c ⟨d, .binOp op t x y yt, ty, pos, after, gd⟩ fr H K := ⟨⟨_, kk, fun w _ => by
  rw [evK_eq] at hx hy
  generalize (act fr).eval = ρ at *
  have hg : (eqGuard op t x y (.int k a) (.int k' b)).run c.P w = .ok () w := by
    unfold eqGuard
    split <;> rfl
  simp only [execOp, hx, hy, Sem.run_bind, hg, Result.andThen_ok, hr]
  rfl⟩⟩
end
/-! The steps that a walk takes by itself, in short: what they ask is shown in passing. -/
section
variable {c : Ctx} {H : Hp}
theorem tk1 {b i : Nat} {vs : List Value} {t : TypeId} {f : List Value → Hp} {v : Value} {K : Value → Prop} [h : BoxAt b H vs t f] (k : K v) (hv : vs[i]? = some v := by exact rfl) : Ld c H (.pointer (some ⟨b, i, none⟩)) none K := Ld.tc hv k
theorem tk2 {b n : Nat} {vs : List Value} {t : TypeId} {f : List Value → Hp} {K : Value → Prop} [h : BoxAt b H vs t f] (k : K (.agg ⟨vs⟩)) (hn : vs.length = n := by exact rfl) : Ld c H (.pointer (some ⟨b, 0, none⟩)) (some n) K := Ld.tv hn k
theorem tk3 {b i n : Nat} {vs us : List Value} {t : TypeId} {f : List Value → Hp} {K : Value → Prop} [h : BoxAt b H vs t f] (k : K (.agg ⟨us⟩)) (hu : (vs.drop i).take n = us := by exact rfl) (hn : us.length = n := by exact rfl) : Ld c H (.pointer (some ⟨b, i, none⟩)) (some n) K := Ld.tw hu hn k
theorem tk4 {z : Int} {K : Value → Prop} (k : K (.int .i64 z)) (h : -9223372036854775808 ≤ z := by first | omega | decide | (simp only [List.length_cons, List.length_nil, List.length_append]; omega)) (h' : z ≤ 9223372036854775807 := by first | omega | decide | (simp only [List.length_cons, List.length_nil, List.length_append]; omega)) : Ar .i64 z K := Ar.in64 h h' k
theorem tk5 {p : Prop} {K : Value → Prop} (k : K (.bool true)) (h : p := by first | omega | decide | (simp only [List.length_cons, List.length_nil, List.length_append]; omega)) : Cmp p K := Cmp.t h k
theorem tk6 {p : Prop} {K : Value → Prop} (k : K (.bool false)) (h : ¬ p := by first | omega | decide | (simp only [List.length_cons, List.length_nil, List.length_append]; omega)) : Cmp p K := Cmp.f h k
theorem tk7 {b n : Nat} {vs xs : List Value} {t : TypeId} {f : List Value → Hp} {K : Hp → Prop} [h : BoxAt b H vs t f] (k : K (f xs)) (hn : xs.length = n := by exact rfl) (hv : vs.length = n := by exact rfl) (h1 : ∀ x ∈ xs, x.oneCell' = true := by simp [Value.oneCell']) : Sto c H (.pointer (some ⟨b, 0, none⟩)) (.agg ⟨xs⟩) n K := Sto.tv hn hv h1 k
theorem tk8 {b i : Nat} {vs vs' : List Value} {t : TypeId} {f : List Value → Hp} {v : Value} {K : Hp → Prop} [h : BoxAt b H vs t f] (k : K (f vs')) (hv : vs.set i v = vs' := by exact rfl) (hi : i < vs.length := by exact Nat.le_of_ble_eq_true (by exact rfl)) (h1 : v.oneCell' = true := by exact rfl) : Sto c H (.pointer (some ⟨b, i, none⟩)) v 1 K := Sto.tc hv hi h1 k
theorem tk9 {b i n : Nat} {vs xs vs' : List Value} {t : TypeId} {f : List Value → Hp} {K : Hp → Prop} [h : BoxAt b H vs t f] (k : K (f vs')) (hv : vs.take i ++ xs ++ vs.drop (i + n) = vs' := by exact rfl) (hn : xs.length = n := by exact rfl) (hi : i + n ≤ vs.length := by exact Nat.le_of_ble_eq_true (by exact rfl)) (h1 : ∀ x ∈ xs, x.oneCell' = true := by simp [Value.oneCell']) : Sto c H (.pointer (some ⟨b, i, none⟩)) (.agg ⟨xs⟩) n K := Sto.tw hv hn hi h1 k
theorem tk10 {l : List UInt8} {e : Nat} {K : Value → Hp → Prop} (k : ∀ b cp, K (.slice (some ⟨b, 0, none⟩) l.length cp) (.row (.slice (some ⟨b, 0, none⟩) l.length cp) e 1 l.length (l.map byteV) :: H)) (h : l.length ≤ 9223372036854775807 := by omega) : S2B l e H K := S2B.go h k
theorem tk11 {vs : List Value} {e sz n : Nat} {K : Value → Hp → Prop} (k : ∀ b, K (.slice (some ⟨b, 0, none⟩) n n) (.row (.slice (some ⟨b, 0, none⟩) n n) e sz n vs :: H)) (h : vs.length = n * sz := by exact rfl) (h1 : n * sz ≤ 16777216 := by decide) (h2 : n ≤ 16777216 := by decide) : BSl vs e sz n H K := BSl.go h h1 h2 k
theorem tk12 {vs : List Value} {t : Nat} {K : Value → Hp → Prop} (k : ∀ b, K (.pointer (some ⟨b, 0, none⟩)) (.box b vs t :: H)) : Alc vs t H K := Alc.mk k
theorem slc {l : List UInt8} {lo hi : Int} {K : Value → Prop} (k : K (str ((l.take hi.toNat).drop lo.toNat))) (h0 : 0 ≤ lo := by first | omega | decide | (simp only [List.length_cons, List.length_nil, List.length_append]; omega)) (h1 : lo ≤ hi := by first | omega | decide | (simp only [List.length_cons, List.length_nil, List.length_append]; omega)) (h2 : hi ≤ l.length := by first | omega | decide | (simp only [List.length_cons, List.length_nil, List.length_append]; omega)) : SlcS l lo hi K := SlcS.at h0 h1 h2 k
end
theorem Fn.to {P : Program} {g : GI} {f : FuncId} {args : List Value} {v v' : Value} (h : Fn P g f args v) (e : v = v') : Fn P g f args v' := e ▸ h
theorem FnE.toV {P : Program} {g : GI} {f : FuncId} {args : List Value} {pre : World → Prop} {v v' : Value} (h : FnE P g f args pre fun _ x _ => x = v) (e : v = v') : FnE P g f args pre fun _ x _ => x = v' := e ▸ h
theorem CallK.fnAny {c : Ctx} {H : Hp} {m : Bool} {f : Nat} {args : List Value} {pre : World → Prop} {K : Value → Hp → Prop} (h : FnE c.P c.g f args pre fun _ v _ => ∃ b, v = .bool b) (hp : ∀ w, St c H w → pre w) (k : ∀ b, K (.bool b) H) : CallK c m f args H K :=
  CallK.fnE h hp fun _ _ _ hs hv hr => by
    obtain ⟨b, rfl⟩ := hv
    exact ⟨_, hs.below hr, k b⟩
theorem FnE.toS {P : Program} {g : GI} {f : FuncId} {args : List Value} {L : List (Option Addr × List Value)} {e sz n n' : Nat} {xs xs' : List Value} (h : FnS P g f args L e sz n xs) (e1 : n = n') (e2 : xs = xs') : FnS P g f args L e sz n' xs' := e1 ▸ e2 ▸ h
end Go.Proofs.YtnaeeklnlddcaaaGreatDoor.Vex
/- Arguments of any readable type: what their cells are, and what they lean on in the memory; what an UptoSaid's bound gives of them. -/
namespace Go.Proofs.YtnaeeklnlddcaaaGreatDoor.Vex
open Go Go.RowKit Go.ChangeShapes Go.WideShapes Go.Deep

/-- A kind of data: its cells, what it asks of a world, and how much it weighs at least. -/
structure Shape where
  α : Type
  n : Nat
  f : α → List Value
  ok : World → α → Prop
  wt : α → Nat
/-- Cells of type t that can be read are data of this kind. -/
def Opens (P : Program) (t : TypeId) (S : Shape) : Prop := P.cellsOf t = S.n ∧ ∀ {H : Type} {enc : TypeId × Value → H} {W : World} {fuel : Nat} {cs : List Value} {d : DataW H} {p : List MemPlace},
  DataW.trod enc P W 0 (fun _ => true) true fuel t cs = some (d, p) → ∃ x : S.α, cs = S.f x ∧ S.ok W x ∧ S.wt x ≤ Rows.uptoBulk d ∧ (S.f x).length = S.n
/-- Some fields of a struct, from one place on. -/
def OpensL (P : Program) (fl : List Field) (o : Nat) (S : Shape) : Prop := ∀ {H : Type} {enc : TypeId × Value → H} {W : World} {fuel : Nat} {cs : List Value} {xs : List (DataW H × List MemPlace)},
  xs.length = fl.length → (∀ (i : Nat) (f : Field), fl[i]? = some f → DataW.trod enc P W 0 (fun _ => true) true fuel f.type ((cs.drop f.offset).take (P.cellsOf f.type)) = xs[i]?) →
  ∃ x : S.α, (cs.drop o).take S.n = S.f x ∧ S.ok W x ∧ S.wt x ≤ Rows.uptoBulkAll (xs.map (·.1)) ∧ (S.f x).length = S.n

abbrev strShape : Shape := ⟨List UInt8, 1, fun l => [str l], fun _ l => l.length ≤ 9223372036854775807, fun l => l.length + 1⟩
abbrev intShape (k : IntKind) : Shape := ⟨Int, 1, fun n => [.int k n], fun _ n => k.min ≤ n ∧ n ≤ k.max, fun _ => 1⟩
abbrev boolShape : Shape := ⟨Bool, 1, fun b => [.bool b], fun _ _ => True, fun _ => 1⟩
abbrev unitShape : Shape := ⟨Unit, 0, fun _ => [], fun _ _ => True, fun _ => 0⟩
abbrev pairShape (S T : Shape) : Shape := ⟨S.α × T.α, S.n + T.n, fun x => S.f x.1 ++ T.f x.2, fun w x => S.ok w x.1 ∧ T.ok w x.2, fun x => S.wt x.1 + T.wt x.2⟩
/-- A slice that came in. -/
structure Sl (α : Type) where
  A : Option Addr
  cp : Nat
  l : List α
abbrev sliceShape (S : Shape) : Shape := ⟨Sl S.α, 1, fun x => [.slice x.A x.l.length x.cp], fun w x => x.l.length ≤ x.cp ∧ Rdw w x.A (x.l.flatMap S.f) ∧ ∀ e ∈ x.l, S.ok w e, fun x => (x.l.map S.wt).sum + 1⟩

section
variable {P : Program}
theorem opens_str {t : TypeId} (ht : P.underlying t = some .string) (hc : P.cellsOf t = 1) : Opens P t strShape := ⟨hc, fun h => by
  obtain ⟨s, rfl, hx, hs⟩ := DataW.trod_string ht h
  refine ⟨s.data.toList, rfl, ?_, ?_, rfl⟩
  · unfold maxLen at hs
    exact (show s.data.toList.length ≤ _ by rw [Array.length_toList]; exact hs)
  · rw [(Prod.mk.inj hx).1]
    simp [Rows.uptoBulk]⟩
theorem opens_int {t : TypeId} {k : IntKind} (ht : P.underlying t = some (.int k)) (hc : P.cellsOf t = 1) : Opens P t (intShape k) := ⟨hc, fun h => by
  obtain ⟨n, rfl, hx, hw⟩ := DataW.trod_int ht h
  refine ⟨n, rfl, by simpa [Lit.wf] using hw, ?_, rfl⟩
  rw [(Prod.mk.inj hx).1]
  simp [Rows.uptoBulk]⟩
theorem opens_bool {t : TypeId} (ht : P.underlying t = some .bool) (hc : P.cellsOf t = 1) : Opens P t boolShape := ⟨hc, fun h => by
  obtain ⟨n, rfl, hx⟩ := DataW.trod_bool ht h
  refine ⟨n, rfl, trivial, ?_, rfl⟩
  rw [(Prod.mk.inj hx).1]
  simp [Rows.uptoBulk]⟩
theorem opensL_nil (o : Nat) : OpensL P [] o unitShape := fun {H enc W fuel cs xs} hl _ => by
  obtain rfl : xs = [] := List.eq_nil_of_length_eq_zero hl
  exact ⟨(), by simp, trivial, by simp [Rows.uptoBulkAll], rfl⟩
theorem opensL_cons {f : Field} {r : List Field} {o : Nat} {S T : Shape} (ho : f.offset = o) (h1 : Opens P f.type S) (h2 : OpensL P r (o + S.n) T) : OpensL P (f :: r) o (pairShape S T) := fun {H enc W fuel cs xs} hl h => by
  cases xs with
  | nil => simp at hl
  | cons x xs =>
    have h0 := h 0 f rfl
    rw [ho, h1.1] at h0
    obtain ⟨a, ha, ka, wa, la⟩ := h1.2 (show DataW.trod enc P W 0 (fun _ => true) true fuel f.type ((cs.drop o).take S.n) = some (x.1, x.2) from h0)
    obtain ⟨b, hb, kb, wb, lb⟩ := h2 (xs := xs) (by simpa using hl) (fun i g hg => by simpa using h (i + 1) g (by simpa using hg))
    refine ⟨(a, b), ?_, ⟨ka, kb⟩, ?_, ?_⟩
    · show (cs.drop o).take (S.n + T.n) = S.f a ++ T.f b
      rw [List.take_add, ha, List.drop_drop, hb]
    · show S.wt a + T.wt b ≤ _
      simp only [List.map_cons, Rows.uptoBulkAll]
      omega
    · show (S.f a ++ T.f b).length = _
      rw [List.length_append, la, lb]
theorem opens_struct {t : TypeId} {fs : Array Field} {S : Shape} (ht : P.underlying t = some (.struct fs)) (hc : P.cellsOf t = S.n) (h : OpensL P fs.toList 0 S) : Opens P t ⟨S.α, S.n, S.f, S.ok, fun x => S.wt x + 1⟩ := ⟨hc, fun {H enc W fuel cs d p} hd => by
  obtain ⟨xs, n, rfl, hx, hl, hxl, hall⟩ := DataW.trod_struct ht hd
  obtain ⟨x, h1, h2, h3, h4⟩ := h (cs := cs) (xs := xs) (by simpa using hxl) (fun i f hf => hall i f (by simpa using hf))
  refine ⟨x, ?_, h2, ?_, h4⟩
  · rw [List.drop_zero, List.take_of_length_le (by rw [hl, hc]; exact Nat.le_refl _)] at h1
    exact h1
  · rw [(Prod.mk.inj hx).1]
    simp only [Rows.uptoBulk]
    omega⟩
theorem flat_get {α : Type} (f : α → List Value) (n : Nat) : ∀ (l : List α), (∀ e ∈ l, (f e).length = n) → ∀ (j : Nat) (u : Value), (l.flatMap f)[j]? = some u → ∃ (i : Nat) (h : i < l.length), i * n ≤ j ∧ j < i * n + n ∧ (f l[i])[j - i * n]? = some u
  | [], _, j, u, h => by simp at h
  | a :: r, hn, j, u, h => by
    have ha := hn a (by simp)
    rw [List.flatMap_cons] at h
    by_cases hj : j < n
    · rw [List.getElem?_append_left (by omega)] at h
      exact ⟨0, by simp, by omega, by omega, by simpa using h⟩
    · rw [List.getElem?_append_right (by omega), ha] at h
      obtain ⟨i, hi, h1, h2, h3⟩ := flat_get f n r (fun e he => hn e (by simp [he])) _ _ h
      refine ⟨i + 1, by simp; omega, by rw [Nat.add_mul]; omega, by rw [Nat.add_mul]; omega, ?_⟩
      rw [show j - (i + 1) * n = j - n - i * n by rw [Nat.add_mul]; omega]
      simpa using h3
theorem cells_get {w : World} {a : Addr} : ∀ {n : Nat} {cs : List Value}, w.cells? 0 a n = some cs → cs.length = n ∧ ∀ (j : Nat) (u : Value), cs[j]? = some u → w.cell? (a.add j) = some u := by
  intro n cs h
  unfold World.cells? at h
  rw [if_pos (Nat.zero_le _)] at h
  have hm := h
  have hml := Lib.mapM_length hm
  simp only [List.length_range] at hml
  refine ⟨hml, fun j u hj => ?_⟩
  have hjn : j < n := by
    have := (List.getElem?_eq_some_iff.1 hj).1
    omega
  obtain ⟨b, hb, hf⟩ := Lib.mapM_at hm j j (by simp [hjn])
  rw [hj] at hb
  cases hb
  exact hf
theorem choose_list {α : Type} : ∀ {n : Nat} {p : Nat → α → Prop}, (∀ i, i < n → ∃ x, p i x) → ∃ l : List α, l.length = n ∧ ∀ (i : Nat) (h : i < l.length), p i l[i]
  | 0, _, _ => ⟨[], rfl, fun _ h => absurd h (by simp)⟩
  | n + 1, p, h => by
    obtain ⟨x, hx⟩ := h 0 (by omega)
    obtain ⟨l, hl, hp⟩ := choose_list (n := n) (p := fun i => p (i + 1)) (fun i hi => h (i + 1) (by omega))
    refine ⟨x :: l, by simp [hl], fun i hi => ?_⟩
    cases i with
    | zero => exact hx
    | succ i => exact hp i (by simpa using hi)
theorem sum_map_le {α : Type} {f : α → Nat} {g : Nat → Nat} : ∀ (l : List α) (o : Nat), (∀ (i : Nat) (h : i < l.length), f l[i] ≤ g (o + i)) → (l.map f).sum ≤ ((List.range' o l.length).map g).sum
  | [], o, _ => by simp
  | a :: r, o, h => by
    have h0 := h 0 (by simp)
    have ih := sum_map_le r (o + 1) (fun i hi => by
      have := h (i + 1) (by simpa using hi)
      rw [show o + (i + 1) = o + 1 + i by omega] at this
      exact this)
    simp only [List.length_cons, List.range'_succ, List.map_cons, List.sum_cons]
    simp at h0
    omega
theorem opens_slice {t e : TypeId} {S : Shape} (ht : P.underlying t = some (.slice e)) (hc : P.cellsOf t = 1) (h : Opens P e S) : Opens P t (sliceShape S) := ⟨hc, fun {H enc W fuel cs d p} hd => by
  rcases open_slice ht hd with ⟨rfl, hx⟩ | ⟨a, len, cap, m, n, D, Pl, rfl, _, hl, hm, hmm, hx, hi⟩
  · refine ⟨⟨none, 0, []⟩, rfl, ⟨Nat.le_refl _, fun j u hj => by simp at hj, fun e he => by cases he⟩, ?_, rfl⟩
    rw [(Prod.mk.inj hx).1]
    simp [Rows.uptoBulk]
  · have hlm : len ≤ m := by rw [hmm]; split <;> omega
    have each : ∀ i, i < len → ∃ x : S.α, (∃ cs', W.cells? 0 (a.add (i * S.n)) S.n = some cs' ∧ cs' = S.f x) ∧ S.ok W x ∧ S.wt x ≤ Rows.uptoBulk (D i) ∧ (S.f x).length = S.n := fun i hil => by
      obtain ⟨cs', hcs, htr⟩ := hi i (by omega)
      rw [h.1] at hcs
      obtain ⟨x, hx1, hx2, hx3, hx4⟩ := h.2 htr
      exact ⟨x, ⟨cs', hcs, hx1⟩, hx2, hx3, hx4⟩
    obtain ⟨q, hlen, hq⟩ := choose_list each
    refine ⟨⟨some a, cap, q⟩, ?_, ⟨?_, ?_, ?_⟩, ?_, rfl⟩
    · show _ = [Value.slice (some a) q.length cap]
      rw [hlen]
    · show q.length ≤ cap
      rw [hlen]; exact hl
    · intro j u hj
      obtain ⟨i, hil, h1, h2, h3⟩ := flat_get S.f S.n _ (fun e he => by
        obtain ⟨i, hi', rfl⟩ := List.mem_iff_getElem.1 he
        exact (hq i hi').2.2.2) j u hj
      obtain ⟨⟨cs', hcs, rfl⟩, _⟩ := hq i hil
      have h5 := (cells_get hcs).2 _ _ h3
      rw [add_add, show i * S.n + (j - i * S.n) = j by omega] at h5
      exact ⟨a, rfl, h5⟩
    · intro e he
      obtain ⟨i, hi', rfl⟩ := List.mem_iff_getElem.1 he
      exact (hq i hi').2.1
    · have h1 := sum_map_le (f := S.wt) (g := fun i => Rows.uptoBulk (D i)) q 0 (fun i hi' => by rw [Nat.zero_add]; exact (hq i hi').2.2.1)
      have h2 : ∀ r : List Nat, Rows.uptoBulkAll (r.map D) = (r.map fun i => Rows.uptoBulk (D i)).sum := fun r => by
        induction r with
        | nil => simp [Rows.uptoBulkAll]
        | cons i r ih => simp only [List.map_cons, List.sum_cons, Rows.uptoBulkAll, ih]
      rw [(Prod.mk.inj hx).1]
      simp only [Rows.uptoBulk, h2]
      rw [hlen, ← List.range_eq_range'] at h1
      omega⟩
theorem opens_as {t : TypeId} {S T : Shape} (h : Opens P t S) (he : S = T) : Opens P t T := he ▸ h
end

/-- An argument that is one cell. -/
theorem open_cell {H : Type} {r : Reach} {b0 : Nat} {P : Program} {enc : TypeId × Value → H} {W : World} {t : TypeId} {v : Value} {d : DataW H} {p : List MemPlace} {S : Shape} (hS : Opens P t S) (hn : match P.underlying t with | some (.struct _) => false | some (.array _ _) => false | _ => true)
    (hv : Value.okWide P W r b0 t v) (h : DataW.Trod enc P W 0 (fun _ => true) true t v d p) : ∃ x : S.α, [v] = S.f x ∧ S.ok W x ∧ S.wt x ≤ Rows.uptoBulk d := by
  obtain ⟨fuel, hf⟩ := h
  obtain ⟨x, h1, h2, h3, _⟩ := hS.2 hf
  have hc : v.cells.toList = [v] := by
    unfold Value.okWide at hv
    split at hv
    · rename_i hu; rw [hu] at hn; cases hn
    · rename_i hu; rw [hu] at hn; cases hn
    · cases v <;> first | rfl | (exfalso; simp [Cell.okWide, Cell.ok] at hv)
  exact ⟨x, by rw [← hc]; exact h1, h2, h3⟩
/-- An argument that is a struct. -/
theorem open_whole {H : Type} {r : Reach} {b0 : Nat} {P : Program} {enc : TypeId × Value → H} {W : World} {t : TypeId} {fs : Array Field} {v : Value} {d : DataW H} {p : List MemPlace} {S : Shape} (hS : Opens P t S) (hu : P.underlying t = some (.struct fs))
    (hv : Value.okWide P W r b0 t v) (h : DataW.Trod enc P W 0 (fun _ => true) true t v d p) : ∃ x : S.α, v = .agg ⟨S.f x⟩ ∧ S.ok W x ∧ S.wt x ≤ Rows.uptoBulk d := by
  obtain ⟨cs, rfl, _⟩ := okWide_struct hu hv
  obtain ⟨fuel, hf⟩ := h
  obtain ⟨x, h1, h2, h3, _⟩ := hS.2 hf
  refine ⟨x, ?_, h2, h3⟩
  have : cs.toList = S.f x := h1
  rw [← this]
theorem done_F {P : Program} {g : GI} {f : FuncId} {args : List Value} {W : World} (h : Fn P g f args (.bool true)) (hG : g.G W) : Calls P f ⟨args⟩ W fun e W' => e = .returned (.bool true) ∧ Below W.heap.size W W' :=
  (h.ok W hG).mono fun _ _ ⟨he, hR⟩ => ⟨he, hR⟩
theorem done_E {P : Program} {g : GI} {f : FuncId} {args : List Value} {pre : World → Prop} {W : World} (h : FnE P g f args pre fun _ v _ => v = .bool true) (hG : g.G W) (hp : pre W) : Calls P f ⟨args⟩ W fun e W' => e = .returned (.bool true) ∧ Below W.heap.size W W' :=
  (h.ok W hG hp).mono fun _ _ ⟨_, he, hv, hR⟩ => ⟨by rw [he, hv], hR⟩
theorem bulk_part2 {H : Type} {d : DataW H} {l : List (DataW H)} (h : d ∈ l) : Rows.uptoBulk d ≤ Rows.uptoBulkAll l := by
  induction l with
  | nil => cases h
  | cons x r ih =>
    simp only [Rows.uptoBulkAll]
    cases List.mem_cons.1 h with
    | inl e => subst e; omega
    | inr e => have := ih e; omega
theorem bulk_of2 {H : Type} {l : List (DataW H)} (hk : Rows.uptoSmall H l = true) : Rows.uptoBulkAll l ≤ 1048576 := by simpa [Rows.uptoSmall] using hk
end Go.Proofs.YtnaeeklnlddcaaaGreatDoor.Vex
/- The table of types of this seat's program, each row read off the program by the kernel. (Written by vextys.py.) -/
namespace Go.Proofs.YtnaeeklnlddcaaaGreatDoor.Vex
open Go Go.RowKit

def tys : Ty := [
  (1, ⟨(TypeDesc.func #[] #[] false), .nilFunc, 1, 8, []⟩),
  (2, ⟨(TypeDesc.int IntKind.i64), .int .i64 0, 1, 8, []⟩),
  (3, ⟨(TypeDesc.int IntKind.i64), .int .i64 0, 1, 8, []⟩),
  (4, ⟨TypeDesc.bool, .bool false, 1, 1, []⟩),
  (5, ⟨(TypeDesc.int IntKind.u8), .int .u8 0, 1, 1, []⟩),
  (6, ⟨(TypeDesc.int IntKind.u8), .int .u8 0, 1, 1, []⟩),
  (7, ⟨(TypeDesc.struct #[{ name := "x", type := 2, offset := 0, embedded := false, tag := "", pkgPath := "runtime", byteOffset := 0 }, { name := "y", type := 3, offset := 1, embedded := false, tag := "", pkgPath := "runtime", byteOffset := 8 }, { name := "signed", type := 4, offset := 2, embedded := false, tag := "", pkgPath := "runtime", byteOffset := 16 }, { name := "code", type := 6, offset := 3, embedded := false, tag := "", pkgPath := "runtime", byteOffset := 17 }]), .agg ⟨[.int .i64 0, .int .i64 0, .bool false, .int .u8 0]⟩, 4, 24, [(0, 1), (1, 1), (2, 1), (3, 1)]⟩),
  (8, ⟨(TypeDesc.struct #[{ name := "x", type := 2, offset := 0, embedded := false, tag := "", pkgPath := "runtime", byteOffset := 0 }, { name := "y", type := 3, offset := 1, embedded := false, tag := "", pkgPath := "runtime", byteOffset := 8 }, { name := "signed", type := 4, offset := 2, embedded := false, tag := "", pkgPath := "runtime", byteOffset := 16 }, { name := "code", type := 6, offset := 3, embedded := false, tag := "", pkgPath := "runtime", byteOffset := 17 }]), .agg ⟨[.int .i64 0, .int .i64 0, .bool false, .int .u8 0]⟩, 4, 24, [(0, 1), (1, 1), (2, 1), (3, 1)]⟩),
  (9, ⟨TypeDesc.string, str [], 1, 16, []⟩),
  (10, ⟨TypeDesc.string, str [], 1, 16, []⟩),
  (11, ⟨TypeDesc.string, str [], 1, 16, []⟩),
  (12, ⟨(TypeDesc.int IntKind.u64), .int .u64 0, 1, 8, []⟩),
  (13, ⟨(TypeDesc.struct #[{ name := "msg", type := 9, offset := 0, embedded := false, tag := "", pkgPath := "runtime", byteOffset := 0 }, { name := "addr", type := 12, offset := 1, embedded := false, tag := "", pkgPath := "runtime", byteOffset := 16 }]), .agg ⟨[str [], .int .u64 0]⟩, 2, 24, [(0, 1), (1, 1)]⟩),
  (14, ⟨(TypeDesc.struct #[{ name := "msg", type := 9, offset := 0, embedded := false, tag := "", pkgPath := "runtime", byteOffset := 0 }, { name := "addr", type := 12, offset := 1, embedded := false, tag := "", pkgPath := "runtime", byteOffset := 16 }]), .agg ⟨[str [], .int .u64 0]⟩, 2, 24, [(0, 1), (1, 1)]⟩),
  (15, ⟨(TypeDesc.pointer 266), .pointer none, 1, 8, []⟩),
  (16, ⟨(TypeDesc.pointer 269), .pointer none, 1, 8, []⟩),
  (17, ⟨(TypeDesc.pointer 277), .pointer none, 1, 8, []⟩),
  (18, ⟨(TypeDesc.struct #[{ name := "typ", type := 17, offset := 0, embedded := false, tag := "", pkgPath := "internal/runtime/maps", byteOffset := 0 }]), .agg ⟨[.pointer none]⟩, 1, 8, [(0, 1)]⟩),
  (19, ⟨(TypeDesc.struct #[{ name := "typ", type := 17, offset := 0, embedded := false, tag := "", pkgPath := "internal/runtime/maps", byteOffset := 0 }]), .agg ⟨[.pointer none]⟩, 1, 8, [(0, 1)]⟩),
  (20, ⟨(TypeDesc.interface #[]), .nilIface, 1, 16, []⟩),
  (21, ⟨(TypeDesc.int IntKind.i32), .int .i32 0, 1, 4, []⟩),
  (22, ⟨(TypeDesc.func #[9, 9, 3, 3, 9, 9] #[4] false), .nilFunc, 1, 8, []⟩),
  (23, ⟨(TypeDesc.slice 9), .slice none 0 0, 1, 24, []⟩),
  (24, ⟨(TypeDesc.int IntKind.i64), .int .i64 0, 1, 8, []⟩),
  (26, ⟨(TypeDesc.func #[27, 9] #[23, 24] false), .nilFunc, 1, 8, []⟩),
  (27, ⟨(TypeDesc.slice 33), .slice none 0 0, 1, 24, []⟩),
  (28, ⟨(TypeDesc.func #[] #[27] false), .nilFunc, 1, 8, []⟩),
  (29, ⟨(TypeDesc.func #[27] #[24] false), .nilFunc, 1, 8, []⟩),
  (30, ⟨(TypeDesc.slice 41), .slice none 0 0, 1, 24, []⟩),
  (31, ⟨(TypeDesc.slice 279), .slice none 0 0, 1, 24, []⟩),
  (32, ⟨(TypeDesc.struct #[{ name := "Method", type := 9, offset := 0, embedded := false, tag := "", pkgPath := "", byteOffset := 0 }, { name := "Pattern", type := 9, offset := 1, embedded := false, tag := "", pkgPath := "", byteOffset := 16 }, { name := "Status", type := 3, offset := 2, embedded := false, tag := "", pkgPath := "", byteOffset := 32 }, { name := "Fields", type := 30, offset := 3, embedded := false, tag := "", pkgPath := "", byteOffset := 40 }, { name := "Tag", type := 9, offset := 4, embedded := false, tag := "", pkgPath := "", byteOffset := 64 }, { name := "Press", type := 4, offset := 5, embedded := false, tag := "", pkgPath := "", byteOffset := 80 }, { name := "Pieces", type := 31, offset := 6, embedded := false, tag := "", pkgPath := "", byteOffset := 88 }]), .agg ⟨[str [], str [], .int .i64 0, .slice none 0 0, str [], .bool false, .slice none 0 0]⟩, 7, 112, [(0, 1), (1, 1), (2, 1), (3, 1), (4, 1), (5, 1), (6, 1)]⟩),
  (33, ⟨(TypeDesc.struct #[{ name := "Method", type := 9, offset := 0, embedded := false, tag := "", pkgPath := "", byteOffset := 0 }, { name := "Pattern", type := 9, offset := 1, embedded := false, tag := "", pkgPath := "", byteOffset := 16 }, { name := "Status", type := 3, offset := 2, embedded := false, tag := "", pkgPath := "", byteOffset := 32 }, { name := "Fields", type := 30, offset := 3, embedded := false, tag := "", pkgPath := "", byteOffset := 40 }, { name := "Tag", type := 9, offset := 4, embedded := false, tag := "", pkgPath := "", byteOffset := 64 }, { name := "Press", type := 4, offset := 5, embedded := false, tag := "", pkgPath := "", byteOffset := 80 }, { name := "Pieces", type := 31, offset := 6, embedded := false, tag := "", pkgPath := "", byteOffset := 88 }]), .agg ⟨[str [], str [], .int .i64 0, .slice none 0 0, str [], .bool false, .slice none 0 0]⟩, 7, 112, [(0, 1), (1, 1), (2, 1), (3, 1), (4, 1), (5, 1), (6, 1)]⟩),
  (35, ⟨(TypeDesc.func #[27, 9, 9] #[3, 30, 3, 24] false), .nilFunc, 1, 8, []⟩),
  (36, ⟨(TypeDesc.func #[] #[4] false), .nilFunc, 1, 8, []⟩),
  (37, ⟨(TypeDesc.func #[23, 23] #[4] false), .nilFunc, 1, 8, []⟩),
  (38, ⟨(TypeDesc.func #[27] #[4] false), .nilFunc, 1, 8, []⟩),
  (39, ⟨(TypeDesc.func #[9] #[23, 24] false), .nilFunc, 1, 8, []⟩),
  (40, ⟨(TypeDesc.struct #[{ name := "Name", type := 9, offset := 0, embedded := false, tag := "", pkgPath := "", byteOffset := 0 }, { name := "Value", type := 9, offset := 1, embedded := false, tag := "", pkgPath := "", byteOffset := 16 }]), .agg ⟨[str [], str []]⟩, 2, 32, [(0, 1), (1, 1)]⟩),
  (41, ⟨(TypeDesc.struct #[{ name := "Name", type := 9, offset := 0, embedded := false, tag := "", pkgPath := "", byteOffset := 0 }, { name := "Value", type := 9, offset := 1, embedded := false, tag := "", pkgPath := "", byteOffset := 16 }]), .agg ⟨[str [], str []]⟩, 2, 32, [(0, 1), (1, 1)]⟩),
  (42, ⟨(TypeDesc.func #[9, 4] #[9] false), .nilFunc, 1, 8, []⟩),
  (43, ⟨(TypeDesc.func #[9] #[4] false), .nilFunc, 1, 8, []⟩),
  (44, ⟨(TypeDesc.func #[27, 9, 9] #[4] false), .nilFunc, 1, 8, []⟩),
  (45, ⟨(TypeDesc.slice 53), .slice none 0 0, 1, 24, []⟩),
  (46, ⟨(TypeDesc.struct #[{ name := "Status", type := 3, offset := 0, embedded := false, tag := "", pkgPath := "", byteOffset := 0 }, { name := "Fields", type := 30, offset := 1, embedded := false, tag := "", pkgPath := "", byteOffset := 8 }, { name := "Parts", type := 45, offset := 2, embedded := false, tag := "", pkgPath := "", byteOffset := 32 }, { name := "Coding", type := 5, offset := 3, embedded := false, tag := "", pkgPath := "", byteOffset := 56 }, { name := "Tag", type := 9, offset := 4, embedded := false, tag := "", pkgPath := "", byteOffset := 64 }, { name := "Press", type := 4, offset := 5, embedded := false, tag := "", pkgPath := "", byteOffset := 80 }]), .agg ⟨[.int .i64 0, .slice none 0 0, .slice none 0 0, .int .u8 0, str [], .bool false]⟩, 6, 88, [(0, 1), (1, 1), (2, 1), (3, 1), (4, 1), (5, 1)]⟩),
  (47, ⟨(TypeDesc.struct #[{ name := "Status", type := 3, offset := 0, embedded := false, tag := "", pkgPath := "", byteOffset := 0 }, { name := "Fields", type := 30, offset := 1, embedded := false, tag := "", pkgPath := "", byteOffset := 8 }, { name := "Parts", type := 45, offset := 2, embedded := false, tag := "", pkgPath := "", byteOffset := 32 }, { name := "Coding", type := 5, offset := 3, embedded := false, tag := "", pkgPath := "", byteOffset := 56 }, { name := "Tag", type := 9, offset := 4, embedded := false, tag := "", pkgPath := "", byteOffset := 64 }, { name := "Press", type := 4, offset := 5, embedded := false, tag := "", pkgPath := "", byteOffset := 80 }]), .agg ⟨[.int .i64 0, .slice none 0 0, .slice none 0 0, .int .u8 0, str [], .bool false]⟩, 6, 88, [(0, 1), (1, 1), (2, 1), (3, 1), (4, 1), (5, 1)]⟩),
  (48, ⟨(TypeDesc.func #[47] #[4] false), .nilFunc, 1, 8, []⟩),
  (50, ⟨(TypeDesc.func #[47, 3, 4, 4] #[45, 4, 24] false), .nilFunc, 1, 8, []⟩),
  (51, ⟨(TypeDesc.slice 5), .slice none 0 0, 1, 24, []⟩),
  (52, ⟨(TypeDesc.struct #[{ name := "Bytes", type := 51, offset := 0, embedded := false, tag := "", pkgPath := "", byteOffset := 0 }, { name := "Flush", type := 4, offset := 1, embedded := false, tag := "", pkgPath := "", byteOffset := 24 }]), .agg ⟨[.slice none 0 0, .bool false]⟩, 2, 32, [(0, 1), (1, 1)]⟩),
  (53, ⟨(TypeDesc.struct #[{ name := "Bytes", type := 51, offset := 0, embedded := false, tag := "", pkgPath := "", byteOffset := 0 }, { name := "Flush", type := 4, offset := 1, embedded := false, tag := "", pkgPath := "", byteOffset := 24 }]), .agg ⟨[.slice none 0 0, .bool false]⟩, 2, 32, [(0, 1), (1, 1)]⟩),
  (54, ⟨(TypeDesc.func #[45] #[51] false), .nilFunc, 1, 8, []⟩),
  (55, ⟨(TypeDesc.struct #[{ name := "Phase", type := 5, offset := 0, embedded := false, tag := "", pkgPath := "", byteOffset := 0 }, { name := "Left", type := 3, offset := 1, embedded := false, tag := "", pkgPath := "", byteOffset := 8 }, { name := "Line", type := 51, offset := 2, embedded := false, tag := "", pkgPath := "", byteOffset := 16 }, { name := "Trail", type := 3, offset := 3, embedded := false, tag := "", pkgPath := "", byteOffset := 40 }]), .agg ⟨[.int .u8 0, .int .i64 0, .slice none 0 0, .int .i64 0]⟩, 4, 48, [(0, 1), (1, 1), (2, 1), (3, 1)]⟩),
  (56, ⟨(TypeDesc.struct #[{ name := "Phase", type := 5, offset := 0, embedded := false, tag := "", pkgPath := "", byteOffset := 0 }, { name := "Left", type := 3, offset := 1, embedded := false, tag := "", pkgPath := "", byteOffset := 8 }, { name := "Line", type := 51, offset := 2, embedded := false, tag := "", pkgPath := "", byteOffset := 16 }, { name := "Trail", type := 3, offset := 3, embedded := false, tag := "", pkgPath := "", byteOffset := 40 }]), .agg ⟨[.int .u8 0, .int .i64 0, .slice none 0 0, .int .i64 0]⟩, 4, 48, [(0, 1), (1, 1), (2, 1), (3, 1)]⟩),
  (58, ⟨(TypeDesc.func #[56, 51] #[56, 51, 3, 24] false), .nilFunc, 1, 8, []⟩),
  (59, ⟨(TypeDesc.func #[47, 4, 3] #[4] false), .nilFunc, 1, 8, []⟩),
  (61, ⟨(TypeDesc.func #[3] #[47, 24] false), .nilFunc, 1, 8, []⟩),
  (62, ⟨(TypeDesc.func #[] #[47] false), .nilFunc, 1, 8, []⟩),
  (63, ⟨(TypeDesc.struct #[{ name := "Status", type := 3, offset := 0, embedded := false, tag := "", pkgPath := "", byteOffset := 0 }, { name := "Fields", type := 30, offset := 1, embedded := false, tag := "", pkgPath := "", byteOffset := 8 }, { name := "Body", type := 51, offset := 2, embedded := false, tag := "", pkgPath := "", byteOffset := 32 }, { name := "Close", type := 4, offset := 3, embedded := false, tag := "", pkgPath := "", byteOffset := 56 }]), .agg ⟨[.int .i64 0, .slice none 0 0, .slice none 0 0, .bool false]⟩, 4, 64, [(0, 1), (1, 1), (2, 1), (3, 1)]⟩),
  (64, ⟨(TypeDesc.struct #[{ name := "Status", type := 3, offset := 0, embedded := false, tag := "", pkgPath := "", byteOffset := 0 }, { name := "Fields", type := 30, offset := 1, embedded := false, tag := "", pkgPath := "", byteOffset := 8 }, { name := "Body", type := 51, offset := 2, embedded := false, tag := "", pkgPath := "", byteOffset := 32 }, { name := "Close", type := 4, offset := 3, embedded := false, tag := "", pkgPath := "", byteOffset := 56 }]), .agg ⟨[.int .i64 0, .slice none 0 0, .slice none 0 0, .bool false]⟩, 4, 64, [(0, 1), (1, 1), (2, 1), (3, 1)]⟩),
  (66, ⟨(TypeDesc.func #[51, 4, 4] #[64, 3, 24] false), .nilFunc, 1, 8, []⟩),
  (67, ⟨(TypeDesc.func #[47, 3] #[9] false), .nilFunc, 1, 8, []⟩),
  (68, ⟨(TypeDesc.func #[9, 4, 24] #[4] false), .nilFunc, 1, 8, []⟩),
  (69, ⟨(TypeDesc.func #[30, 30] #[4] false), .nilFunc, 1, 8, []⟩),
  (70, ⟨(TypeDesc.pointer 78), .pointer none, 1, 8, []⟩),
  (72, ⟨(TypeDesc.func #[27] #[70, 24] false), .nilFunc, 1, 8, []⟩),
  (73, ⟨(TypeDesc.slice 3), .slice none 0 0, 1, 24, []⟩),
  (74, ⟨(TypeDesc.func #[23, 79] #[4] false), .nilFunc, 1, 8, []⟩),
  (75, ⟨(TypeDesc.map 9 3), .map none, 1, 8, []⟩),
  (76, ⟨(TypeDesc.map 118 70), .map none, 1, 8, []⟩),
  (77, ⟨(TypeDesc.struct #[{ name := "pages", type := 75, offset := 0, embedded := false, tag := "", pkgPath := "bellows/route", byteOffset := 0 }, { name := "next", type := 76, offset := 1, embedded := false, tag := "", pkgPath := "bellows/route", byteOffset := 8 }]), .agg ⟨[.map none, .map none]⟩, 2, 16, [(0, 1), (1, 1)]⟩),
  (78, ⟨(TypeDesc.struct #[{ name := "pages", type := 75, offset := 0, embedded := false, tag := "", pkgPath := "bellows/route", byteOffset := 0 }, { name := "next", type := 76, offset := 1, embedded := false, tag := "", pkgPath := "bellows/route", byteOffset := 8 }]), .agg ⟨[.map none, .map none]⟩, 2, 16, [(0, 1), (1, 1)]⟩),
  (79, ⟨(TypeDesc.func #[70] #[4] false), .nilFunc, 1, 8, []⟩),
  (80, ⟨(TypeDesc.func #[73] #[] false), .nilFunc, 1, 8, []⟩),
  (81, ⟨(TypeDesc.func #[23, 9] #[4] false), .nilFunc, 1, 8, []⟩),
  (83, ⟨(TypeDesc.slice 118), .slice none 0 0, 1, 24, []⟩),
  (85, ⟨(TypeDesc.func #[9] #[83, 4] false), .nilFunc, 1, 8, []⟩),
  (86, ⟨(TypeDesc.func #[83, 23] #[30] false), .nilFunc, 1, 8, []⟩),
  (87, ⟨(TypeDesc.func #[43] #[] false), .nilFunc, 1, 8, []⟩),
  (88, ⟨(TypeDesc.func #[43] #[] false), .nilFunc, 1, 8, []⟩),
  (89, ⟨(TypeDesc.func #[9, 9] #[88] false), .nilFunc, 1, 8, []⟩),
  (90, ⟨(TypeDesc.func #[9] #[9] false), .nilFunc, 1, 8, []⟩),
  (91, ⟨(TypeDesc.func #[30] #[4] false), .nilFunc, 1, 8, []⟩),
  (92, ⟨(TypeDesc.func #[47] #[24] false), .nilFunc, 1, 8, []⟩),
  (93, ⟨(TypeDesc.pointer 95), .pointer none, 1, 8, []⟩),
  (94, ⟨(TypeDesc.struct #[{ name := "open", type := 51, offset := 0, embedded := false, tag := "", pkgPath := "bellows/reply", byteOffset := 0 }, { name := "all", type := 45, offset := 1, embedded := false, tag := "", pkgPath := "bellows/reply", byteOffset := 24 }]), .agg ⟨[.slice none 0 0, .slice none 0 0]⟩, 2, 48, [(0, 1), (1, 1)]⟩),
  (95, ⟨(TypeDesc.struct #[{ name := "open", type := 51, offset := 0, embedded := false, tag := "", pkgPath := "bellows/reply", byteOffset := 0 }, { name := "all", type := 45, offset := 1, embedded := false, tag := "", pkgPath := "bellows/reply", byteOffset := 24 }]), .agg ⟨[.slice none 0 0, .slice none 0 0]⟩, 2, 48, [(0, 1), (1, 1)]⟩),
  (96, ⟨(TypeDesc.func #[3] #[4] false), .nilFunc, 1, 8, []⟩),
  (97, ⟨(TypeDesc.func #[47, 4, 4] #[] false), .nilFunc, 1, 8, []⟩),
  (98, ⟨(TypeDesc.func #[51] #[51] false), .nilFunc, 1, 8, []⟩),
  (99, ⟨(TypeDesc.func #[23] #[] true), .nilFunc, 1, 8, []⟩),
  (100, ⟨(TypeDesc.func #[4] #[] false), .nilFunc, 1, 8, []⟩),
  (101, ⟨(TypeDesc.func #[] #[51] false), .nilFunc, 1, 8, []⟩),
  (102, ⟨(TypeDesc.func #[56] #[24] false), .nilFunc, 1, 8, []⟩),
  (103, ⟨(TypeDesc.pointer 105), .pointer none, 1, 8, []⟩),
  (104, ⟨(TypeDesc.struct #[{ name := "Chunks", type := 56, offset := 0, embedded := true, tag := "", pkgPath := "", byteOffset := 0 }, { name := "data", type := 51, offset := 4, embedded := false, tag := "", pkgPath := "bellows/chunk", byteOffset := 48 }]), .agg ⟨[.int .u8 0, .int .i64 0, .slice none 0 0, .int .i64 0, .slice none 0 0]⟩, 5, 72, [(0, 4), (4, 1)]⟩),
  (105, ⟨(TypeDesc.struct #[{ name := "Chunks", type := 56, offset := 0, embedded := true, tag := "", pkgPath := "", byteOffset := 0 }, { name := "data", type := 51, offset := 4, embedded := false, tag := "", pkgPath := "bellows/chunk", byteOffset := 48 }]), .agg ⟨[.int .u8 0, .int .i64 0, .slice none 0 0, .int .i64 0, .slice none 0 0]⟩, 5, 72, [(0, 4), (4, 1)]⟩),
  (106, ⟨(TypeDesc.func #[103, 5] #[24] false), .nilFunc, 1, 8, []⟩),
  (107, ⟨(TypeDesc.func #[5] #[24] false), .nilFunc, 1, 8, []⟩),
  (108, ⟨(TypeDesc.array 4 106), .agg ⟨[.nilFunc, .nilFunc, .nilFunc, .nilFunc]⟩, 4, 32, []⟩),
  (109, ⟨(TypeDesc.func #[3] #[9] false), .nilFunc, 1, 8, []⟩),
  (110, ⟨(TypeDesc.pointer 112), .pointer none, 1, 8, []⟩),
  (111, ⟨(TypeDesc.struct #[{ name := "Reply", type := 64, offset := 0, embedded := true, tag := "", pkgPath := "", byteOffset := 0 }, { name := "b", type := 51, offset := 4, embedded := false, tag := "", pkgPath := "bellows/reply", byteOffset := 64 }, { name := "used", type := 3, offset := 5, embedded := false, tag := "", pkgPath := "bellows/reply", byteOffset := 88 }, { name := "e", type := 24, offset := 6, embedded := false, tag := "", pkgPath := "bellows/reply", byteOffset := 96 }]), .agg ⟨[.int .i64 0, .slice none 0 0, .slice none 0 0, .bool false, .slice none 0 0, .int .i64 0, .int .i64 0]⟩, 7, 104, [(0, 4), (4, 1), (5, 1), (6, 1)]⟩),
  (112, ⟨(TypeDesc.struct #[{ name := "Reply", type := 64, offset := 0, embedded := true, tag := "", pkgPath := "", byteOffset := 0 }, { name := "b", type := 51, offset := 4, embedded := false, tag := "", pkgPath := "bellows/reply", byteOffset := 64 }, { name := "used", type := 3, offset := 5, embedded := false, tag := "", pkgPath := "bellows/reply", byteOffset := 88 }, { name := "e", type := 24, offset := 6, embedded := false, tag := "", pkgPath := "bellows/reply", byteOffset := 96 }]), .agg ⟨[.int .i64 0, .slice none 0 0, .slice none 0 0, .bool false, .slice none 0 0, .int .i64 0, .int .i64 0]⟩, 7, 104, [(0, 4), (4, 1), (5, 1), (6, 1)]⟩),
  (113, ⟨(TypeDesc.func #[4, 4] #[] false), .nilFunc, 1, 8, []⟩),
  (114, ⟨(TypeDesc.slice 83), .slice none 0 0, 1, 24, []⟩),
  (115, ⟨(TypeDesc.func #[] #[70] false), .nilFunc, 1, 8, []⟩),
  (116, ⟨(TypeDesc.func #[3, 9, 83] #[4] false), .nilFunc, 1, 8, []⟩),
  (117, ⟨(TypeDesc.struct #[{ name := "kind", type := 3, offset := 0, embedded := false, tag := "", pkgPath := "bellows/route", byteOffset := 0 }, { name := "text", type := 9, offset := 1, embedded := false, tag := "", pkgPath := "bellows/route", byteOffset := 8 }]), .agg ⟨[.int .i64 0, str []]⟩, 2, 24, [(0, 1), (1, 1)]⟩),
  (118, ⟨(TypeDesc.struct #[{ name := "kind", type := 3, offset := 0, embedded := false, tag := "", pkgPath := "bellows/route", byteOffset := 0 }, { name := "text", type := 9, offset := 1, embedded := false, tag := "", pkgPath := "bellows/route", byteOffset := 8 }]), .agg ⟨[.int .i64 0, str []]⟩, 2, 24, [(0, 1), (1, 1)]⟩),
  (119, ⟨(TypeDesc.func #[73, 3, 3, 3] #[] false), .nilFunc, 1, 8, []⟩),
  (120, ⟨(TypeDesc.func #[121] #[3] false), .nilFunc, 1, 8, []⟩),
  (121, ⟨(TypeDesc.int IntKind.u64), .int .u64 0, 1, 8, []⟩),
  (122, ⟨(TypeDesc.func #[23, 9] #[3] false), .nilFunc, 1, 8, []⟩),
  (123, ⟨(TypeDesc.func #[9, 9] #[23] false), .nilFunc, 1, 8, []⟩),
  (124, ⟨(TypeDesc.func #[9, 9] #[4] false), .nilFunc, 1, 8, []⟩),
  (125, ⟨(TypeDesc.func #[23, 9] #[9] false), .nilFunc, 1, 8, []⟩),
  (126, ⟨(TypeDesc.func #[9, 9, 3] #[88] false), .nilFunc, 1, 8, []⟩),
  (128, ⟨(TypeDesc.func #[9] #[5, 4] false), .nilFunc, 1, 8, []⟩),
  (129, ⟨(TypeDesc.func #[5, 9] #[4] false), .nilFunc, 1, 8, []⟩),
  (130, ⟨(TypeDesc.func #[41] #[24] false), .nilFunc, 1, 8, []⟩),
  (131, ⟨(TypeDesc.func #[] #[23] false), .nilFunc, 1, 8, []⟩),
  (132, ⟨(TypeDesc.func #[9, 9] #[] false), .nilFunc, 1, 8, []⟩),
  (134, ⟨(TypeDesc.func #[5] #[9, 24] false), .nilFunc, 1, 8, []⟩),
  (135, ⟨(TypeDesc.func #[185] #[] false), .nilFunc, 1, 8, []⟩),
  (136, ⟨(TypeDesc.func #[185] #[] false), .nilFunc, 1, 8, []⟩),
  (137, ⟨(TypeDesc.func #[51, 3] #[136] false), .nilFunc, 1, 8, []⟩),
  (139, ⟨(TypeDesc.func #[51] #[51, 24] false), .nilFunc, 1, 8, []⟩),
  (141, ⟨(TypeDesc.func #[51, 51] #[51, 4] false), .nilFunc, 1, 8, []⟩),
  (142, ⟨(TypeDesc.func #[51, 9] #[4] false), .nilFunc, 1, 8, []⟩),
  (143, ⟨(TypeDesc.func #[51, 51] #[4] false), .nilFunc, 1, 8, []⟩),
  (145, ⟨(TypeDesc.func #[5] #[9, 4, 24] false), .nilFunc, 1, 8, []⟩),
  (147, ⟨(TypeDesc.func #[9] #[3, 24] false), .nilFunc, 1, 8, []⟩),
  (149, ⟨(TypeDesc.func #[9] #[41, 24] false), .nilFunc, 1, 8, []⟩),
  (150, ⟨(TypeDesc.func #[] #[9] false), .nilFunc, 1, 8, []⟩),
  (152, ⟨(TypeDesc.func #[9, 9] #[9, 4] false), .nilFunc, 1, 8, []⟩),
  (153, ⟨(TypeDesc.func #[24] #[] false), .nilFunc, 1, 8, []⟩),
  (154, ⟨(TypeDesc.func #[9] #[3, 4] false), .nilFunc, 1, 8, []⟩),
  (156, ⟨(TypeDesc.func #[9] #[23, 4] false), .nilFunc, 1, 8, []⟩),
  (157, ⟨(TypeDesc.func #[3] #[] false), .nilFunc, 1, 8, []⟩),
  (158, ⟨(TypeDesc.func #[73, 3, 3] #[] false), .nilFunc, 1, 8, []⟩),
  (159, ⟨(TypeDesc.int IntKind.i64), .int .i64 0, 1, 8, []⟩),
  (161, ⟨(TypeDesc.func #[73, 3, 3] #[3, 159] false), .nilFunc, 1, 8, []⟩),
  (162, ⟨(TypeDesc.func #[73, 3, 3] #[4] false), .nilFunc, 1, 8, []⟩),
  (163, ⟨(TypeDesc.func #[3, 3] #[4] false), .nilFunc, 1, 8, []⟩),
  (164, ⟨(TypeDesc.func #[73, 3, 3, 3] #[3] false), .nilFunc, 1, 8, []⟩),
  (165, ⟨(TypeDesc.func #[73, 3, 3, 3] #[3, 4] false), .nilFunc, 1, 8, []⟩),
  (166, ⟨(TypeDesc.func #[167] #[3] false), .nilFunc, 1, 8, []⟩),
  (167, ⟨(TypeDesc.int IntKind.u32), .int .u32 0, 1, 4, []⟩),
  (168, ⟨(TypeDesc.func #[169] #[3] false), .nilFunc, 1, 8, []⟩),
  (169, ⟨(TypeDesc.int IntKind.u64), .int .u64 0, 1, 8, []⟩),
  (170, ⟨(TypeDesc.func #[9, 9, 3, 3] #[23] false), .nilFunc, 1, 8, []⟩),
  (171, ⟨(TypeDesc.func #[9, 9] #[9] false), .nilFunc, 1, 8, []⟩),
  (172, ⟨(TypeDesc.pointer 174), .pointer none, 1, 8, []⟩),
  (173, ⟨(TypeDesc.struct #[{ name := "addr", type := 172, offset := 0, embedded := false, tag := "", pkgPath := "strings", byteOffset := 0 }, { name := "buf", type := 51, offset := 1, embedded := false, tag := "", pkgPath := "strings", byteOffset := 8 }]), .agg ⟨[.pointer none, .slice none 0 0]⟩, 2, 32, [(0, 1), (1, 1)]⟩),
  (174, ⟨(TypeDesc.struct #[{ name := "addr", type := 172, offset := 0, embedded := false, tag := "", pkgPath := "strings", byteOffset := 0 }, { name := "buf", type := 51, offset := 1, embedded := false, tag := "", pkgPath := "strings", byteOffset := 8 }]), .agg ⟨[.pointer none, .slice none 0 0]⟩, 2, 32, [(0, 1), (1, 1)]⟩),
  (175, ⟨(TypeDesc.interface #[("Error", 150)]), .nilIface, 1, 16, []⟩),
  (176, ⟨(TypeDesc.interface #[("Error", 150)]), .nilIface, 1, 16, []⟩),
  (178, ⟨(TypeDesc.func #[9] #[3, 176] false), .nilFunc, 1, 8, []⟩),
  (180, ⟨(TypeDesc.func #[9] #[21, 3] false), .nilFunc, 1, 8, []⟩),
  (181, ⟨(TypeDesc.func #[9, 9] #[3] false), .nilFunc, 1, 8, []⟩),
  (183, ⟨(TypeDesc.func #[9, 3, 3] #[169, 176] false), .nilFunc, 1, 8, []⟩),
  (184, ⟨(TypeDesc.func #[9, 5] #[3] false), .nilFunc, 1, 8, []⟩),
  (185, ⟨(TypeDesc.func #[51] #[4] false), .nilFunc, 1, 8, []⟩),
  (186, ⟨(TypeDesc.func #[2, 3] #[9] false), .nilFunc, 1, 8, []⟩),
  (187, ⟨(TypeDesc.func #[214] #[51] true), .nilFunc, 1, 8, []⟩),
  (188, ⟨(TypeDesc.func #[51, 9] #[3] false), .nilFunc, 1, 8, []⟩),
  (190, ⟨(TypeDesc.func #[9, 9] #[9, 9, 4] false), .nilFunc, 1, 8, []⟩),
  (192, ⟨(TypeDesc.func #[51, 51] #[51, 51, 4] false), .nilFunc, 1, 8, []⟩),
  (193, ⟨TypeDesc.string, str [], 1, 16, []⟩),
  (194, ⟨(TypeDesc.func #[195] #[4] false), .nilFunc, 1, 8, []⟩),
  (195, ⟨(TypeDesc.func #[5] #[4] false), .nilFunc, 1, 8, []⟩),
  (196, ⟨(TypeDesc.func #[30, 9] #[23] false), .nilFunc, 1, 8, []⟩),
  (197, ⟨(TypeDesc.func #[9] #[23] false), .nilFunc, 1, 8, []⟩),
  (198, ⟨(TypeDesc.int IntKind.u64), .int .u64 0, 1, 8, []⟩),
  (199, ⟨(TypeDesc.func #[3] #[121] false), .nilFunc, 1, 8, []⟩),
  (200, ⟨(TypeDesc.func #[] #[169] false), .nilFunc, 1, 8, []⟩),
  (201, ⟨(TypeDesc.func #[73, 3, 202] #[3] false), .nilFunc, 1, 8, []⟩),
  (202, ⟨(TypeDesc.pointer 3), .pointer none, 1, 8, []⟩),
  (203, ⟨(TypeDesc.func #[73, 3, 3, 3, 202] #[3] false), .nilFunc, 1, 8, []⟩),
  (204, ⟨(TypeDesc.func #[9, 3] #[23] false), .nilFunc, 1, 8, []⟩),
  (205, ⟨(TypeDesc.func #[9, 5] #[9] false), .nilFunc, 1, 8, []⟩),
  (206, ⟨(TypeDesc.array 256 4), .agg ⟨List.replicate 256 (.bool false)⟩, 256, 256, []⟩),
  (207, ⟨(TypeDesc.array 256 4), .agg ⟨List.replicate 256 (.bool false)⟩, 256, 256, []⟩),
  (209, ⟨(TypeDesc.func #[9] #[207, 4] false), .nilFunc, 1, 8, []⟩),
  (210, ⟨(TypeDesc.func #[9, 211] #[9] false), .nilFunc, 1, 8, []⟩),
  (211, ⟨(TypeDesc.pointer 207), .pointer none, 1, 8, []⟩),
  (212, ⟨(TypeDesc.pointer 5), .pointer none, 1, 8, []⟩),
  (213, ⟨(TypeDesc.func #[9, 9, 3, 3, 176] #[176] false), .nilFunc, 1, 8, []⟩),
  (214, ⟨(TypeDesc.slice 51), .slice none 0 0, 1, 24, []⟩),
  (215, ⟨(TypeDesc.func #[51, 3] #[51] false), .nilFunc, 1, 8, []⟩),
  (216, ⟨(TypeDesc.func #[51, 21] #[3] false), .nilFunc, 1, 8, []⟩),
  (217, ⟨(TypeDesc.array 256 4), .agg ⟨List.replicate 256 (.bool false)⟩, 256, 256, []⟩),
  (219, ⟨(TypeDesc.func #[9] #[217, 4] false), .nilFunc, 1, 8, []⟩),
  (220, ⟨(TypeDesc.func #[51] #[21, 3] false), .nilFunc, 1, 8, []⟩),
  (221, ⟨(TypeDesc.array 24 5), .agg ⟨[.int .u8 0, .int .u8 0, .int .u8 0, .int .u8 0, .int .u8 0, .int .u8 0, .int .u8 0, .int .u8 0, .int .u8 0, .int .u8 0, .int .u8 0, .int .u8 0, .int .u8 0, .int .u8 0, .int .u8 0, .int .u8 0, .int .u8 0, .int .u8 0, .int .u8 0, .int .u8 0, .int .u8 0, .int .u8 0, .int .u8 0, .int .u8 0]⟩, 24, 24, []⟩),
  (222, ⟨(TypeDesc.func #[51, 169] #[] false), .nilFunc, 1, 8, []⟩),
  (224, ⟨(TypeDesc.func #[51, 169, 3, 4, 4] #[51, 9] false), .nilFunc, 1, 8, []⟩),
  (225, ⟨(TypeDesc.func #[51, 51] #[3] false), .nilFunc, 1, 8, []⟩),
  (226, ⟨(TypeDesc.pointer 198), .pointer none, 1, 8, []⟩),
  (228, ⟨(TypeDesc.func #[73, 3, 3, 202] #[3, 3] false), .nilFunc, 1, 8, []⟩),
  (229, ⟨(TypeDesc.func #[9] #[3] false), .nilFunc, 1, 8, []⟩),
  (230, ⟨(TypeDesc.func #[9, 21] #[4] false), .nilFunc, 1, 8, []⟩),
  (231, ⟨TypeDesc.unsafePointer, .pointer none, 1, 8, []⟩),
  (232, ⟨(TypeDesc.func #[231] #[231] false), .nilFunc, 1, 8, []⟩),
  (233, ⟨(TypeDesc.func #[3] #[51] false), .nilFunc, 1, 8, []⟩),
  (234, ⟨(TypeDesc.array 256 5), .agg ⟨List.replicate 256 (.int .u8 0)⟩, 256, 256, []⟩),
  (235, ⟨(TypeDesc.struct #[{ name := "lo", type := 5, offset := 0, embedded := false, tag := "", pkgPath := "unicode/utf8", byteOffset := 0 }, { name := "hi", type := 5, offset := 1, embedded := false, tag := "", pkgPath := "unicode/utf8", byteOffset := 1 }]), .agg ⟨[.int .u8 0, .int .u8 0]⟩, 2, 2, [(0, 1), (1, 1)]⟩),
  (236, ⟨(TypeDesc.struct #[{ name := "lo", type := 5, offset := 0, embedded := false, tag := "", pkgPath := "unicode/utf8", byteOffset := 0 }, { name := "hi", type := 5, offset := 1, embedded := false, tag := "", pkgPath := "unicode/utf8", byteOffset := 1 }]), .agg ⟨[.int .u8 0, .int .u8 0]⟩, 2, 2, [(0, 1), (1, 1)]⟩),
  (237, ⟨(TypeDesc.array 16 236), .agg ⟨[.int .u8 0, .int .u8 0, .int .u8 0, .int .u8 0, .int .u8 0, .int .u8 0, .int .u8 0, .int .u8 0, .int .u8 0, .int .u8 0, .int .u8 0, .int .u8 0, .int .u8 0, .int .u8 0, .int .u8 0, .int .u8 0, .int .u8 0, .int .u8 0, .int .u8 0, .int .u8 0, .int .u8 0, .int .u8 0, .int .u8 0, .int .u8 0, .int .u8 0, .int .u8 0, .int .u8 0, .int .u8 0, .int .u8 0, .int .u8 0, .int .u8 0, .int .u8 0]⟩, 32, 32, []⟩),
  (238, ⟨(TypeDesc.func #[3] #[3] false), .nilFunc, 1, 8, []⟩),
  (239, ⟨(TypeDesc.int IntKind.i64), .int .i64 0, 1, 8, []⟩),
  (240, ⟨(TypeDesc.func #[5] #[5] false), .nilFunc, 1, 8, []⟩),
  (241, ⟨(TypeDesc.pointer 257), .pointer none, 1, 8, []⟩),
  (242, ⟨(TypeDesc.func #[9, 9] #[241] false), .nilFunc, 1, 8, []⟩),
  (243, ⟨(TypeDesc.func #[9, 9, 3] #[241] false), .nilFunc, 1, 8, []⟩),
  (244, ⟨(TypeDesc.func #[51, 5] #[3] false), .nilFunc, 1, 8, []⟩),
  (245, ⟨(TypeDesc.func #[21] #[4] false), .nilFunc, 1, 8, []⟩),
  (246, ⟨(TypeDesc.array 4 5), .agg ⟨[.int .u8 0, .int .u8 0, .int .u8 0, .int .u8 0]⟩, 4, 4, []⟩),
  (247, ⟨(TypeDesc.pointer 217), .pointer none, 1, 8, []⟩),
  (248, ⟨(TypeDesc.func #[9, 21] #[3] false), .nilFunc, 1, 8, []⟩),
  (249, ⟨(TypeDesc.func #[4] #[3] false), .nilFunc, 1, 8, []⟩),
  (250, ⟨(TypeDesc.array 20 169), .agg ⟨[.int .u64 0, .int .u64 0, .int .u64 0, .int .u64 0, .int .u64 0, .int .u64 0, .int .u64 0, .int .u64 0, .int .u64 0, .int .u64 0, .int .u64 0, .int .u64 0, .int .u64 0, .int .u64 0, .int .u64 0, .int .u64 0, .int .u64 0, .int .u64 0, .int .u64 0, .int .u64 0]⟩, 20, 160, []⟩),
  (251, ⟨(TypeDesc.array 65 5), .agg ⟨List.replicate 65 (.int .u8 0)⟩, 65, 65, []⟩),
  (253, ⟨(TypeDesc.func #[9, 3, 3] #[2, 176] false), .nilFunc, 1, 8, []⟩),
  (255, ⟨(TypeDesc.func #[9] #[167, 167] false), .nilFunc, 1, 8, []⟩),
  (256, ⟨(TypeDesc.struct #[{ name := "Func", type := 9, offset := 0, embedded := false, tag := "", pkgPath := "", byteOffset := 0 }, { name := "Num", type := 9, offset := 1, embedded := false, tag := "", pkgPath := "", byteOffset := 16 }, { name := "Err", type := 176, offset := 2, embedded := false, tag := "", pkgPath := "", byteOffset := 32 }]), .agg ⟨[str [], str [], .nilIface]⟩, 3, 48, [(0, 1), (1, 1), (2, 1)]⟩),
  (257, ⟨(TypeDesc.struct #[{ name := "Func", type := 9, offset := 0, embedded := false, tag := "", pkgPath := "", byteOffset := 0 }, { name := "Num", type := 9, offset := 1, embedded := false, tag := "", pkgPath := "", byteOffset := 16 }, { name := "Err", type := 176, offset := 2, embedded := false, tag := "", pkgPath := "", byteOffset := 32 }]), .agg ⟨[str [], str [], .nilIface]⟩, 3, 48, [(0, 1), (1, 1), (2, 1)]⟩),
  (258, ⟨(TypeDesc.func #[9] #[176] false), .nilFunc, 1, 8, []⟩),
  (259, ⟨(TypeDesc.func #[51] #[167, 167] false), .nilFunc, 1, 8, []⟩),
  (260, ⟨(TypeDesc.pointer 262), .pointer none, 1, 8, []⟩),
  (261, ⟨(TypeDesc.struct #[{ name := "s", type := 9, offset := 0, embedded := false, tag := "", pkgPath := "errors", byteOffset := 0 }]), .agg ⟨[str []]⟩, 1, 16, [(0, 1)]⟩),
  (262, ⟨(TypeDesc.struct #[{ name := "s", type := 9, offset := 0, embedded := false, tag := "", pkgPath := "errors", byteOffset := 0 }]), .agg ⟨[str []]⟩, 1, 16, [(0, 1)]⟩),
  (263, ⟨(TypeDesc.array 32 5), .agg ⟨[.int .u8 0, .int .u8 0, .int .u8 0, .int .u8 0, .int .u8 0, .int .u8 0, .int .u8 0, .int .u8 0, .int .u8 0, .int .u8 0, .int .u8 0, .int .u8 0, .int .u8 0, .int .u8 0, .int .u8 0, .int .u8 0, .int .u8 0, .int .u8 0, .int .u8 0, .int .u8 0, .int .u8 0, .int .u8 0, .int .u8 0, .int .u8 0, .int .u8 0, .int .u8 0, .int .u8 0, .int .u8 0, .int .u8 0, .int .u8 0, .int .u8 0, .int .u8 0]⟩, 32, 32, []⟩),
  (264, ⟨(TypeDesc.array 64 5), .agg ⟨[.int .u8 0, .int .u8 0, .int .u8 0, .int .u8 0, .int .u8 0, .int .u8 0, .int .u8 0, .int .u8 0, .int .u8 0, .int .u8 0, .int .u8 0, .int .u8 0, .int .u8 0, .int .u8 0, .int .u8 0, .int .u8 0, .int .u8 0, .int .u8 0, .int .u8 0, .int .u8 0, .int .u8 0, .int .u8 0, .int .u8 0, .int .u8 0, .int .u8 0, .int .u8 0, .int .u8 0, .int .u8 0, .int .u8 0, .int .u8 0, .int .u8 0, .int .u8 0, .int .u8 0, .int .u8 0, .int .u8 0, .int .u8 0, .int .u8 0, .int .u8 0, .int .u8 0, .int .u8 0, .int .u8 0, .int .u8 0, .int .u8 0, .int .u8 0, .int .u8 0, .int .u8 0, .int .u8 0, .int .u8 0, .int .u8 0, .int .u8 0, .int .u8 0, .int .u8 0, .int .u8 0, .int .u8 0, .int .u8 0, .int .u8 0, .int .u8 0, .int .u8 0, .int .u8 0, .int .u8 0, .int .u8 0, .int .u8 0, .int .u8 0, .int .u8 0]⟩, 64, 64, []⟩),
  (265, ⟨(TypeDesc.struct #[{ name := "_interface", type := 17, offset := 0, embedded := false, tag := "", pkgPath := "runtime", byteOffset := 0 }, { name := "concrete", type := 17, offset := 1, embedded := false, tag := "", pkgPath := "runtime", byteOffset := 8 }, { name := "asserted", type := 17, offset := 2, embedded := false, tag := "", pkgPath := "runtime", byteOffset := 16 }, { name := "missingMethod", type := 9, offset := 3, embedded := false, tag := "", pkgPath := "runtime", byteOffset := 24 }]), .agg ⟨[.pointer none, .pointer none, .pointer none, str []]⟩, 4, 40, [(0, 1), (1, 1), (2, 1), (3, 1)]⟩),
  (266, ⟨(TypeDesc.struct #[{ name := "_interface", type := 17, offset := 0, embedded := false, tag := "", pkgPath := "runtime", byteOffset := 0 }, { name := "concrete", type := 17, offset := 1, embedded := false, tag := "", pkgPath := "runtime", byteOffset := 8 }, { name := "asserted", type := 17, offset := 2, embedded := false, tag := "", pkgPath := "runtime", byteOffset := 16 }, { name := "missingMethod", type := 9, offset := 3, embedded := false, tag := "", pkgPath := "runtime", byteOffset := 24 }]), .agg ⟨[.pointer none, .pointer none, .pointer none, str []]⟩, 4, 40, [(0, 1), (1, 1), (2, 1), (3, 1)]⟩),
  (267, ⟨(TypeDesc.array 0 16), .agg ⟨[]⟩, 0, 0, []⟩),
  (268, ⟨(TypeDesc.struct #[{ name := "_", type := 267, offset := 0, embedded := false, tag := "", pkgPath := "runtime", byteOffset := 0 }]), .agg ⟨[]⟩, 0, 0, [(0, 0)]⟩),
  (269, ⟨(TypeDesc.struct #[{ name := "_", type := 267, offset := 0, embedded := false, tag := "", pkgPath := "runtime", byteOffset := 0 }]), .agg ⟨[]⟩, 0, 0, [(0, 0)]⟩),
  (270, ⟨(TypeDesc.func #[] #[3] false), .nilFunc, 1, 8, []⟩),
  (271, ⟨(TypeDesc.int IntKind.u8), .int .u8 0, 1, 1, []⟩),
  (272, ⟨(TypeDesc.int IntKind.u8), .int .u8 0, 1, 1, []⟩),
  (273, ⟨(TypeDesc.func #[231, 231] #[4] false), .nilFunc, 1, 8, []⟩),
  (274, ⟨(TypeDesc.int IntKind.i32), .int .i32 0, 1, 4, []⟩),
  (275, ⟨(TypeDesc.int IntKind.i32), .int .i32 0, 1, 4, []⟩),
  (276, ⟨(TypeDesc.struct #[{ name := "Size_", type := 12, offset := 0, embedded := false, tag := "", pkgPath := "", byteOffset := 0 }, { name := "PtrBytes", type := 12, offset := 1, embedded := false, tag := "", pkgPath := "", byteOffset := 8 }, { name := "Hash", type := 167, offset := 2, embedded := false, tag := "", pkgPath := "", byteOffset := 16 }, { name := "TFlag", type := 271, offset := 3, embedded := false, tag := "", pkgPath := "", byteOffset := 20 }, { name := "Align_", type := 5, offset := 4, embedded := false, tag := "", pkgPath := "", byteOffset := 21 }, { name := "FieldAlign_", type := 5, offset := 5, embedded := false, tag := "", pkgPath := "", byteOffset := 22 }, { name := "Kind_", type := 272, offset := 6, embedded := false, tag := "", pkgPath := "", byteOffset := 23 }, { name := "Equal", type := 273, offset := 7, embedded := false, tag := "", pkgPath := "", byteOffset := 24 }, { name := "GCData", type := 212, offset := 8, embedded := false, tag := "", pkgPath := "", byteOffset := 32 }, { name := "Str", type := 274, offset := 9, embedded := false, tag := "", pkgPath := "", byteOffset := 40 }, { name := "PtrToThis", type := 275, offset := 10, embedded := false, tag := "", pkgPath := "", byteOffset := 44 }]), .agg ⟨[.int .u64 0, .int .u64 0, .int .u32 0, .int .u8 0, .int .u8 0, .int .u8 0, .int .u8 0, .nilFunc, .pointer none, .int .i32 0, .int .i32 0]⟩, 11, 48, [(0, 1), (1, 1), (2, 1), (3, 1), (4, 1), (5, 1), (6, 1), (7, 1), (8, 1), (9, 1), (10, 1)]⟩),
  (277, ⟨(TypeDesc.struct #[{ name := "Size_", type := 12, offset := 0, embedded := false, tag := "", pkgPath := "", byteOffset := 0 }, { name := "PtrBytes", type := 12, offset := 1, embedded := false, tag := "", pkgPath := "", byteOffset := 8 }, { name := "Hash", type := 167, offset := 2, embedded := false, tag := "", pkgPath := "", byteOffset := 16 }, { name := "TFlag", type := 271, offset := 3, embedded := false, tag := "", pkgPath := "", byteOffset := 20 }, { name := "Align_", type := 5, offset := 4, embedded := false, tag := "", pkgPath := "", byteOffset := 21 }, { name := "FieldAlign_", type := 5, offset := 5, embedded := false, tag := "", pkgPath := "", byteOffset := 22 }, { name := "Kind_", type := 272, offset := 6, embedded := false, tag := "", pkgPath := "", byteOffset := 23 }, { name := "Equal", type := 273, offset := 7, embedded := false, tag := "", pkgPath := "", byteOffset := 24 }, { name := "GCData", type := 212, offset := 8, embedded := false, tag := "", pkgPath := "", byteOffset := 32 }, { name := "Str", type := 274, offset := 9, embedded := false, tag := "", pkgPath := "", byteOffset := 40 }, { name := "PtrToThis", type := 275, offset := 10, embedded := false, tag := "", pkgPath := "", byteOffset := 44 }]), .agg ⟨[.int .u64 0, .int .u64 0, .int .u32 0, .int .u8 0, .int .u8 0, .int .u8 0, .int .u8 0, .nilFunc, .pointer none, .int .i32 0, .int .i32 0]⟩, 11, 48, [(0, 1), (1, 1), (2, 1), (3, 1), (4, 1), (5, 1), (6, 1), (7, 1), (8, 1), (9, 1), (10, 1)]⟩),
  (278, ⟨(TypeDesc.struct #[{ name := "Kind", type := 5, offset := 0, embedded := false, tag := "", pkgPath := "", byteOffset := 0 }, { name := "Text", type := 9, offset := 1, embedded := false, tag := "", pkgPath := "", byteOffset := 8 }, { name := "Many", type := 3, offset := 2, embedded := false, tag := "", pkgPath := "", byteOffset := 24 }, { name := "Flush", type := 4, offset := 3, embedded := false, tag := "", pkgPath := "", byteOffset := 32 }]), .agg ⟨[.int .u8 0, str [], .int .i64 0, .bool false]⟩, 4, 40, [(0, 1), (1, 1), (2, 1), (3, 1)]⟩),
  (279, ⟨(TypeDesc.struct #[{ name := "Kind", type := 5, offset := 0, embedded := false, tag := "", pkgPath := "", byteOffset := 0 }, { name := "Text", type := 9, offset := 1, embedded := false, tag := "", pkgPath := "", byteOffset := 8 }, { name := "Many", type := 3, offset := 2, embedded := false, tag := "", pkgPath := "", byteOffset := 24 }, { name := "Flush", type := 4, offset := 3, embedded := false, tag := "", pkgPath := "", byteOffset := 32 }]), .agg ⟨[.int .u8 0, str [], .int .i64 0, .bool false]⟩, 4, 40, [(0, 1), (1, 1), (2, 1), (3, 1)]⟩)]
set_option maxRecDepth 100000 in
theorem tys_ok : TOk Tryz.prog tys :=
  TOk.cons ⟨Tryz.underlying1, by kernel_rfl, trivial⟩
  (TOk.cons ⟨Tryz.underlying2, by kernel_rfl, trivial⟩
  (TOk.cons ⟨Tryz.underlying3, by kernel_rfl, trivial⟩
  (TOk.cons ⟨Tryz.underlying4, by kernel_rfl, trivial⟩
  (TOk.cons ⟨Tryz.underlying5, by kernel_rfl, trivial⟩
  (TOk.cons ⟨Tryz.underlying6, by kernel_rfl, trivial⟩
  (TOk.cons ⟨Tryz.underlying7, by kernel_rfl, by show (_ : List (Nat × Option Nat)) = _; kernel_rfl⟩
  (TOk.cons ⟨Tryz.underlying8, by kernel_rfl, by show (_ : List (Nat × Option Nat)) = _; kernel_rfl⟩
  (TOk.cons ⟨Tryz.underlying9, by kernel_rfl, trivial⟩
  (TOk.cons ⟨Tryz.underlying10, by kernel_rfl, trivial⟩
  (TOk.cons ⟨Tryz.underlying11, by kernel_rfl, trivial⟩
  (TOk.cons ⟨Tryz.underlying12, by kernel_rfl, trivial⟩
  (TOk.cons ⟨Tryz.underlying13, by kernel_rfl, by show (_ : List (Nat × Option Nat)) = _; kernel_rfl⟩
  (TOk.cons ⟨Tryz.underlying14, by kernel_rfl, by show (_ : List (Nat × Option Nat)) = _; kernel_rfl⟩
  (TOk.cons ⟨Tryz.underlying15, by kernel_rfl, trivial⟩
  (TOk.cons ⟨Tryz.underlying16, by kernel_rfl, trivial⟩
  (TOk.cons ⟨Tryz.underlying17, by kernel_rfl, trivial⟩
  (TOk.cons ⟨Tryz.underlying18, by kernel_rfl, by show (_ : List (Nat × Option Nat)) = _; kernel_rfl⟩
  (TOk.cons ⟨Tryz.underlying19, by kernel_rfl, by show (_ : List (Nat × Option Nat)) = _; kernel_rfl⟩
  (TOk.cons ⟨Tryz.underlying20, by kernel_rfl, trivial⟩
  (TOk.cons ⟨Tryz.underlying21, by kernel_rfl, trivial⟩
  (TOk.cons ⟨Tryz.underlying22, by kernel_rfl, trivial⟩
  (TOk.cons ⟨Tryz.underlying23, by kernel_rfl, trivial⟩
  (TOk.cons ⟨Tryz.underlying24, by kernel_rfl, trivial⟩
  (TOk.cons ⟨Tryz.underlying26, by kernel_rfl, trivial⟩
  (TOk.cons ⟨Tryz.underlying27, by kernel_rfl, trivial⟩
  (TOk.cons ⟨Tryz.underlying28, by kernel_rfl, trivial⟩
  (TOk.cons ⟨Tryz.underlying29, by kernel_rfl, trivial⟩
  (TOk.cons ⟨Tryz.underlying30, by kernel_rfl, trivial⟩
  (TOk.cons ⟨Tryz.underlying31, by kernel_rfl, trivial⟩
  (TOk.cons ⟨Tryz.underlying32, by kernel_rfl, by show (_ : List (Nat × Option Nat)) = _; kernel_rfl⟩
  (TOk.cons ⟨Tryz.underlying33, by kernel_rfl, by show (_ : List (Nat × Option Nat)) = _; kernel_rfl⟩
  (TOk.cons ⟨Tryz.underlying35, by kernel_rfl, trivial⟩
  (TOk.cons ⟨Tryz.underlying36, by kernel_rfl, trivial⟩
  (TOk.cons ⟨Tryz.underlying37, by kernel_rfl, trivial⟩
  (TOk.cons ⟨Tryz.underlying38, by kernel_rfl, trivial⟩
  (TOk.cons ⟨Tryz.underlying39, by kernel_rfl, trivial⟩
  (TOk.cons ⟨Tryz.underlying40, by kernel_rfl, by show (_ : List (Nat × Option Nat)) = _; kernel_rfl⟩
  (TOk.cons ⟨Tryz.underlying41, by kernel_rfl, by show (_ : List (Nat × Option Nat)) = _; kernel_rfl⟩
  (TOk.cons ⟨Tryz.underlying42, by kernel_rfl, trivial⟩
  (TOk.cons ⟨Tryz.underlying43, by kernel_rfl, trivial⟩
  (TOk.cons ⟨Tryz.underlying44, by kernel_rfl, trivial⟩
  (TOk.cons ⟨Tryz.underlying45, by kernel_rfl, trivial⟩
  (TOk.cons ⟨Tryz.underlying46, by kernel_rfl, by show (_ : List (Nat × Option Nat)) = _; kernel_rfl⟩
  (TOk.cons ⟨Tryz.underlying47, by kernel_rfl, by show (_ : List (Nat × Option Nat)) = _; kernel_rfl⟩
  (TOk.cons ⟨Tryz.underlying48, by kernel_rfl, trivial⟩
  (TOk.cons ⟨Tryz.underlying50, by kernel_rfl, trivial⟩
  (TOk.cons ⟨Tryz.underlying51, by kernel_rfl, trivial⟩
  (TOk.cons ⟨Tryz.underlying52, by kernel_rfl, by show (_ : List (Nat × Option Nat)) = _; kernel_rfl⟩
  (TOk.cons ⟨Tryz.underlying53, by kernel_rfl, by show (_ : List (Nat × Option Nat)) = _; kernel_rfl⟩
  (TOk.cons ⟨Tryz.underlying54, by kernel_rfl, trivial⟩
  (TOk.cons ⟨Tryz.underlying55, by kernel_rfl, by show (_ : List (Nat × Option Nat)) = _; kernel_rfl⟩
  (TOk.cons ⟨Tryz.underlying56, by kernel_rfl, by show (_ : List (Nat × Option Nat)) = _; kernel_rfl⟩
  (TOk.cons ⟨Tryz.underlying58, by kernel_rfl, trivial⟩
  (TOk.cons ⟨Tryz.underlying59, by kernel_rfl, trivial⟩
  (TOk.cons ⟨Tryz.underlying61, by kernel_rfl, trivial⟩
  (TOk.cons ⟨Tryz.underlying62, by kernel_rfl, trivial⟩
  (TOk.cons ⟨Tryz.underlying63, by kernel_rfl, by show (_ : List (Nat × Option Nat)) = _; kernel_rfl⟩
  (TOk.cons ⟨Tryz.underlying64, by kernel_rfl, by show (_ : List (Nat × Option Nat)) = _; kernel_rfl⟩
  (TOk.cons ⟨Tryz.underlying66, by kernel_rfl, trivial⟩
  (TOk.cons ⟨Tryz.underlying67, by kernel_rfl, trivial⟩
  (TOk.cons ⟨Tryz.underlying68, by kernel_rfl, trivial⟩
  (TOk.cons ⟨Tryz.underlying69, by kernel_rfl, trivial⟩
  (TOk.cons ⟨Tryz.underlying70, by kernel_rfl, trivial⟩
  (TOk.cons ⟨Tryz.underlying72, by kernel_rfl, trivial⟩
  (TOk.cons ⟨Tryz.underlying73, by kernel_rfl, trivial⟩
  (TOk.cons ⟨Tryz.underlying74, by kernel_rfl, trivial⟩
  (TOk.cons ⟨Tryz.underlying75, by kernel_rfl, trivial⟩
  (TOk.cons ⟨Tryz.underlying76, by kernel_rfl, trivial⟩
  (TOk.cons ⟨Tryz.underlying77, by kernel_rfl, by show (_ : List (Nat × Option Nat)) = _; kernel_rfl⟩
  (TOk.cons ⟨Tryz.underlying78, by kernel_rfl, by show (_ : List (Nat × Option Nat)) = _; kernel_rfl⟩
  (TOk.cons ⟨Tryz.underlying79, by kernel_rfl, trivial⟩
  (TOk.cons ⟨Tryz.underlying80, by kernel_rfl, trivial⟩
  (TOk.cons ⟨Tryz.underlying81, by kernel_rfl, trivial⟩
  (TOk.cons ⟨Tryz.underlying83, by kernel_rfl, trivial⟩
  (TOk.cons ⟨Tryz.underlying85, by kernel_rfl, trivial⟩
  (TOk.cons ⟨Tryz.underlying86, by kernel_rfl, trivial⟩
  (TOk.cons ⟨Tryz.underlying87, by kernel_rfl, trivial⟩
  (TOk.cons ⟨Tryz.underlying88, by kernel_rfl, trivial⟩
  (TOk.cons ⟨Tryz.underlying89, by kernel_rfl, trivial⟩
  (TOk.cons ⟨Tryz.underlying90, by kernel_rfl, trivial⟩
  (TOk.cons ⟨Tryz.underlying91, by kernel_rfl, trivial⟩
  (TOk.cons ⟨Tryz.underlying92, by kernel_rfl, trivial⟩
  (TOk.cons ⟨Tryz.underlying93, by kernel_rfl, trivial⟩
  (TOk.cons ⟨Tryz.underlying94, by kernel_rfl, by show (_ : List (Nat × Option Nat)) = _; kernel_rfl⟩
  (TOk.cons ⟨Tryz.underlying95, by kernel_rfl, by show (_ : List (Nat × Option Nat)) = _; kernel_rfl⟩
  (TOk.cons ⟨Tryz.underlying96, by kernel_rfl, trivial⟩
  (TOk.cons ⟨Tryz.underlying97, by kernel_rfl, trivial⟩
  (TOk.cons ⟨Tryz.underlying98, by kernel_rfl, trivial⟩
  (TOk.cons ⟨Tryz.underlying99, by kernel_rfl, trivial⟩
  (TOk.cons ⟨Tryz.underlying100, by kernel_rfl, trivial⟩
  (TOk.cons ⟨Tryz.underlying101, by kernel_rfl, trivial⟩
  (TOk.cons ⟨Tryz.underlying102, by kernel_rfl, trivial⟩
  (TOk.cons ⟨Tryz.underlying103, by kernel_rfl, trivial⟩
  (TOk.cons ⟨Tryz.underlying104, by kernel_rfl, by show (_ : List (Nat × Option Nat)) = _; kernel_rfl⟩
  (TOk.cons ⟨Tryz.underlying105, by kernel_rfl, by show (_ : List (Nat × Option Nat)) = _; kernel_rfl⟩
  (TOk.cons ⟨Tryz.underlying106, by kernel_rfl, trivial⟩
  (TOk.cons ⟨Tryz.underlying107, by kernel_rfl, trivial⟩
  (TOk.cons ⟨Tryz.underlying108, by kernel_rfl, trivial⟩
  (TOk.cons ⟨Tryz.underlying109, by kernel_rfl, trivial⟩
  (TOk.cons ⟨Tryz.underlying110, by kernel_rfl, trivial⟩
  (TOk.cons ⟨Tryz.underlying111, by kernel_rfl, by show (_ : List (Nat × Option Nat)) = _; kernel_rfl⟩
  (TOk.cons ⟨Tryz.underlying112, by kernel_rfl, by show (_ : List (Nat × Option Nat)) = _; kernel_rfl⟩
  (TOk.cons ⟨Tryz.underlying113, by kernel_rfl, trivial⟩
  (TOk.cons ⟨Tryz.underlying114, by kernel_rfl, trivial⟩
  (TOk.cons ⟨Tryz.underlying115, by kernel_rfl, trivial⟩
  (TOk.cons ⟨Tryz.underlying116, by kernel_rfl, trivial⟩
  (TOk.cons ⟨Tryz.underlying117, by kernel_rfl, by show (_ : List (Nat × Option Nat)) = _; kernel_rfl⟩
  (TOk.cons ⟨Tryz.underlying118, by kernel_rfl, by show (_ : List (Nat × Option Nat)) = _; kernel_rfl⟩
  (TOk.cons ⟨Tryz.underlying119, by kernel_rfl, trivial⟩
  (TOk.cons ⟨Tryz.underlying120, by kernel_rfl, trivial⟩
  (TOk.cons ⟨Tryz.underlying121, by kernel_rfl, trivial⟩
  (TOk.cons ⟨Tryz.underlying122, by kernel_rfl, trivial⟩
  (TOk.cons ⟨Tryz.underlying123, by kernel_rfl, trivial⟩
  (TOk.cons ⟨Tryz.underlying124, by kernel_rfl, trivial⟩
  (TOk.cons ⟨Tryz.underlying125, by kernel_rfl, trivial⟩
  (TOk.cons ⟨Tryz.underlying126, by kernel_rfl, trivial⟩
  (TOk.cons ⟨Tryz.underlying128, by kernel_rfl, trivial⟩
  (TOk.cons ⟨Tryz.underlying129, by kernel_rfl, trivial⟩
  (TOk.cons ⟨Tryz.underlying130, by kernel_rfl, trivial⟩
  (TOk.cons ⟨Tryz.underlying131, by kernel_rfl, trivial⟩
  (TOk.cons ⟨Tryz.underlying132, by kernel_rfl, trivial⟩
  (TOk.cons ⟨Tryz.underlying134, by kernel_rfl, trivial⟩
  (TOk.cons ⟨Tryz.underlying135, by kernel_rfl, trivial⟩
  (TOk.cons ⟨Tryz.underlying136, by kernel_rfl, trivial⟩
  (TOk.cons ⟨Tryz.underlying137, by kernel_rfl, trivial⟩
  (TOk.cons ⟨Tryz.underlying139, by kernel_rfl, trivial⟩
  (TOk.cons ⟨Tryz.underlying141, by kernel_rfl, trivial⟩
  (TOk.cons ⟨Tryz.underlying142, by kernel_rfl, trivial⟩
  (TOk.cons ⟨Tryz.underlying143, by kernel_rfl, trivial⟩
  (TOk.cons ⟨Tryz.underlying145, by kernel_rfl, trivial⟩
  (TOk.cons ⟨Tryz.underlying147, by kernel_rfl, trivial⟩
  (TOk.cons ⟨Tryz.underlying149, by kernel_rfl, trivial⟩
  (TOk.cons ⟨Tryz.underlying150, by kernel_rfl, trivial⟩
  (TOk.cons ⟨Tryz.underlying152, by kernel_rfl, trivial⟩
  (TOk.cons ⟨Tryz.underlying153, by kernel_rfl, trivial⟩
  (TOk.cons ⟨Tryz.underlying154, by kernel_rfl, trivial⟩
  (TOk.cons ⟨Tryz.underlying156, by kernel_rfl, trivial⟩
  (TOk.cons ⟨Tryz.underlying157, by kernel_rfl, trivial⟩
  (TOk.cons ⟨Tryz.underlying158, by kernel_rfl, trivial⟩
  (TOk.cons ⟨Tryz.underlying159, by kernel_rfl, trivial⟩
  (TOk.cons ⟨Tryz.underlying161, by kernel_rfl, trivial⟩
  (TOk.cons ⟨Tryz.underlying162, by kernel_rfl, trivial⟩
  (TOk.cons ⟨Tryz.underlying163, by kernel_rfl, trivial⟩
  (TOk.cons ⟨Tryz.underlying164, by kernel_rfl, trivial⟩
  (TOk.cons ⟨Tryz.underlying165, by kernel_rfl, trivial⟩
  (TOk.cons ⟨Tryz.underlying166, by kernel_rfl, trivial⟩
  (TOk.cons ⟨Tryz.underlying167, by kernel_rfl, trivial⟩
  (TOk.cons ⟨Tryz.underlying168, by kernel_rfl, trivial⟩
  (TOk.cons ⟨Tryz.underlying169, by kernel_rfl, trivial⟩
  (TOk.cons ⟨Tryz.underlying170, by kernel_rfl, trivial⟩
  (TOk.cons ⟨Tryz.underlying171, by kernel_rfl, trivial⟩
  (TOk.cons ⟨Tryz.underlying172, by kernel_rfl, trivial⟩
  (TOk.cons ⟨Tryz.underlying173, by kernel_rfl, by show (_ : List (Nat × Option Nat)) = _; kernel_rfl⟩
  (TOk.cons ⟨Tryz.underlying174, by kernel_rfl, by show (_ : List (Nat × Option Nat)) = _; kernel_rfl⟩
  (TOk.cons ⟨Tryz.underlying175, by kernel_rfl, trivial⟩
  (TOk.cons ⟨Tryz.underlying176, by kernel_rfl, trivial⟩
  (TOk.cons ⟨Tryz.underlying178, by kernel_rfl, trivial⟩
  (TOk.cons ⟨Tryz.underlying180, by kernel_rfl, trivial⟩
  (TOk.cons ⟨Tryz.underlying181, by kernel_rfl, trivial⟩
  (TOk.cons ⟨Tryz.underlying183, by kernel_rfl, trivial⟩
  (TOk.cons ⟨Tryz.underlying184, by kernel_rfl, trivial⟩
  (TOk.cons ⟨Tryz.underlying185, by kernel_rfl, trivial⟩
  (TOk.cons ⟨Tryz.underlying186, by kernel_rfl, trivial⟩
  (TOk.cons ⟨Tryz.underlying187, by kernel_rfl, trivial⟩
  (TOk.cons ⟨Tryz.underlying188, by kernel_rfl, trivial⟩
  (TOk.cons ⟨Tryz.underlying190, by kernel_rfl, trivial⟩
  (TOk.cons ⟨Tryz.underlying192, by kernel_rfl, trivial⟩
  (TOk.cons ⟨Tryz.underlying193, by kernel_rfl, trivial⟩
  (TOk.cons ⟨Tryz.underlying194, by kernel_rfl, trivial⟩
  (TOk.cons ⟨Tryz.underlying195, by kernel_rfl, trivial⟩
  (TOk.cons ⟨Tryz.underlying196, by kernel_rfl, trivial⟩
  (TOk.cons ⟨Tryz.underlying197, by kernel_rfl, trivial⟩
  (TOk.cons ⟨Tryz.underlying198, by kernel_rfl, trivial⟩
  (TOk.cons ⟨Tryz.underlying199, by kernel_rfl, trivial⟩
  (TOk.cons ⟨Tryz.underlying200, by kernel_rfl, trivial⟩
  (TOk.cons ⟨Tryz.underlying201, by kernel_rfl, trivial⟩
  (TOk.cons ⟨Tryz.underlying202, by kernel_rfl, trivial⟩
  (TOk.cons ⟨Tryz.underlying203, by kernel_rfl, trivial⟩
  (TOk.cons ⟨Tryz.underlying204, by kernel_rfl, trivial⟩
  (TOk.cons ⟨Tryz.underlying205, by kernel_rfl, trivial⟩
  (TOk.cons ⟨Tryz.underlying206, by kernel_rfl, trivial⟩
  (TOk.cons ⟨Tryz.underlying207, by kernel_rfl, trivial⟩
  (TOk.cons ⟨Tryz.underlying209, by kernel_rfl, trivial⟩
  (TOk.cons ⟨Tryz.underlying210, by kernel_rfl, trivial⟩
  (TOk.cons ⟨Tryz.underlying211, by kernel_rfl, trivial⟩
  (TOk.cons ⟨Tryz.underlying212, by kernel_rfl, trivial⟩
  (TOk.cons ⟨Tryz.underlying213, by kernel_rfl, trivial⟩
  (TOk.cons ⟨Tryz.underlying214, by kernel_rfl, trivial⟩
  (TOk.cons ⟨Tryz.underlying215, by kernel_rfl, trivial⟩
  (TOk.cons ⟨Tryz.underlying216, by kernel_rfl, trivial⟩
  (TOk.cons ⟨Tryz.underlying217, by kernel_rfl, trivial⟩
  (TOk.cons ⟨Tryz.underlying219, by kernel_rfl, trivial⟩
  (TOk.cons ⟨Tryz.underlying220, by kernel_rfl, trivial⟩
  (TOk.cons ⟨Tryz.underlying221, by kernel_rfl, trivial⟩
  (TOk.cons ⟨Tryz.underlying222, by kernel_rfl, trivial⟩
  (TOk.cons ⟨Tryz.underlying224, by kernel_rfl, trivial⟩
  (TOk.cons ⟨Tryz.underlying225, by kernel_rfl, trivial⟩
  (TOk.cons ⟨Tryz.underlying226, by kernel_rfl, trivial⟩
  (TOk.cons ⟨Tryz.underlying228, by kernel_rfl, trivial⟩
  (TOk.cons ⟨Tryz.underlying229, by kernel_rfl, trivial⟩
  (TOk.cons ⟨Tryz.underlying230, by kernel_rfl, trivial⟩
  (TOk.cons ⟨Tryz.underlying231, by kernel_rfl, trivial⟩
  (TOk.cons ⟨Tryz.underlying232, by kernel_rfl, trivial⟩
  (TOk.cons ⟨Tryz.underlying233, by kernel_rfl, trivial⟩
  (TOk.cons ⟨Tryz.underlying234, by kernel_rfl, trivial⟩
  (TOk.cons ⟨Tryz.underlying235, by kernel_rfl, by show (_ : List (Nat × Option Nat)) = _; kernel_rfl⟩
  (TOk.cons ⟨Tryz.underlying236, by kernel_rfl, by show (_ : List (Nat × Option Nat)) = _; kernel_rfl⟩
  (TOk.cons ⟨Tryz.underlying237, by kernel_rfl, trivial⟩
  (TOk.cons ⟨Tryz.underlying238, by kernel_rfl, trivial⟩
  (TOk.cons ⟨Tryz.underlying239, by kernel_rfl, trivial⟩
  (TOk.cons ⟨Tryz.underlying240, by kernel_rfl, trivial⟩
  (TOk.cons ⟨Tryz.underlying241, by kernel_rfl, trivial⟩
  (TOk.cons ⟨Tryz.underlying242, by kernel_rfl, trivial⟩
  (TOk.cons ⟨Tryz.underlying243, by kernel_rfl, trivial⟩
  (TOk.cons ⟨Tryz.underlying244, by kernel_rfl, trivial⟩
  (TOk.cons ⟨Tryz.underlying245, by kernel_rfl, trivial⟩
  (TOk.cons ⟨Tryz.underlying246, by kernel_rfl, trivial⟩
  (TOk.cons ⟨Tryz.underlying247, by kernel_rfl, trivial⟩
  (TOk.cons ⟨Tryz.underlying248, by kernel_rfl, trivial⟩
  (TOk.cons ⟨Tryz.underlying249, by kernel_rfl, trivial⟩
  (TOk.cons ⟨Tryz.underlying250, by kernel_rfl, trivial⟩
  (TOk.cons ⟨Tryz.underlying251, by kernel_rfl, trivial⟩
  (TOk.cons ⟨Tryz.underlying253, by kernel_rfl, trivial⟩
  (TOk.cons ⟨Tryz.underlying255, by kernel_rfl, trivial⟩
  (TOk.cons ⟨Tryz.underlying256, by kernel_rfl, by show (_ : List (Nat × Option Nat)) = _; kernel_rfl⟩
  (TOk.cons ⟨Tryz.underlying257, by kernel_rfl, by show (_ : List (Nat × Option Nat)) = _; kernel_rfl⟩
  (TOk.cons ⟨Tryz.underlying258, by kernel_rfl, trivial⟩
  (TOk.cons ⟨Tryz.underlying259, by kernel_rfl, trivial⟩
  (TOk.cons ⟨Tryz.underlying260, by kernel_rfl, trivial⟩
  (TOk.cons ⟨Tryz.underlying261, by kernel_rfl, by show (_ : List (Nat × Option Nat)) = _; kernel_rfl⟩
  (TOk.cons ⟨Tryz.underlying262, by kernel_rfl, by show (_ : List (Nat × Option Nat)) = _; kernel_rfl⟩
  (TOk.cons ⟨Tryz.underlying263, by kernel_rfl, trivial⟩
  (TOk.cons ⟨Tryz.underlying264, by kernel_rfl, trivial⟩
  (TOk.cons ⟨Tryz.underlying265, by kernel_rfl, by show (_ : List (Nat × Option Nat)) = _; kernel_rfl⟩
  (TOk.cons ⟨Tryz.underlying266, by kernel_rfl, by show (_ : List (Nat × Option Nat)) = _; kernel_rfl⟩
  (TOk.cons ⟨Tryz.underlying267, by kernel_rfl, trivial⟩
  (TOk.cons ⟨Tryz.underlying268, by kernel_rfl, by show (_ : List (Nat × Option Nat)) = _; kernel_rfl⟩
  (TOk.cons ⟨Tryz.underlying269, by kernel_rfl, by show (_ : List (Nat × Option Nat)) = _; kernel_rfl⟩
  (TOk.cons ⟨Tryz.underlying270, by kernel_rfl, trivial⟩
  (TOk.cons ⟨Tryz.underlying271, by kernel_rfl, trivial⟩
  (TOk.cons ⟨Tryz.underlying272, by kernel_rfl, trivial⟩
  (TOk.cons ⟨Tryz.underlying273, by kernel_rfl, trivial⟩
  (TOk.cons ⟨Tryz.underlying274, by kernel_rfl, trivial⟩
  (TOk.cons ⟨Tryz.underlying275, by kernel_rfl, trivial⟩
  (TOk.cons ⟨Tryz.underlying276, by kernel_rfl, by show (_ : List (Nat × Option Nat)) = _; kernel_rfl⟩
  (TOk.cons ⟨Tryz.underlying277, by kernel_rfl, by show (_ : List (Nat × Option Nat)) = _; kernel_rfl⟩
  (TOk.cons ⟨Tryz.underlying278, by kernel_rfl, by show (_ : List (Nat × Option Nat)) = _; kernel_rfl⟩
  (TOk.cons ⟨Tryz.underlying279, by kernel_rfl, by show (_ : List (Nat × Option Nat)) = _; kernel_rfl⟩
  (TOk.nil _)))))))))))))))))))))))))))))))))))))))))))))))))))))))))))))))))))))))))))))))))))))))))))))))))))))))))))))))))))))))))))))))))))))))))))))))))))))))))))))))))))))))))))))))))))))))))))))))))))))))))))))))))))))))))))))))))))))))))))))))))))))))))
theorem mixed : Tryz.prog.follows .mixedOrders = true := by kernel_rfl
end Go.Proofs.YtnaeeklnlddcaaaGreatDoor.Vex
/- The library's contracts, laid at this seat's dump by the kit's tools lay-shelf and lay-plain: each holds for whatever its own premises allow. -/
/-
  DERIVED: THE SHELF's CONTRACTS AT THIS DUMP, IN PLAIN WORDS (tools/lay-plain.mjs out of 'TryzShelf.lean', which tools/lay-shelf.mjs wrote): THE SAME DECLARATIONS UNDER THE SAME NAMES: 'import', 'namespace', 'open', 'def', 'theorem' AND NOTHING ELSE: no command of the shelf's: FOR A HAND-IN. Each laying: the table of numbers ('.._ren') and one theorem, a field a fact of the dump's own or the kernel's comparison; each contract: ONE APPLICATION.
-/
namespace Go.Proofs
open Go.Shelf
def Tryz.lays156_ren : Go.Shelf.Ren := ⟨fun | 156 => 67 | 165 => 108 | 166 => 109 | 169 => 110 | 240 => 150 | 241 => 151 | 276 => 182 | 277 => 183 | n => n, fun | 31 => 23 | 9 => 9 | 3 => 3 | 4 => 4 | 0 => 0 | 20 => 20 | 72 => 174 | 76 => 177 | 70 => 172 | 37 => 51 | 75 => 176 | 127 => 212 | 164 => 231 | 5 => 5 | 80 => 150 | n => n, fun | n => n⟩
theorem Tryz.lays156 : Go.Proofs.Lays.n156 Tryz.prog Tryz.lays156_ren := {
  mixed := by kernel_rfl
  f156 := Tryz.func67.trans (congrArg some (by kernel_rfl))
  f165 := Tryz.func108.trans (congrArg some (by kernel_rfl))
  f166 := Tryz.func109.trans (congrArg some (by kernel_rfl))
  f169 := Tryz.func110.trans (congrArg some (by kernel_rfl))
  f240 := Tryz.func150.trans (congrArg some (by kernel_rfl))
  f241 := Tryz.func151.trans (congrArg some (by kernel_rfl))
  f276 := Tryz.func182.trans (congrArg some (by kernel_rfl))
  f277 := Tryz.func183.trans (congrArg some (by kernel_rfl))
  t0 := Tryz.underlying0
  a0 := Tryz.isAgg0
  z0 := Tryz.sizeOf0
  v0 := Tryz.zeroValue0
  t3 := Tryz.underlying3
  a3 := Tryz.isAgg3
  z3 := Tryz.sizeOf3
  v3 := Tryz.zeroValue3
  t4 := Tryz.underlying4
  a4 := Tryz.isAgg4
  z4 := Tryz.sizeOf4
  v4 := Tryz.zeroValue4
  t9 := Tryz.underlying9
  a9 := Tryz.isAgg9
  z9 := Tryz.sizeOf9
  v9 := Tryz.zeroValue9
  t20 := Tryz.underlying20
  a20 := Tryz.isAgg20
  z20 := Tryz.sizeOf20
  v20 := Tryz.zeroValue20
  t31 := Tryz.underlying23
  a31 := Tryz.isAgg23
  z31 := Tryz.sizeOf23
  v31 := Tryz.zeroValue23
  t37 := Tryz.underlying51
  a37 := Tryz.isAgg51
  z37 := Tryz.sizeOf51
  v37 := Tryz.zeroValue51
  t70 := Tryz.underlying172
  a70 := Tryz.isAgg172
  z70 := Tryz.sizeOf172
  v70 := Tryz.zeroValue172
  t72 := Tryz.underlying174
  a72 := Tryz.isAgg174
  z72 := Tryz.sizeOf174
  v72 := Tryz.zeroValue174
  t75 := Tryz.underlying176
  a75 := Tryz.isAgg176
  z75 := Tryz.sizeOf176
  v75 := Tryz.zeroValue176
  t76 := Tryz.underlying177
  a76 := Tryz.isAgg177
  z76 := Tryz.sizeOf177
  v76 := Tryz.zeroValue177
  t127 := Tryz.underlying212
  a127 := Tryz.isAgg212
  z127 := Tryz.sizeOf212
  v127 := Tryz.zeroValue212
  t164 := Tryz.underlying231
  a164 := Tryz.isAgg231
  z164 := Tryz.sizeOf231
  v164 := Tryz.zeroValue231 }
theorem Tryz.Builder_Extra_156 : Builder.Extra Tryz.prog Tryz.lays156_ren := {
  sizeBuilder := by kernel_rfl
  liesBuilder := by kernel_rfl
  t5 := Tryz.underlying5
  a5 := Tryz.isAgg5
  z5 := Tryz.sizeOf5
  v5 := Tryz.zeroValue5
  infoByte := by kernel_rfl
  cellsByte := by kernel_rfl
  sizeByte := by kernel_rfl
  neB5 := by decide }
open Go.RowKit in
/-- No element: the empty string; the world is as it was. (Whatever the slice's address and capacity: a nil slice too.) (LAID: no walk: one application.) -/
theorem Tryz.strings_Join_none (a : Option Addr) (c : Nat) (sep : ByteArray) (w : World) :
    Calls Tryz.prog 67 #[.slice a 0 c, .string sep] w fun e w' => e = .returned (.string ⟨#[]⟩) ∧ w' = w := Any.strings_Join_none Tryz.lays156 Tryz.Builder_Extra_156 a c sep w
open Go.RowKit in
/-- strings.Join: "Join concatenates the elements of its first argument to create a single string. The separator string sep is placed between elements in the resulting string.": HOWEVER MANY ELEMENTS. Below the heap's end the world is as it was. (LAID: no walk: one application.) -/
theorem Tryz.strings_Join (bk o c : Nat) (xs : List ByteArray) (sep : ByteArray) (w : World) (hcells : ∀ (j : Nat) x, xs[j]? = some x → w.cell? ⟨bk, o + j, none⟩ = some (.string x)) (hbk : bk < w.heap.size) (hN : xs.length ≤ 140737488355328) (hcap : xs.length ≤ c) (hlen : (Lib.join (xs.map (·.data.toList)) sep.data.toList).length ≤ 140737488355328) :
    Calls Tryz.prog 67 #[.slice (some ⟨bk, o, none⟩) xs.length c, .string sep] w fun e w' => e = .returned (.string ⟨(Lib.join (xs.map (·.data.toList)) sep.data.toList).toArray⟩) ∧ Below w.heap.size w w' := Any.strings_Join Tryz.lays156 Tryz.Builder_Extra_156 bk o c xs sep w hcells hbk hN hcap hlen
def Tryz.lays160_ren : Go.Shelf.Ren := ⟨fun | 160 => 107 | 232 => 144 | 231 => 143 | 227 => 145 | 234 => 147 | 233 => 146 | 236 => 149 | 235 => 148 | 228 => 179 | 271 => 181 | 151 => 180 | 197 => 112 | 120 => 205 | 152 => 197 | 260 => 152 | 137 => 115 | 119 => 193 | 224 => 184 | 225 => 167 | 217 => 156 | 266 => 161 | n => n, fun | 9 => 9 | 4 => 4 | 3 => 3 | 5 => 5 | 117 => 208 | 116 => 207 | 0 => 0 | 124 => 211 | 21 => 21 | 105 => 179 | 46 => 121 | 119 => 234 | 139 => 237 | 138 => 236 | n => n, fun | 3 => 1 | 4 => 2 | n => n⟩
theorem Tryz.lays160 : Go.Proofs.Lays.n160 Tryz.prog Tryz.lays160_ren := {
  mixed := by kernel_rfl
  f119 := Tryz.func193.trans (congrArg some (by kernel_rfl))
  f120 := Tryz.func205.trans (congrArg some (by kernel_rfl))
  f137 := Tryz.func115.trans (congrArg some (by kernel_rfl))
  f151 := Tryz.func180.trans (congrArg some (by kernel_rfl))
  f152 := Tryz.func197.trans (congrArg some (by kernel_rfl))
  f160 := Tryz.func107.trans (congrArg some (by kernel_rfl))
  f197 := Tryz.func112.trans (congrArg some (by kernel_rfl))
  f217 := Tryz.func156.trans (congrArg some (by kernel_rfl))
  f224 := Tryz.func184.trans (congrArg some (by kernel_rfl))
  f225 := Tryz.func167.trans (congrArg some (by kernel_rfl))
  f227 := Tryz.func145.trans (congrArg some (by kernel_rfl))
  f228 := Tryz.func179.trans (congrArg some (by kernel_rfl))
  f231 := Tryz.func143.trans (congrArg some (by kernel_rfl))
  f232 := Tryz.func144.trans (congrArg some (by kernel_rfl))
  f233 := Tryz.func146.trans (congrArg some (by kernel_rfl))
  f234 := Tryz.func147.trans (congrArg some (by kernel_rfl))
  f235 := Tryz.func148.trans (congrArg some (by kernel_rfl))
  f236 := Tryz.func149.trans (congrArg some (by kernel_rfl))
  f260 := Tryz.func152.trans (congrArg some (by kernel_rfl))
  f266 := Tryz.func161.trans (congrArg some (by kernel_rfl))
  f271 := Tryz.func181.trans (congrArg some (by kernel_rfl))
  t0 := Tryz.underlying0
  a0 := Tryz.isAgg0
  z0 := Tryz.sizeOf0
  v0 := Tryz.zeroValue0
  t3 := Tryz.underlying3
  a3 := Tryz.isAgg3
  z3 := Tryz.sizeOf3
  v3 := Tryz.zeroValue3
  t4 := Tryz.underlying4
  a4 := Tryz.isAgg4
  z4 := Tryz.sizeOf4
  v4 := Tryz.zeroValue4
  t5 := Tryz.underlying5
  a5 := Tryz.isAgg5
  z5 := Tryz.sizeOf5
  v5 := Tryz.zeroValue5
  t9 := Tryz.underlying9
  a9 := Tryz.isAgg9
  z9 := Tryz.sizeOf9
  v9 := Tryz.zeroValue9
  t21 := Tryz.underlying21
  a21 := Tryz.isAgg21
  z21 := Tryz.sizeOf21
  v21 := Tryz.zeroValue21
  t46 := Tryz.underlying121
  a46 := Tryz.isAgg121
  z46 := Tryz.sizeOf121
  v46 := Tryz.zeroValue121
  t105 := Tryz.underlying179
  a105 := Tryz.isAgg179
  z105 := Tryz.sizeOf179
  v105 := Tryz.zeroValue179
  t116 := Tryz.underlying207
  a116 := Tryz.isAgg207
  z116 := Tryz.sizeOf207
  t117 := Tryz.underlying208
  a117 := Tryz.isAgg208
  z117 := Tryz.sizeOf208
  v117 := Tryz.zeroValue208
  t119 := Tryz.underlying234
  a119 := Tryz.isAgg234
  z119 := Tryz.sizeOf234
  t124 := Tryz.underlying211
  a124 := Tryz.isAgg211
  z124 := Tryz.sizeOf211
  v124 := Tryz.zeroValue211
  t138 := Tryz.underlying236
  a138 := Tryz.isAgg236
  z138 := Tryz.sizeOf236
  v138 := Tryz.zeroValue236
  t139 := Tryz.underlying237
  a139 := Tryz.isAgg237
  z139 := Tryz.sizeOf237
  v139 := Tryz.zeroValue237
  g3 := by kernel_rfl
  g4 := by kernel_rfl }
def Tryz.lays137_ren : Go.Shelf.Ren := ⟨fun | 137 => 115 | 217 => 156 | 266 => 161 | n => n, fun | 9 => 9 | 5 => 5 | 3 => 3 | n => n, fun | n => n⟩
theorem Tryz.lays137 : Go.Proofs.Lays.n137 Tryz.prog Tryz.lays137_ren := {
  mixed := by kernel_rfl
  f137 := Tryz.func115.trans (congrArg some (by kernel_rfl))
  f217 := Tryz.func156.trans (congrArg some (by kernel_rfl))
  f266 := Tryz.func161.trans (congrArg some (by kernel_rfl))
  t3 := Tryz.underlying3
  a3 := Tryz.isAgg3
  z3 := Tryz.sizeOf3
  v3 := Tryz.zeroValue3
  t5 := Tryz.underlying5
  a5 := Tryz.isAgg5
  z5 := Tryz.sizeOf5
  v5 := Tryz.zeroValue5
  t9 := Tryz.underlying9
  a9 := Tryz.isAgg9
  z9 := Tryz.sizeOf9
  v9 := Tryz.zeroValue9 }
open Go.RowKit in
/-- strings.IndexByte: "IndexByte returns the index of the first instance of c in s, or -1 if c is not present in s.": IT RETURNS 'Lib.indexByte s c'; the world is as it was. (LAID: no walk: one application.) -/
theorem Tryz.strings_IndexByte (s : ByteArray) (c : Int) (w : World) :
    Calls Tryz.prog 115 #[.string s, .int .u8 c] w fun e w' => e = .returned (.int .i64 (Lib.indexByte s.data.toList c.toNat.toUInt8)) ∧ w' = w := Any.strings_IndexByte Tryz.lays137 s c w
def Tryz.lays103_ren : Go.Shelf.Ren := ⟨fun | 103 => 86 | 210 => 129 | 206 => 106 | n => n, fun | 9 => 9 | 4 => 4 | 24 => 151 | 3 => 3 | n => n, fun | n => n⟩
theorem Tryz.lays103 : Go.Proofs.Lays.n103 Tryz.prog Tryz.lays103_ren := {
  mixed := by kernel_rfl
  f103 := Tryz.func86.trans (congrArg some (by kernel_rfl))
  f206 := Tryz.func106.trans (congrArg some (by kernel_rfl))
  f210 := Tryz.func129.trans (congrArg some (by kernel_rfl))
  t3 := Tryz.underlying3
  a3 := Tryz.isAgg3
  z3 := Tryz.sizeOf3
  v3 := Tryz.zeroValue3
  t4 := Tryz.underlying4
  a4 := Tryz.isAgg4
  z4 := Tryz.sizeOf4
  v4 := Tryz.zeroValue4
  t9 := Tryz.underlying9
  a9 := Tryz.isAgg9
  z9 := Tryz.sizeOf9
  v9 := Tryz.zeroValue9
  t24 := Tryz.underlying151
  a24 := Tryz.isAgg151
  z24 := Tryz.sizeOf151
  v24 := Tryz.zeroValue151 }
open Go.RowKit in
/-- strings.CutPrefix: "CutPrefix returns s without the provided leading prefix string and reports whether it found the prefix. If s doesn't start with prefix, CutPrefix returns s, false. If prefix is the empty string, CutPrefix returns s, true.": IT RETURNS '(Lib.trimPrefix s p, Lib.hasPrefix s p)'; the world is as it was. (LAID: no walk: one application.) -/
theorem Tryz.strings_CutPrefix (s p : ByteArray) (w : World) :
    Calls Tryz.prog 86 #[.string s, .string p] w fun e w' => e = .returned (.tuple #[.string ⟨(Lib.trimPrefix s.data.toList p.data.toList).toArray⟩, .bool (Lib.hasPrefix s.data.toList p.data.toList)]) ∧ w' = w := Any.strings_CutPrefix Tryz.lays103 s p w
def Tryz.laysM171_ren : Go.Shelf.Ren := ⟨fun | 171 => 55 | 243 => 84 | 246 => 127 | 283 => 170 | 284 => 171 | 285 => 172 | 286 => 173 | 129 => 104 | 317 => 199 | 318 => 200 | 319 => 201 | 320 => 202 | 337 => 211 | 338 => 212 | n => n, fun | 3 => 3 | 9 => 9 | 2 => 2 | 4 => 4 | 171 => 221 | 0 => 0 | 53 => 169 | 37 => 51 | 5 => 5 | 173 => 223 | 212 => 250 | 51 => 167 | 20 => 20 | 213 => 251 | 46 => 121 | 232 => 263 | 233 => 264 | n => n, fun | 17 => 3 | 18 => 6 | 19 => 7 | n => n⟩
theorem Tryz.laysM171 : Go.Proofs.LaysM.n171 Tryz.prog Tryz.laysM171_ren := {
  mixed := by kernel_rfl
  f129 := Tryz.func104.trans (congrArg some (by kernel_rfl))
  f171 := Tryz.func55.trans (congrArg some (by kernel_rfl))
  f243 := Tryz.func84.trans (congrArg some (by kernel_rfl))
  f246 := Tryz.func127.trans (congrArg some (by kernel_rfl))
  f283 := Tryz.func170.trans (congrArg some (by kernel_rfl))
  f284 := Tryz.func171.trans (congrArg some (by kernel_rfl))
  f285 := Tryz.func172.trans (congrArg some (by kernel_rfl))
  f286 := Tryz.func173.trans (congrArg some (by kernel_rfl))
  f317 := Tryz.func199.trans (congrArg some (by kernel_rfl))
  f318 := Tryz.func200.trans (congrArg some (by kernel_rfl))
  f319 := Tryz.func201.trans (congrArg some (by kernel_rfl))
  f320 := Tryz.func202.trans (congrArg some (by kernel_rfl))
  f337 := Tryz.func211.trans (congrArg some (by kernel_rfl))
  f338 := Tryz.func212.trans (congrArg some (by kernel_rfl))
  t0 := Tryz.underlying0
  a0 := Tryz.isAgg0
  z0 := Tryz.sizeOf0
  v0 := Tryz.zeroValue0
  t2 := Tryz.underlying2
  a2 := Tryz.isAgg2
  z2 := Tryz.sizeOf2
  v2 := Tryz.zeroValue2
  t3 := Tryz.underlying3
  a3 := Tryz.isAgg3
  z3 := Tryz.sizeOf3
  v3 := Tryz.zeroValue3
  t4 := Tryz.underlying4
  a4 := Tryz.isAgg4
  z4 := Tryz.sizeOf4
  v4 := Tryz.zeroValue4
  t5 := Tryz.underlying5
  a5 := Tryz.isAgg5
  z5 := Tryz.sizeOf5
  v5 := Tryz.zeroValue5
  t9 := Tryz.underlying9
  a9 := Tryz.isAgg9
  z9 := Tryz.sizeOf9
  v9 := Tryz.zeroValue9
  t20 := Tryz.underlying20
  a20 := Tryz.isAgg20
  z20 := Tryz.sizeOf20
  v20 := Tryz.zeroValue20
  t37 := Tryz.underlying51
  a37 := Tryz.isAgg51
  z37 := Tryz.sizeOf51
  v37 := Tryz.zeroValue51
  t46 := Tryz.underlying121
  a46 := Tryz.isAgg121
  z46 := Tryz.sizeOf121
  v46 := Tryz.zeroValue121
  t51 := Tryz.underlying167
  a51 := Tryz.isAgg167
  z51 := Tryz.sizeOf167
  v51 := Tryz.zeroValue167
  t53 := Tryz.underlying169
  a53 := Tryz.isAgg169
  z53 := Tryz.sizeOf169
  v53 := Tryz.zeroValue169
  t171 := Tryz.underlying221
  a171 := Tryz.isAgg221
  z171 := Tryz.sizeOf221
  v171 := Tryz.zeroValue221
  t173 := Tryz.underlying223
  a173 := Tryz.isAgg223
  z173 := Tryz.sizeOf223
  v173 := Tryz.zeroValue223
  t212 := Tryz.underlying250
  a212 := Tryz.isAgg250
  z212 := Tryz.sizeOf250
  v212 := Tryz.zeroValue250
  t213 := Tryz.underlying251
  a213 := Tryz.isAgg251
  z213 := Tryz.sizeOf251
  t232 := Tryz.underlying263
  a232 := Tryz.isAgg263
  z232 := Tryz.sizeOf263
  v232 := Tryz.zeroValue263
  t233 := Tryz.underlying264
  a233 := Tryz.isAgg264
  z233 := Tryz.sizeOf264
  v233 := Tryz.zeroValue264
  g17 := by kernel_rfl
  g18 := by kernel_rfl
  g19 := by kernel_rfl
  i0 := by kernel_rfl
  i2 := by kernel_rfl
  i3 := by kernel_rfl
  i4 := by kernel_rfl
  i5 := by kernel_rfl
  i9 := by kernel_rfl
  i20 := by kernel_rfl
  i37 := by kernel_rfl
  i46 := by kernel_rfl
  i51 := by kernel_rfl
  i53 := by kernel_rfl
  i171 := by kernel_rfl
  i173 := by kernel_rfl
  i212 := by kernel_rfl
  i232 := by kernel_rfl
  i233 := by kernel_rfl
  m17 := by kernel_rfl
  m18 := by kernel_rfl
  m19 := by kernel_rfl }
open Go.RowKit Go.Sort Go.Lib in
/-- strconv.Itoa: "Itoa is equivalent to FormatInt(int64(i), 10).": i's DECIMAL NUMERAL ('Lib.itoa': a '-' where i is negative, then the digits), FOR EVERY int. The world behind the call: the world before it, new blocks behind the heap (the library's 'var a [24]byte'), draws. (LAID: no walk: one application.) -/
theorem Tryz.strconv_Itoa (n : Int) (h0 : -9223372036854775808 ≤ n) (h1 : n ≤ 9223372036854775807) (w : World) (htab : Lib.TabIs Tryz.prog w "internal/strconv.uint64pow10" .u64 Lib.pow10Tab) :
    Calls Tryz.prog 55 #[.int .i64 n] w fun e w' => e = .returned (.string ⟨(Lib.itoa n).toArray⟩) ∧ ∃ k os, w' = grow (w.drewN k) os := Any.strconv_Itoa Tryz.laysM171 n h0 h1 w htab
def Tryz.laysC245_ren : Go.Shelf.Ren := ⟨fun | 245 => 155 | 279 => 188 | 280 => 189 | 281 => 190 | 282 => 191 | 316 => 207 | 171 => 55 | 205 => 208 | 243 => 84 | 246 => 127 | 283 => 170 | 284 => 171 | 285 => 172 | 286 => 173 | 129 => 104 | 317 => 199 | 318 => 200 | 319 => 201 | 320 => 202 | 337 => 211 | 338 => 212 | n => n, fun | 9 => 9 | 3 => 3 | 75 => 176 | 167 => 239 | 4 => 4 | 168 => 241 | 210 => 257 | 37 => 51 | 0 => 0 | 127 => 212 | 145 => 262 | 143 => 260 | 2 => 2 | 171 => 221 | 53 => 169 | 5 => 5 | 173 => 223 | 212 => 250 | 51 => 167 | 20 => 20 | 213 => 251 | 46 => 121 | 232 => 263 | 233 => 264 | 80 => 150 | n => n, fun | 15 => 4 | 16 => 5 | 17 => 3 | 18 => 6 | 19 => 7 | n => n⟩
theorem Tryz.laysC245 : Go.Proofs.LaysC.n245 Tryz.prog Tryz.laysC245_ren := {
  mixed := by kernel_rfl
  f129 := Tryz.func104.trans (congrArg some (by kernel_rfl))
  f171 := Tryz.func55.trans (congrArg some (by kernel_rfl))
  f205 := Tryz.func208.trans (congrArg some (by kernel_rfl))
  f243 := Tryz.func84.trans (congrArg some (by kernel_rfl))
  f245 := Tryz.func155.trans (congrArg some (by kernel_rfl))
  f246 := Tryz.func127.trans (congrArg some (by kernel_rfl))
  f279 := Tryz.func188.trans (congrArg some (by kernel_rfl))
  f280 := Tryz.func189.trans (congrArg some (by kernel_rfl))
  f281 := Tryz.func190.trans (congrArg some (by kernel_rfl))
  f282 := Tryz.func191.trans (congrArg some (by kernel_rfl))
  f283 := Tryz.func170.trans (congrArg some (by kernel_rfl))
  f284 := Tryz.func171.trans (congrArg some (by kernel_rfl))
  f285 := Tryz.func172.trans (congrArg some (by kernel_rfl))
  f286 := Tryz.func173.trans (congrArg some (by kernel_rfl))
  f316 := Tryz.func207.trans (congrArg some (by kernel_rfl))
  f317 := Tryz.func199.trans (congrArg some (by kernel_rfl))
  f318 := Tryz.func200.trans (congrArg some (by kernel_rfl))
  f319 := Tryz.func201.trans (congrArg some (by kernel_rfl))
  f320 := Tryz.func202.trans (congrArg some (by kernel_rfl))
  f337 := Tryz.func211.trans (congrArg some (by kernel_rfl))
  f338 := Tryz.func212.trans (congrArg some (by kernel_rfl))
  t0 := Tryz.underlying0
  a0 := Tryz.isAgg0
  z0 := Tryz.sizeOf0
  v0 := Tryz.zeroValue0
  t2 := Tryz.underlying2
  a2 := Tryz.isAgg2
  z2 := Tryz.sizeOf2
  v2 := Tryz.zeroValue2
  t3 := Tryz.underlying3
  a3 := Tryz.isAgg3
  z3 := Tryz.sizeOf3
  v3 := Tryz.zeroValue3
  t4 := Tryz.underlying4
  a4 := Tryz.isAgg4
  z4 := Tryz.sizeOf4
  v4 := Tryz.zeroValue4
  t5 := Tryz.underlying5
  a5 := Tryz.isAgg5
  z5 := Tryz.sizeOf5
  v5 := Tryz.zeroValue5
  t9 := Tryz.underlying9
  a9 := Tryz.isAgg9
  z9 := Tryz.sizeOf9
  v9 := Tryz.zeroValue9
  t20 := Tryz.underlying20
  a20 := Tryz.isAgg20
  z20 := Tryz.sizeOf20
  v20 := Tryz.zeroValue20
  t37 := Tryz.underlying51
  a37 := Tryz.isAgg51
  z37 := Tryz.sizeOf51
  v37 := Tryz.zeroValue51
  t46 := Tryz.underlying121
  a46 := Tryz.isAgg121
  z46 := Tryz.sizeOf121
  v46 := Tryz.zeroValue121
  t51 := Tryz.underlying167
  a51 := Tryz.isAgg167
  z51 := Tryz.sizeOf167
  v51 := Tryz.zeroValue167
  t53 := Tryz.underlying169
  a53 := Tryz.isAgg169
  z53 := Tryz.sizeOf169
  v53 := Tryz.zeroValue169
  t75 := Tryz.underlying176
  a75 := Tryz.isAgg176
  z75 := Tryz.sizeOf176
  v75 := Tryz.zeroValue176
  t127 := Tryz.underlying212
  a127 := Tryz.isAgg212
  z127 := Tryz.sizeOf212
  v127 := Tryz.zeroValue212
  t143 := Tryz.underlying260
  a143 := Tryz.isAgg260
  z143 := Tryz.sizeOf260
  v143 := Tryz.zeroValue260
  t145 := Tryz.underlying262
  a145 := Tryz.isAgg262
  z145 := Tryz.sizeOf262
  v145 := Tryz.zeroValue262
  t167 := Tryz.underlying239
  a167 := Tryz.isAgg239
  z167 := Tryz.sizeOf239
  v167 := Tryz.zeroValue239
  t168 := Tryz.underlying241
  a168 := Tryz.isAgg241
  z168 := Tryz.sizeOf241
  v168 := Tryz.zeroValue241
  t171 := Tryz.underlying221
  a171 := Tryz.isAgg221
  z171 := Tryz.sizeOf221
  v171 := Tryz.zeroValue221
  t173 := Tryz.underlying223
  a173 := Tryz.isAgg223
  z173 := Tryz.sizeOf223
  v173 := Tryz.zeroValue223
  t210 := Tryz.underlying257
  a210 := Tryz.isAgg257
  z210 := Tryz.sizeOf257
  v210 := Tryz.zeroValue257
  t212 := Tryz.underlying250
  a212 := Tryz.isAgg250
  z212 := Tryz.sizeOf250
  v212 := Tryz.zeroValue250
  t213 := Tryz.underlying251
  a213 := Tryz.isAgg251
  z213 := Tryz.sizeOf251
  t232 := Tryz.underlying263
  a232 := Tryz.isAgg263
  z232 := Tryz.sizeOf263
  v232 := Tryz.zeroValue263
  t233 := Tryz.underlying264
  a233 := Tryz.isAgg264
  z233 := Tryz.sizeOf264
  v233 := Tryz.zeroValue264
  g15 := by kernel_rfl
  g16 := by kernel_rfl
  g17 := by kernel_rfl
  g18 := by kernel_rfl
  g19 := by kernel_rfl
  t80 := Tryz.underlying150
  a80 := Tryz.isAgg150
  z80 := Tryz.sizeOf150
  v80 := Tryz.zeroValue150
  i0 := by kernel_rfl
  i2 := by kernel_rfl
  i3 := by kernel_rfl
  i4 := by kernel_rfl
  i5 := by kernel_rfl
  i9 := by kernel_rfl
  i20 := by kernel_rfl
  i37 := by kernel_rfl
  i46 := by kernel_rfl
  i51 := by kernel_rfl
  i53 := by kernel_rfl
  i75 := by kernel_rfl
  i80 := by kernel_rfl
  i127 := by kernel_rfl
  i143 := by kernel_rfl
  i145 := by kernel_rfl
  i167 := by kernel_rfl
  i168 := by kernel_rfl
  i171 := by kernel_rfl
  i173 := by kernel_rfl
  i210 := by kernel_rfl
  i212 := by kernel_rfl
  i232 := by kernel_rfl
  i233 := by kernel_rfl
  m15 := by kernel_rfl
  m16 := by kernel_rfl
  m17 := by kernel_rfl
  m18 := by kernel_rfl
  m19 := by kernel_rfl
  c0 := by kernel_rfl
  c2 := by kernel_rfl
  c3 := by kernel_rfl
  c4 := by kernel_rfl
  c5 := by kernel_rfl
  c9 := by kernel_rfl
  c20 := by kernel_rfl
  c37 := by kernel_rfl
  c46 := by kernel_rfl
  c51 := by kernel_rfl
  c53 := by kernel_rfl
  c75 := by kernel_rfl
  c80 := by kernel_rfl
  c127 := by kernel_rfl
  c143 := by kernel_rfl
  c145 := by kernel_rfl
  c167 := by kernel_rfl
  c168 := by kernel_rfl
  c171 := by kernel_rfl
  c173 := by kernel_rfl
  c210 := by kernel_rfl
  c212 := by kernel_rfl
  c213 := by kernel_rfl
  c232 := by kernel_rfl
  c233 := by kernel_rfl }
open Go.RowKit in
/-- strconv.toError, at the inner package's ErrSyntax: 'syntaxError(fn, s)' as an error: A *NumError IN A NEW BLOCK. (LAID: no walk: one application.) -/
theorem Tryz.strconv_toError_syntax (fn s : ByteArray) (base bits : Int) (ev : Value) (w : World) (hlim : s.size ≤ 281474976710656) (hv : w.cell? ⟨4, 0, none⟩ = some ev) (hev : ev = .nilIface ∨ ∃ te pe, ev = .iface te pe) :
    Calls Tryz.prog 155 #[.string fn, .string s, .int .i64 base, .int .i64 bits, .iface 239 (.int .i64 2)] w fun e w' => ∃ N, e = .returned (.iface 241 (.pointer (some ⟨N, 0, none⟩))) ∧ w.heap.size ≤ N ∧ w'.heap[N]? = some (.cells #[.string fn, .string s, ev] 257 (0, 0)) ∧ Below w.heap.size w w' := Any.strconv_toError_syntax Tryz.laysC245 fn s base bits ev w hlim hv hev
def Tryz.lays321_ren : Go.Shelf.Ren := ⟨fun | 321 => 186 | n => n, fun | 5 => 5 | n => n, fun | n => n⟩
theorem Tryz.lays321 : Go.Proofs.Lays.n321 Tryz.prog Tryz.lays321_ren := {
  mixed := by kernel_rfl
  f321 := Tryz.func186.trans (congrArg some (by kernel_rfl))
  t5 := Tryz.underlying5
  a5 := Tryz.isAgg5
  z5 := Tryz.sizeOf5
  v5 := Tryz.zeroValue5 }
open Go.RowKit in
/-- internal/strconv.lower: 'c | ('x' - 'X')': the bit 32 set. The world is as it was. (LAID: no walk: one application.) -/
theorem Tryz.internal_strconv_lower (c : Int) (w : World) :
    Calls Tryz.prog 186 #[.int .u8 c] w fun e w' => e = .returned (.int .u8 (bits .or .u8 c 32)) ∧ w' = w := Any.internal_strconv_lower Tryz.lays321 c w
open Go.RowKit in
/-- strconv.toError, at the inner package's ErrRange: 'rangeError(fn, s)' as an error: A *NumError IN A NEW BLOCK. (LAID: no walk: one application.) -/
theorem Tryz.strconv_toError_range (fn s : ByteArray) (base bits : Int) (ev : Value) (w : World) (hlim : s.size ≤ 281474976710656) (hv : w.cell? ⟨5, 0, none⟩ = some ev) (hev : ev = .nilIface ∨ ∃ te pe, ev = .iface te pe) :
    Calls Tryz.prog 155 #[.string fn, .string s, .int .i64 base, .int .i64 bits, .iface 239 (.int .i64 1)] w fun e w' => ∃ N, e = .returned (.iface 241 (.pointer (some ⟨N, 0, none⟩))) ∧ w.heap.size ≤ N ∧ w'.heap[N]? = some (.cells #[.string fn, .string s, ev] 257 (0, 0)) ∧ Below w.heap.size w w' := Any.strconv_toError_range Tryz.laysC245 fn s base bits ev w hlim hv hev
def Tryz.lays143_ren : Go.Shelf.Ren := ⟨fun | 143 => 113 | 219 => 153 | 217 => 156 | 225 => 167 | 224 => 184 | 267 => 185 | 266 => 161 | 314 => 206 | n => n, fun | 9 => 9 | 3 => 3 | 4 => 4 | 5 => 5 | 46 => 121 | 146 => 254 | 51 => 167 | n => n, fun | 1 => 0 | n => n⟩
theorem Tryz.lays143 : Go.Proofs.Lays.n143 Tryz.prog Tryz.lays143_ren := {
  mixed := by kernel_rfl
  f143 := Tryz.func113.trans (congrArg some (by kernel_rfl))
  f217 := Tryz.func156.trans (congrArg some (by kernel_rfl))
  f219 := Tryz.func153.trans (congrArg some (by kernel_rfl))
  f224 := Tryz.func184.trans (congrArg some (by kernel_rfl))
  f225 := Tryz.func167.trans (congrArg some (by kernel_rfl))
  f266 := Tryz.func161.trans (congrArg some (by kernel_rfl))
  f267 := Tryz.func185.trans (congrArg some (by kernel_rfl))
  f314 := Tryz.func206.trans (congrArg some (by kernel_rfl))
  t3 := Tryz.underlying3
  a3 := Tryz.isAgg3
  z3 := Tryz.sizeOf3
  v3 := Tryz.zeroValue3
  t4 := Tryz.underlying4
  a4 := Tryz.isAgg4
  z4 := Tryz.sizeOf4
  v4 := Tryz.zeroValue4
  t5 := Tryz.underlying5
  a5 := Tryz.isAgg5
  z5 := Tryz.sizeOf5
  v5 := Tryz.zeroValue5
  t9 := Tryz.underlying9
  a9 := Tryz.isAgg9
  z9 := Tryz.sizeOf9
  v9 := Tryz.zeroValue9
  t46 := Tryz.underlying121
  a46 := Tryz.isAgg121
  z46 := Tryz.sizeOf121
  v46 := Tryz.zeroValue121
  t51 := Tryz.underlying167
  a51 := Tryz.isAgg167
  z51 := Tryz.sizeOf167
  v51 := Tryz.zeroValue167
  t146 := Tryz.underlying254
  a146 := Tryz.isAgg254
  z146 := Tryz.sizeOf254
  v146 := Tryz.zeroValue254
  g1 := by kernel_rfl }
open Go.RowKit Go.Lib in
/-- strings.Index: "Index returns the index of the first instance of substr in s, or -1 if substr is not present in s.": IT RETURNS 'Lib.index s substr'; the world is as it was. (LAID: no walk: one application.) -/
theorem Tryz.strings_Index (s sub : ByteArray) (m : Int) (w : World) (hs : s.size < 4294967281) (hm : w.cell? ⟨0, 0, none⟩ = some (.int .i64 m)) :
    Calls Tryz.prog 113 #[.string s, .string sub] w fun e w' => e = .returned (.int .i64 (Lib.index s.data.toList sub.data.toList)) ∧ w' = w := Any.strings_Index Tryz.lays143 s sub m w hs hm
def Tryz.lays145_ren : Go.Shelf.Ren := ⟨fun | 145 => 124 | 220 => 168 | 219 => 153 | 217 => 156 | 225 => 167 | 224 => 184 | 267 => 185 | 266 => 161 | 314 => 206 | n => n, fun | 9 => 9 | 4 => 4 | 59 => 189 | 3 => 3 | 5 => 5 | 46 => 121 | 146 => 254 | 51 => 167 | n => n, fun | 1 => 0 | n => n⟩
theorem Tryz.lays145 : Go.Proofs.Lays.n145 Tryz.prog Tryz.lays145_ren := {
  mixed := by kernel_rfl
  f145 := Tryz.func124.trans (congrArg some (by kernel_rfl))
  f217 := Tryz.func156.trans (congrArg some (by kernel_rfl))
  f219 := Tryz.func153.trans (congrArg some (by kernel_rfl))
  f220 := Tryz.func168.trans (congrArg some (by kernel_rfl))
  f224 := Tryz.func184.trans (congrArg some (by kernel_rfl))
  f225 := Tryz.func167.trans (congrArg some (by kernel_rfl))
  f266 := Tryz.func161.trans (congrArg some (by kernel_rfl))
  f267 := Tryz.func185.trans (congrArg some (by kernel_rfl))
  f314 := Tryz.func206.trans (congrArg some (by kernel_rfl))
  t3 := Tryz.underlying3
  a3 := Tryz.isAgg3
  z3 := Tryz.sizeOf3
  v3 := Tryz.zeroValue3
  t4 := Tryz.underlying4
  a4 := Tryz.isAgg4
  z4 := Tryz.sizeOf4
  v4 := Tryz.zeroValue4
  t5 := Tryz.underlying5
  a5 := Tryz.isAgg5
  z5 := Tryz.sizeOf5
  v5 := Tryz.zeroValue5
  t9 := Tryz.underlying9
  a9 := Tryz.isAgg9
  z9 := Tryz.sizeOf9
  v9 := Tryz.zeroValue9
  t46 := Tryz.underlying121
  a46 := Tryz.isAgg121
  z46 := Tryz.sizeOf121
  v46 := Tryz.zeroValue121
  t51 := Tryz.underlying167
  a51 := Tryz.isAgg167
  z51 := Tryz.sizeOf167
  v51 := Tryz.zeroValue167
  t59 := Tryz.underlying189
  a59 := Tryz.isAgg189
  z59 := Tryz.sizeOf189
  v59 := Tryz.zeroValue189
  t146 := Tryz.underlying254
  a146 := Tryz.isAgg254
  z146 := Tryz.sizeOf254
  v146 := Tryz.zeroValue254
  g1 := by kernel_rfl }
open Go.RowKit Go.Lib in
/-- strings.Cut: "Cut slices s around the first instance of sep, returning the text before and after sep. The found result reports whether sep appears in s. If sep does not appear in s, cut returns s, "", false.": IT RETURNS 'Lib.cut s sep'; the world is as it was but for the count of draws. (LAID: no walk: one application.) -/
theorem Tryz.strings_Cut (s sep : ByteArray) (m : Int) (w : World) (hs : s.size < 4294967281) (hm : w.cell? ⟨0, 0, none⟩ = some (.int .i64 m)) :
    Calls Tryz.prog 124 #[.string s, .string sep] w fun e w' => e = .returned (.tuple #[.string ⟨(Lib.cut s.data.toList sep.data.toList).1.toArray⟩, .string ⟨(Lib.cut s.data.toList sep.data.toList).2.1.toArray⟩, .bool (Lib.cut s.data.toList sep.data.toList).2.2]) ∧ ∃ n, w' = w.drewN n := Any.strings_Cut Tryz.lays145 s sep m w hs hm
def Tryz.lays99_ren : Go.Shelf.Ren := ⟨fun | 99 => 65 | 206 => 106 | n => n, fun | 9 => 9 | 4 => 4 | 3 => 3 | n => n, fun | n => n⟩
theorem Tryz.lays99 : Go.Proofs.Lays.n99 Tryz.prog Tryz.lays99_ren := {
  mixed := by kernel_rfl
  f99 := Tryz.func65.trans (congrArg some (by kernel_rfl))
  f206 := Tryz.func106.trans (congrArg some (by kernel_rfl))
  t3 := Tryz.underlying3
  a3 := Tryz.isAgg3
  z3 := Tryz.sizeOf3
  v3 := Tryz.zeroValue3
  t4 := Tryz.underlying4
  a4 := Tryz.isAgg4
  z4 := Tryz.sizeOf4
  v4 := Tryz.zeroValue4
  t9 := Tryz.underlying9
  a9 := Tryz.isAgg9
  z9 := Tryz.sizeOf9
  v9 := Tryz.zeroValue9 }
open Go.RowKit Go.Lib in
/-- strings.HasPrefix: "HasPrefix reports whether the string s begins with prefix.": IT RETURNS 'Lib.hasPrefix s prefix'; the world is as it was. (LAID: no walk: one application.) -/
theorem Tryz.strings_HasPrefix (s p : ByteArray) (w : World) :
    Calls Tryz.prog 65 #[.string s, .string p] w fun e w' => e = .returned (.bool (Lib.hasPrefix s.data.toList p.data.toList)) ∧ w' = w := Any.strings_HasPrefix Tryz.lays99 s p w
def Tryz.lays146_ren : Go.Shelf.Ren := ⟨fun | 146 => 64 | 221 => 105 | 268 => 141 | 138 => 142 | 143 => 113 | 195 => 177 | 197 => 112 | 218 => 178 | 219 => 153 | 260 => 152 | 217 => 156 | 225 => 167 | 224 => 184 | 267 => 185 | 266 => 161 | 314 => 206 | n => n, fun | 9 => 9 | 31 => 23 | 3 => 3 | 4 => 4 | 0 => 0 | 105 => 179 | 21 => 21 | 5 => 5 | 46 => 121 | 119 => 234 | 139 => 237 | 138 => 236 | 146 => 254 | 51 => 167 | n => n, fun | 1 => 0 | 3 => 1 | 4 => 2 | n => n⟩
theorem Tryz.lays146 : Go.Proofs.Lays.n146 Tryz.prog Tryz.lays146_ren := {
  mixed := by kernel_rfl
  f138 := Tryz.func142.trans (congrArg some (by kernel_rfl))
  f143 := Tryz.func113.trans (congrArg some (by kernel_rfl))
  f146 := Tryz.func64.trans (congrArg some (by kernel_rfl))
  f195 := Tryz.func177.trans (congrArg some (by kernel_rfl))
  f197 := Tryz.func112.trans (congrArg some (by kernel_rfl))
  f217 := Tryz.func156.trans (congrArg some (by kernel_rfl))
  f218 := Tryz.func178.trans (congrArg some (by kernel_rfl))
  f219 := Tryz.func153.trans (congrArg some (by kernel_rfl))
  f221 := Tryz.func105.trans (congrArg some (by kernel_rfl))
  f224 := Tryz.func184.trans (congrArg some (by kernel_rfl))
  f225 := Tryz.func167.trans (congrArg some (by kernel_rfl))
  f260 := Tryz.func152.trans (congrArg some (by kernel_rfl))
  f266 := Tryz.func161.trans (congrArg some (by kernel_rfl))
  f267 := Tryz.func185.trans (congrArg some (by kernel_rfl))
  f268 := Tryz.func141.trans (congrArg some (by kernel_rfl))
  f314 := Tryz.func206.trans (congrArg some (by kernel_rfl))
  t0 := Tryz.underlying0
  a0 := Tryz.isAgg0
  z0 := Tryz.sizeOf0
  v0 := Tryz.zeroValue0
  t3 := Tryz.underlying3
  a3 := Tryz.isAgg3
  z3 := Tryz.sizeOf3
  v3 := Tryz.zeroValue3
  t4 := Tryz.underlying4
  a4 := Tryz.isAgg4
  z4 := Tryz.sizeOf4
  v4 := Tryz.zeroValue4
  t5 := Tryz.underlying5
  a5 := Tryz.isAgg5
  z5 := Tryz.sizeOf5
  v5 := Tryz.zeroValue5
  t9 := Tryz.underlying9
  a9 := Tryz.isAgg9
  z9 := Tryz.sizeOf9
  v9 := Tryz.zeroValue9
  t21 := Tryz.underlying21
  a21 := Tryz.isAgg21
  z21 := Tryz.sizeOf21
  v21 := Tryz.zeroValue21
  t31 := Tryz.underlying23
  a31 := Tryz.isAgg23
  z31 := Tryz.sizeOf23
  v31 := Tryz.zeroValue23
  t46 := Tryz.underlying121
  a46 := Tryz.isAgg121
  z46 := Tryz.sizeOf121
  v46 := Tryz.zeroValue121
  t51 := Tryz.underlying167
  a51 := Tryz.isAgg167
  z51 := Tryz.sizeOf167
  v51 := Tryz.zeroValue167
  t105 := Tryz.underlying179
  a105 := Tryz.isAgg179
  z105 := Tryz.sizeOf179
  v105 := Tryz.zeroValue179
  t119 := Tryz.underlying234
  a119 := Tryz.isAgg234
  z119 := Tryz.sizeOf234
  t138 := Tryz.underlying236
  a138 := Tryz.isAgg236
  z138 := Tryz.sizeOf236
  v138 := Tryz.zeroValue236
  t139 := Tryz.underlying237
  a139 := Tryz.isAgg237
  z139 := Tryz.sizeOf237
  v139 := Tryz.zeroValue237
  t146 := Tryz.underlying254
  a146 := Tryz.isAgg254
  z146 := Tryz.sizeOf254
  v146 := Tryz.zeroValue254
  g1 := by kernel_rfl
  g3 := by kernel_rfl
  g4 := by kernel_rfl }
open Go.RowKit Go.Lib in
/-- strings.Split. (LAID: no walk: one application.) -/
theorem Tryz.strings_Split (s sep : ByteArray) (m : Int) (w : World) (hs : s.size < 4294967281) (hm : w.cell? ⟨0, 0, none⟩ = some (.int .i64 m)) (h1 : 1 ≤ sep.size) :
    Calls Tryz.prog 64 #[.string s, .string sep] w fun e w' =>
      e = .returned (.slice (some ⟨w.heap.size, 0, none⟩) (Lib.countB s sep + 1) (Lib.countB s sep + 1)) ∧ w' = w.alloc (.cells ((Lib.splitB sep 0 (Lib.countB s sep) s).map Value.string).toArray 9) := Any.strings_Split Tryz.lays146 (by kernel_rfl) s sep m w hs hm h1
def Tryz.lays110_ren : Go.Shelf.Ren := ⟨fun | 110 => 33 | 109 => 63 | n => n, fun | 31 => 23 | 9 => 9 | 4 => 4 | 3 => 3 | 0 => 0 | n => n, fun | n => n⟩
theorem Tryz.lays110 : Go.Proofs.Lays.n110 Tryz.prog Tryz.lays110_ren := {
  mixed := by kernel_rfl
  f109 := Tryz.func63.trans (congrArg some (by kernel_rfl))
  f110 := Tryz.func33.trans (congrArg some (by kernel_rfl))
  t0 := Tryz.underlying0
  a0 := Tryz.isAgg0
  z0 := Tryz.sizeOf0
  v0 := Tryz.zeroValue0
  t3 := Tryz.underlying3
  a3 := Tryz.isAgg3
  z3 := Tryz.sizeOf3
  v3 := Tryz.zeroValue3
  t4 := Tryz.underlying4
  a4 := Tryz.isAgg4
  z4 := Tryz.sizeOf4
  v4 := Tryz.zeroValue4
  t9 := Tryz.underlying9
  a9 := Tryz.isAgg9
  z9 := Tryz.sizeOf9
  v9 := Tryz.zeroValue9
  t31 := Tryz.underlying23
  a31 := Tryz.isAgg23
  z31 := Tryz.sizeOf23
  v31 := Tryz.zeroValue23 }
open Go.Lib in
/-- slices.Contains at []string: "Contains reports whether v is present in s.": IT RETURNS 'Lib.containsS (the elements) v', which is true just where v is among them ('Lib.containsS_iff'); the world is as it was. ITS CALLEE slices.Index IS MET BY ITS OWN CONTRACT OFF THE SHELF (lay that first): no loop is walked here. (LAID: no walk: one application.) -/
theorem Tryz.slices_Contains_string (b off n c : Nat) (zs : List ByteArray) (x : ByteArray) (w : World) (hz : n ≤ zs.length) (hbig : n ≤ 9223372036854775807) (hc : ∀ j, j < zs.length → w.cell? ⟨b, off + j, none⟩ = some (.string (zs.getD j ByteArray.empty))) :
    Calls Tryz.prog 33 #[.slice (some ⟨b, off, none⟩) n c, .string x] w fun e w' => e = .returned (.bool (Lib.containsS (zs.take n) x)) ∧ w' = w := Any.slices_Contains_string Tryz.lays110 b off n c zs x w hz hbig hc
open Go.Lib in
/-- The same at a slice of length 0, a nil one too. (LAID: no walk: one application.) -/
theorem Tryz.slices_Contains_string_empty (a : Option Addr) (c : Nat) (x : ByteArray) (w : World) :
    Calls Tryz.prog 33 #[.slice a 0 c, .string x] w fun e w' => e = .returned (.bool false) ∧ w' = w := Any.slices_Contains_string_empty Tryz.lays110 a c x w
end Go.Proofs
/- The library's functions, restated over byte lists: what each call computes, and that nothing that lay before has turned. -/
namespace Go.Proofs.YtnaeeklnlddcaaaGreatDoor
open Go.RowKit

theorem dropWhile_le (p : UInt8 → Bool) (l : List UInt8) : (l.dropWhile p).length ≤ l.length := (List.dropWhile_sublist p).length_le
theorem trimLS_le (l c : List UInt8) : (Lib.trimLeftS l c).length ≤ l.length := dropWhile_le _ _
theorem trimRS_le (l c : List UInt8) : (Lib.trimRightS l c).length ≤ l.length := by
  unfold Lib.trimRightS
  have := dropWhile_le (c.contains ·) l.reverse
  simpa using this
theorem trimS_le (l c : List UInt8) : (Lib.trimS l c).length ≤ l.length := Nat.le_trans (trimLS_le _ _) (trimRS_le _ _)

theorem Trim_c (s : ByteArray) (w : World) (hs : s.size ≤ 9223372036854775807) :
    Calls Tryz.prog 107 #[.string s, .string ⟨#[32, 9]⟩] w fun e w' => ∃ r, e = .returned (.string r) ∧ r.size ≤ s.size ∧ Hid (L r = trimB (L s)) ∧ Below w.heap.size w w' :=
  (Any.strings_Trim_laid Tryz.lays160 (by kernel_rfl) s ⟨#[32, 9]⟩ w hs (by decide) (ascii_of_all (by decide))).mono fun e w' ⟨he, hb⟩ =>
    ⟨_, he, by rw [← L_length, L_mk, ← L_length]; exact trimS_le _ _, L_mk _, hb⟩
theorem CutPrefix_c (s p : ByteArray) (w : World) :
    Calls Tryz.prog 86 #[.string s, .string p] w fun e w' => ∃ r, e = .returned (.tuple #[.string r, .bool (Lib.hasPrefix (L s) (L p))]) ∧ r.size ≤ s.size ∧ Hid (L r = Lib.trimPrefix (L s) (L p)) ∧ w = w' :=
  (Tryz.strings_CutPrefix s p w).mono fun e w' ⟨he, hb⟩ =>
    ⟨_, he, by rw [← L_length, L_mk, ← L_length]; unfold Lib.trimPrefix L; split <;> simp, L_mk _, hb.symm⟩

end Go.Proofs.YtnaeeklnlddcaaaGreatDoor
/- What of the program's variables the walks lean on; the library's functions, restated over byte lists. -/
namespace Go.Proofs.YtnaeeklnlddcaaaGreatDoor.Vex
open Go Go.RowKit

/-- What a walk may know of the program's variables. -/
class HasMax (g : GI) : Prop where
  ok : ∀ w, g.G w → ∃ m, w.cell? ⟨0, 0, none⟩ = some (.int .i64 m)
/-- A variable of an interface's type. -/
def ErrCell (g : Nat) (w : World) : Prop := ∃ ev, w.cell? ⟨g, 0, none⟩ = some ev ∧ (ev = .nilIface ∨ ∃ te pe, ev = .iface te pe)
theorem ErrCell.keep {g : Nat} {w w' : World} (h : ErrCell g w) (hb : w'.heap[g]? = w.heap[g]?) : ErrCell g w' := by
  obtain ⟨ev, h1, h2⟩ := h
  exact ⟨ev, (World.cell?_of_block hb).trans h1, h2⟩
theorem ErrCell.lt {g : Nat} {w : World} (h : ErrCell g w) : g < w.heap.size := by
  obtain ⟨ev, h1, _⟩ := h
  exact World.block_lt_of_cell? _ _ h1
class HasErr (g : GI) : Prop where
  ok : ∀ w, g.G w → ErrCell 4 w ∧ ErrCell 5 w
class HasPow (g : GI) : Prop where
  ok : ∀ w, g.G w → Lib.TabIs Tryz.prog w "internal/strconv.uint64pow10" .u64 Lib.pow10Tab
def gB : GI where
  n := 0 + 1
  G w := ∃ m, w.cell? ⟨0, 0, none⟩ = some (.int .i64 m)
  keep w w' h := fun ⟨m, h2⟩ => ⟨m, (World.cell?_of_block (h 0 (by omega))).trans h2⟩
  size w := fun ⟨_, h⟩ => World.block_lt_of_cell? _ _ h
instance : HasMax gB := ⟨fun _ h => h⟩
def gE : GI where
  n := max (0 + 1) (max (4 + 1) (5 + 1))
  G w := gB.G w ∧ ErrCell 4 w ∧ ErrCell 5 w
  keep w w' h := fun ⟨h1, h2, h3⟩ => ⟨gB.keep w w' (fun k hk => h k (Nat.lt_of_lt_of_le hk (Nat.le_max_left _ _))) h1, h2.keep (h _ (by omega)), h3.keep (h _ (by omega))⟩
  size w := fun ⟨h1, h2, h3⟩ => Nat.max_le.2 ⟨gB.size w h1, Nat.max_le.2 ⟨h2.lt, h3.lt⟩⟩
instance : HasMax gE := ⟨fun _ h => h.1⟩
instance : HasErr gE := ⟨fun _ h => h.2⟩
theorem pow_name : Tryz.prog.globalNamed "internal/strconv.uint64pow10" = some 3 := by kernel_rfl
def gP : GI where
  n := max gE.n (3 + 1)
  G w := gE.G w ∧ Lib.TabIs Tryz.prog w "internal/strconv.uint64pow10" .u64 Lib.pow10Tab
  keep w w' h := fun ⟨h1, h2⟩ => ⟨gE.keep w w' (fun k hk => h k (Nat.lt_of_lt_of_le hk (Nat.le_max_left _ _))) h1, by
    unfold Lib.TabIs World.var? at *
    rw [pow_name] at *
    simp only [Option.bind_some] at *
    rw [h 3 (by omega)]
    exact h2⟩
  size w := fun ⟨h1, h2⟩ => Nat.max_le.2 ⟨gE.size w h1, by
    have := h2.cell pow_name 0 (by decide)
    exact World.block_lt_of_cell? _ _ this⟩
instance : HasMax gP := ⟨fun _ h => h.1.1⟩
instance : HasErr gP := ⟨fun _ h => h.1.2⟩
instance : HasPow gP := ⟨fun _ h => h.2⟩
set_option linter.unusedSectionVars false
variable {gI : GI} [HasMax gI]
abbrev qs (n : Nat) : List (Nat × Bool) := (List.range n).map fun i => (i, true)
theorem b2b {w w' : World} (h : Below w.heap.size w w') : R w w' := h

theorem Trim_f (l : List UInt8) (hs : l.length ≤ 9223372036854775807) : Fn Tryz.prog gI 107 [str l, str [32, 9]] (str (trimB l)) :=
  ⟨callable Tryz.func107 rfl (by kernel_rfl), fun w _ => (Trim_c ⟨⟨l⟩⟩ w hs).mono fun e w' ⟨r, he, _, hr, hb⟩ => ⟨by rw [he, str_L]; exact congrArg (fun x => Ending.returned (str x)) hr.out, hb⟩⟩
theorem IndexByte_f (l : List UInt8) (x : Int) : Fn Tryz.prog gI 115 [str l, .int .u8 x] (.int .i64 (Lib.indexByte l x.toNat.toUInt8)) :=
  ⟨callable Tryz.func115 rfl (by kernel_rfl), fun w _ => (Tryz.strings_IndexByte ⟨⟨l⟩⟩ x w).mono fun _ _ ⟨he, hw⟩ => ⟨he, by rw [hw]; exact R.refl _⟩⟩
theorem Index_f (l p : List UInt8) (hs : l.length < 4294967281) : Fn Tryz.prog gI 113 [str l, str p] (.int .i64 (Lib.index l p)) :=
  ⟨callable Tryz.func113 rfl (by kernel_rfl), fun w hG => by
    obtain ⟨m, hm⟩ := HasMax.ok w hG
    exact (Tryz.strings_Index ⟨⟨l⟩⟩ ⟨⟨p⟩⟩ m w hs hm).mono fun _ _ ⟨he, hw⟩ => ⟨he, by rw [hw]; exact R.refl _⟩⟩
theorem Cut_f (l p : List UInt8) (hs : l.length < 4294967281) : Fn Tryz.prog gI 124 [str l, str p] (.tuple #[str (Lib.cut l p).1, str (Lib.cut l p).2.1, .bool (Lib.cut l p).2.2]) :=
  ⟨callable Tryz.func124 rfl (by kernel_rfl), fun w hG => by
    obtain ⟨m, hm⟩ := HasMax.ok w hG
    exact (Tryz.strings_Cut ⟨⟨l⟩⟩ ⟨⟨p⟩⟩ m w hs hm).mono fun _ _ ⟨he, n, hw⟩ => ⟨he, by rw [hw]; exact ⟨rfl, rfl, rfl, Nat.le_refl _, fun _ _ => rfl⟩⟩⟩
end Go.Proofs.YtnaeeklnlddcaaaGreatDoor.Vex
/- Plain definitions on fields, as byte lists: tokens, values, small letters, lines. No program in sight. -/
namespace Go.Proofs.YtnaeeklnlddcaaaGreatDoor

def smallI (x : Int) : Bool := (decide (97 ≤ x) && decide (x ≤ 122)) || (decide (48 ≤ x) && decide (x ≤ 57))
def greatI (x : Int) : Bool := decide (65 ≤ x) && decide (x ≤ 90)
def marksL : List UInt8 := [33, 35, 36, 37, 38, 39, 42, 43, 45, 46, 94, 95, 96, 124, 126]
def markI (x : Int) : Bool := marksL.any fun m => ((m.toNat : Nat) : Int) == x
def tokI (x : Int) : Bool := smallI x || greatI x || markI x
def tokB (x : UInt8) : Bool := tokI x.toNat
def valI (x : Int) : Bool := (decide (32 ≤ x) && x != 127) || x == 9
def valB (x : UInt8) : Bool := valI x.toNat
def tokenOf (l : List UInt8) : Bool := !l.isEmpty && l.all tokB
def valueOf (l : List UInt8) : Bool := (trimB l == l) && l.all valB
def lowI (x : Int) : Int := if greatI x then x + 32 else x
def lowB (x : UInt8) : UInt8 := if greatI x.toNat then x + 32 else x
def smallOf (l : List UInt8) : List UInt8 := l.map lowB
def fieldOK (n v : List UInt8) : Bool := decide (n.length ≤ 4096) && (decide (v.length ≤ 4096) && (tokenOf n && ((smallOf n == n) && valueOf v)))
def fieldE (n v : List UInt8) : Int := if fieldOK n v then 0 else 3
/-- What stands ahead of the first colon, what behind it, and whether there is one. -/
def cutC : List UInt8 → List UInt8 × List UInt8 × Bool
  | [] => ([], [], false)
  | x :: r => if x.toNat = 58 then ([], r, true) else (x :: (cutC r).1, (cutC r).2.1, (cutC r).2.2)
def parseOK (l : List UInt8) : Bool := decide (l.length ≤ 4096) && ((cutC l).2.2 && fieldOK (smallOf (cutC l).1) (trimB (cutC l).2.1))
def parseE (l : List UInt8) : Int := if parseOK l then 0 else 3
def parseN (l : List UInt8) : List UInt8 := if parseOK l then smallOf (cutC l).1 else []
def parseV (l : List UInt8) : List UInt8 := if parseOK l then trimB (cutC l).2.1 else []
def lineOf (n v : List UInt8) : List UInt8 := if fieldOK n v then n ++ [58, 32] ++ v else []

theorem lowB_toNat (x : UInt8) : (((lowB x).toNat : Nat) : Int) = lowI x.toNat := by
  unfold lowB lowI
  split
  · rename_i h
    simp [greatI] at h
    have h1 : x.toNat + 32 < 256 := by omega
    rw [UInt8.toNat_add]
    simp only [UInt8.reduceToNat]
    rw [Nat.mod_eq_of_lt (by omega)]
    omega
  · rfl
theorem smallOf_length (l : List UInt8) : (smallOf l).length = l.length := by simp [smallOf]
end Go.Proofs.YtnaeeklnlddcaaaGreatDoor
/- The program's functions on fields: small, great, all, Token, Value, Small. -/
namespace Go.Proofs.YtnaeeklnlddcaaaGreatDoor
open Go.RowKit

theorem small_c (x : Int) (w : World) : Calls Tryz.prog 158 #[.int .u8 x] w fun e w' => e = .returned (.bool (smallI x)) ∧ w = w' := by
  go_enter Tryz.func158, Tryz.ntmps158
  go_wp2
  all_goals go_ret
  all_goals refine ⟨ret_bool ?_, rfl⟩
  all_goals first | (simp [smallI, *]; done) | (rw [Bool.eq_iff_iff]; simp [smallI, *]; done) | (rw [Bool.eq_iff_iff]; simp [smallI, *]; omega) | (rw [Bool.eq_iff_iff]; simp [smallI] at *; omega)
theorem great_c (x : Int) (w : World) : Calls Tryz.prog 159 #[.int .u8 x] w fun e w' => e = .returned (.bool (greatI x)) ∧ w = w' := by
  go_enter Tryz.func159, Tryz.ntmps159
  go_wp2
  all_goals go_ret
  all_goals refine ⟨ret_bool ?_, rfl⟩
  all_goals first | (simp [greatI, *]; done) | (rw [Bool.eq_iff_iff]; simp [greatI, *]; done) | (rw [Bool.eq_iff_iff]; simp [greatI, *]; omega) | (rw [Bool.eq_iff_iff]; simp [greatI] at *; omega)
theorem Value1_c (x : Int) (w : World) : Calls Tryz.prog 131 #[.int .u8 x] w fun e w' => e = .returned (.bool (valI x)) ∧ w = w' := by
  go_enter Tryz.func131, Tryz.ntmps131
  go_wp2
  all_goals go_ret
  all_goals refine ⟨ret_bool ?_, rfl⟩
  all_goals first | (simp [valI, *]; done) | (rw [Bool.eq_iff_iff]; simp [valI, *]; done) | (rw [Bool.eq_iff_iff]; simp [valI, *]; omega) | (rw [Bool.eq_iff_iff]; simp [valI] at *; omega)
theorem IndexByte_c (s : ByteArray) (c : Int) (w : World) : Calls Tryz.prog 115 #[.string s, .int .u8 c] w fun e w' => e = .returned (.int .i64 (Lib.indexByte (L s) c.toNat.toUInt8)) ∧ w = w' :=
  (Tryz.strings_IndexByte s c w).mono fun _ _ ⟨he, hw⟩ => ⟨he, hw.symm⟩
theorem marks_index (x : Int) (h0 : 0 ≤ x) (h1 : x ≤ 255) : decide (0 ≤ Lib.indexByte marksL x.toNat.toUInt8) = markI x := by
  have : ∀ n : Fin 256, decide (0 ≤ Lib.indexByte marksL n.val.toUInt8) = markI (n.val : Int) := by decide +kernel
  have h := this ⟨x.toNat, by omega⟩
  simpa [show ((x.toNat : Nat) : Int) = x from by omega] using h
theorem Token1_c (x : Int) (w : World) (h0 : 0 ≤ x) (h1 : x ≤ 255) : Calls Tryz.prog 157 #[.int .u8 x] w fun e w' => e = .returned (.bool (tokI x)) ∧ w = w' := by
  have hm := Lib.hid (marks_index x h0 h1)
  have CI := fun w => Lib.hid (IndexByte_c ⟨#[33, 35, 36, 37, 38, 39, 42, 43, 45, 46, 94, 95, 96, 124, 126]⟩ x w)
  obtain ⟨I, hI⟩ : ∃ I : Int, Lib.indexByte marksL x.toNat.toUInt8 = I := ⟨_, rfl⟩
  rw [hI] at hm
  have CI' : ∀ w, Hid (Calls Tryz.prog 115 #[.string ⟨#[33, 35, 36, 37, 38, 39, 42, 43, 45, 46, 94, 95, 96, 124, 126]⟩, .int .u8 x] w fun e w' => e = .returned (.int .i64 I) ∧ w = w') := fun w => by rw [← hI]; exact CI w
  clear CI hI
  cases hs : smallI x
  · cases hg : greatI x
    · go_enter Tryz.func157, Tryz.ntmps157
      go_wp2_with (first
        | (go_at_call 158; refine (small_c _ _).mono ?_; rintro e w1 ⟨rfl, rfl⟩)
        | (go_at_call 159; refine (great_c _ _).mono ?_; rintro e w1 ⟨rfl, rfl⟩)
        | (go_at_call 115; refine (CI' _).out.mono ?_; rintro e w1 ⟨rfl, rfl⟩))
      go_ret
      exact ⟨ret_bool (by rw [tokI, hs, hg, ← hm.out]; rfl), rfl⟩
    · go_enter Tryz.func157, Tryz.ntmps157
      go_wp2_with (first
        | (go_at_call 158; refine (small_c _ _).mono ?_; rintro e w1 ⟨rfl, rfl⟩)
        | (go_at_call 159; refine (great_c _ _).mono ?_; rintro e w1 ⟨rfl, rfl⟩))
      go_ret
      exact ⟨ret_bool (by rw [tokI, hs, hg]; rfl), rfl⟩
  · go_enter Tryz.func157, Tryz.ntmps157
    go_wp2_with (first
      | (go_at_call 158; refine (small_c _ _).mono ?_; rintro e w1 ⟨rfl, rfl⟩)
      | (go_at_call 159; refine (great_c _ _).mono ?_; rintro e w1 ⟨rfl, rfl⟩))
    go_ret
    exact ⟨ret_bool (by rw [tokI, hs]; rfl), rfl⟩

theorem u8_range (x : UInt8) : 0 ≤ ((x.toNat : Nat) : Int) ∧ ((x.toNat : Nat) : Int) ≤ 255 := by have := x.toNat_lt; omega
/-- A text all of whose bytes are tested. -/
theorem all_tok (s : ByteArray) (w : World) (hs : s.size ≤ 1000000000000) :
    Calls Tryz.prog 130 #[.string s, .func (.func 157) #[] #[]] w fun e w' => e = .returned (.bool ((L s).all tokB)) ∧ w = w' := by
  go_enter Tryz.func130, Tryz.ntmps130
  go_wp2_with fail
  go_loop [8] (fun i => ∃ k : Nat, k ≤ s.size ∧ i = .int .i64 k ∧ Hid ((L s).all tokB = ((L s).drop k).all tokB)) (fun i => s.size - (intOf i).toNat)
  case atStart => exact ⟨0, Nat.zero_le _, rfl, rfl⟩
  case round =>
    obtain ⟨k, hk, rfl, hI⟩ := hrel
    by_cases hlt : k < s.size
    · have hd := Lib.hid (L_drop s k hlt)
      cases hq : tokI s[k].toNat
      · have HQ : Hid (tokB s[k] = false) := hq
        go_wp2_with (go_at_call 157; refine (Token1_c _ _ (u8_range _).1 (u8_range _).2).mono ?_; rintro e w1 ⟨rfl, rfl⟩)
        go_ret
        refine ⟨ret_bool ?_, rfl⟩
        rw [hI.out, hd.out, List.all_cons, HQ.out]; rfl
      · have HQ : Hid (tokB s[k] = true) := hq
        go_wp2_with (go_at_call 157; refine (Token1_c _ _ (u8_range _).1 (u8_range _).2).mono ?_; rintro e w1 ⟨rfl, rfl⟩)
        go_round
        case rel => exact ⟨k + 1, by omega, by go_num, by show _ = _; rw [hI.out, hd.out, List.all_cons, HQ.out]; rfl⟩
        case measure => simp [intOf]; omega
    · go_wp2_with fail
      go_ret
      refine ⟨ret_bool ?_, rfl⟩
      rw [hI.out, List.drop_eq_nil_of_le (by rw [L_length]; omega)]
      rfl
theorem all_val (s : ByteArray) (w : World) (hs : s.size ≤ 1000000000000) :
    Calls Tryz.prog 130 #[.string s, .func (.func 131) #[] #[]] w fun e w' => e = .returned (.bool ((L s).all valB)) ∧ w = w' := by
  go_enter Tryz.func130, Tryz.ntmps130
  go_wp2_with fail
  go_loop [8] (fun i => ∃ k : Nat, k ≤ s.size ∧ i = .int .i64 k ∧ Hid ((L s).all valB = ((L s).drop k).all valB)) (fun i => s.size - (intOf i).toNat)
  case atStart => exact ⟨0, Nat.zero_le _, rfl, rfl⟩
  case round =>
    obtain ⟨k, hk, rfl, hI⟩ := hrel
    by_cases hlt : k < s.size
    · have hd := Lib.hid (L_drop s k hlt)
      cases hq : valI s[k].toNat
      · have HQ : Hid (valB s[k] = false) := hq
        go_wp2_with (go_at_call 131; refine (Value1_c _ _).mono ?_; rintro e w1 ⟨rfl, rfl⟩)
        go_ret
        refine ⟨ret_bool ?_, rfl⟩
        rw [hI.out, hd.out, List.all_cons, HQ.out]; rfl
      · have HQ : Hid (valB s[k] = true) := hq
        go_wp2_with (go_at_call 131; refine (Value1_c _ _).mono ?_; rintro e w1 ⟨rfl, rfl⟩)
        go_round
        case rel => exact ⟨k + 1, by omega, by go_num, by show _ = _; rw [hI.out, hd.out, List.all_cons, HQ.out]; rfl⟩
        case measure => simp [intOf]; omega
    · go_wp2_with fail
      go_ret
      refine ⟨ret_bool ?_, rfl⟩
      rw [hI.out, List.drop_eq_nil_of_le (by rw [L_length]; omega)]
      rfl
end Go.Proofs.YtnaeeklnlddcaaaGreatDoor
/- A row of bytes in memory: a string made bytes, written, and made a string again. -/
namespace Go.Proofs.YtnaeeklnlddcaaaGreatDoor
open Go.RowKit

/-- Block b holds these bytes from its head on, and they may be written. -/
def Row8 (w : World) (b : Nat) (l : List UInt8) : Prop :=
  b < w.heap.size ∧ ∀ (j : Nat) (x : UInt8), l[j]? = some x → w.cell? ⟨b, j, none⟩ = some (.int .u8 (x.toNat : Int)) ∧ w.frozen? ⟨b, j, none⟩ = false

theorem conv_bytes {P : Program} (w : World) (src dst e : TypeId) (s : ByteArray) {u : TypeDesc} (hs : P.underlying src = some u) (hd : P.underlying dst = some (.slice e)) (he : P.underlying e = some (.int .u8)) :
    ∃ cap w1, (convert src dst (.string s)).run P w = .ok (.slice (some ⟨w.heap.size, 0, none⟩) s.size cap) w1 ∧ Row8 w1 w.heap.size (L s) ∧ Below w.heap.size w w1 := by
  refine ⟨_, _, Lib.run_convert_string_bytes w src dst e s hs hd he, ⟨by rw [Lib.bytesWorld_size]; omega, fun j x hx => ⟨?_, ?_⟩⟩, ?_⟩
  · obtain ⟨hj, hv⟩ := List.getElem?_eq_some_iff.1 hx
    rw [L_length] at hj
    rw [Lib.bytesWorld_cell w e s j hj]
    have : s.data.toList.getD j 0 = x := by
      rw [List.getD_eq_getElem?_getD, show s.data.toList[j]? = some x from hx]; rfl
    rw [this]
  · have hj : j < s.size := by rw [← L_length]; exact (List.getElem?_eq_some_iff.1 hx).1
    have hc : s.size ≤ (Lib.bytesCells w e s).size := by simp [Lib.bytesCells]
    simp only [World.frozen?, Lib.bytesWorld_at_new]
    simp
    omega
  · exact ⟨rfl, rfl, rfl, by rw [Lib.bytesWorld_size]; omega, fun k hk => Lib.bytesWorld_at_old w e s k hk⟩

theorem Row8.set {w : World} {b : Nat} {l : List UInt8} (h : Row8 w b l) (j : Nat) (x : UInt8) (hj : j < l.length) : Row8 (w.setCell ⟨b, j, none⟩ (.int .u8 (x.toNat : Int))) b (l.set j x) := by
  refine ⟨by simpa [World.setCell] using h.1, fun i y hy => ?_⟩
  rw [World.frozen?_setCell]
  by_cases hij : j = i
  · subst hij
    rw [List.getElem?_set_self hj] at hy
    obtain rfl := Option.some.inj hy
    obtain ⟨hc, hf⟩ := h.2 j l[j] (List.getElem?_eq_getElem hj)
    exact ⟨World.cell?_setCell_same' _ _ _ (by rw [hc]; rfl), hf⟩
  · rw [List.getElem?_set_ne hij] at hy
    obtain ⟨hc, hf⟩ := h.2 i y hy
    exact ⟨(World.cell?_setCell_other _ _ _ _ (fun e => hij (by injection e))).trans hc, hf⟩
theorem Row8.back {P : Program} {w : World} {b : Nat} {l : List UInt8} (h : Row8 w b l) (src dst e : TypeId) (cap n : Nat) (hn : n = l.length) (hs : P.underlying src = some (.slice e)) (he : P.underlying e = some (.int .u8)) (hd : P.underlying dst = some .string) :
    (convert src dst (.slice (some ⟨b, 0, none⟩) n cap)).run P w = .ok (.string ⟨l.toArray⟩) w := by
  subst hn
  exact run_convert_bytes_back w src dst e ⟨b, 0, none⟩ cap l hs he hd fun j hj => by
    have := (h.2 j l[j] (List.getElem?_eq_getElem hj)).1
    rw [Addr.add_lit]
    simpa using this
theorem Row8.below {w w' : World} {b : Nat} {l : List UInt8} (h : Row8 w b l) {B : Nat} (hb : Below B w w') (hB : b < B) : Row8 w' b l :=
  ⟨Nat.lt_of_lt_of_le h.1 hb.size, fun j x hx => ⟨(hb.cell (p := ⟨b, j, none⟩) hB).trans (h.2 j x hx).1, (hb.frozen (p := ⟨b, j, none⟩) hB).trans (h.2 j x hx).2⟩⟩
end Go.Proofs.YtnaeeklnlddcaaaGreatDoor
/- The program's functions on fields: Token, Value, Small. -/
namespace Go.Proofs.YtnaeeklnlddcaaaGreatDoor
open Go.RowKit

theorem Token_c (s : ByteArray) (w : World) (hs : s.size ≤ 1000000000000) : Calls Tryz.prog 116 #[.string s] w fun e w' => e = .returned (.bool (tokenOf (L s))) ∧ w = w' := by
  cases h0 : s.toList.isEmpty
  · have HT : Hid (tokenOf (L s) = (L s).all tokB) := by show _ = _; rw [toList_L] at h0; simp [tokenOf, h0]
    go_enter Tryz.func116, Tryz.ntmps116
    go_wp2_with (go_at_call 130; refine (all_tok _ _ hs).mono ?_; rintro e w1 ⟨rfl, rfl⟩)
    go_ret
    exact ⟨ret_bool HT.out.symm, rfl⟩
  · have HT : Hid (tokenOf (L s) = false) := by show _ = _; rw [toList_L] at h0; simp [tokenOf, h0]
    go_enter Tryz.func116, Tryz.ntmps116
    go_wp2_with (go_at_call 130; refine (all_tok _ _ hs).mono ?_; rintro e w1 ⟨rfl, rfl⟩)
    go_ret
    exact ⟨ret_bool HT.out.symm, rfl⟩

theorem Value_c (s : ByteArray) (w : World) (hs : s.size ≤ 1000000000000) : Calls Tryz.prog 87 #[.string s] w fun e w' => e = .returned (.bool (valueOf (L s))) ∧ Below w.heap.size w w' := by
  go_enter Tryz.func87, Tryz.ntmps87
  go_wp2_with fail
  refine (Trim_c s _ (by omega)).mono ?_
  rintro e w1 ⟨t, rfl, htz, ht, hb⟩
  cases hq : (t.toList == s.toList)
  · have HT : Hid (valueOf (L s) = false) := by
      show _ = _
      rw [toList_L, toList_L, ht.out] at hq
      rw [valueOf, hq]; rfl
    go_wp2_with (go_at_call 130; refine (all_val _ _ hs).mono ?_; rintro e w1 ⟨rfl, rfl⟩)
    go_ret
    exact ⟨ret_bool HT.out.symm, hb⟩
  · have HT : Hid (valueOf (L s) = (L s).all valB) := by
      show _ = _
      rw [toList_L, toList_L, ht.out] at hq
      rw [valueOf, hq]; rfl
    go_wp2_with (go_at_call 130; refine (all_val _ _ hs).mono ?_; rintro e w1 ⟨rfl, rfl⟩)
    go_ret
    exact ⟨ret_bool HT.out.symm, hb⟩

/-- A text of which the first k letters have been made small. -/
def mid (l : List UInt8) (k : Nat) : List UInt8 := smallOf (l.take k) ++ l.drop k
theorem mid_length (l : List UInt8) (k : Nat) : (mid l k).length = l.length := by
  unfold mid smallOf; simp; omega
theorem mid_at (s : ByteArray) (k : Nat) (h : k < s.size) : (mid (L s) k)[k]? = some s[k] := by
  unfold mid
  have h1 : (smallOf ((L s).take k)).length = k := by rw [smallOf_length, List.length_take, L_length]; omega
  rw [List.getElem?_append_right (by omega), h1, Nat.sub_self, List.getElem?_drop, Nat.add_zero, L_get? s k h]
theorem mid_next (s : ByteArray) (k : Nat) (h : k < s.size) : mid (L s) (k + 1) = (mid (L s) k).set k (lowB s[k]) := by
  have h1 : (smallOf ((L s).take k)).length = k := by rw [smallOf_length, List.length_take, L_length]; omega
  unfold mid
  rw [L_take s k h, L_drop s k h, List.set_append_right _ _ (by omega), h1, Nat.sub_self, List.set_cons_zero]
  simp [smallOf]
theorem mid_same (s : ByteArray) (k : Nat) (h : k < s.size) (hg : greatI s[k].toNat = false) : mid (L s) (k + 1) = mid (L s) k := by
  have h1 : (smallOf ((L s).take k)).length = k := by rw [smallOf_length, List.length_take, L_length]; omega
  unfold mid
  rw [L_take s k h, L_drop s k h]
  simp [smallOf, lowB, hg]

set_option maxRecDepth 100000 in
set_option maxHeartbeats 1000000 in
theorem Small_c (s : ByteArray) (w : World) (hs : s.size ≤ 1000000000000) : Calls Tryz.prog 117 #[.string s] w fun e w' => ∃ r, e = .returned (.string r) ∧ r.size ≤ s.size ∧ Hid (L r = smallOf (L s)) ∧ Below w.heap.size w w' := by
  obtain ⟨cap, w1, hconv, hrow, hbel⟩ := conv_bytes w 9 51 5 s Tryz.underlying9 Tryz.underlying51 Tryz.underlying5
  go_enter Tryz.func117, Tryz.ntmps117
  go_wp2_with fail
  clear hconv
  have HR := Lib.hid hrow; clear hrow
  go_loopw [10] (fun i wr => ∃ k : Nat, k ≤ s.size ∧ i = .int .i64 k ∧ Hid (Row8 wr w.heap.size (mid (L s) k)) ∧ Below w.heap.size w wr) (fun i _ => s.size - (intOf i).toNat)
  case atStart => exact ⟨0, Nat.zero_le _, rfl, HR.out, hbel⟩
  case round =>
    obtain ⟨k, hk, rfl, hR, hb⟩ := hrel
    by_cases hlt : k < s.size
    · have hcell := (hR.out.2 k _ (mid_at s k hlt)).1
      have hfroz := (hR.out.2 k _ (mid_at s k hlt)).2
      cases hg : greatI s[k].toNat
      · have HM := Lib.hid (mid_same s k hlt hg)
        go_wp2_with (go_at_call 159; refine (great_c _ _).mono ?_; rintro e w1 ⟨rfl, rfl⟩)
        go_roundw
        case rel => exact ⟨k + 1, by omega, by go_num, by show Row8 _ _ _; rw [HM.out]; exact hR.out, hb⟩
        case measure => simp [intOf]; omega
      · have HM := Lib.hid (mid_next s k hlt)
        have hg2 : 65 ≤ ((s[k].toNat : Nat) : Int) ∧ ((s[k].toNat : Nat) : Int) ≤ 90 := by simpa [greatI] using hg
        obtain ⟨hg3, hg4⟩ := hg2
        have HV : Hid (((lowB s[k]).toNat : Int) = ((s[k].toNat : Nat) : Int) + 97 - 65) := by show _ = _; rw [lowB_toNat, lowI, if_pos hg]; omega
        go_wp2_with (go_at_call 159; refine (great_c _ _).mono ?_; rintro e w1 ⟨rfl, rfl⟩)
        go_roundw
        case rel => exact ⟨k + 1, by omega, by go_num, by
          show Row8 _ _ _
          rw [HM.out, ← HV.out]
          exact hR.out.set k _ (by rw [mid_length, L_length]; exact hlt), hb.setCell (p := ⟨w.heap.size, k, none⟩) (Nat.le_refl _) _⟩
        case measure => simp [intOf]; omega
    · have hbk := hR.out.back 51 9 5 cap s.size (by rw [mid_length, L_length]) Tryz.underlying51 Tryz.underlying5 Tryz.underlying9
      have HK : Hid (mid (L s) k = smallOf (L s)) := by
        show _ = _
        unfold mid
        rw [List.take_of_length_le (by rw [L_length]; omega), List.drop_eq_nil_of_le (by rw [L_length]; omega), List.append_nil]
      go_wp2_with fail
      go_ret
      exact ⟨_, rfl, by rw [← L_length, L_mk, mid_length, L_length]; exact Nat.le_refl _, by show _ = _; rw [L_mk, HK.out], hb⟩
end Go.Proofs.YtnaeeklnlddcaaaGreatDoor
/- Plain facts on fields: what a value is, by its ends; the cut at a colon. -/
namespace Go.Proofs.YtnaeeklnlddcaaaGreatDoor

theorem trimLB_short (l : List UInt8) : (trimLB l).length ≤ l.length := trimLB_le l
theorem trimRB_short (l : List UInt8) : (trimRB l).length ≤ l.length := by
  unfold trimRB Lib.trimRightS
  have := (List.dropWhile_sublist (([32, 9] : List UInt8).contains ·) (l := l.reverse)).length_le
  simpa using this
/-- A text is its own trimmed one just where it is empty, or no blank stands at an end. -/
theorem trimB_self (x : UInt8) (l : List UInt8) (m : List UInt8) (y : UInt8) (h : x :: l = m ++ [y]) : (trimB (x :: l) == x :: l) = (!blankB x && !blankB y) := by
  rw [Bool.eq_iff_iff]
  simp only [beq_iff_eq, Bool.and_eq_true, Bool.not_eq_true']
  rw [trimB_eq]
  constructor
  · intro he
    cases hx : blankB x
    · refine ⟨rfl, ?_⟩
      cases hy : blankB y
      · rfl
      · rw [trimLB_other x l hx, h, trimRB_blank y m hy] at he
        have := trimRB_short m
        rw [he] at this
        simp at this
        omega
    · rw [trimLB_blank x l hx] at he
      have h1 := trimRB_short (trimLB l)
      have h2 := trimLB_short l
      rw [he] at h1
      simp at h1
      omega
  · intro ⟨hx, hy⟩
    rw [trimLB_other x l hx, h, trimRB_other y m hy]
theorem valueOf_nil : valueOf [] = true := rfl
theorem valueOf_ends (x : UInt8) (l m : List UInt8) (y : UInt8) (h : x :: l = m ++ [y]) : valueOf (x :: l) = ((x :: l).all valB && (!blankB x && !blankB y)) := by
  unfold valueOf
  rw [trimB_self x l m y h, Bool.and_comm]
/-! The cut at a colon. -/
theorem index_colon (x : UInt8) (l : List UInt8) : Lib.index (x :: l) [58] = if x.toNat = 58 then 0 else (if Lib.index l [58] = -1 then -1 else Lib.index l [58] + 1) := by
  rw [Lib.index]
  by_cases hx : x.toNat = 58
  · have hx' : x = 58 := b8 (n := 58) (by decide) hx
    subst hx'
    simp
  · have hx' : ¬ (58 : UInt8) = x := fun h => hx (by rw [← h]; rfl)
    rw [if_neg (by simp [hx']), if_neg hx]
    simp only [beq_iff_eq]
theorem cut_colon : ∀ l : List UInt8, Lib.cut l [58] = cutC l
  | [] => rfl
  | x :: l => by
    have ih := cut_colon l
    have hge := Lib.index_ge l [58]
    unfold Lib.cut at ih ⊢
    rw [index_colon, cutC]
    by_cases hx : x.toNat = 58
    · simp [hx]
    · rw [if_neg hx, if_neg hx]
      by_cases hi : Lib.index l [58] = -1
      · rw [if_pos hi]
        rw [hi] at ih
        simp only [show ¬ (0 : Int) ≤ -1 by omega, if_false] at ih ⊢
        rw [← ih]
      · rw [if_neg hi]
        have h0 : 0 ≤ Lib.index l [58] := by omega
        rw [if_pos h0] at ih
        rw [if_pos (by omega), ← ih]
        have e : (Lib.index l [58] + 1).toNat = (Lib.index l [58]).toNat + 1 := by omega
        rw [e]
        simp only [List.take_succ_cons, List.length_cons, List.length_nil, Nat.zero_add, List.drop_succ_cons]
theorem cutC_at : ∀ (l : List UInt8) (k : Nat), (∀ j (x : UInt8), j < k → l[j]? = some x → ¬ x.toNat = 58) → ∀ x, l[k]? = some x → x.toNat = 58 → cutC l = (l.take k, l.drop (k + 1), true)
  | [], k, _, x, hx, _ => by simp at hx
  | y :: l, 0, _, x, hx, h58 => by
    simp at hx
    subst hx
    rw [cutC, if_pos h58]
    rfl
  | y :: l, k + 1, h, x, hx, h58 => by
    have hy := h 0 y (by omega) rfl
    have ih := cutC_at l k (fun j x hj hx => h (j + 1) x (by omega) (by simpa using hx)) x (by simpa using hx) h58
    rw [cutC, if_neg hy, ih]
    rfl
theorem cutC_none : ∀ (l : List UInt8), (∀ x ∈ l, ¬ x.toNat = 58) → (cutC l).2.2 = false
  | [], _ => rfl
  | y :: l, h => by
    rw [cutC, if_neg (h y (by simp))]
    exact cutC_none l fun x hx => h x (by simp [hx])
end Go.Proofs.YtnaeeklnlddcaaaGreatDoor
/- Plain laws on fields: a field's line tells it. No program in sight. -/
namespace Go.Proofs.YtnaeeklnlddcaaaGreatDoor

theorem tok_no_colon (x : UInt8) (h : tokB x = true) : ¬ x.toNat = 58 := by
  intro h58
  have : x = 58 := b8 (n := 58) (by decide) h58
  subst this
  revert h
  decide
theorem cutC_token (n r : List UInt8) (h : n.all tokB = true) : cutC (n ++ 58 :: r) = (n, r, true) := by
  induction n with
  | nil => rw [List.nil_append, cutC, if_pos (by decide)]
  | cons x n ih =>
    rw [List.all_cons, Bool.and_eq_true] at h
    rw [List.cons_append, cutC, if_neg (tok_no_colon x h.1), ih h.2]
theorem fieldOK_parts {n v : List UInt8} (h : fieldOK n v = true) : n.length ≤ 4096 ∧ v.length ≤ 4096 ∧ tokenOf n = true ∧ smallOf n = n ∧ valueOf v = true := by
  unfold fieldOK at h
  simpa using h
theorem token_all {n : List UInt8} (h : tokenOf n = true) : n.all tokB = true := by
  unfold tokenOf at h
  rw [Bool.and_eq_true] at h
  exact h.2
theorem value_trim {v : List UInt8} (h : valueOf v = true) : trimB v = v := by
  unfold valueOf at h
  rw [Bool.and_eq_true, beq_iff_eq] at h
  exact h.1
theorem trimB_front (x : UInt8) (l : List UInt8) (h : blankB x = true) : trimB (x :: l) = trimB l := by rw [trimB_eq, trimB_eq, trimLB_blank x l h]
theorem trimB_back (x : UInt8) (l : List UInt8) (h : blankB x = true) : trimB (l ++ [x]) = trimB l := by
  unfold trimB Lib.trimS
  have : Lib.trimRightS (l ++ [x]) [32, 9] = Lib.trimRightS l [32, 9] := trimRB_blank x l h
  rw [this]
theorem trimB_blanks (k : Nat) (l : List UInt8) : trimB (List.replicate k 32 ++ l) = trimB l := by
  induction k with
  | zero => rfl
  | succ k ih => rw [List.replicate_succ, List.cons_append, trimB_front _ _ (by decide), ih]
/-- A line of a field, with blanks about its value, is read as that field. -/
theorem parse_line (n v l : List UInt8) (h : fieldOK n v = true) (hl : (n ++ 58 :: l).length ≤ 4096) (ht : trimB l = v) : parseOK (n ++ 58 :: l) = true ∧ parseN (n ++ 58 :: l) = n ∧ parseV (n ++ 58 :: l) = v := by
  obtain ⟨_, _, h3, h4, h5⟩ := fieldOK_parts h
  have hc := cutC_token n l (token_all h3)
  have hok : parseOK (n ++ 58 :: l) = true := by
    unfold parseOK
    rw [hc]
    simp only [Bool.and_eq_true, decide_eq_true_eq]
    exact ⟨hl, trivial, by rw [h4, ht]; exact h⟩
  refine ⟨hok, ?_, ?_⟩
  · unfold parseN; rw [if_pos hok, hc]; exact h4
  · unfold parseV; rw [if_pos hok, hc]; exact ht
theorem parse_plain (n v : List UInt8) (h : fieldOK n v = true) (hl : n.length + v.length ≤ 4000) : parseOK (lineOf n v) = true ∧ parseN (lineOf n v) = n ∧ parseV (lineOf n v) = v := by
  have e : lineOf n v = n ++ 58 :: (32 :: v) := by unfold lineOf; rw [if_pos h]; simp
  rw [e]
  exact parse_line n v _ h (by simp; omega) (by rw [trimB_front _ _ (by decide), value_trim (fieldOK_parts h).2.2.2.2])
theorem parse_wide (n v : List UInt8) (k : Nat) (h : fieldOK n v = true) (hl : n.length + v.length ≤ 4000) (hk : k ≤ 9) :
    parseOK (n ++ [58] ++ List.replicate k 32 ++ v ++ [9]) = true ∧ parseN (n ++ [58] ++ List.replicate k 32 ++ v ++ [9]) = n ∧ parseV (n ++ [58] ++ List.replicate k 32 ++ v ++ [9]) = v := by
  have e : n ++ [58] ++ List.replicate k 32 ++ v ++ [9] = n ++ 58 :: (List.replicate k 32 ++ (v ++ [9])) := by simp
  rw [e]
  refine parse_line n v _ h (by simp; omega) ?_
  rw [trimB_blanks, trimB_back _ _ (by decide), value_trim (fieldOK_parts h).2.2.2.2]
theorem cutC_length : ∀ l : List UInt8, (cutC l).1.length + (cutC l).2.1.length ≤ l.length
  | [] => by simp [cutC]
  | x :: l => by
    have ih := cutC_length l
    rw [cutC]
    split
    · simp
    · simp only [List.length_cons]; omega
theorem trimB_length (l : List UInt8) : (trimB l).length ≤ l.length := by
  rw [trimB_eq]
  exact Nat.le_trans (trimRB_short _) (trimLB_short _)
theorem parse_field {l : List UInt8} (h : parseOK l = true) : fieldOK (parseN l) (parseV l) = true ∧ (parseN l).length + (parseV l).length ≤ l.length := by
  have hN : parseN l = smallOf (cutC l).1 := by unfold parseN; rw [if_pos h]
  have hV : parseV l = trimB (cutC l).2.1 := by unfold parseV; rw [if_pos h]
  rw [hN, hV]
  constructor
  · unfold parseOK at h
    rw [Bool.and_eq_true, Bool.and_eq_true] at h
    exact h.2.2
  · have h1 := cutC_length l
    have h2 := trimB_length (cutC l).2.1
    rw [smallOf_length]
    omega
end Go.Proofs.YtnaeeklnlddcaaaGreatDoor
/- The program's functions on fields, reckoned. -/
namespace Go.Proofs.YtnaeeklnlddcaaaGreatDoor.Vex
open Go Go.RowKit
set_option maxRecDepth 100000
set_option linter.unusedSectionVars false
variable {gI : GI} [HasMax gI]

theorem small_f (x : Int) : Fn Tryz.prog gI 158 [.int .u8 x] (.bool (smallI x)) := by
  refine Fn.of tys_ok Tryz.func158 rfl (by kernel_rfl) rfl rfl ?_; intro w hG
  repeat' ((conv => whnf); first | (first | refine tk1 ?_ | refine tk2 ?_ | refine tk3 ?_ | refine tk12 (fun _ => ?_) | refine tk4 ?_ | refine tk5 ?_ | refine tk6 ?_ | refine tk7 ?_ | refine tk8 ?_ | refine tk9 ?_ | refine tk10 (fun _ _ => ?_) | refine tk11 (fun _ => ?_) | refine tk13 ?_ | refine tk14 ?_) | refine Cmp.cases (fun _ => ?_) (fun _ => ?_)); all_goals (conv => whnf)
  all_goals first | rfl | (refine congrArg Value.bool ?_; first | (simp [smallI, *]; done) | (rw [Bool.eq_iff_iff]; simp [smallI]; omega) | (rw [Bool.eq_iff_iff]; simp [smallI, *]; done) | (rw [Bool.eq_iff_iff]; simp [smallI, *]; omega))
theorem great_f (x : Int) : Fn Tryz.prog gI 159 [.int .u8 x] (.bool (greatI x)) := by
  refine Fn.of tys_ok Tryz.func159 rfl (by kernel_rfl) rfl rfl ?_; intro w hG
  repeat' ((conv => whnf); first | (first | refine tk1 ?_ | refine tk2 ?_ | refine tk3 ?_ | refine tk12 (fun _ => ?_) | refine tk4 ?_ | refine tk5 ?_ | refine tk6 ?_ | refine tk7 ?_ | refine tk8 ?_ | refine tk9 ?_ | refine tk10 (fun _ _ => ?_) | refine tk11 (fun _ => ?_) | refine tk13 ?_ | refine tk14 ?_) | refine Cmp.cases (fun _ => ?_) (fun _ => ?_)); all_goals (conv => whnf)
  all_goals first | rfl | (refine congrArg Value.bool ?_; first | (simp [greatI, *]; done) | (rw [Bool.eq_iff_iff]; simp [greatI]; omega) | (rw [Bool.eq_iff_iff]; simp [greatI, *]; done) | (rw [Bool.eq_iff_iff]; simp [greatI, *]; omega))
theorem Value1_f (x : Int) : Fn Tryz.prog gI 131 [.int .u8 x] (.bool (valI x)) := by
  refine Fn.of tys_ok Tryz.func131 rfl (by kernel_rfl) rfl rfl ?_; intro w hG
  repeat' ((conv => whnf); first | (first | refine tk1 ?_ | refine tk2 ?_ | refine tk3 ?_ | refine tk12 (fun _ => ?_) | refine tk4 ?_ | refine tk5 ?_ | refine tk6 ?_ | refine tk7 ?_ | refine tk8 ?_ | refine tk9 ?_ | refine tk10 (fun _ _ => ?_) | refine tk11 (fun _ => ?_) | refine tk13 ?_ | refine tk14 ?_) | refine Cmp.cases (fun _ => ?_) (fun _ => ?_)); all_goals (conv => whnf)
  all_goals first | rfl | (refine congrArg Value.bool ?_; first | (simp [valI, *]; done) | (rw [Bool.eq_iff_iff]; simp [valI]; omega) | (rw [Bool.eq_iff_iff]; simp [valI, *]; done) | (rw [Bool.eq_iff_iff]; simp [valI, *]; omega))
theorem Token1_f (x : Int) (h0 : 0 ≤ x) (h1 : x ≤ 255) : Fn Tryz.prog gI 157 [.int .u8 x] (.bool (tokI x)) := by
  have hm := marks_index x h0 h1
  refine Fn.of tys_ok Tryz.func157 rfl (by kernel_rfl) rfl rfl ?_; intro w hG
  (conv => whnf); repeat ((first | refine tk1 ?_ | refine tk2 ?_ | refine tk3 ?_ | refine tk12 (fun _ => ?_) | refine tk4 ?_ | refine tk5 ?_ | refine tk6 ?_ | refine tk7 ?_ | refine tk8 ?_ | refine tk9 ?_ | refine tk10 (fun _ _ => ?_) | refine tk11 (fun _ => ?_) | refine tk13 ?_ | refine tk14 ?_); (conv => whnf))
  refine CallK.fn (small_f _) ?_
  cases hs : smallI x
  · (conv => whnf); repeat ((first | refine tk1 ?_ | refine tk2 ?_ | refine tk3 ?_ | refine tk12 (fun _ => ?_) | refine tk4 ?_ | refine tk5 ?_ | refine tk6 ?_ | refine tk7 ?_ | refine tk8 ?_ | refine tk9 ?_ | refine tk10 (fun _ _ => ?_) | refine tk11 (fun _ => ?_) | refine tk13 ?_ | refine tk14 ?_); (conv => whnf))
    refine CallK.fn (great_f _) ?_
    cases hg : greatI x
    · (conv => whnf); repeat ((first | refine tk1 ?_ | refine tk2 ?_ | refine tk3 ?_ | refine tk12 (fun _ => ?_) | refine tk4 ?_ | refine tk5 ?_ | refine tk6 ?_ | refine tk7 ?_ | refine tk8 ?_ | refine tk9 ?_ | refine tk10 (fun _ _ => ?_) | refine tk11 (fun _ => ?_) | refine tk13 ?_ | refine tk14 ?_); (conv => whnf))
      refine CallK.fn (IndexByte_f _ _) ?_
      (conv => whnf); repeat ((first | refine tk1 ?_ | refine tk2 ?_ | refine tk3 ?_ | refine tk12 (fun _ => ?_) | refine tk4 ?_ | refine tk5 ?_ | refine tk6 ?_ | refine tk7 ?_ | refine tk8 ?_ | refine tk9 ?_ | refine tk10 (fun _ _ => ?_) | refine tk11 (fun _ => ?_) | refine tk13 ?_ | refine tk14 ?_); (conv => whnf))
      refine Cmp.of (markI x) (by rw [← hm]; simp [marksL]) ?_
      (conv => whnf); repeat ((first | refine tk1 ?_ | refine tk2 ?_ | refine tk3 ?_ | refine tk12 (fun _ => ?_) | refine tk4 ?_ | refine tk5 ?_ | refine tk6 ?_ | refine tk7 ?_ | refine tk8 ?_ | refine tk9 ?_ | refine tk10 (fun _ _ => ?_) | refine tk11 (fun _ => ?_) | refine tk13 ?_ | refine tk14 ?_); (conv => whnf))
      first | rfl | (refine congrArg Value.bool ?_; first | (simp [tokI, *]; done) | (rw [Bool.eq_iff_iff]; simp [tokI]; omega) | (rw [Bool.eq_iff_iff]; simp [tokI, *]; done) | (rw [Bool.eq_iff_iff]; simp [tokI, *]; omega))
    · (conv => whnf); repeat ((first | refine tk1 ?_ | refine tk2 ?_ | refine tk3 ?_ | refine tk12 (fun _ => ?_) | refine tk4 ?_ | refine tk5 ?_ | refine tk6 ?_ | refine tk7 ?_ | refine tk8 ?_ | refine tk9 ?_ | refine tk10 (fun _ _ => ?_) | refine tk11 (fun _ => ?_) | refine tk13 ?_ | refine tk14 ?_); (conv => whnf))
      first | rfl | (refine congrArg Value.bool ?_; first | (simp [tokI, *]; done) | (rw [Bool.eq_iff_iff]; simp [tokI]; omega) | (rw [Bool.eq_iff_iff]; simp [tokI, *]; done) | (rw [Bool.eq_iff_iff]; simp [tokI, *]; omega))
  · (conv => whnf); repeat ((first | refine tk1 ?_ | refine tk2 ?_ | refine tk3 ?_ | refine tk12 (fun _ => ?_) | refine tk4 ?_ | refine tk5 ?_ | refine tk6 ?_ | refine tk7 ?_ | refine tk8 ?_ | refine tk9 ?_ | refine tk10 (fun _ _ => ?_) | refine tk11 (fun _ => ?_) | refine tk13 ?_ | refine tk14 ?_); (conv => whnf))
    first | rfl | (refine congrArg Value.bool ?_; first | (simp [tokI, *]; done) | (rw [Bool.eq_iff_iff]; simp [tokI]; omega) | (rw [Bool.eq_iff_iff]; simp [tokI, *]; done) | (rw [Bool.eq_iff_iff]; simp [tokI, *]; omega))
theorem all_f (f : Nat) (p : Int → Bool) (hf : ∀ x, 0 ≤ x → x ≤ 255 → Fn Tryz.prog gI f [.int .u8 x] (.bool (p x))) (l : List UInt8) (hl : l.length ≤ 1000000000000) :
    Fn Tryz.prog gI 130 [str l, .func (.func f) #[] #[]] (.bool (l.all fun x => p x.toNat)) := by
  refine Fn.of tys_ok Tryz.func130 rfl (by kernel_rfl) rfl rfl ?_; intro w hG
  (conv => whnf); repeat ((first | refine tk1 ?_ | refine tk2 ?_ | refine tk3 ?_ | refine tk12 (fun _ => ?_) | refine tk4 ?_ | refine tk5 ?_ | refine tk6 ?_ | refine tk7 ?_ | refine tk8 ?_ | refine tk9 ?_ | refine tk10 (fun _ _ => ?_) | refine tk11 (fun _ => ?_) | refine tk13 ?_ | refine tk14 ?_); (conv => whnf))
  refine LoopS.lp tys_ok (fun k u => [str l, .func (.func f) #[] #[], u 2, u 3, u 4, u 5, u 6, .int .i64 l.length, .int .i64 (k : Nat), u 9, u 10, u 11, u 12, u 13, u 14, u 15, u 16, u 17]) (fun _ => [])
    (fun k => k ≤ l.length ∧ (l.all fun x => p x.toNat) = ((l.drop k).all fun x => p x.toNat)) (fun k => l.length - k) 0 ⟨Nat.zero_le _, rfl⟩ rfl (by repeat' (first | exact List.Sublist.refl _ | exact List.nil_sublist _ | apply List.Sublist.cons_cons | apply List.Sublist.cons)) ?_
  intro k u ⟨hk, hI⟩
  (conv => whnf); repeat ((first | refine tk1 ?_ | refine tk2 ?_ | refine tk3 ?_ | refine tk12 (fun _ => ?_) | refine tk4 ?_ | refine tk5 ?_ | refine tk6 ?_ | refine tk7 ?_ | refine tk8 ?_ | refine tk9 ?_ | refine tk10 (fun _ _ => ?_) | refine tk11 (fun _ => ?_) | refine tk13 ?_ | refine tk14 ?_); (conv => whnf))
  refine Cmp.cases (fun hlt => ?_) (fun hlt => ?_)
  · have hd : l.drop k = l[k]'(by omega) :: l.drop (k + 1) := List.drop_eq_getElem_cons (by omega)
    (conv => whnf); repeat ((first | refine tk1 ?_ | refine tk2 ?_ | refine tk3 ?_ | refine tk12 (fun _ => ?_) | refine tk4 ?_ | refine tk5 ?_ | refine tk6 ?_ | refine tk7 ?_ | refine tk8 ?_ | refine tk9 ?_ | refine tk10 (fun _ _ => ?_) | refine tk11 (fun _ => ?_) | refine tk13 ?_ | refine tk14 ?_); (conv => whnf))
    refine IdxS.at (l[k]'(by omega)) (List.getElem?_eq_getElem _) (by omega) ?_
    (conv => whnf); repeat ((first | refine tk1 ?_ | refine tk2 ?_ | refine tk3 ?_ | refine tk12 (fun _ => ?_) | refine tk4 ?_ | refine tk5 ?_ | refine tk6 ?_ | refine tk7 ?_ | refine tk8 ?_ | refine tk9 ?_ | refine tk10 (fun _ _ => ?_) | refine tk11 (fun _ => ?_) | refine tk13 ?_ | refine tk14 ?_); (conv => whnf))
    refine CallK.fn (hf _ (by omega) (by have := (l[k]'(by omega)).toNat_lt; omega)) ?_
    cases hq : p (l[k]'(by omega)).toNat
    · (conv => whnf); repeat ((first | refine tk1 ?_ | refine tk2 ?_ | refine tk3 ?_ | refine tk12 (fun _ => ?_) | refine tk4 ?_ | refine tk5 ?_ | refine tk6 ?_ | refine tk7 ?_ | refine tk8 ?_ | refine tk9 ?_ | refine tk10 (fun _ _ => ?_) | refine tk11 (fun _ => ?_) | refine tk13 ?_ | refine tk14 ?_); (conv => whnf))
      rw [hI, hd, List.all_cons, hq]; rfl
    · (conv => whnf); repeat ((first | refine tk1 ?_ | refine tk2 ?_ | refine tk3 ?_ | refine tk12 (fun _ => ?_) | refine tk4 ?_ | refine tk5 ?_ | refine tk6 ?_ | refine tk7 ?_ | refine tk8 ?_ | refine tk9 ?_ | refine tk10 (fun _ _ => ?_) | refine tk11 (fun _ => ?_) | refine tk13 ?_ | refine tk14 ?_); (conv => whnf))
      exact ⟨k + 1, ⟨by omega, by rw [hI, hd, List.all_cons, hq]; rfl⟩, rfl, (by repeat' (first | exact List.Sublist.refl _ | exact List.nil_sublist _ | apply List.Sublist.cons_cons | apply List.Sublist.cons)), by dsimp only; omega⟩
  · (conv => whnf); repeat ((first | refine tk1 ?_ | refine tk2 ?_ | refine tk3 ?_ | refine tk12 (fun _ => ?_) | refine tk4 ?_ | refine tk5 ?_ | refine tk6 ?_ | refine tk7 ?_ | refine tk8 ?_ | refine tk9 ?_ | refine tk10 (fun _ _ => ?_) | refine tk11 (fun _ => ?_) | refine tk13 ?_ | refine tk14 ?_); (conv => whnf))
    rw [hI, List.drop_eq_nil_of_le (by omega)]
    rfl
theorem Token_f (l : List UInt8) (hl : l.length ≤ 1000000000000) : Fn Tryz.prog gI 116 [str l] (.bool (tokenOf l)) := by
  refine Fn.of tys_ok Tryz.func116 rfl (by kernel_rfl) rfl rfl ?_; intro w hG
  (conv => whnf); repeat ((first | refine tk1 ?_ | refine tk2 ?_ | refine tk3 ?_ | refine tk12 (fun _ => ?_) | refine tk4 ?_ | refine tk5 ?_ | refine tk6 ?_ | refine tk7 ?_ | refine tk8 ?_ | refine tk9 ?_ | refine tk10 (fun _ _ => ?_) | refine tk11 (fun _ => ?_) | refine tk13 ?_ | refine tk14 ?_); (conv => whnf))
  refine Cmp.cases (fun h => ?_) (fun h => ?_)
  · (conv => whnf); repeat ((first | refine tk1 ?_ | refine tk2 ?_ | refine tk3 ?_ | refine tk12 (fun _ => ?_) | refine tk4 ?_ | refine tk5 ?_ | refine tk6 ?_ | refine tk7 ?_ | refine tk8 ?_ | refine tk9 ?_ | refine tk10 (fun _ _ => ?_) | refine tk11 (fun _ => ?_) | refine tk13 ?_ | refine tk14 ?_); (conv => whnf))
    refine CallK.fn (all_f _ tokI Token1_f l hl) ?_
    (conv => whnf); repeat ((first | refine tk1 ?_ | refine tk2 ?_ | refine tk3 ?_ | refine tk12 (fun _ => ?_) | refine tk4 ?_ | refine tk5 ?_ | refine tk6 ?_ | refine tk7 ?_ | refine tk8 ?_ | refine tk9 ?_ | refine tk10 (fun _ _ => ?_) | refine tk11 (fun _ => ?_) | refine tk13 ?_ | refine tk14 ?_); (conv => whnf))
    cases l with
    | nil => exact absurd rfl h
    | cons a r => rfl
  · (conv => whnf); repeat ((first | refine tk1 ?_ | refine tk2 ?_ | refine tk3 ?_ | refine tk12 (fun _ => ?_) | refine tk4 ?_ | refine tk5 ?_ | refine tk6 ?_ | refine tk7 ?_ | refine tk8 ?_ | refine tk9 ?_ | refine tk10 (fun _ _ => ?_) | refine tk11 (fun _ => ?_) | refine tk13 ?_ | refine tk14 ?_); (conv => whnf))
    obtain rfl : l = [] := by simpa using h
    rfl
theorem Value_f (l : List UInt8) (hl : l.length ≤ 1000000000000) : Fn Tryz.prog gI 87 [str l] (.bool (valueOf l)) := by
  refine Fn.of tys_ok Tryz.func87 rfl (by kernel_rfl) rfl rfl ?_; intro w hG
  (conv => whnf); repeat ((first | refine tk1 ?_ | refine tk2 ?_ | refine tk3 ?_ | refine tk12 (fun _ => ?_) | refine tk4 ?_ | refine tk5 ?_ | refine tk6 ?_ | refine tk7 ?_ | refine tk8 ?_ | refine tk9 ?_ | refine tk10 (fun _ _ => ?_) | refine tk11 (fun _ => ?_) | refine tk13 ?_ | refine tk14 ?_); (conv => whnf))
  refine CallK.fn (Trim_f l (by omega)) ?_
  (conv => whnf); repeat ((first | refine tk1 ?_ | refine tk2 ?_ | refine tk3 ?_ | refine tk12 (fun _ => ?_) | refine tk4 ?_ | refine tk5 ?_ | refine tk6 ?_ | refine tk7 ?_ | refine tk8 ?_ | refine tk9 ?_ | refine tk10 (fun _ _ => ?_) | refine tk11 (fun _ => ?_) | refine tk13 ?_ | refine tk14 ?_); (conv => whnf))
  refine Cmp.cases (fun h => ?_) (fun h => ?_)
  · (conv => whnf); repeat ((first | refine tk1 ?_ | refine tk2 ?_ | refine tk3 ?_ | refine tk12 (fun _ => ?_) | refine tk4 ?_ | refine tk5 ?_ | refine tk6 ?_ | refine tk7 ?_ | refine tk8 ?_ | refine tk9 ?_ | refine tk10 (fun _ _ => ?_) | refine tk11 (fun _ => ?_) | refine tk13 ?_ | refine tk14 ?_); (conv => whnf))
    refine CallK.fn (all_f _ valI (fun x _ _ => Value1_f x) l hl) ?_
    (conv => whnf); repeat ((first | refine tk1 ?_ | refine tk2 ?_ | refine tk3 ?_ | refine tk12 (fun _ => ?_) | refine tk4 ?_ | refine tk5 ?_ | refine tk6 ?_ | refine tk7 ?_ | refine tk8 ?_ | refine tk9 ?_ | refine tk10 (fun _ _ => ?_) | refine tk11 (fun _ => ?_) | refine tk13 ?_ | refine tk14 ?_); (conv => whnf))
    simp [valueOf, h]
    rfl
  · (conv => whnf); repeat ((first | refine tk1 ?_ | refine tk2 ?_ | refine tk3 ?_ | refine tk12 (fun _ => ?_) | refine tk4 ?_ | refine tk5 ?_ | refine tk6 ?_ | refine tk7 ?_ | refine tk8 ?_ | refine tk9 ?_ | refine tk10 (fun _ _ => ?_) | refine tk11 (fun _ => ?_) | refine tk13 ?_ | refine tk14 ?_); (conv => whnf))
    simp [valueOf, h]

/-- A text of which the first k letters have been made small. -/
theorem midl (l : List UInt8) (k : Nat) (h : k < l.length) : (mid l k)[k]? = some l[k] ∧ mid l (k + 1) = (mid l k).set k (lowB l[k]) :=
  ⟨mid_at ⟨⟨l⟩⟩ k h, mid_next ⟨⟨l⟩⟩ k h⟩
theorem byteV_map_set (l : List UInt8) (k : Nat) (x : UInt8) : (l.map byteV).set k (byteV x) = (l.set k x).map byteV := by rw [List.map_set]
theorem Small_f (l : List UInt8) (hl : l.length ≤ 140737488355328) : Fn Tryz.prog gI 117 [str l] (str (smallOf l)) := by
  refine Fn.of tys_ok Tryz.func117 rfl (by kernel_rfl) rfl rfl ?_; intro w hG
  (conv => whnf); repeat ((first | refine tk1 ?_ | refine tk2 ?_ | refine tk3 ?_ | refine tk12 (fun _ => ?_) | refine tk4 ?_ | refine tk5 ?_ | refine tk6 ?_ | refine tk7 ?_ | refine tk8 ?_ | refine tk9 ?_ | refine tk10 (fun _ _ => ?_) | refine tk11 (fun _ => ?_) | refine tk13 ?_ | refine tk14 ?_); (conv => whnf))
  rename_i b cp
  refine LoopS.lp tys_ok (fun k u => [u 0, u 1, u 2, .slice (some ⟨b, 0, none⟩) l.length cp, u 4, u 5, u 6, u 7, .slice (some ⟨b, 0, none⟩) l.length cp, .int .i64 l.length, .int .i64 (k : Nat), u 11, u 12, u 13, u 14, u 15, u 16, u 17, u 18, u 19, u 20, u 21, u 22, u 23, u 24, u 25])
    (fun k => [.row (.slice (some ⟨b, 0, none⟩) l.length cp) 5 1 l.length ((mid l k).map byteV)]) (fun k => k ≤ l.length) (fun k => l.length - k) 0 (Nat.zero_le _) rfl (by repeat' (first | exact List.Sublist.refl _ | exact List.nil_sublist _ | apply List.Sublist.cons_cons | apply List.Sublist.cons)) ?_
  intro k u hk
  (conv => whnf); repeat ((first | refine tk1 ?_ | refine tk2 ?_ | refine tk3 ?_ | refine tk12 (fun _ => ?_) | refine tk4 ?_ | refine tk5 ?_ | refine tk6 ?_ | refine tk7 ?_ | refine tk8 ?_ | refine tk9 ?_ | refine tk10 (fun _ _ => ?_) | refine tk11 (fun _ => ?_) | refine tk13 ?_ | refine tk14 ?_); (conv => whnf))
  refine Cmp.cases (fun hlt => ?_) (fun hlt => ?_)
  · have hlt' : k < l.length := by omega
    obtain ⟨m1, m2⟩ := midl l k hlt'
    (conv => whnf); repeat ((first | refine tk1 ?_ | refine tk2 ?_ | refine tk3 ?_ | refine tk12 (fun _ => ?_) | refine tk4 ?_ | refine tk5 ?_ | refine tk6 ?_ | refine tk7 ?_ | refine tk8 ?_ | refine tk9 ?_ | refine tk10 (fun _ _ => ?_) | refine tk11 (fun _ => ?_) | refine tk13 ?_ | refine tk14 ?_); (conv => whnf))
    refine IdxA.rd (by repeat' (first | exact RdS.here | apply RdS.skip)) (by simp [mid_length]; omega) (by omega) (by omega) ?_
    (conv => whnf); repeat ((first | refine tk1 ?_ | refine tk2 ?_ | refine tk3 ?_ | refine tk12 (fun _ => ?_) | refine tk4 ?_ | refine tk5 ?_ | refine tk6 ?_ | refine tk7 ?_ | refine tk8 ?_ | refine tk9 ?_ | refine tk10 (fun _ _ => ?_) | refine tk11 (fun _ => ?_) | refine tk13 ?_ | refine tk14 ?_); (conv => whnf))
    refine Ld.rd (by repeat' (first | exact RdS.here | apply RdS.skip)) (v := .int .u8 (l[k].toNat : Int)) (by simp [m1, byteV]) ?_
    (conv => whnf); repeat ((first | refine tk1 ?_ | refine tk2 ?_ | refine tk3 ?_ | refine tk12 (fun _ => ?_) | refine tk4 ?_ | refine tk5 ?_ | refine tk6 ?_ | refine tk7 ?_ | refine tk8 ?_ | refine tk9 ?_ | refine tk10 (fun _ _ => ?_) | refine tk11 (fun _ => ?_) | refine tk13 ?_ | refine tk14 ?_); (conv => whnf))
    refine CallK.fn (great_f _) ?_
    cases hq : greatI l[k].toNat
    · have m3 : mid l (k + 1) = mid l k := mid_same ⟨⟨l⟩⟩ k hlt' hq
      (conv => whnf); repeat ((first | refine tk1 ?_ | refine tk2 ?_ | refine tk3 ?_ | refine tk12 (fun _ => ?_) | refine tk4 ?_ | refine tk5 ?_ | refine tk6 ?_ | refine tk7 ?_ | refine tk8 ?_ | refine tk9 ?_ | refine tk10 (fun _ _ => ?_) | refine tk11 (fun _ => ?_) | refine tk13 ?_ | refine tk14 ?_); (conv => whnf))
      exact ⟨k + 1, by omega, rfl, by dsimp only; rw [m3]; exact List.Sublist.refl _, by dsimp only; omega⟩
    · have hg2 : 65 ≤ ((l[k].toNat : Nat) : Int) ∧ ((l[k].toNat : Nat) : Int) ≤ 90 := by simpa [greatI] using hq
      (conv => whnf); repeat ((first | refine tk1 ?_ | refine tk2 ?_ | refine tk3 ?_ | refine tk12 (fun _ => ?_) | refine tk4 ?_ | refine tk5 ?_ | refine tk6 ?_ | refine tk7 ?_ | refine tk8 ?_ | refine tk9 ?_ | refine tk10 (fun _ _ => ?_) | refine tk11 (fun _ => ?_) | refine tk13 ?_ | refine tk14 ?_); (conv => whnf))
      refine Ar.in8 (by omega) (by omega) ?_
      (conv => whnf); repeat ((first | refine tk1 ?_ | refine tk2 ?_ | refine tk3 ?_ | refine tk12 (fun _ => ?_) | refine tk4 ?_ | refine tk5 ?_ | refine tk6 ?_ | refine tk7 ?_ | refine tk8 ?_ | refine tk9 ?_ | refine tk10 (fun _ _ => ?_) | refine tk11 (fun _ => ?_) | refine tk13 ?_ | refine tk14 ?_); (conv => whnf))
      refine Ar.in8 (by omega) (by omega) ?_
      (conv => whnf); repeat ((first | refine tk1 ?_ | refine tk2 ?_ | refine tk3 ?_ | refine tk12 (fun _ => ?_) | refine tk4 ?_ | refine tk5 ?_ | refine tk6 ?_ | refine tk7 ?_ | refine tk8 ?_ | refine tk9 ?_ | refine tk10 (fun _ _ => ?_) | refine tk11 (fun _ => ?_) | refine tk13 ?_ | refine tk14 ?_); (conv => whnf))
      refine IdxA.rd (by repeat' (first | exact RdS.here | apply RdS.skip)) (by simp [mid_length]; omega) (by omega) (by omega) ?_
      (conv => whnf)
      have hv : (Value.int .u8 (((l[k].toNat : Nat) : Int) + 97 - 65)) = byteV (lowB l[k]) := by
        unfold byteV
        rw [lowB_toNat, lowI, if_pos hq]
        congr 1; omega
      rw [hv]
      refine Sto.row (by simp [mid_length]; omega) rfl ?_
      (conv => whnf); repeat ((first | refine tk1 ?_ | refine tk2 ?_ | refine tk3 ?_ | refine tk12 (fun _ => ?_) | refine tk4 ?_ | refine tk5 ?_ | refine tk6 ?_ | refine tk7 ?_ | refine tk8 ?_ | refine tk9 ?_ | refine tk10 (fun _ _ => ?_) | refine tk11 (fun _ => ?_) | refine tk13 ?_ | refine tk14 ?_); (conv => whnf))
      exact ⟨k + 1, by omega, rfl, by dsimp only; rw [m2, ← byteV_map_set, Int.toNat_natCast, Nat.mul_one]; exact List.Sublist.refl _, by dsimp only; omega⟩
  · have hk' : k = l.length := by omega
    subst hk'
    (conv => whnf); repeat ((first | refine tk1 ?_ | refine tk2 ?_ | refine tk3 ?_ | refine tk12 (fun _ => ?_) | refine tk4 ?_ | refine tk5 ?_ | refine tk6 ?_ | refine tk7 ?_ | refine tk8 ?_ | refine tk9 ?_ | refine tk10 (fun _ _ => ?_) | refine tk11 (fun _ => ?_) | refine tk13 ?_ | refine tk14 ?_); (conv => whnf))
    refine B2S.rd (by repeat' (first | exact RdS.here | apply RdS.skip)) (mid_length _ _) ?_
    (conv => whnf); repeat ((first | refine tk1 ?_ | refine tk2 ?_ | refine tk3 ?_ | refine tk12 (fun _ => ?_) | refine tk4 ?_ | refine tk5 ?_ | refine tk6 ?_ | refine tk7 ?_ | refine tk8 ?_ | refine tk9 ?_ | refine tk10 (fun _ _ => ?_) | refine tk11 (fun _ => ?_) | refine tk13 ?_ | refine tk14 ?_); (conv => whnf))
    unfold mid
    simp

theorem Check_f (n v : List UInt8) (hn : n.length ≤ 1000000000000) : Fn Tryz.prog gI 72 [.agg ⟨[str n, str v]⟩] (.int .i64 (fieldE n v)) := by
  refine Fn.of tys_ok Tryz.func72 rfl (by kernel_rfl) rfl rfl ?_; intro w hG
  (conv => whnf); repeat ((first | refine tk1 ?_ | refine tk2 ?_ | refine tk3 ?_ | refine tk12 (fun _ => ?_) | refine tk4 ?_ | refine tk5 ?_ | refine tk6 ?_ | refine tk7 ?_ | refine tk8 ?_ | refine tk9 ?_ | refine tk10 (fun _ _ => ?_) | refine tk11 (fun _ => ?_) | refine tk13 ?_ | refine tk14 ?_); (conv => whnf))
  refine DrawS.go (qs 30) tys_ok mixed (by kernel_rfl) ?_
  (conv => whnf); repeat ((first | refine tk1 ?_ | refine tk2 ?_ | refine tk3 ?_ | refine tk12 (fun _ => ?_) | refine tk4 ?_ | refine tk5 ?_ | refine tk6 ?_ | refine tk7 ?_ | refine tk8 ?_ | refine tk9 ?_ | refine tk10 (fun _ _ => ?_) | refine tk11 (fun _ => ?_) | refine tk13 ?_ | refine tk14 ?_); (conv => whnf))
  refine Cmp.cases (fun h1 => ?_) (fun h1 => ?_)
  · (conv => whnf); repeat ((first | refine tk1 ?_ | refine tk2 ?_ | refine tk3 ?_ | refine tk12 (fun _ => ?_) | refine tk4 ?_ | refine tk5 ?_ | refine tk6 ?_ | refine tk7 ?_ | refine tk8 ?_ | refine tk9 ?_ | refine tk10 (fun _ _ => ?_) | refine tk11 (fun _ => ?_) | refine tk13 ?_ | refine tk14 ?_); (conv => whnf))
    simp [fieldE, fieldOK]; omega
  (conv => whnf); repeat ((first | refine tk1 ?_ | refine tk2 ?_ | refine tk3 ?_ | refine tk12 (fun _ => ?_) | refine tk4 ?_ | refine tk5 ?_ | refine tk6 ?_ | refine tk7 ?_ | refine tk8 ?_ | refine tk9 ?_ | refine tk10 (fun _ _ => ?_) | refine tk11 (fun _ => ?_) | refine tk13 ?_ | refine tk14 ?_); (conv => whnf))
  refine Cmp.cases (fun h2 => ?_) (fun h2 => ?_)
  · (conv => whnf); repeat ((first | refine tk1 ?_ | refine tk2 ?_ | refine tk3 ?_ | refine tk12 (fun _ => ?_) | refine tk4 ?_ | refine tk5 ?_ | refine tk6 ?_ | refine tk7 ?_ | refine tk8 ?_ | refine tk9 ?_ | refine tk10 (fun _ _ => ?_) | refine tk11 (fun _ => ?_) | refine tk13 ?_ | refine tk14 ?_); (conv => whnf))
    simp [fieldE, fieldOK]; omega
  (conv => whnf); repeat ((first | refine tk1 ?_ | refine tk2 ?_ | refine tk3 ?_ | refine tk12 (fun _ => ?_) | refine tk4 ?_ | refine tk5 ?_ | refine tk6 ?_ | refine tk7 ?_ | refine tk8 ?_ | refine tk9 ?_ | refine tk10 (fun _ _ => ?_) | refine tk11 (fun _ => ?_) | refine tk13 ?_ | refine tk14 ?_); (conv => whnf))
  refine CallQ.fn (Token_f n (by omega)) ?_
  cases h3 : tokenOf n
  · (conv => whnf); repeat ((first | refine tk1 ?_ | refine tk2 ?_ | refine tk3 ?_ | refine tk12 (fun _ => ?_) | refine tk4 ?_ | refine tk5 ?_ | refine tk6 ?_ | refine tk7 ?_ | refine tk8 ?_ | refine tk9 ?_ | refine tk10 (fun _ _ => ?_) | refine tk11 (fun _ => ?_) | refine tk13 ?_ | refine tk14 ?_); (conv => whnf))
    simp [fieldE, fieldOK, h3]
  (conv => whnf); repeat ((first | refine tk1 ?_ | refine tk2 ?_ | refine tk3 ?_ | refine tk12 (fun _ => ?_) | refine tk4 ?_ | refine tk5 ?_ | refine tk6 ?_ | refine tk7 ?_ | refine tk8 ?_ | refine tk9 ?_ | refine tk10 (fun _ _ => ?_) | refine tk11 (fun _ => ?_) | refine tk13 ?_ | refine tk14 ?_); (conv => whnf))
  refine CallQ.fn (Small_f n (by omega)) ?_
  (conv => whnf); repeat ((first | refine tk1 ?_ | refine tk2 ?_ | refine tk3 ?_ | refine tk12 (fun _ => ?_) | refine tk4 ?_ | refine tk5 ?_ | refine tk6 ?_ | refine tk7 ?_ | refine tk8 ?_ | refine tk9 ?_ | refine tk10 (fun _ _ => ?_) | refine tk11 (fun _ => ?_) | refine tk13 ?_ | refine tk14 ?_); (conv => whnf))
  refine Cmp.cases (fun h4 => ?_) (fun h4 => ?_)
  · (conv => whnf); repeat ((first | refine tk1 ?_ | refine tk2 ?_ | refine tk3 ?_ | refine tk12 (fun _ => ?_) | refine tk4 ?_ | refine tk5 ?_ | refine tk6 ?_ | refine tk7 ?_ | refine tk8 ?_ | refine tk9 ?_ | refine tk10 (fun _ _ => ?_) | refine tk11 (fun _ => ?_) | refine tk13 ?_ | refine tk14 ?_); (conv => whnf))
    simp [fieldE, fieldOK, h4]
  (conv => whnf); repeat ((first | refine tk1 ?_ | refine tk2 ?_ | refine tk3 ?_ | refine tk12 (fun _ => ?_) | refine tk4 ?_ | refine tk5 ?_ | refine tk6 ?_ | refine tk7 ?_ | refine tk8 ?_ | refine tk9 ?_ | refine tk10 (fun _ _ => ?_) | refine tk11 (fun _ => ?_) | refine tk13 ?_ | refine tk14 ?_); (conv => whnf))
  refine CallQ.fn (Value_f v (by omega)) ?_
  have h4' : smallOf n = n := by simpa using h4
  cases h5 : valueOf v
  · (conv => whnf); repeat ((first | refine tk1 ?_ | refine tk2 ?_ | refine tk3 ?_ | refine tk12 (fun _ => ?_) | refine tk4 ?_ | refine tk5 ?_ | refine tk6 ?_ | refine tk7 ?_ | refine tk8 ?_ | refine tk9 ?_ | refine tk10 (fun _ _ => ?_) | refine tk11 (fun _ => ?_) | refine tk13 ?_ | refine tk14 ?_); (conv => whnf))
    simp [fieldE, fieldOK, h5]
  · (conv => whnf); repeat ((first | refine tk1 ?_ | refine tk2 ?_ | refine tk3 ?_ | refine tk12 (fun _ => ?_) | refine tk4 ?_ | refine tk5 ?_ | refine tk6 ?_ | refine tk7 ?_ | refine tk8 ?_ | refine tk9 ?_ | refine tk10 (fun _ _ => ?_) | refine tk11 (fun _ => ?_) | refine tk13 ?_ | refine tk14 ?_); (conv => whnf))
    have e1 : n.length ≤ 4096 := by omega
    have e2 : v.length ≤ 4096 := by omega
    simp [fieldE, fieldOK, h3, h4', h5, e1, e2]
end Go.Proofs.YtnaeeklnlddcaaaGreatDoor.Vex
/- The program's functions on fields, reckoned. -/
namespace Go.Proofs.YtnaeeklnlddcaaaGreatDoor.Vex
open Go Go.RowKit
set_option maxRecDepth 100000
set_option linter.unusedSectionVars false
variable {gI : GI} [HasMax gI]

theorem Parse_f (l : List UInt8) (hl : l.length < 4294967281) : Fn Tryz.prog gI 83 [str l] (.tuple #[.agg ⟨[str (parseN l), str (parseV l)]⟩, .int .i64 (parseE l)]) := by
  have hz := cutC_length l
  have ht := trimB_length (cutC l).2.1
  have hsm := smallOf_length (cutC l).1
  refine Fn.of tys_ok Tryz.func83 rfl (by kernel_rfl) rfl rfl ?_; intro w hG
  (conv => whnf); repeat ((first | refine tk1 ?_ | refine tk2 ?_ | refine tk3 ?_ | refine tk12 (fun _ => ?_) | refine tk4 ?_ | refine tk5 ?_ | refine tk6 ?_ | refine tk7 ?_ | refine tk8 ?_ | refine tk9 ?_ | refine tk10 (fun _ _ => ?_) | refine tk11 (fun _ => ?_) | refine tk13 ?_ | refine tk14 ?_); (conv => whnf))
  refine CallK.fn (Cut_f l [58] hl) ?_
  rw [cut_colon]
  (conv => whnf); repeat ((first | refine tk1 ?_ | refine tk2 ?_ | refine tk3 ?_ | refine tk12 (fun _ => ?_) | refine tk4 ?_ | refine tk5 ?_ | refine tk6 ?_ | refine tk7 ?_ | refine tk8 ?_ | refine tk9 ?_ | refine tk10 (fun _ _ => ?_) | refine tk11 (fun _ => ?_) | refine tk13 ?_ | refine tk14 ?_); (conv => whnf))
  refine CallK.fn (Small_f _ (by omega)) ?_
  (conv => whnf); repeat ((first | refine tk1 ?_ | refine tk2 ?_ | refine tk3 ?_ | refine tk12 (fun _ => ?_) | refine tk4 ?_ | refine tk5 ?_ | refine tk6 ?_ | refine tk7 ?_ | refine tk8 ?_ | refine tk9 ?_ | refine tk10 (fun _ _ => ?_) | refine tk11 (fun _ => ?_) | refine tk13 ?_ | refine tk14 ?_); (conv => whnf))
  refine CallK.fn (Trim_f _ (by omega)) ?_
  (conv => whnf); repeat ((first | refine tk1 ?_ | refine tk2 ?_ | refine tk3 ?_ | refine tk12 (fun _ => ?_) | refine tk4 ?_ | refine tk5 ?_ | refine tk6 ?_ | refine tk7 ?_ | refine tk8 ?_ | refine tk9 ?_ | refine tk10 (fun _ _ => ?_) | refine tk11 (fun _ => ?_) | refine tk13 ?_ | refine tk14 ?_); (conv => whnf))
  refine Cmp.cases (fun h1 => ?_) (fun h1 => ?_)
  · (conv => whnf); repeat ((first | refine tk1 ?_ | refine tk2 ?_ | refine tk3 ?_ | refine tk12 (fun _ => ?_) | refine tk4 ?_ | refine tk5 ?_ | refine tk6 ?_ | refine tk7 ?_ | refine tk8 ?_ | refine tk9 ?_ | refine tk10 (fun _ _ => ?_) | refine tk11 (fun _ => ?_) | refine tk13 ?_ | refine tk14 ?_); (conv => whnf))
    simp [parseN, parseV, parseE, parseOK]; omega
  cases h2 : (cutC l).2.2
  · (conv => whnf); repeat ((first | refine tk1 ?_ | refine tk2 ?_ | refine tk3 ?_ | refine tk12 (fun _ => ?_) | refine tk4 ?_ | refine tk5 ?_ | refine tk6 ?_ | refine tk7 ?_ | refine tk8 ?_ | refine tk9 ?_ | refine tk10 (fun _ _ => ?_) | refine tk11 (fun _ => ?_) | refine tk13 ?_ | refine tk14 ?_); (conv => whnf))
    simp [parseN, parseV, parseE, parseOK, h2]
  (conv => whnf); repeat ((first | refine tk1 ?_ | refine tk2 ?_ | refine tk3 ?_ | refine tk12 (fun _ => ?_) | refine tk4 ?_ | refine tk5 ?_ | refine tk6 ?_ | refine tk7 ?_ | refine tk8 ?_ | refine tk9 ?_ | refine tk10 (fun _ _ => ?_) | refine tk11 (fun _ => ?_) | refine tk13 ?_ | refine tk14 ?_); (conv => whnf))
  refine CallK.fn (Check_f _ _ (by omega)) ?_
  have e1 : l.length ≤ 4096 := by omega
  cases h3 : fieldOK (smallOf (cutC l).1) (trimB (cutC l).2.1)
  · simp only [fieldE, h3, Bool.false_eq_true, if_false]
    (conv => whnf); repeat ((first | refine tk1 ?_ | refine tk2 ?_ | refine tk3 ?_ | refine tk12 (fun _ => ?_) | refine tk4 ?_ | refine tk5 ?_ | refine tk6 ?_ | refine tk7 ?_ | refine tk8 ?_ | refine tk9 ?_ | refine tk10 (fun _ _ => ?_) | refine tk11 (fun _ => ?_) | refine tk13 ?_ | refine tk14 ?_); (conv => whnf))
    simp [parseN, parseV, parseE, parseOK, h2, h3]
  · simp only [fieldE, h3, if_true]
    (conv => whnf); repeat ((first | refine tk1 ?_ | refine tk2 ?_ | refine tk3 ?_ | refine tk12 (fun _ => ?_) | refine tk4 ?_ | refine tk5 ?_ | refine tk6 ?_ | refine tk7 ?_ | refine tk8 ?_ | refine tk9 ?_ | refine tk10 (fun _ _ => ?_) | refine tk11 (fun _ => ?_) | refine tk13 ?_ | refine tk14 ?_); (conv => whnf))
    simp [parseN, parseV, parseE, parseOK, h2, h3, e1]
end Go.Proofs.YtnaeeklnlddcaaaGreatDoor.Vex
/- The references' functions on texts, reckoned. -/
namespace Go.Proofs.YtnaeeklnlddcaaaGreatDoor.Vex
open Go Go.RowKit
set_option maxRecDepth 100000
set_option linter.unusedSectionVars false
variable {gI : GI} [HasMax gI]

theorem byte_le (x : UInt8) : ((x.toNat : Nat) : Int) ≤ 255 := by have := x.toNat_lt; omega
theorem blank_is (x : UInt8) : (((x.toNat : Nat) : Int) == 32 || ((x.toNat : Nat) : Int) == 9) = blankB x := by
  unfold blankB blankI
  rw [Bool.eq_iff_iff]
theorem valB_is (x : UInt8) : valB x = !((decide (((x.toNat : Nat) : Int) < 32) && ((x.toNat : Nat) : Int) != 9) || ((x.toNat : Nat) : Int) == 127) := by
  have : ∀ n : Fin 256, valI ((n.val : Nat) : Int) = !((decide (((n.val : Nat) : Int) < 32) && ((n.val : Nat) : Int) != 9) || ((n.val : Nat) : Int) == 127) := by decide +kernel
  exact this ⟨x.toNat, x.toNat_lt⟩
theorem last_of (t : List UInt8) (h : 0 < t.length) : t = t.take (t.length - 1) ++ [t[t.length - 1]'(by omega)] := by
  have := List.take_append_drop (t.length - 1) t
  rw [List.drop_eq_getElem_cons (by omega), List.drop_eq_nil_of_le (by omega)] at this
  exact this.symm
end Go.Proofs.YtnaeeklnlddcaaaGreatDoor.Vex
/- The references' functions on fields, reckoned. -/
namespace Go.Proofs.YtnaeeklnlddcaaaGreatDoor.Vex
open Go Go.RowKit
set_option maxRecDepth 100000
set_option linter.unusedSectionVars false
variable {gI : GI} [HasMax gI]

end Go.Proofs.YtnaeeklnlddcaaaGreatDoor.Vex
/- Functions on lists of fields, reckoned. -/
namespace Go.Proofs.YtnaeeklnlddcaaaGreatDoor.Vex
open Go Go.RowKit
set_option maxRecDepth 100000
set_option linter.unusedSectionVars false
variable {gI : GI} [HasMax gI]

abbrev Fld := List UInt8 × List UInt8
/-- The cells of a list of fields. -/
def fcells : List Fld → List Value
  | [] => []
  | p :: r => str p.1 :: str p.2 :: fcells r
theorem fcells_length : ∀ l : List Fld, (fcells l).length = 2 * l.length
  | [] => rfl
  | _ :: r => by simp [fcells, fcells_length r]; omega
theorem fcells_drop : ∀ (l : List Fld) (k : Nat), (fcells l).drop (k * 2) = fcells (l.drop k)
  | l, 0 => by simp
  | [], k + 1 => by simp [fcells]
  | _ :: r, k + 1 => by rw [show (k + 1) * 2 = k * 2 + 2 by omega]; exact fcells_drop r k
theorem fcells_app : ∀ a b : List Fld, fcells (a ++ b) = fcells a ++ fcells b
  | [], _ => rfl
  | p :: a, b => by simp [fcells, fcells_app a b]
theorem fcells_one : ∀ l : List Fld, ∀ u ∈ fcells l, u.oneCell' = true
  | [], _, h => by cases h
  | p :: l, u, h => by
    simp only [fcells, List.mem_cons] at h
    rcases h with rfl | rfl | h
    · rfl
    · rfl
    · exact fcells_one l u h
theorem rdw_nil {w : World} {xs : List Value} (h : Rdw w none xs) : xs = [] := by
  cases xs with
  | nil => rfl
  | cons x r => obtain ⟨a, ha, _⟩ := h 0 x rfl; cases ha
theorem fcells_two (l : List Fld) (k : Nat) (h : k < l.length) : ((fcells l).drop (k * 2)).take 2 = [str l[k].1, str l[k].2] := by
  rw [fcells_drop, List.drop_eq_getElem_cons h]; rfl
theorem fcells_0 (l : List Fld) (k : Nat) (h : k < l.length) : (fcells l)[k * 2 + 0]? = some (str l[k].1) := by
  have := congrArg (·[0]?) (fcells_two l k h)
  simpa [List.getElem?_drop] using this
theorem fcells_1 (l : List Fld) (k : Nat) (h : k < l.length) : (fcells l)[k * 2 + 1]? = some (str l[k].2) := by
  have := congrArg (·[1]?) (fcells_two l k h)
  simpa [List.getElem?_drop] using this
def fw (p : Fld) : Nat := 1 + min p.1.length 100000 + min p.2.length 100000
def gs : List Fld → Nat
  | [] => 0
  | p :: r => fw p + gs r
theorem gs_add : ∀ a b : List Fld, gs (a ++ b) = gs a + gs b
  | [], b => by simp [gs]
  | p :: a, b => by simp [gs, gs_add a b]; omega
theorem gs_take (l : List Fld) (k : Nat) (h : k < l.length) : gs (l.take (k + 1)) = gs (l.take k) + fw l[k] := by
  rw [List.take_succ_eq_append_getElem h, gs_add]; simp [gs]
theorem Great_r (A : Option Addr) (cp : Nat) (l : List Fld) : FnR Tryz.prog gI 41 [.slice A l.length cp] [(A, fcells l)] (.bool (decide (3000 < gs (l.take 1000)))) := by
  refine FnE.of tys_ok Tryz.func41 rfl (by kernel_rfl) rfl rfl ?_; intro w hG hP
  have hR : ∀ H, RdS (mkC Tryz.prog gI w hG) H A (fcells l) := fun H => hP.1.now
  (conv => whnf); repeat ((first | refine tk1 ?_ | refine tk2 ?_ | refine tk3 ?_ | refine tk12 (fun _ => ?_) | refine tk4 ?_ | refine tk5 ?_ | refine tk6 ?_ | refine tk7 ?_ | refine tk8 ?_ | refine tk9 ?_ | refine tk10 (fun _ _ => ?_) | refine tk11 (fun _ => ?_) | refine tk13 ?_ | refine tk14 ?_); (conv => whnf))
  refine LoopS.lp tys_ok (fun k u => [.slice A l.length cp, u 1, u 2, .int .i64 (gs (l.take k) : Nat), .int .i64 (k : Nat), u 5, u 6, u 7, u 8, u 9, u 10, u 11, u 12, u 13, u 14, u 15, u 16, u 17, u 18, u 19, u 20, u 21, u 22, u 23, u 24, u 25, u 26, u 27, u 28, u 29, u 30, u 31, u 32, u 33, u 34]) (fun _ => [])
    (fun k => k ≤ l.length ∧ k ≤ 1000 ∧ gs (l.take k) ≤ k * 200001) (fun k => l.length - k) 0 ⟨Nat.zero_le _, Nat.zero_le _, Nat.zero_le _⟩ rfl (by repeat' (first | exact List.Sublist.refl _ | exact List.nil_sublist _ | apply List.Sublist.cons_cons | apply List.Sublist.cons)) ?_
  intro k u ⟨hk, hk9, hz⟩
  (conv => whnf); repeat ((first | refine tk1 ?_ | refine tk2 ?_ | refine tk3 ?_ | refine tk12 (fun _ => ?_) | refine tk4 ?_ | refine tk5 ?_ | refine tk6 ?_ | refine tk7 ?_ | refine tk8 ?_ | refine tk9 ?_ | refine tk10 (fun _ _ => ?_) | refine tk11 (fun _ => ?_) | refine tk13 ?_ | refine tk14 ?_); (conv => whnf))
  refine Cmp.cases (fun hlt => ?_) (fun hlt => ?_)
  · have hlt' : k < l.length := by omega
    (conv => whnf); repeat ((first | refine tk1 ?_ | refine tk2 ?_ | refine tk3 ?_ | refine tk12 (fun _ => ?_) | refine tk4 ?_ | refine tk5 ?_ | refine tk6 ?_ | refine tk7 ?_ | refine tk8 ?_ | refine tk9 ?_ | refine tk10 (fun _ _ => ?_) | refine tk11 (fun _ => ?_) | refine tk13 ?_ | refine tk14 ?_); (conv => whnf))
    refine Cmp.cases (fun hl9 => ?_) (fun hl9 => ?_)
    · have hs := gs_take l k hlt'
      have hfw : fw l[k] = 1 + min l[k].1.length 100000 + min l[k].2.length 100000 := rfl
      have h0 := fcells_0 l k hlt'
      have h1 := fcells_1 l k hlt'
      (conv => whnf); repeat ((first | refine tk1 ?_ | refine tk2 ?_ | refine tk3 ?_ | refine tk12 (fun _ => ?_) | refine tk4 ?_ | refine tk5 ?_ | refine tk6 ?_ | refine tk7 ?_ | refine tk8 ?_ | refine tk9 ?_ | refine tk10 (fun _ _ => ?_) | refine tk11 (fun _ => ?_) | refine tk13 ?_ | refine tk14 ?_); (conv => whnf))
      refine DrawS.go (qs 19) tys_ok mixed (by kernel_rfl) ?_
      (conv => whnf); repeat ((first | refine tk1 ?_ | refine tk2 ?_ | refine tk3 ?_ | refine tk12 (fun _ => ?_) | refine tk4 ?_ | refine tk5 ?_ | refine tk6 ?_ | refine tk7 ?_ | refine tk8 ?_ | refine tk9 ?_ | refine tk10 (fun _ _ => ?_) | refine tk11 (fun _ => ?_) | refine tk13 ?_ | refine tk14 ?_); (conv => whnf))
      refine IdxA.rd (hR _) (by rw [fcells_length]; omega) (by omega) (by omega) ?_
      (conv => whnf); repeat ((first | refine tk1 ?_ | refine tk2 ?_ | refine tk3 ?_ | refine tk12 (fun _ => ?_) | refine tk4 ?_ | refine tk5 ?_ | refine tk6 ?_ | refine tk7 ?_ | refine tk8 ?_ | refine tk9 ?_ | refine tk10 (fun _ _ => ?_) | refine tk11 (fun _ => ?_) | refine tk13 ?_ | refine tk14 ?_); (conv => whnf))
      refine Ld.rdF (hR _) h0 ?_
      (conv => whnf); repeat ((first | refine tk1 ?_ | refine tk2 ?_ | refine tk3 ?_ | refine tk12 (fun _ => ?_) | refine tk4 ?_ | refine tk5 ?_ | refine tk6 ?_ | refine tk7 ?_ | refine tk8 ?_ | refine tk9 ?_ | refine tk10 (fun _ _ => ?_) | refine tk11 (fun _ => ?_) | refine tk13 ?_ | refine tk14 ?_); (conv => whnf))
      refine OthP.min2 (min (l[k].1.length : Int) 100000) rfl rfl rfl ?_
      (conv => whnf); repeat ((first | refine tk1 ?_ | refine tk2 ?_ | refine tk3 ?_ | refine tk12 (fun _ => ?_) | refine tk4 ?_ | refine tk5 ?_ | refine tk6 ?_ | refine tk7 ?_ | refine tk8 ?_ | refine tk9 ?_ | refine tk10 (fun _ _ => ?_) | refine tk11 (fun _ => ?_) | refine tk13 ?_ | refine tk14 ?_); (conv => whnf))
      refine IdxA.rd (hR _) (by rw [fcells_length]; omega) (by omega) (by omega) ?_
      (conv => whnf); repeat ((first | refine tk1 ?_ | refine tk2 ?_ | refine tk3 ?_ | refine tk12 (fun _ => ?_) | refine tk4 ?_ | refine tk5 ?_ | refine tk6 ?_ | refine tk7 ?_ | refine tk8 ?_ | refine tk9 ?_ | refine tk10 (fun _ _ => ?_) | refine tk11 (fun _ => ?_) | refine tk13 ?_ | refine tk14 ?_); (conv => whnf))
      refine Ld.rdF (hR _) h1 ?_
      (conv => whnf); repeat ((first | refine tk1 ?_ | refine tk2 ?_ | refine tk3 ?_ | refine tk12 (fun _ => ?_) | refine tk4 ?_ | refine tk5 ?_ | refine tk6 ?_ | refine tk7 ?_ | refine tk8 ?_ | refine tk9 ?_ | refine tk10 (fun _ _ => ?_) | refine tk11 (fun _ => ?_) | refine tk13 ?_ | refine tk14 ?_); (conv => whnf))
      refine OthP.min2 (min (l[k].2.length : Int) 100000) rfl rfl rfl ?_
      (conv => whnf); repeat ((first | refine tk1 ?_ | refine tk2 ?_ | refine tk3 ?_ | refine tk12 (fun _ => ?_) | refine tk4 ?_ | refine tk5 ?_ | refine tk6 ?_ | refine tk7 ?_ | refine tk8 ?_ | refine tk9 ?_ | refine tk10 (fun _ _ => ?_) | refine tk11 (fun _ => ?_) | refine tk13 ?_ | refine tk14 ?_); (conv => whnf))
      exact ⟨k + 1, ⟨by omega, by omega, by rw [hs]; omega⟩, by
        dsimp only
        rw [show (((gs (l.take (k + 1)) : Nat) : Int)) = ((gs (l.take k) : Nat) : Int) + 1 + min (l[k].1.length : Int) 100000 + min (l[k].2.length : Int) 100000 by rw [hs, hfw]; omega]; rfl, (by repeat' (first | exact List.Sublist.refl _ | exact List.nil_sublist _ | apply List.Sublist.cons_cons | apply List.Sublist.cons)), by dsimp only; omega⟩
    · obtain rfl : k = 1000 := by omega
      (conv => whnf); repeat ((first | refine tk1 ?_ | refine tk2 ?_ | refine tk3 ?_ | refine tk12 (fun _ => ?_) | refine tk4 ?_ | refine tk5 ?_ | refine tk6 ?_ | refine tk7 ?_ | refine tk8 ?_ | refine tk9 ?_ | refine tk10 (fun _ _ => ?_) | refine tk11 (fun _ => ?_) | refine tk13 ?_ | refine tk14 ?_); (conv => whnf))
      refine Cmp.of (decide (3000 < gs (l.take 1000))) (by simp; omega) ?_
      (conv => whnf); repeat ((first | refine tk1 ?_ | refine tk2 ?_ | refine tk3 ?_ | refine tk12 (fun _ => ?_) | refine tk4 ?_ | refine tk5 ?_ | refine tk6 ?_ | refine tk7 ?_ | refine tk8 ?_ | refine tk9 ?_ | refine tk10 (fun _ _ => ?_) | refine tk11 (fun _ => ?_) | refine tk13 ?_ | refine tk14 ?_); (conv => whnf))
      intro w' _
      rfl
  · have he : l.take k = l.take 1000 := by rw [List.take_of_length_le (by omega), List.take_of_length_le (by omega)]
    (conv => whnf); repeat ((first | refine tk1 ?_ | refine tk2 ?_ | refine tk3 ?_ | refine tk12 (fun _ => ?_) | refine tk4 ?_ | refine tk5 ?_ | refine tk6 ?_ | refine tk7 ?_ | refine tk8 ?_ | refine tk9 ?_ | refine tk10 (fun _ _ => ?_) | refine tk11 (fun _ => ?_) | refine tk13 ?_ | refine tk14 ?_); (conv => whnf))
    refine Cmp.of (decide (3000 < gs (l.take 1000))) (by rw [he]; simp; omega) ?_
    (conv => whnf); repeat ((first | refine tk1 ?_ | refine tk2 ?_ | refine tk3 ?_ | refine tk12 (fun _ => ?_) | refine tk4 ?_ | refine tk5 ?_ | refine tk6 ?_ | refine tk7 ?_ | refine tk8 ?_ | refine tk9 ?_ | refine tk10 (fun _ _ => ?_) | refine tk11 (fun _ => ?_) | refine tk13 ?_ | refine tk14 ?_); (conv => whnf))
    intro w' _
    rfl
/-- A name's values. -/
def allOf (l : List Fld) (s : List UInt8) : List (List UInt8) := (l.filter fun p => smallOf p.1 == smallOf s).map (·.2)
theorem allOf_take (l : List Fld) (s : List UInt8) (k : Nat) (h : k < l.length) : allOf (l.take (k + 1)) s = allOf (l.take k) s ++ (if smallOf l[k].1 = smallOf s then [l[k].2] else []) := by
  unfold allOf
  rw [List.take_succ_eq_append_getElem h, List.filter_append, List.map_append]
  congr 1
  by_cases hq : smallOf l[k].1 = smallOf s <;> simp [hq]
theorem allOf_le (l : List Fld) (s : List UInt8) : (allOf l s).length ≤ l.length := by
  unfold allOf
  rw [List.length_map]
  exact List.length_filter_le _ _
theorem All_f (A : Option Addr) (cp : Nat) (l : List Fld) (s : List UInt8) (hl : l.length * 32 ≤ 140737488355328) (hs : s.length ≤ 140737488355328) (hn : ∀ p ∈ l, p.1.length ≤ 140737488355328) :
    FnS Tryz.prog gI 133 [.slice A l.length cp, str s] [(A, fcells l)] 9 1 (allOf l s).length ((allOf l s).map str) := by
  refine FnE.of tys_ok Tryz.func133 rfl (by kernel_rfl) rfl rfl ?_; intro w hG hP
  have hR : ∀ H, RdS (mkC Tryz.prog gI w hG) H A (fcells l) := fun H => hP.1.now
  (conv => whnf); repeat ((first | refine tk1 ?_ | refine tk2 ?_ | refine tk3 ?_ | refine tk12 (fun _ => ?_) | refine tk4 ?_ | refine tk5 ?_ | refine tk6 ?_ | refine tk7 ?_ | refine tk8 ?_ | refine tk9 ?_ | refine tk10 (fun _ _ => ?_) | refine tk11 (fun _ => ?_) | refine tk13 ?_ | refine tk14 ?_); (conv => whnf))
  refine LoopS.nilRow 9 1 ?_
  refine LoopS.lp tys_ok (fun (x : Nat × Option Addr × Nat) u => [u 0, str s, u 2, u 3, .slice x.2.1 (allOf (l.take x.1) s).length x.2.2, u 5, u 6, .slice A l.length cp, .int .i64 l.length, .int .i64 (x.1 : Nat), u 10, u 11, u 12, u 13, u 14, u 15, u 16, u 17, u 18, u 19, u 20, u 21, u 22, u 23, u 24, u 25])
    (fun x => [.row (.slice x.2.1 (allOf (l.take x.1) s).length x.2.2) 9 1 (allOf (l.take x.1) s).length ((allOf (l.take x.1) s).map str)])
    (fun x => x.1 ≤ l.length) (fun x => l.length - x.1) (0, none, 0) (Nat.zero_le _) rfl (by repeat' (first | exact List.Sublist.refl _ | exact List.nil_sublist _ | apply List.Sublist.cons_cons | apply List.Sublist.cons)) ?_
  rintro ⟨k, B, cq⟩ u hk
  dsimp only at hk ⊢
  (conv => whnf); repeat ((first | refine tk1 ?_ | refine tk2 ?_ | refine tk3 ?_ | refine tk12 (fun _ => ?_) | refine tk4 ?_ | refine tk5 ?_ | refine tk6 ?_ | refine tk7 ?_ | refine tk8 ?_ | refine tk9 ?_ | refine tk10 (fun _ _ => ?_) | refine tk11 (fun _ => ?_) | refine tk13 ?_ | refine tk14 ?_); (conv => whnf))
  refine Cmp.cases (fun hlt => ?_) (fun hlt => ?_)
  · have hlt' : k < l.length := by omega
    have ht := allOf_take l s k hlt'
    have hle := allOf_le (l.take k) s
    rw [List.length_take] at hle
    (conv => whnf); repeat ((first | refine tk1 ?_ | refine tk2 ?_ | refine tk3 ?_ | refine tk12 (fun _ => ?_) | refine tk4 ?_ | refine tk5 ?_ | refine tk6 ?_ | refine tk7 ?_ | refine tk8 ?_ | refine tk9 ?_ | refine tk10 (fun _ _ => ?_) | refine tk11 (fun _ => ?_) | refine tk13 ?_ | refine tk14 ?_); (conv => whnf))
    refine IdxA.rd (hR _) (by rw [fcells_length]; omega) (by omega) (by omega) ?_
    (conv => whnf); repeat ((first | refine tk1 ?_ | refine tk2 ?_ | refine tk3 ?_ | refine tk12 (fun _ => ?_) | refine tk4 ?_ | refine tk5 ?_ | refine tk6 ?_ | refine tk7 ?_ | refine tk8 ?_ | refine tk9 ?_ | refine tk10 (fun _ _ => ?_) | refine tk11 (fun _ => ?_) | refine tk13 ?_ | refine tk14 ?_); (conv => whnf))
    refine Ld.rdN (hR _) (fcells_two l k hlt') rfl ?_
    (conv => whnf); repeat ((first | refine tk1 ?_ | refine tk2 ?_ | refine tk3 ?_ | refine tk12 (fun _ => ?_) | refine tk4 ?_ | refine tk5 ?_ | refine tk6 ?_ | refine tk7 ?_ | refine tk8 ?_ | refine tk9 ?_ | refine tk10 (fun _ _ => ?_) | refine tk11 (fun _ => ?_) | refine tk13 ?_ | refine tk14 ?_); (conv => whnf))
    refine CallK.fn (Small_f l[k].1 (hn _ (List.getElem_mem _))) ?_
    (conv => whnf); repeat ((first | refine tk1 ?_ | refine tk2 ?_ | refine tk3 ?_ | refine tk12 (fun _ => ?_) | refine tk4 ?_ | refine tk5 ?_ | refine tk6 ?_ | refine tk7 ?_ | refine tk8 ?_ | refine tk9 ?_ | refine tk10 (fun _ _ => ?_) | refine tk11 (fun _ => ?_) | refine tk13 ?_ | refine tk14 ?_); (conv => whnf))
    refine CallK.fn (Small_f s hs) ?_
    (conv => whnf); repeat ((first | refine tk1 ?_ | refine tk2 ?_ | refine tk3 ?_ | refine tk12 (fun _ => ?_) | refine tk4 ?_ | refine tk5 ?_ | refine tk6 ?_ | refine tk7 ?_ | refine tk8 ?_ | refine tk9 ?_ | refine tk10 (fun _ _ => ?_) | refine tk11 (fun _ => ?_) | refine tk13 ?_ | refine tk14 ?_); (conv => whnf))
    refine Cmp.cases (fun hq => ?_) (fun hq => ?_)
    · rw [if_pos hq] at ht
      (conv => whnf); repeat ((first | refine tk1 ?_ | refine tk2 ?_ | refine tk3 ?_ | refine tk12 (fun _ => ?_) | refine tk4 ?_ | refine tk5 ?_ | refine tk6 ?_ | refine tk7 ?_ | refine tk8 ?_ | refine tk9 ?_ | refine tk10 (fun _ _ => ?_) | refine tk11 (fun _ => ?_) | refine tk13 ?_ | refine tk14 ?_); (conv => whnf))
      refine AppS.go (m := 1) (news := [str l[k].2]) (by first | exact Pick.here | exact Pick.here.skip | exact Pick.here.skip.skip | exact Pick.here.skip.skip.skip | exact Pick.here.skip.skip.skip.skip | exact Pick.here.skip.skip.skip.skip.skip | exact Pick.here.skip.skip.skip.skip.skip.skip | exact Pick.here.skip.skip.skip.skip.skip.skip.skip | exact Pick.here.skip.skip.skip.skip.skip.skip.skip.skip | exact Pick.here.skip.skip.skip.skip.skip.skip.skip.skip.skip | exact Pick.here.skip.skip.skip.skip.skip.skip.skip.skip.skip.skip | exact Pick.here.skip.skip.skip.skip.skip.skip.skip.skip.skip.skip.skip) (SrcK.rd (by repeat' (first | exact RdS.here | apply RdS.skip))) rfl (by simp; rfl) (by omega) (by omega) (by omega) (fun D cr => ?_)
      (conv => whnf); repeat ((first | refine tk1 ?_ | refine tk2 ?_ | refine tk3 ?_ | refine tk12 (fun _ => ?_) | refine tk4 ?_ | refine tk5 ?_ | refine tk6 ?_ | refine tk7 ?_ | refine tk8 ?_ | refine tk9 ?_ | refine tk10 (fun _ _ => ?_) | refine tk11 (fun _ => ?_) | refine tk13 ?_ | refine tk14 ?_); (conv => whnf))
      exact ⟨(k + 1, D, cr), by dsimp only; omega, by dsimp only; rw [ht, List.length_append]; rfl, by dsimp only; rw [ht, List.length_append, List.map_append]; exact (by repeat' (first | exact List.Sublist.refl _ | exact List.nil_sublist _ | apply List.Sublist.cons_cons | apply List.Sublist.cons)), by dsimp only; omega⟩
    · rw [if_neg hq, List.append_nil] at ht
      (conv => whnf); repeat ((first | refine tk1 ?_ | refine tk2 ?_ | refine tk3 ?_ | refine tk12 (fun _ => ?_) | refine tk4 ?_ | refine tk5 ?_ | refine tk6 ?_ | refine tk7 ?_ | refine tk8 ?_ | refine tk9 ?_ | refine tk10 (fun _ _ => ?_) | refine tk11 (fun _ => ?_) | refine tk13 ?_ | refine tk14 ?_); (conv => whnf))
      exact ⟨(k + 1, B, cq), by dsimp only; omega, by dsimp only; rw [ht]; rfl, by dsimp only; rw [ht]; exact (by repeat' (first | exact List.Sublist.refl _ | exact List.nil_sublist _ | apply List.Sublist.cons_cons | apply List.Sublist.cons)), by dsimp only; omega⟩
  · have he : l.take k = l := List.take_of_length_le (by omega)
    rw [he]
    (conv => whnf); repeat ((first | refine tk1 ?_ | refine tk2 ?_ | refine tk3 ?_ | refine tk12 (fun _ => ?_) | refine tk4 ?_ | refine tk5 ?_ | refine tk6 ?_ | refine tk7 ?_ | refine tk8 ?_ | refine tk9 ?_ | refine tk10 (fun _ _ => ?_) | refine tk11 (fun _ => ?_) | refine tk13 ?_ | refine tk14 ?_); (conv => whnf))
    exact rowPost.of (List.mem_cons_self ..)
theorem Same_r (A B : Option Addr) (cp cq : Nat) (a b : List (List UInt8)) (ha : a.length ≤ 140737488355328) (hb : b.length ≤ 140737488355328) :
    FnR Tryz.prog gI 13 [.slice A a.length cp, .slice B b.length cq] [(A, a.map str), (B, b.map str)] (.bool (decide (a = b))) := by
  refine FnE.of tys_ok Tryz.func13 rfl (by kernel_rfl) rfl rfl ?_; intro w hG hP
  have hA : ∀ H, RdS (mkC Tryz.prog gI w hG) H A (a.map str) := fun H => hP.1.now
  have hB : ∀ H, RdS (mkC Tryz.prog gI w hG) H B (b.map str) := fun H => hP.2.1.now
  (conv => whnf); repeat ((first | refine tk1 ?_ | refine tk2 ?_ | refine tk3 ?_ | refine tk12 (fun _ => ?_) | refine tk4 ?_ | refine tk5 ?_ | refine tk6 ?_ | refine tk7 ?_ | refine tk8 ?_ | refine tk9 ?_ | refine tk10 (fun _ _ => ?_) | refine tk11 (fun _ => ?_) | refine tk13 ?_ | refine tk14 ?_); (conv => whnf))
  refine Cmp.cases (fun hz => ?_) (fun hz => ?_)
  · (conv => whnf); repeat ((first | refine tk1 ?_ | refine tk2 ?_ | refine tk3 ?_ | refine tk12 (fun _ => ?_) | refine tk4 ?_ | refine tk5 ?_ | refine tk6 ?_ | refine tk7 ?_ | refine tk8 ?_ | refine tk9 ?_ | refine tk10 (fun _ _ => ?_) | refine tk11 (fun _ => ?_) | refine tk13 ?_ | refine tk14 ?_); (conv => whnf))
    intro w' _
    rw [decide_eq_false (fun h => hz (by rw [h]))]
  have hz' : a.length = b.length := by omega
  (conv => whnf); repeat ((first | refine tk1 ?_ | refine tk2 ?_ | refine tk3 ?_ | refine tk12 (fun _ => ?_) | refine tk4 ?_ | refine tk5 ?_ | refine tk6 ?_ | refine tk7 ?_ | refine tk8 ?_ | refine tk9 ?_ | refine tk10 (fun _ _ => ?_) | refine tk11 (fun _ => ?_) | refine tk13 ?_ | refine tk14 ?_); (conv => whnf))
  refine LoopS.lp tys_ok (fun k u => [.slice A a.length cp, .slice B b.length cq, u 2, u 3, u 4, .int .i64 (k : Nat), u 6, u 7, u 8, u 9, u 10, u 11, u 12, u 13, u 14, u 15, u 16, u 17, u 18, u 19, u 20, u 21, u 22, u 23, u 24, u 25]) (fun _ => [])
    (fun k => k ≤ a.length ∧ a.take k = b.take k) (fun k => a.length - k) 0 ⟨Nat.zero_le _, rfl⟩ rfl (by repeat' (first | exact List.Sublist.refl _ | exact List.nil_sublist _ | apply List.Sublist.cons_cons | apply List.Sublist.cons)) ?_
  intro k u ⟨hk, hI⟩
  (conv => whnf); repeat ((first | refine tk1 ?_ | refine tk2 ?_ | refine tk3 ?_ | refine tk12 (fun _ => ?_) | refine tk4 ?_ | refine tk5 ?_ | refine tk6 ?_ | refine tk7 ?_ | refine tk8 ?_ | refine tk9 ?_ | refine tk10 (fun _ _ => ?_) | refine tk11 (fun _ => ?_) | refine tk13 ?_ | refine tk14 ?_); (conv => whnf))
  refine Cmp.cases (fun hlt => ?_) (fun hlt => ?_)
  · have hka : k < a.length := by omega
    have hkb : k < b.length := by omega
    (conv => whnf); repeat ((first | refine tk1 ?_ | refine tk2 ?_ | refine tk3 ?_ | refine tk12 (fun _ => ?_) | refine tk4 ?_ | refine tk5 ?_ | refine tk6 ?_ | refine tk7 ?_ | refine tk8 ?_ | refine tk9 ?_ | refine tk10 (fun _ _ => ?_) | refine tk11 (fun _ => ?_) | refine tk13 ?_ | refine tk14 ?_); (conv => whnf))
    refine DrawS.go (qs 9) tys_ok mixed (by kernel_rfl) ?_
    (conv => whnf); repeat ((first | refine tk1 ?_ | refine tk2 ?_ | refine tk3 ?_ | refine tk12 (fun _ => ?_) | refine tk4 ?_ | refine tk5 ?_ | refine tk6 ?_ | refine tk7 ?_ | refine tk8 ?_ | refine tk9 ?_ | refine tk10 (fun _ _ => ?_) | refine tk11 (fun _ => ?_) | refine tk13 ?_ | refine tk14 ?_); (conv => whnf))
    refine IdxA.rd (hA _) (by rw [List.length_map]; omega) (by omega) (by omega) ?_
    (conv => whnf); repeat ((first | refine tk1 ?_ | refine tk2 ?_ | refine tk3 ?_ | refine tk12 (fun _ => ?_) | refine tk4 ?_ | refine tk5 ?_ | refine tk6 ?_ | refine tk7 ?_ | refine tk8 ?_ | refine tk9 ?_ | refine tk10 (fun _ _ => ?_) | refine tk11 (fun _ => ?_) | refine tk13 ?_ | refine tk14 ?_); (conv => whnf))
    refine Ld.rd (hA _) (v := str a[k]) (by simp [hka]) ?_
    (conv => whnf); repeat ((first | refine tk1 ?_ | refine tk2 ?_ | refine tk3 ?_ | refine tk12 (fun _ => ?_) | refine tk4 ?_ | refine tk5 ?_ | refine tk6 ?_ | refine tk7 ?_ | refine tk8 ?_ | refine tk9 ?_ | refine tk10 (fun _ _ => ?_) | refine tk11 (fun _ => ?_) | refine tk13 ?_ | refine tk14 ?_); (conv => whnf))
    refine IdxA.rd (hB _) (by rw [List.length_map]; omega) (by omega) (by omega) ?_
    (conv => whnf); repeat ((first | refine tk1 ?_ | refine tk2 ?_ | refine tk3 ?_ | refine tk12 (fun _ => ?_) | refine tk4 ?_ | refine tk5 ?_ | refine tk6 ?_ | refine tk7 ?_ | refine tk8 ?_ | refine tk9 ?_ | refine tk10 (fun _ _ => ?_) | refine tk11 (fun _ => ?_) | refine tk13 ?_ | refine tk14 ?_); (conv => whnf))
    refine Ld.rd (hB _) (v := str b[k]) (by simp [hkb]) ?_
    (conv => whnf); repeat ((first | refine tk1 ?_ | refine tk2 ?_ | refine tk3 ?_ | refine tk12 (fun _ => ?_) | refine tk4 ?_ | refine tk5 ?_ | refine tk6 ?_ | refine tk7 ?_ | refine tk8 ?_ | refine tk9 ?_ | refine tk10 (fun _ _ => ?_) | refine tk11 (fun _ => ?_) | refine tk13 ?_ | refine tk14 ?_); (conv => whnf))
    refine Cmp.cases (fun hq => ?_) (fun hq => ?_)
    · (conv => whnf); repeat ((first | refine tk1 ?_ | refine tk2 ?_ | refine tk3 ?_ | refine tk12 (fun _ => ?_) | refine tk4 ?_ | refine tk5 ?_ | refine tk6 ?_ | refine tk7 ?_ | refine tk8 ?_ | refine tk9 ?_ | refine tk10 (fun _ _ => ?_) | refine tk11 (fun _ => ?_) | refine tk13 ?_ | refine tk14 ?_); (conv => whnf))
      intro w' _
      rw [decide_eq_false (fun h => by subst h; exact hq rfl)]
    · have hq' : a[k] = b[k] := by simpa using hq
      (conv => whnf); repeat ((first | refine tk1 ?_ | refine tk2 ?_ | refine tk3 ?_ | refine tk12 (fun _ => ?_) | refine tk4 ?_ | refine tk5 ?_ | refine tk6 ?_ | refine tk7 ?_ | refine tk8 ?_ | refine tk9 ?_ | refine tk10 (fun _ _ => ?_) | refine tk11 (fun _ => ?_) | refine tk13 ?_ | refine tk14 ?_); (conv => whnf))
      exact ⟨k + 1, ⟨by omega, by rw [List.take_succ_eq_append_getElem hka, List.take_succ_eq_append_getElem hkb, hI, hq']⟩, rfl, (by repeat' (first | exact List.Sublist.refl _ | exact List.nil_sublist _ | apply List.Sublist.cons_cons | apply List.Sublist.cons)), by dsimp only; omega⟩
  · (conv => whnf); repeat ((first | refine tk1 ?_ | refine tk2 ?_ | refine tk3 ?_ | refine tk12 (fun _ => ?_) | refine tk4 ?_ | refine tk5 ?_ | refine tk6 ?_ | refine tk7 ?_ | refine tk8 ?_ | refine tk9 ?_ | refine tk10 (fun _ _ => ?_) | refine tk11 (fun _ => ?_) | refine tk13 ?_ | refine tk14 ?_); (conv => whnf))
    intro w' _
    have : a = b := by rw [List.take_of_length_le (by omega), List.take_of_length_le (by omega)] at hI; exact hI
    rw [decide_eq_true this]
end Go.Proofs.YtnaeeklnlddcaaaGreatDoor.Vex
/- Texts between the places of a byte; items of a value. No program in sight. -/
namespace Go.Proofs.YtnaeeklnlddcaaaGreatDoor

def splitB (c : UInt8) : List UInt8 → List (List UInt8)
  | [] => [[]]
  | x :: r => if x = c then [] :: splitB c r else (match splitB c r with | [] => [[x]] | p :: q => (x :: p) :: q)
theorem splitB_ne (c : UInt8) (l : List UInt8) : splitB c l ≠ [] := by
  cases l with
  | nil => simp [splitB]
  | cons x r =>
    unfold splitB
    split
    · simp
    · split <;> simp
theorem splitB_app (c : UInt8) : ∀ (a b : List UInt8), c ∉ a → splitB c (a ++ c :: b) = a :: splitB c b
  | [], b, _ => by simp [splitB]
  | x :: a, b, h => by
    have hx : x ≠ c := fun e => h (by simp [e])
    simp only [List.cons_append, splitB, if_neg hx, splitB_app c a b (fun e => h (List.mem_cons_of_mem _ e))]
theorem splitB_none (c : UInt8) : ∀ (l : List UInt8), c ∉ l → splitB c l = [l]
  | [], _ => rfl
  | x :: r, h => by
    have hx : x ≠ c := fun e => h (by simp [e])
    simp only [splitB, if_neg hx, splitB_none c r (fun e => h (List.mem_cons_of_mem _ e))]
theorem splitB_join (c : UInt8) : ∀ (a b : List UInt8), splitB c (a ++ c :: b) = splitB c a ++ splitB c b
  | [], b => by simp [splitB]
  | x :: a, b => by
    simp only [List.cons_append, splitB, splitB_join c a b]
    by_cases hx : x = c
    · simp [hx]
    · simp only [if_neg hx]
      cases h : splitB c a with
      | nil => exact absurd h (splitB_ne c a)
      | cons p q => rfl
theorem splitB_at (c : UInt8) (l : List UInt8) (k : Nat) (h : c ∉ l.take k) (hk : l[k]? = some c) : splitB c l = l.take k :: splitB c (l.drop (k + 1)) := by
  obtain ⟨hlt, he⟩ := List.getElem?_eq_some_iff.1 hk
  conv => lhs; rw [← List.take_append_drop k l, List.drop_eq_getElem_cons hlt, he]
  exact splitB_app c _ _ h
theorem splitB_mem (c : UInt8) : ∀ (l p : List UInt8), p ∈ splitB c l → c ∉ p ∧ p.length ≤ l.length
  | [], p, h => by simp [splitB] at h; subst h; simp
  | x :: r, p, h => by
    unfold splitB at h
    split at h
    · rcases List.mem_cons.1 h with rfl | h
      · simp
      · have := splitB_mem c r p h
        exact ⟨this.1, by simp; omega⟩
    · rename_i hx
      split at h
      · rename_i h0; exact absurd h0 (splitB_ne c r)
      · rename_i q qs hq
        rcases List.mem_cons.1 h with rfl | h
        · have := splitB_mem c r q (by rw [hq]; simp)
          refine ⟨fun hm => ?_, by simp; omega⟩
          rcases List.mem_cons.1 hm with e | e
          · exact hx e.symm
          · exact this.1 e
        · have := splitB_mem c r p (by rw [hq]; exact List.mem_cons_of_mem _ h)
          exact ⟨this.1, by simp; omega⟩
theorem splitB_length (c : UInt8) : ∀ l : List UInt8, (splitB c l).length ≤ l.length + 1
  | [] => by simp [splitB]
  | x :: r => by
    have := splitB_length c r
    unfold splitB
    split
    · simp; omega
    · split
      · simp
      · rename_i h; rw [h] at this; simp at this ⊢; omega
theorem index_one (c : UInt8) : ∀ l : List UInt8, (Lib.index l [c] = -1 ∧ c ∉ l) ∨ ∃ k : Nat, Lib.index l [c] = k ∧ k < l.length ∧ c ∉ l.take k ∧ l[k]? = some c
  | [] => .inl ⟨rfl, by simp⟩
  | x :: r => by
    unfold Lib.index
    by_cases hx : c = x
    · subst hx
      exact .inr ⟨0, by simp [List.isPrefixOf], by simp, by simp, by simp⟩
    · have h0 : ([c] : List UInt8).isPrefixOf (x :: r) = false := by simp [List.isPrefixOf, hx]
      rw [h0]
      rcases index_one c r with ⟨h1, h2⟩ | ⟨k, h1, h2, h3, h4⟩
      · exact .inl ⟨by simp [h1], by simp [hx, h2]⟩
      · refine .inr ⟨k + 1, ?_, by simp; omega, by simp [hx, h3], by simpa using h4⟩
        rw [h1]
        simp only [Bool.false_eq_true, if_false]
        rw [if_neg (by simp)]
        omega
theorem drop_drop_idem (p : UInt8 → Bool) : ∀ l : List UInt8, (l.dropWhile p).dropWhile p = l.dropWhile p
  | [] => rfl
  | x :: r => by
    by_cases h : p x
    · simp [h, drop_drop_idem p r]
    · simp [h]
theorem trimLB_idem (l : List UInt8) : trimLB (trimLB l) = trimLB l := drop_drop_idem _ l
theorem trimRB_idem (l : List UInt8) : trimRB (trimRB l) = trimRB l := by
  unfold trimRB Lib.trimRightS
  rw [List.reverse_reverse, drop_drop_idem]
theorem trimB_idem (l : List UInt8) : trimB (trimB l) = trimB l := by
  rw [trimB_eq (trimB l), trimB_eq l]
  have h : ∀ m, trimLB (trimRB m) = trimRB (trimLB m) := fun m => trim_comm [32, 9] m
  rw [h, trimLB_idem, trimRB_idem]
theorem trimB_sub (x : UInt8) (l : List UInt8) (h : x ∈ trimB l) : x ∈ l := by
  unfold trimB Lib.trimS Lib.trimLeftS Lib.trimRightS at h
  have h1 := (List.dropWhile_sublist _).subset h
  rw [List.mem_reverse] at h1
  have h2 := (List.dropWhile_sublist _).subset h1
  exact List.mem_reverse.1 h2

/-- What stands between commas, trimmed, if anything is left. -/
def itemsOf (l : List UInt8) : List (List UInt8) := ((splitB 44 l).map trimB).filter fun s => !s.isEmpty
def itemOf (p : List UInt8) : List (List UInt8) := if trimB p = [] then [] else [trimB p]
theorem items_cons (l p : List UInt8) (q : List (List UInt8)) (h : splitB 44 l = p :: q) : itemsOf l = itemOf p ++ (q.map trimB).filter fun s => !s.isEmpty := by
  unfold itemsOf itemOf
  rw [h, List.map_cons, List.filter_cons]
  by_cases h0 : trimB p = []
  · simp [h0]
  · rw [if_pos (by simpa using h0), if_neg h0]; rfl
theorem items_at (l : List UInt8) (k : Nat) (h : 44 ∉ l.take k) (hk : l[k]? = some 44) : itemsOf l = itemOf (l.take k) ++ itemsOf (l.drop (k + 1)) :=
  items_cons _ _ _ (splitB_at 44 l k h hk)
theorem items_none (l : List UInt8) (h : 44 ∉ l) : itemsOf l = itemOf l := by
  rw [items_cons _ _ _ (splitB_none 44 l h)]
  simp
theorem items_join (a b : List UInt8) : itemsOf (a ++ 44 :: b) = itemsOf a ++ itemsOf b := by
  unfold itemsOf
  rw [splitB_join, List.map_append, List.filter_append]
theorem items_mem {l s : List UInt8} (h : s ∈ itemsOf l) : s ≠ [] ∧ trimB s = s ∧ 44 ∉ s ∧ s.length ≤ l.length := by
  unfold itemsOf at h
  obtain ⟨h1, h2⟩ := List.mem_filter.1 h
  obtain ⟨p, hp, rfl⟩ := List.mem_map.1 h1
  obtain ⟨h3, h4⟩ := splitB_mem 44 l p hp
  refine ⟨by simpa using h2, trimB_idem p, fun hm => h3 (trimB_sub _ _ hm), Nat.le_trans (trimB_length p) h4⟩
theorem items_length (l : List UInt8) : (itemsOf l).length ≤ l.length + 1 := by
  unfold itemsOf
  refine Nat.le_trans (List.length_filter_le _ _) ?_
  rw [List.length_map]
  exact splitB_length 44 l
theorem itemOf_length (p : List UInt8) : (itemOf p).length ≤ 1 := by unfold itemOf; split <;> simp
end Go.Proofs.YtnaeeklnlddcaaaGreatDoor
/- How much lists of texts, and of fields, hold. No program in sight. -/
namespace Go.Proofs.YtnaeeklnlddcaaaGreatDoor
def lsum (l : List (List UInt8)) : Nat := (l.map fun s => s.length + 1).sum
theorem lsum_cons (x : List UInt8) (l : List (List UInt8)) : lsum (x :: l) = x.length + 1 + lsum l := rfl
theorem lsum_append : ∀ a b : List (List UInt8), lsum (a ++ b) = lsum a + lsum b
  | [], b => by simp [lsum]
  | x :: a, b => by rw [List.cons_append, lsum_cons, lsum_cons, lsum_append a b]; omega
theorem split_sum (c : UInt8) : ∀ l : List UInt8, lsum (splitB c l) = l.length + 1
  | [] => rfl
  | x :: r => by
    have ih := split_sum c r
    unfold splitB
    split
    · rw [lsum_cons, ih]; simp; omega
    · cases h : splitB c r with
      | nil => exact absurd h (splitB_ne c r)
      | cons p q => rw [h, lsum_cons] at ih; rw [lsum_cons]; simp only [List.length_cons]; omega
theorem lsum_trim : ∀ l : List (List UInt8), lsum ((l.map trimB).filter fun s => !s.isEmpty) ≤ lsum l
  | [] => Nat.le_refl _
  | x :: r => by
    have ih := lsum_trim r
    have := trimB_length x
    rw [List.map_cons, List.filter_cons, lsum_cons]
    split
    · rw [lsum_cons]; omega
    · omega
theorem items_sum (l : List UInt8) : lsum (itemsOf l) ≤ l.length + 1 := by
  unfold itemsOf
  rw [← split_sum 44 l]
  exact lsum_trim _
end Go.Proofs.YtnaeeklnlddcaaaGreatDoor
namespace Go.Proofs.YtnaeeklnlddcaaaGreatDoor.Vex
open Go Go.RowKit
def fsum (l : List Fld) : Nat := (l.map fun p => p.1.length + p.2.length + 3).sum
theorem fsum_cons (p : Fld) (l : List Fld) : fsum (p :: l) = p.1.length + p.2.length + 3 + fsum l := rfl
theorem fsum_append : ∀ a b : List Fld, fsum (a ++ b) = fsum a + fsum b
  | [], b => by simp [fsum]
  | x :: a, b => by rw [List.cons_append, fsum_cons, fsum_cons, fsum_append a b]; omega
theorem fsum_mem {l : List Fld} {p : Fld} (h : p ∈ l) : p.1.length + p.2.length + 3 ≤ fsum l := by
  induction l with
  | nil => cases h
  | cons y r ih =>
    rw [fsum_cons]
    rcases List.mem_cons.1 h with rfl | h
    · omega
    · have := ih h; omega
theorem fsum_length : ∀ l : List Fld, 3 * l.length ≤ fsum l
  | [] => Nat.le_refl _
  | x :: r => by have := fsum_length r; rw [fsum_cons, List.length_cons]; omega
theorem allOf_sum (s : List UInt8) : ∀ l : List Fld, lsum (allOf l s) ≤ fsum l
  | [] => Nat.le_refl _
  | x :: r => by
    have := allOf_sum s r
    unfold allOf at this ⊢
    rw [List.filter_cons, fsum_cons]
    split
    · rw [List.map_cons, lsum_cons]; omega
    · omega
theorem lsum_length (l : List (List UInt8)) : l.length ≤ lsum l := by
  induction l with
  | nil => exact Nat.le_refl _
  | cons x r ih => rw [lsum_cons, List.length_cons]; omega
end Go.Proofs.YtnaeeklnlddcaaaGreatDoor.Vex
/- The kinds of data that this program's statements take: fields, requests, bytes. -/
namespace Go.Proofs.YtnaeeklnlddcaaaGreatDoor.Vex
open Go Go.RowKit Go.ChangeShapes Go.WideShapes Go.Deep
set_option maxRecDepth 100000

/-- Another form of the same data. -/
theorem opens_map {P : Program} {t : TypeId} {S T : Shape} (h : Opens P t S) (g : S.α → T.α) (hn : S.n = T.n) (hf : ∀ W x, S.ok W x → S.f x = T.f (g x)) (hok : ∀ W x, S.ok W x → T.ok W (g x)) (hw : ∀ W x, S.ok W x → T.wt (g x) ≤ S.wt x) : Opens P t T := ⟨h.1.trans hn, fun hd => by
  obtain ⟨x, h1, h2, h3, h4⟩ := h.2 hd
  exact ⟨g x, h1.trans (hf _ x h2), hok _ x h2, Nat.le_trans (hw _ x h2) h3, by rw [← hf _ x h2, h4, hn]⟩⟩
abbrev byteShape : Shape := ⟨UInt8, 1, fun b => [byteV b], fun _ _ => True, fun _ => 1⟩
theorem opens_byte {P : Program} {t : TypeId} (ht : P.underlying t = some (.int .u8)) (hc : P.cellsOf t = 1) : Opens P t byteShape :=
  opens_map (opens_int ht hc) (fun (n : Int) => UInt8.ofNat n.toNat) rfl (fun W (x : Int) (h : IntKind.u8.min ≤ x ∧ x ≤ IntKind.u8.max) => by
    have h1 : (0 : Int) ≤ x := h.1
    have h2 : x ≤ 255 := h.2
    clear h
    show [Value.int .u8 x] = [byteV _]
    unfold byteV
    rw [UInt8.toNat_ofNat_of_lt' (by show x.toNat < 256; omega), Int.toNat_of_nonneg h1]) (fun _ _ _ => trivial) (fun _ _ _ => Nat.le_refl _)
abbrev u16Shape : Shape := ⟨Nat, 1, fun n => [.int .u16 (n : Nat)], fun _ n => n < 65536, fun _ => 1⟩
theorem opens_nat16 {P : Program} {t : TypeId} (ht : P.underlying t = some (.int .u16)) (hc : P.cellsOf t = 1) : Opens P t u16Shape :=
  opens_map (opens_int ht hc) (fun (n : Int) => n.toNat) rfl (fun W (x : Int) (h : IntKind.u16.min ≤ x ∧ x ≤ IntKind.u16.max) => by
    have h1 : (0 : Int) ≤ x := h.1
    show [Value.int .u16 x] = [Value.int .u16 (x.toNat : Nat)]
    rw [Int.toNat_of_nonneg h1]) (fun W (x : Int) (h : IntKind.u16.min ≤ x ∧ x ≤ IntKind.u16.max) => by
    have h1 : (0 : Int) ≤ x := h.1
    have h2 : x ≤ 65535 := h.2
    clear h
    show x.toNat < 65536
    omega) (fun _ _ _ => Nat.le_refl _)
abbrev bytesShape : Shape := sliceShape byteShape
theorem flat_bytes (l : List UInt8) : l.flatMap (fun b => [byteV b]) = l.map byteV := by
  induction l with
  | nil => rfl
  | cons a r ih => rw [List.flatMap_cons, ih]; rfl
theorem flat_strs (l : List (List UInt8)) : l.flatMap (fun b => [str b]) = l.map str := by
  induction l with
  | nil => rfl
  | cons a r ih => rw [List.flatMap_cons, ih]; rfl
theorem flat_fields (l : List Fld) : l.flatMap (fun p => [str p.1, str p.2]) = fcells l := by
  induction l with
  | nil => rfl
  | cons a r ih => rw [List.flatMap_cons, ih]; rfl
abbrev fldShape : Shape := ⟨Fld, 2, fun p => [str p.1, str p.2], fun _ p => p.1.length ≤ 9223372036854775807 ∧ p.2.length ≤ 9223372036854775807, fun p => p.1.length + p.2.length + 3⟩
theorem opens_string : Opens Tryz.prog 9 strShape := opens_str Tryz.underlying9 (by kernel_rfl)
theorem opens_i64 : Opens Tryz.prog 3 (intShape .i64) := opens_int Tryz.underlying3 (by kernel_rfl)
theorem opens_tf : Opens Tryz.prog 4 boolShape := opens_bool Tryz.underlying4 (by kernel_rfl)
theorem opens_u8 : Opens Tryz.prog 5 byteShape := opens_byte Tryz.underlying5 (by kernel_rfl)
theorem opens_bytes : Opens Tryz.prog 51 bytesShape := opens_slice Tryz.underlying51 (by kernel_rfl) opens_u8
theorem opens_strings : Opens Tryz.prog 23 (sliceShape strShape) := opens_slice Tryz.underlying23 (by kernel_rfl) opens_string
theorem opens_field : Opens Tryz.prog 41 fldShape := by
  have h := opens_struct Tryz.underlying41 (by kernel_rfl) (opensL_cons rfl opens_string (opensL_cons rfl opens_string (opensL_nil _)))
  exact opens_map h (fun x => (x.1, x.2.1)) rfl (fun _ _ _ => rfl) (fun _ _ h => ⟨h.1, h.2.1⟩) (fun _ _ _ => by dsimp only; omega)
abbrev fieldsShape : Shape := sliceShape fldShape
theorem opens_fields : Opens Tryz.prog 30 fieldsShape := opens_slice Tryz.underlying30 (by kernel_rfl) opens_field
/-- A request that came in. -/
structure Req where
  m : List UInt8
  p : List UInt8
  q : List UInt8
  v : Int
  F : Sl Fld
  B : Sl UInt8
def Req.cells (r : Req) : List Value := [str r.m, str r.p, str r.q, .int .i64 r.v, .slice r.F.A r.F.l.length r.F.cp, .slice r.B.A r.B.l.length r.B.cp]
abbrev reqShape : Shape := ⟨Req, 6, Req.cells, fun w r => (-9223372036854775808 ≤ r.v ∧ r.v ≤ 9223372036854775807) ∧ fieldsShape.ok w r.F ∧ bytesShape.ok w r.B ∧ r.m.length ≤ 9223372036854775807 ∧ r.p.length ≤ 9223372036854775807 ∧ r.q.length ≤ 9223372036854775807,
  fun r => r.m.length + r.p.length + r.q.length + fieldsShape.wt r.F + bytesShape.wt r.B⟩
theorem req_fsum (x : Req) : fsum x.F.l ≤ reqShape.wt x := by
  show fsum x.F.l ≤ x.m.length + x.p.length + x.q.length + (fsum x.F.l + 1) + bytesShape.wt x.B
  omega
theorem fld_len (x : Fld) : x.1.length + x.2.length ≤ fldShape.wt x := by
  show x.1.length + x.2.length ≤ x.1.length + x.2.length + 3
  omega
theorem rd_bytes {W : World} {x : Sl UInt8} (h : bytesShape.ok W x) : Rdw W x.A (x.l.map byteV) := flat_bytes x.l ▸ h.2.1
theorem rd_fields {W : World} {x : Sl Fld} (h : fieldsShape.ok W x) : Rdw W x.A (fcells x.l) := flat_fields x.l ▸ h.2.1
end Go.Proofs.YtnaeeklnlddcaaaGreatDoor.Vex
/- The cell of internal/bytealg.MaxLen holds a number, in every world of the program's shape. -/
namespace Go.Proofs.YtnaeeklnlddcaaaGreatDoor

theorem maxLen_cell {w : World} (h : w.ShapedOpen Tryz.prog) : ∃ m, w.cell? ⟨0, 0, none⟩ = some (.int .i64 m) :=
  Go.Proofs.cell_of_shapedOpen_int (zero := #[.int .i64 0]) (t := 3) h (of_decide_eq_true (by kernel_rfl)) (by kernel_rfl) rfl (by kernel_rfl) (by kernel_rfl) Tryz.underlying3
end Go.Proofs.YtnaeeklnlddcaaaGreatDoor
/- What a row's listed variables give the walks: the two sentinels of strconv, the table of powers, the cell of MaxLen. -/
namespace Go.Proofs.YtnaeeklnlddcaaaGreatDoor.Vex
open Go Go.RowKit Go.ChangeShapes

theorem reads_of {l : List (String × DataW Unit)} {W : World} (h : laidMetH Tryz.prog l W) (hp : (l.all fun x => x.2.handleName?.isNone) = true) {n : String} {d : DataW Unit} (hm : (n, d) ∈ l) : Lib.VarReads Tryz.prog W n d := by
  rw [MakeChecks.laidMetH_plain _ _ _ hp] at h
  exact Lib.laidMet.reads h hm
theorem errCell_of {P : Program} {W : World} {n nm : String} {d : DataW Unit} {g : Nat} {ti : TypeId} {ms : Array (String × TypeId)} (h : Lib.VarReads P W n (.iface nm d)) (hg : P.globalNamed n = some g) (ht : (P.globals[g]?).map (·.type) = some ti) (hi : P.underlying ti = some (.interface ms)) : ErrCell g W := by
  obtain ⟨g', t', cs, fuel, p, hg', ht', hv, hd⟩ := h
  obtain rfl := Option.some.inj (hg.symm.trans hg')
  obtain rfl := Option.some.inj (ht.symm.trans ht')
  obtain ⟨f1, u, v, hcs, hn, h1⟩ := iface_of_trod hi hd
  have h2 := World.var?_cell hg hv 0
  rw [show cs = #[.iface u v] by rw [← Array.toList_inj, hcs]] at h2
  exact ⟨.iface u v, by simpa using h2, .inr ⟨u, v, rfl⟩⟩
theorem tab_of {P : Program} {W : World} {n : String} {k : IntKind} {zs : List Int} {g : Nat} {t e : TypeId} {m : Nat} (h : Lib.VarReads P W n (Lib.tabData k zs)) (hg : P.globalNamed n = some g) (ht : (P.globals[g]?).map (·.type) = some t) (hu : P.underlying t = some (.array m e)) (he : P.underlying e = some (.int k)) (hce : P.cellsOf e = 1) (hct : P.cellsOf t = m) : Lib.TabIs P W n k zs := by
  obtain ⟨g', t', cs, fuel, p, hg', ht', hv, hd⟩ := h
  obtain rfl := Option.some.inj (hg.symm.trans hg')
  obtain rfl := Option.some.inj (ht.symm.trans ht')
  unfold Lib.TabIs
  rw [hv, ← Lib.cells_of_tab hu he hce hct hd]
theorem gB_of {W : World} (hS : W.ShapedOpen Tryz.prog) : gB.G W := maxLen_cell hS
theorem gE_of {l : List (String × DataW Unit)} {W : World} (hL : laidMetH Tryz.prog l W) (hS : W.ShapedOpen Tryz.prog) (hp : (l.all fun x => x.2.handleName?.isNone) = true)
    (h1 : ("strconv.ErrSyntax", Rows.laid_strconv_ErrSyntax) ∈ l) (h2 : ("strconv.ErrRange", Rows.laid_strconv_ErrRange) ∈ l) : gE.G W :=
  ⟨gB_of hS, errCell_of (ti := 176) (reads_of hL hp h1) (g := 4) (by kernel_rfl) (by kernel_rfl) Tryz.underlying176, errCell_of (ti := 176) (reads_of hL hp h2) (g := 5) (by kernel_rfl) (by kernel_rfl) Tryz.underlying176⟩
theorem gP_of {l : List (String × DataW Unit)} {W : World} (hL : laidMetH Tryz.prog l W) (hS : W.ShapedOpen Tryz.prog) (hp : (l.all fun x => x.2.handleName?.isNone) = true)
    (h1 : ("strconv.ErrSyntax", Rows.laid_strconv_ErrSyntax) ∈ l) (h2 : ("strconv.ErrRange", Rows.laid_strconv_ErrRange) ∈ l) (h3 : ("internal/strconv.uint64pow10", Rows.laid_internal_strconv_uint64pow10) ∈ l) : gP.G W :=
  ⟨gE_of hL hS hp h1 h2, tab_of (t := 250) (e := 169) (m := 20) (reads_of hL hp h3) pow_name (by kernel_rfl) Tryz.underlying250 Tryz.underlying169 (by kernel_rfl) (by kernel_rfl)⟩
end Go.Proofs.YtnaeeklnlddcaaaGreatDoor.Vex
/- Two fields, compared. -/
namespace Go.Proofs.YtnaeeklnlddcaaaGreatDoor.Vex
open Go Go.RowKit
set_option maxRecDepth 100000
set_option linter.unusedSectionVars false
variable {gI : GI} [HasMax gI]

theorem toList_str (a b : List UInt8) : ((⟨⟨a⟩⟩ : ByteArray).toList == (⟨⟨b⟩⟩ : ByteArray).toList) = (a == b) := by
  rw [ByteArray.toList_eq, ByteArray.toList_eq]
theorem eqF_run (a b a' b' : List UInt8) (w : World) : (Op.equalIn 10000 41 (.agg ⟨[str a, str b]⟩) (.agg ⟨[str a', str b']⟩)).run Tryz.prog w = .ok (a == a' && b == b') w := by
  rw [show (10000 : Nat) = 9999 + 1 from rfl, run_equalIn_struct w 9999 _ _ _ (by kernel_rfl) (by kernel_rfl)]
  rw [show (Tryz.prog.fieldsOf 41).toList = [{ name := "Name", type := 9, offset := 0, embedded := false, tag := "", pkgPath := "", byteOffset := 0 }, { name := "Value", type := 9, offset := 1, embedded := false, tag := "", pkgPath := "", byteOffset := 16 }] from by kernel_rfl]
  have p0 : ∀ (u v : Value) w, (part 9 #[u, v] 0).run Tryz.prog w = .ok u w := fun u v w => by simp [go_sem]
  have p1 : ∀ (u v : Value) w, (part 9 #[u, v] 1).run Tryz.prog w = .ok v w := fun u v w => by simp [go_sem]
  have e0 : ∀ (x y : List UInt8) w, (Op.equalIn 9999 9 (str x) (str y)).run Tryz.prog w = .ok (x == y) w := fun x y w => by
    rw [show (9999 : Nat) = 9998 + 1 from rfl, run_equalIn_string w 9998 _ _ _ Tryz.underlying9, toList_str]
  simp only [Op.eqFields]
  cases h : a == a'
  · simp [go_sem, h, e0]
  · simp [go_sem, h, e0]
    split <;> simp_all
theorem OthP.eqF {c : Ctx} {H : Hp} {d : Option Nat} {x y : Operand} {yt ty : TypeId} {pos : String} {after : Array Edge} {gd : Option (Nat × Bool)} {fr : Fr} {a b a' b' : List UInt8} {K : Value → Prop} (hP : c.P = Tryz.prog)
    (hx : evK fr x fun v => v = .agg ⟨[str a, str b]⟩) (hy : evK fr y fun v => v = .agg ⟨[str a', str b']⟩) (k : K (.bool (a == a' && b == b'))) : OthP c ⟨d, .binOp .eql 41 x y yt, ty, pos, after, gd⟩ fr H K := ⟨⟨_, k, fun w _ => by
  rw [evK_eq] at hx hy
  rw [hP]
  have hg := run_eqGuard_agg (P := Tryz.prog) w .eql 41 x y ⟨[str a, str b]⟩ ⟨[str a', str b']⟩ (by kernel_rfl)
  have hb := run_eql_struct (P := Tryz.prog) w 41 ⟨[str a, str b]⟩ ⟨[str a', str b']⟩
  rw [eqF_run] at hb
  simp only [execOp, hx, hy, Sem.run_bind, hg, Result.andThen_ok, hb]
  rfl⟩⟩
theorem OthP.neF {c : Ctx} {H : Hp} {d : Option Nat} {x y : Operand} {yt ty : TypeId} {pos : String} {after : Array Edge} {gd : Option (Nat × Bool)} {fr : Fr} {a b a' b' : List UInt8} {K : Value → Prop} (hP : c.P = Tryz.prog)
    (hx : evK fr x fun v => v = .agg ⟨[str a, str b]⟩) (hy : evK fr y fun v => v = .agg ⟨[str a', str b']⟩) (k : K (.bool (!(a == a' && b == b')))) : OthP c ⟨d, .binOp .neq 41 x y yt, ty, pos, after, gd⟩ fr H K := ⟨⟨_, k, fun w _ => by
  rw [evK_eq] at hx hy
  rw [hP]
  have hg : (eqGuard .neq 41 x y (.agg ⟨[str a, str b]⟩) (.agg ⟨[str a', str b']⟩)).run Tryz.prog w = .ok () w := run_eqGuard_agg (P := Tryz.prog) w .neq 41 x y ⟨[str a, str b]⟩ ⟨[str a', str b']⟩ (by kernel_rfl)
  have hb : (binOp .neq 41 (.agg ⟨[str a, str b]⟩) (.agg ⟨[str a', str b']⟩)).run Tryz.prog w = .ok (.bool (!(a == a' && b == b'))) w := by
    show (do pure (.bool (!(← Op.equal 41 (.agg ⟨[str a, str b]⟩) (.agg ⟨[str a', str b']⟩)))) : Sem Value).run Tryz.prog w = _
    have e : Op.equal 41 (.agg ⟨[str a, str b]⟩) (.agg ⟨[str a', str b']⟩) = Op.equalIn 10000 41 (.agg ⟨[str a, str b]⟩) (.agg ⟨[str a', str b']⟩) := rfl
    rw [e, Sem.run_bind, eqF_run]
    rfl
  simp only [execOp, hx, hy, Sem.run_bind, hg, Result.andThen_ok, hb]
  rfl⟩⟩
end Go.Proofs.YtnaeeklnlddcaaaGreatDoor.Vex
/- A walk by reckoning, part sixteen: regions in which two acts may come up together: both orders are gone. No program in sight. -/
namespace Go.Proofs.YtnaeeklnlddcaaaGreatDoor.Vex
open Go Go.RowKit

/-- The orders that may come: q: an operation that is quiet; a: an act that comes up alone; ch: one of several that come up (stop ends their row). -/
inductive DT where
  | nil
  | q (i : Nat) (t : DT)
  | a (i : Nat) (t : DT)
  | ch (i : Nat) (t : DT) (r : DT)
  | stop
noncomputable def wtree (c : Ctx) (T : Ty) (ws : List Nat) (ops : List Oper) (t : DT) : (Fr → Hp → Prop) → Fr → Hp → Prop :=
  DT.rec (motive := fun _ => (Fr → Hp → Prop) → Fr → Hp → Prop) (fun K fr H => K fr H)
    (fun i _ ih K fr H => nthK ops i fun o => strOk T fr o.guard o.op (wstep c T .quiet ops o fr H (ih K)))
    (fun i _ ih K fr H => nthK ops i fun o => strOk T fr o.guard o.op (wstep c T (match ws.contains i with | true => .wact | false => .act) ops o fr H (ih K)))
    (fun i _ _ ih rh K fr H => (nthK ops i fun o => strOk T fr o.guard o.op (wstep c T (match ws.contains i with | true => .wact | false => .act) ops o fr H (ih K))) ∧ rh K fr H)
    (fun _ _ _ => True) t
def DT.heads : DT → List Nat
  | .ch i _ r => i :: r.heads
  | _ => []
noncomputable def treeB (T : Ty) (ws : List Nat) (ops : Array Oper) : DT → Bool → Array Bool → Bool
  | .nil, b, l => !b && (Region.ready .any ops l).isEmpty
  | .q i t, b, l => !b && (Region.ready .any ops l).contains i && Region.free .any ops l i && !isWr ws ops i && (((List.range ops.size).all fun j => !isWr ws ops j || l.getD j true || anc .any ops ops.size j i) || (match ops[i]? with | some o => blindOp T o.guard o.op | none => false)) && treeB T ws ops t false (l.setIfInBounds i true)
  | .a i t, b, l => !b && (Region.ready .any ops l == [i]) && treeB T ws ops t false (l.setIfInBounds i true)
  | .ch i t r, b, l => (b || ((Region.ready .any ops l).all fun k => k == i || r.heads.contains k)) && (Region.ready .any ops l).contains i && treeB T ws ops t false (l.setIfInBounds i true) && treeB T ws ops r true l
  | .stop, b, _ => b
def DT.len : DT → Nat
  | .nil => 0
  | .q _ t => t.len + 1
  | .a _ t => t.len + 1
  | .ch _ t r => max (t.len + 1) r.len
  | .stop => 0
section
variable {c : Ctx} {T : Ty}
theorem wact_ok (hT : TOk c.P T) (ws : List Nat) (ds : List Deferred) (ops : List Oper) (K : Fr → Hp → Prop) {ih : Fr → Hp → Prop} {i n : Nat} {l : Array Bool} {fr : Fr} {H : Hp} {w' : World}
    (h : nthK ops i fun o => strOk T fr o.guard o.op (wstep c T (match ws.contains i with | true => .wact | false => .act) ops o fr H ih)) (hw' : St c H w')
    (next : ∀ fr' H' w2, ih fr' H' → St c H' w2 → wpAnyR c.P .any ⟨ops⟩ (isWr ws ⟨ops⟩) (DrawQ c ds K) n (l.setIfInBounds i true) (actD ds fr') w2) :
    wpOp c.P ⟨ops⟩ (DrawQ c ds K) i (fun a2 w2 => (isWr ws ⟨ops⟩ i = false → R w' w2) ∧ wpAnyR c.P .any ⟨ops⟩ (isWr ws ⟨ops⟩) (DrawQ c ds K) n (l.setIfInBounds i true) a2 w2) (actD ds fr) w' := by
  obtain ⟨o, hoi, h⟩ := nthK_some h
  obtain ⟨h, hst⟩ := strOk_out h
  have hmd : ∃ m : Md, wstep c T m ops o fr H ih ∧ m ≠ .plain ∧ (ws.contains i = false → m = .act) ∧ (m = .act ∨ m = .wact) := by
    cases hw9 : ws.contains i
    · rw [hw9] at h
      exact ⟨Md.act, h, (fun h => by cases h), (fun _ => rfl), .inl rfl⟩
    · rw [hw9] at h
      exact ⟨Md.wact, h, (fun h => by cases h), (fun h => by cases h), .inr rfl⟩
  clear h
  obtain ⟨m, h, hm2, hm3, hm4⟩ := hmd
  have hoi' : (⟨ops⟩ : Array Oper)[i]? = some o := by simpa using hoi
  unfold wpOp
  simp only [hoi']
  rw [show (actD ds fr).tmps = (act fr).tmps from rfl]
  rcases wstep_cases hT h with ⟨hwd, hd | ⟨he, _⟩, _⟩ | ⟨hwd, hk⟩
  · rw [if_pos hwd]
    have hd : GoodD c m o fr H fun v H' => setO fr o.dst v fun fr' => ih fr' H' := by
      rcases hm4 with rfl | rfl
      · exact hd
      · exact hd
    refine .inl (Good.wp (hd w' hw') fun v H' w2 hs2 hk hrr => ?_)
    obtain ⟨fr', e, hk⟩ := setO_act (ds := ds) hk
    rw [e]
    refine ⟨fun hi => hrr ?_, next fr' H' w2 hk hs2⟩
    have h2 : isWr ws ⟨ops⟩ i = (wr o.op || ws.contains i) := by unfold isWr; rw [hoi']
    rw [h2, Bool.or_eq_false_iff] at hi
    rw [hm3 hi.2]
    simp [rOf, hi.1]
  · exact absurd he hm2
  · rw [if_neg (by rw [hwd]; exact Bool.false_ne_true)]
    obtain ⟨fr', e, hk⟩ := setO_act (ds := ds) hk
    rw [e]
    exact ⟨fun _ => R.refl _, next fr' H w' hk hw'⟩
abbrev TreeA (c : Ctx) (T : Ty) (ws : List Nat) (ds : List Deferred) (ops : List Oper) (K' K : Fr → Hp → Prop) (t : DT) : Prop := ∀ (n : Nat) (l : Array Bool) (fr : Fr) (H : Hp) (w : World),
  t.len ≤ n → closedL .any ⟨ops⟩ l → treeB T ws ⟨ops⟩ t false l = true → wtree c T ws ops t K' fr H → St c H w → wpAnyR c.P .any ⟨ops⟩ (isWr ws ⟨ops⟩) (DrawQ c ds K) n l (actD ds fr) w
abbrev TreeC (c : Ctx) (T : Ty) (ws : List Nat) (ds : List Deferred) (ops : List Oper) (K' K : Fr → Hp → Prop) (t : DT) : Prop := ∀ (n : Nat) (l : Array Bool) (fr : Fr) (H : Hp) (w' : World),
  t.len ≤ n + 1 → closedL .any ⟨ops⟩ l → treeB T ws ⟨ops⟩ t true l = true → wtree c T ws ops t K' fr H → St c H w' → ∀ k ∈ t.heads,
    wpOp c.P ⟨ops⟩ (DrawQ c ds K) k (fun a2 w2 => (isWr ws ⟨ops⟩ k = false → R w' w2) ∧ wpAnyR c.P .any ⟨ops⟩ (isWr ws ⟨ops⟩) (DrawQ c ds K) n (l.setIfInBounds k true) a2 w2) (actD ds fr) w'
theorem wtree_ok (hT : TOk c.P T) (ws : List Nat) (ds : List Deferred) (ops : List Oper) (hs : Region.noSelect ⟨ops⟩ = true) (K' K : Fr → Hp → Prop) (hK : ∀ fr H, K' fr H → ∃ H2, (∀ w, St c H w → St c H2 w) ∧ K fr H2) (t : DT) : TreeA c T ws ds ops K' K t ∧ TreeC c T ws ds ops K' K t := by
  induction t with
  | nil =>
    refine ⟨fun n l fr H w _ _ ho h hw => ?_, fun n l fr H w _ _ ho h hw k hk => by cases hk⟩
    simp only [treeB, Bool.and_eq_true, List.isEmpty_iff] at ho
    obtain ⟨H2, hs2, hk⟩ := hK fr H h
    exact wpAnyR_done ho.2 fun w' hR => ⟨fr, H2, rfl, hs2 _ (hw.below hR), rfl, hk⟩
  | q i t ih =>
    refine ⟨fun n l fr H w hn hc ho h hw => ?_, fun n l fr H w _ _ ho h hw k hk => by cases hk⟩
    obtain ⟨n, rfl⟩ : ∃ m, n = m + 1 := ⟨n - 1, by simp only [DT.len] at hn; omega⟩
    simp only [treeB, Bool.and_eq_true] at ho
    obtain ⟨⟨⟨⟨⟨_, hr⟩, hf⟩, hwi⟩, hall⟩, ho⟩ := ho
    rw [Bool.not_eq_true'] at hwi
    have hr : i ∈ Region.ready .any ⟨ops⟩ l := by simpa using hr
    obtain ⟨o, hoi, h⟩ := nthK_some h
    obtain ⟨h, hst⟩ := strOk_out h
    have hoi' : (⟨ops⟩ : Array Oper)[i]? = some o := by simpa using hoi
    have hQ : ∀ (v : Value) (ch : List PanicEntry) (a : Act) (w : World), DrawQ c ds K (.panic ch) (a.put o.dst v) w → DrawQ c ds K (.panic ch) a w := fun v ch a w ⟨_, _, _, _, he, _⟩ => by cases he
    have hn' : t.len ≤ n := by simpa [DT.len] using hn
    rw [hoi', Bool.or_eq_true] at hall
    dsimp only at hall
    rcases hall with hall | hbl
    rotate_left
    · rcases wstep_wop h with ⟨hwd, h⟩ | ⟨hwd, hk⟩
      · obtain ⟨v, hk, hq⟩ := blind_wop hT o hbl hst h
        obtain ⟨fr', e, hk⟩ := setO_act (ds := ds) hk
        refine wpAnyR_firstB (v := v) hoi' (Region.noSelect_spec hs) (hQ v) n l (actD ds fr) w hc (Region.free_spec hoi' hf) hr (fun w' => .inl ⟨hwd, ?_⟩) ?_
        · unfold Quiet1
          rw [show (actD ds fr).eval = (act fr).eval from rfl, hq w']
          exact ⟨rfl, rfl⟩
        · rw [e]
          exact ih.1 n _ fr' H w hn' (hc.set hr) ho hk hw
      · obtain ⟨fr', e, hk⟩ := setO_act (ds := ds) hk
        refine wpAnyR_firstB (v := undef) hoi' (Region.noSelect_spec hs) (hQ _) n l (actD ds fr) w hc (Region.free_spec hoi' hf) hr (fun w' => .inr ⟨hwd, rfl⟩) ?_
        rw [e]
        exact ih.1 n _ fr' H w hn' (hc.set hr) ho hk hw
    simp only [List.all_eq_true, List.mem_range, Bool.or_eq_true, Bool.not_eq_true'] at hall
    have hwr : ∀ j, isWr ws ⟨ops⟩ j = true → l.getD j true = false → anc .any ⟨ops⟩ (⟨ops⟩ : Array Oper).size j i = true := fun j hj hl => by
      have hlt : j < (⟨ops⟩ : Array Oper).size := by
        unfold isWr at hj
        rcases Nat.lt_or_ge j (⟨ops⟩ : Array Oper).size with h' | h'
        · exact h'
        · rw [Array.getElem?_eq_none h'] at hj; cases hj
      rcases hall j hlt with (h1 | h1) | h1
      · rw [hj] at h1; cases h1
      · rw [hl] at h1; cases h1
      · exact h1
    rcases wstep_cases hT h with ⟨hwd, ⟨v, hk, hq⟩ | ⟨he, _⟩, _⟩ | ⟨hwd, hk⟩
    · obtain ⟨fr', e, hk⟩ := setO_act (ds := ds) hk
      refine wpAnyR_first (v := v) hoi' (Region.noSelect_spec hs) (hQ v) hwi n l (actD ds fr) w hc hwr (Region.free_spec hoi' hf) hr (fun w' hR => .inl ⟨hwd, hq w' (hw.below hR)⟩) ?_
      rw [e]
      exact ih.1 n _ fr' H w hn' (hc.set hr) ho hk hw
    · cases he
    · obtain ⟨fr', e, hk⟩ := setO_act (ds := ds) hk
      refine wpAnyR_first (v := undef) hoi' (Region.noSelect_spec hs) (hQ _) hwi n l (actD ds fr) w hc hwr (Region.free_spec hoi' hf) hr (fun w' hR => .inr ⟨hwd, rfl⟩) ?_
      rw [e]
      exact ih.1 n _ fr' H w hn' (hc.set hr) ho hk hw
  | a i t ih =>
    refine ⟨fun n l fr H w hn hc ho h hw => ?_, fun n l fr H w _ _ ho h hw k hk => by cases hk⟩
    obtain ⟨n, rfl⟩ : ∃ m, n = m + 1 := ⟨n - 1, by simp only [DT.len] at hn; omega⟩
    simp only [treeB, Bool.and_eq_true, beq_iff_eq] at ho
    obtain ⟨⟨_, hr⟩, ho⟩ := ho
    have hri : i ∈ Region.ready .any ⟨ops⟩ l := by rw [hr]; simp
    refine wpAnyR_alone hr fun w' hR => ?_
    exact wact_ok hT ws ds ops K h (hw.below hR) fun fr' H' w2 hk hs2 => ih.1 n _ fr' H' w2 (by simpa [DT.len] using hn) (hc.set hri) ho hk hs2
  | ch i t r iht ihr =>
    have key : ∀ (n : Nat) (l : Array Bool) (fr : Fr) (H : Hp) (w' : World), (DT.ch i t r).len ≤ n + 1 → closedL .any ⟨ops⟩ l → ((Region.ready .any ⟨ops⟩ l).contains i = true) → treeB T ws ⟨ops⟩ t false (l.setIfInBounds i true) = true → treeB T ws ⟨ops⟩ r true l = true →
        wtree c T ws ops (.ch i t r) K' fr H → St c H w' → ∀ k ∈ (DT.ch i t r).heads,
        wpOp c.P ⟨ops⟩ (DrawQ c ds K) k (fun a2 w2 => (isWr ws ⟨ops⟩ k = false → R w' w2) ∧ wpAnyR c.P .any ⟨ops⟩ (isWr ws ⟨ops⟩) (DrawQ c ds K) n (l.setIfInBounds k true) a2 w2) (actD ds fr) w' := by
      intro n l fr H w' hn hc hri h1 h2 h hw k hk
      have hri : i ∈ Region.ready .any ⟨ops⟩ l := by simpa using hri
      have hn1 : t.len + 1 ≤ n + 1 ∧ r.len ≤ n + 1 := by simp only [DT.len] at hn; omega
      rcases List.mem_cons.1 hk with rfl | hk
      · exact wact_ok hT ws ds ops K h.1 hw fun fr' H' w2 hk hs2 => iht.1 n _ fr' H' w2 (by omega) (hc.set hri) h1 hk hs2
      · exact ihr.2 n l fr H w' hn1.2 hc h2 h.2 hw k hk
    refine ⟨fun n l fr H w hn hc ho h hw => ?_, fun n l fr H w' hn hc ho h hw k hk => ?_⟩
    · obtain ⟨n, rfl⟩ : ∃ m, n = m + 1 := ⟨n - 1, by simp only [DT.len] at hn; omega⟩
      simp only [treeB, Bool.and_eq_true, Bool.false_or] at ho
      obtain ⟨⟨⟨hall, hri⟩, h1⟩, h2⟩ := ho
      intro w' hR
      refine ⟨fun he => ?_, fun k hk => ?_⟩
      · rw [he] at hri; cases hri
      · refine key n l fr H w' hn hc hri h1 h2 h (hw.below hR) k ?_
        have := List.all_eq_true.1 hall k hk
        simp only [Bool.or_eq_true, beq_iff_eq] at this
        rcases this with rfl | h
        · exact List.mem_cons_self ..
        · exact List.mem_cons_of_mem _ (by simpa using h)
    · simp only [treeB, Bool.and_eq_true] at ho
      obtain ⟨⟨⟨_, hri⟩, h1⟩, h2⟩ := ho
      exact key n l fr H w' hn hc hri h1 h2 h hw k hk
  | stop =>
    refine ⟨fun n l fr H w _ _ ho h hw => ?_, fun n l fr H w _ _ ho h hw k hk => by cases hk⟩
    cases ho
noncomputable def forkB (T : Ty) (ws : List Nat) (ops : List Oper) (t : DT) : Bool := ops.all noDefer && Region.noSelect ⟨ops⟩ && (decide (t.len ≤ ops.length)) && treeB T ws ⟨ops⟩ t false (Array.replicate ops.length false)
/-- The entries of a heap, in another order, some left out. -/
inductive Cov : Hp → Hp → Prop
  | nil {H : Hp} : Cov H []
  | cons {H H2 G : Hp} {x : Ent} (h : Pick H x H2) (k : Cov H2 G) : Cov H (x :: G)
theorem Cov.perm {H G : Hp} (h : Cov H G) : ∃ R, H.Perm (G ++ R) := by
  induction h with
  | nil => exact ⟨_, List.Perm.refl _⟩
  | cons hp _ ih =>
    obtain ⟨R, hR⟩ := ih
    exact ⟨R, hp.perm.trans (hR.cons _)⟩
theorem Cov.st {H G : Hp} (h : Cov H G) {w : World} (hw : St c H w) : St c G w := by
  obtain ⟨R, hR⟩ := h.perm
  exact (hw.perm hR).sub (List.sublist_append_left _ _)
theorem DrawS.forkK {id : Nat} {ops : List Oper} {K' K : Fr → Hp → Prop} {fr : Fr} {H : Hp} (ws : List Nat) (t : DT) (hT : TOk c.P T) (hm : c.P.follows .mixedOrders = true) (hB : forkB T ws ops t = true) (hK : ∀ fr H, K' fr H → ∃ H2, (∀ w, St c H w → St c H2 w) ∧ K fr H2) (h : wtree c T ws ops t K' fr H) : DrawS c T id ops K fr H := by
  simp only [forkB, Bool.and_eq_true, decide_eq_true_eq] at hB
  refine ⟨hm, fun j o ca hj e => ?_, fun ds w hw => wpAny_of_R (Wr := isWr ws ⟨ops⟩) _ _ _ _ (((wtree_ok hT ws ds ops hB.1.1.2 K' K hK t).1 _ _ fr H w hB.1.2 (closedL_start _) hB.2 h hw).on (R.drew w))⟩
  have h1 := List.all_eq_true.1 hB.1.1.1 o (List.mem_of_getElem? (by simpa using hj))
  unfold noDefer at h1
  rw [e] at h1
  cases h1
/-- All orders that may come are told. -/
theorem DrawS.fork {id : Nat} {ops : List Oper} {K : Fr → Hp → Prop} {fr : Fr} {H : Hp} (ws : List Nat) (t : DT) (hT : TOk c.P T) (hm : c.P.follows .mixedOrders = true) (hB : forkB T ws ops t = true) (h : wtree c T ws ops t K fr H) : DrawS c T id ops K fr H :=
  DrawS.forkK ws t hT hm hB (fun _ H hk => ⟨H, fun _ h => h, hk⟩) h
/-- .. behind each of them one state: what is behind the region is gone once. -/
theorem DrawS.join {β : Type} {id : Nat} {ops : List Oper} {K : Fr → Hp → Prop} {fr : Fr} {H : Hp} (F : β → (Nat → Value) → Fr) (G : β → Hp) (ws : List Nat) (t : DT) (hT : TOk c.P T) (hm : c.P.follows .mixedOrders = true) (hB : forkB T ws ops t = true)
    (h : wtree c T ws ops t (fun fr H => ∃ x, fr = F x (jk fr) ∧ Cov H (G x)) fr H) (k : ∀ x u, K (F x u) (G x)) : DrawS c T id ops K fr H :=
  DrawS.forkK ws t hT hm hB (fun fr' H' ⟨x, hF, hc⟩ => ⟨G x, fun _ hw => hc.st hw, by rw [hF]; exact k x (jk fr')⟩) h
end
end Go.Proofs.YtnaeeklnlddcaaaGreatDoor.Vex
/- A walk by reckoning, part seventeen: functions that give back new memory of any kind; maps that came in. No program in sight. -/
namespace Go.Proofs.YtnaeeklnlddcaaaGreatDoor.Vex
open Go Go.RowKit Go.MapKept

/-- New entries, behind a call. -/
def newH (w w' : World) (H : Hp) : Prop := (∀ y ∈ H, y.holds w' ∧ ∀ b, y.blk = some b → w.heap.size ≤ b ∧ b < w'.heap.size) ∧ (H.filterMap Ent.blk).Nodup
abbrev FnH (P : Program) (g : GI) (f : FuncId) (args : List Value) (pre : World → Prop) (K : Value → Hp → Prop) : Prop := FnE P g f args pre fun w v w' => ∃ H, K v H ∧ newH w w' H
theorem newH.of {P : Program} {g : GI} {w w' : World} {hG : g.G w} {H : Hp} (h : St (mkC P g w hG) H w') : newH w w' H :=
  ⟨fun y hy => ⟨(h.own y hy).1, fun b hb => ⟨((h.own y hy).2 b hb).2.elim id (fun h => by cases h), ((h.own y hy).2 b hb).1⟩⟩, h.apart⟩
theorem newH.cov {P : Program} {g : GI} {w w' : World} {hG : g.G w} {H H2 : Hp} (h : St (mkC P g w hG) H w') (hc : Cov H H2) : newH w w' H2 := newH.of (hc.st h)
section
variable {c : Ctx} {H : Hp}
theorem CallK.fnH {m : Bool} {f : Nat} {args : List Value} {pre : World → Prop} {K : Value → Hp → Prop} {K2 : Value → Hp → Prop} (h : FnH c.P c.g f args pre K) (hp : ∀ w, St c H w → pre w) (k : ∀ v H', K v H' → K2 v (H' ++ H)) : CallK c m f args H K2 :=
  CallK.fnE h hp fun w v w' hw ⟨H', hk, hn, hd⟩ hR => by
    refine ⟨H' ++ H, ?_, k v H' hk⟩
    have hw2 := hw.below hR
    refine ⟨hw2.mod, fun y hy => ?_, ?_⟩
    · rcases List.mem_append.1 hy with hy | hy
      · exact ⟨(hn y hy).1, fun b hb => ⟨((hn y hy).2 b hb).2, .inl (Nat.le_trans hw.mod.size ((hn y hy).2 b hb).1)⟩⟩
      · exact hw2.own y hy
    · rw [List.filterMap_append, List.nodup_append]
      refine ⟨hd, hw2.apart, fun a ha b hb e => ?_⟩
      obtain ⟨y, hy, hya⟩ := List.mem_filterMap.1 ha
      obtain ⟨z, hz, hzb⟩ := List.mem_filterMap.1 hb
      have h1 := ((hn y hy).2 a hya).1
      have h2 := ((hw.own z hz).2 b hzb).1
      omega
/-- A call whose value is known. -/
theorem CallK.fnEV {m : Bool} {f : Nat} {args : List Value} {pre : World → Prop} {v : Value} {K : Value → Hp → Prop} (h : FnE c.P c.g f args pre fun _ u _ => u = v) (hp : ∀ w, St c H w → pre w) (k : K v H) : CallK c m f args H K :=
  CallK.fnE h hp fun _ _ _ hw he hR => ⟨H, hw.below hR, by rw [he]; exact k⟩
theorem OthP.max2 {d : Option Nat} {x y : Operand} {ats : Array TypeId} {ty : TypeId} {pos : String} {after : Array Edge} {gd : Option (Nat × Bool)} {fr : Fr} {kd : IntKind} {a b : Int} {K : Value → Prop} (z : Int)
    (hx : evK fr x fun v => v = .int kd a) (hy : evK fr y fun v => v = .int kd b) (hz : max a b = z) (k : K (.int kd z)) : OthP c ⟨d, .call ⟨.builtin .max, #[x, y], ats⟩, ty, pos, after, gd⟩ fr H K := ⟨⟨_, k, fun w _ => by
  rw [evK_eq] at hx hy
  have hz' : z = if b > a then b else a := by subst hz; split <;> omega
  subst hz'
  simp only [go_sem, Builtin.max_]
  simp [hx, hy, Builtin.max2, List.foldlM]⟩⟩
/-- What a map has at a key, wherever the map lies. -/
theorem OthP.lookA {α : Type} [DecidableEq α] {kv : α → Value} {d : TypeDesc} {T : Ty} {fr : Fr} {dst : Option Nat} {ty : TypeId} {pos : String} {after : Array Edge} {gd : Option (Nat × Bool)} {t kt et : TypeId} {x i : Operand} {ok : Bool} {b : Nat} {k : α} {l : List (α × Value)} {z r : Value} {K : Value → Prop} (hk : KeyK d kv) (hT : TOk c.P T) (hb : ∀ w, St c H w → w.heap[b]? = some (mobj kv l))
    (hx : evK fr x fun v => v = .map (some b)) (hi : evK fr i fun v => v = kv k) (ht : (lookT T t).d = .map kt et) (hkt : (lookT T kt).d = d) (hd : d ≠ .invalid) (het : (lookT T et).d ≠ .invalid) (hz : (lookT T et).zero = z)
    (hr : (match ok with | true => .tuple ⟨[(mget k l).getD z, .bool (mget k l).isSome]⟩ | false => (mget k l).getD z) = r) (kk : K r) : OthP c ⟨dst, .lookup t x i ok, ty, pos, after, gd⟩ fr H K := ⟨⟨r, kk, fun w hw => by
  rw [evK_eq] at hx hi
  have hu := (lookT_ok hT (t := t) (by rw [ht]; intro h; cases h)).1
  have hku := (lookT_ok hT (t := kt) (by rw [hkt]; exact hd)).1
  rw [ht] at hu
  rw [hkt] at hku
  have hzv := run_zeroValue (lookT_ok hT (t := et) het) (w := w)
  rw [hz] at hzv
  have hb : w.heap[b]? = some (.map ⟨mkEs kv 0 l⟩ l.length) := hb w hw
  have hf := run_findKey (w := w) hku (findNow_es hk k l 0 0)
  have hc := run_checkKey (w := w) hku (hk.key k) (⟨mkEs kv 0 l⟩ : Array MapEntry).isEmpty 9999
  have hl : (Instr.lookup t (.map (some b)) (kv k) ok).run c.P w = .ok r w := by
    unfold Instr.lookup
    simp only [Sem.run_bind, run_underlying hu, Result.andThen_ok, MapKept.run_getObj_map hb, Sem.run_pure, hc, hf]
    subst hr
    cases mget k l with
    | none => cases ok <;> simp [hzv]
    | some v => cases ok <;> simp
  generalize (act fr).eval = ρ at *
  simp only [execOp, hx, hi, Sem.run_bind, hl, Result.andThen_ok, Sem.run_pure]⟩⟩
/-- An object that came in stays. -/
theorem obj_now {P : Program} {g : GI} {w : World} {hG : g.G w} {H : Hp} {b : Nat} {o : Obj} (h : w.heap[b]? = some o) : ∀ w', St (mkC P g w hG) H w' → w'.heap[b]? = some o := fun w' hw => by
  have hlt : b < w.heap.size := by
    rcases Nat.lt_or_ge b w.heap.size with h' | h'
    · exact h'
    · simp [Array.getElem?_eq_none h'] at h
  exact (hw.mod.block b hlt (fun h => by cases h)).trans h
/-- A cell that came in. -/
theorem Ld.now {P : Program} {g : GI} {w : World} {hG : g.G w} {H : Hp} {p : Addr} {v : Value} {K : Value → Prop} (h : w.cell? p = some v) (k : K v) : Ld (mkC P g w hG) H (.pointer (some p)) none K := Ld.old (c := mkC P g w hG) h (fun h => by cases h) k
end
end Go.Proofs.YtnaeeklnlddcaaaGreatDoor.Vex
