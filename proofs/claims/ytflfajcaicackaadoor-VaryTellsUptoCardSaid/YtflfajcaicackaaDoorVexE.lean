/- A walk by reckoning, part five: operations that write, make memory or call; all of them together. No program in sight. -/
import Derived.Test.YtflfajcaicackaaDoorVexD
import Derived.Deep.AppendSrc
import Derived.Lib.ConvBytes
namespace Go.Proofs.YtflfajcaicackaaDoor.Vex
open Go Go.RowKit

section
variable {c : Ctx} {T : Ty} {m : Md} {fr : Fr} {H : Hp} {K : Value → Hp → Prop} {d : Option Tmp} {ty : TypeId} {pos : String} {after : Array Edge} {gd : Option (Nat × Bool)}

theorem p_field (hT : TOk c.P T) (s : TypeId) (x : Operand) (f : Nat) (h : wop c T m ⟨d, .field s x f, ty, pos, after, gd⟩ fr H K) : PureD c ⟨d, .field s x f, ty, pos, after, gd⟩ fr H K := by
  simp only [wop, evK_eq] at h
  split at h
  · rename_i cs hx
    split at h
    · rename_i fs hd
      have ht := (lookT_ok hT (t := s) (by rw [hd]; exact fun h => by cases h)).1
      rw [hd] at ht
      split at h
      · rename_i g hg
        have hg' : fs[f]? = some g := by simpa using hg
        split at h
        · exact h.elim
        · rename_i hgd
          have hgt := lookT_ok hT hgd
          have base : ∀ {v : Value} {w : World}, (part g.type ⟨cs⟩ g.offset).run c.P w = .ok v w → (execOp (act fr).eval ⟨d, .field s x f, ty, pos, after, gd⟩).run c.P w = .ok (.value v) w := fun {v w} hv => by
            generalize (act fr).eval = ρ at *
            simp [execOp, hx, Instr.field, Sem.run_bind, run_underlying ht, hg', asAgg, hv]
          unfold partK at h
          split at h
          · rename_i n hn
            have hn2 := aggN_size hn
            subst hn2
            refine ⟨_, h, fun w _ => base ?_⟩
            unfold part
            rw [Sem.run_bind, run_isAgg hgt, hn]
            have e : (⟨cs⟩ : Array Value).extract g.offset (g.offset + (lookT T g.type).size) = ⟨(cs.drop g.offset).take (lookT T g.type).size⟩ := by
              rw [← Array.toList_inj, Array.toList_extract]
              simp [List.extract_eq_take_drop]
            simp [run_sizeOf hgt]
          · rename_i hn
            split at h
            · rename_i v hv
              refine ⟨_, h, fun w _ => base ?_⟩
              unfold part
              rw [Sem.run_bind, run_isAgg hgt, hn]
              simp [hv]
            · exact h.elim
      · exact h.elim
    · exact h.elim
  · exact h.elim

theorem splice_fold : ∀ (cs z : List Value) (off k : Nat), off + k + cs.length ≤ z.length → (cs.zipIdx k).foldl (fun (acc : Array Value) p => acc.setIfInBounds (off + p.2) p.1) ⟨z⟩ = ⟨z.take (off + k) ++ cs ++ z.drop (off + k + cs.length)⟩
  | [], z, off, k, _ => by simp
  | x :: r, z, off, k, h => by
    simp only [List.length_cons] at h
    rw [List.zipIdx_cons, List.foldl_cons]
    have e : (⟨z⟩ : Array Value).setIfInBounds (off + k) x = ⟨z.set (off + k) x⟩ := by rw [← Array.toList_inj]; simp
    rw [e, splice_fold r (z.set (off + k) x) off (k + 1) (by rw [List.length_set]; omega)]
    congr 1
    have e1 : (z.set (off + k) x).take (off + (k + 1)) = z.take (off + k) ++ [x] := by
      rw [show off + (k + 1) = off + k + 1 by omega, List.take_succ_eq_append_getElem (by rw [List.length_set]; omega), List.take_set_of_le (Nat.le_refl _)]
      simp
    have e2 : (z.set (off + k) x).drop (off + (k + 1) + r.length) = z.drop (off + k + (r.length + 1)) := by
      rw [List.drop_set_of_lt (by omega)]
      congr 1; omega
    rw [e1, e2]
    simp
theorem fill_eq (offs : List (Nat × Nat)) (place : Nat → Option (Nat × Nat)) (hp : ∀ i p, offs[i]? = some p → place i = some p) : ∀ (ps : List (Nat × Value)) (z cs : List Value), fillL offs ps z = some cs → Instr.fill place ⟨z⟩ ps = some ⟨cs⟩
  | [], z, cs, h => by
    simp only [fillL, Option.some.injEq] at h
    subst h; rfl
  | (i, v) :: r, z, cs, h => by
    unfold fillL at h
    split at h
    · rename_i o s ho
      split at h
      rename_i vs hv
      split at h
      · rename_i hd
        have hd := of_decide_eq_true hd
        unfold Instr.fill
        rw [hp i _ ho]
        simp only
        have hz : v.cells.size = vs.length := by rw [hv]; rfl
        rw [if_neg (by rw [hz]; simp; exact ⟨hd.1, by omega⟩)]
        have e : v.cells.zipIdx.foldl (fun cs (x : Value × Nat) => cs.setIfInBounds (o + x.2) x.1) (⟨z⟩ : Array Value) = ⟨z.take o ++ vs ++ z.drop (o + s)⟩ := by
          rw [← Array.foldl_toList, Array.toList_zipIdx, hv]
          have := splice_fold vs z o 0 (by omega)
          simp only [Nat.add_zero] at this
          rw [hd.1] at this
          exact this
        have e' : v.cells.zipIdx.foldl (fun cs x => match x with | (c, j) => cs.setIfInBounds (o + j) c) (⟨z⟩ : Array Value) = ⟨z.take o ++ vs ++ z.drop (o + s)⟩ := e
        rw [e']
        exact fill_eq offs place hp r _ cs h
      · cases h
    · cases h
theorem run_places {P : Program} : ∀ (fs : List Field) (offs : List (Nat × Nat)) (w : World), fs.map (fun f => (f.offset, (P.info? f.type).map (·.size))) = offs.map (fun p => (p.1, some p.2)) →
    (fs.mapM fun f => do pure (f.offset, ← sizeOf f.type) : Sem (List (Nat × Nat))).run P w = .ok offs w
  | [], [], w, _ => rfl
  | [], _ :: _, w, h => by cases h
  | _ :: _, [], w, h => by cases h
  | f :: fs, p :: offs, w, h => by
    simp only [List.map_cons, List.cons.injEq, Prod.mk.injEq] at h
    obtain ⟨⟨h1, h2⟩, h3⟩ := h
    have ih := run_places fs offs w h3
    have hs : (sizeOf f.type).run P w = .ok p.2 w := by
      cases hi : P.info? f.type with
      | none => rw [hi] at h2; cases h2
      | some x => rw [hi] at h2; simp at h2; simp [sizeOf, typeInfo, hi, h2]
    rw [List.mapM_cons]
    simp only [Sem.run_bind, hs, Result.andThen_ok, ih, Sem.run_pure]
    rw [h1]
theorem p_build (hT : TOk c.P T) (t : TypeId) (ps : Array (Nat × Operand)) (h : wop c T m ⟨d, .build t ps, ty, pos, after, gd⟩ fr H K) : PureD c ⟨d, .build t ps, ty, pos, after, gd⟩ fr H K := by
  simp only [wop, evPK_eq] at h
  split at h
  · rename_i fs hd
    have hi := lookT_ok hT (t := t) (by rw [hd]; exact fun h => by cases h)
    split at h
    · rename_i z hz
      split at h
      · rename_i cs hcs
        refine ⟨_, h, fun w _ => ?_⟩
        have hu := hi.1
        rw [hd] at hu
        have h3 := hi.2.2
        rw [hd] at h3
        have hzv := run_zeroValue hi (w := w)
        rw [hz] at hzv
        have hpl : (fs.mapM fun f => do pure (f.offset, ← sizeOf f.type) : Sem (Array (Nat × Nat))).run c.P w = .ok ⟨(lookT T t).offs⟩ w := by
          have := run_places (P := c.P) fs.toList (lookT T t).offs w h3
          rw [Array.mapM_eq_mapM_toList, Sem.run_map, this]
          rfl
        have hf := fill_eq (lookT T t).offs (fun i => (⟨(lookT T t).offs⟩ : Array (Nat × Nat))[i]?) (fun i p h => by simpa using h) _ z cs hcs
        have e : (ps.map fun (x : Nat × Operand) => (x.1, (act fr).eval x.2)).toList = ps.toList.map fun p => (p.1, (act fr).eval p.2) := by simp
        have hb : (Instr.build t (ps.map fun (i, x) => (i, (act fr).eval x))).run c.P w = .ok (.agg ⟨cs⟩) w := by
          unfold Instr.build
          have e2 : (Array.map (fun x => match x with | (i, x) => (i, (act fr).eval x)) ps).toList = ps.toList.map fun p => (p.1, (act fr).eval p.2) := by simp
          simp only [Sem.run_bind, hzv, Result.andThen_ok, run_underlying hu, hpl, Value.cells, e2, hf, Sem.run_pure]
        simp only [execOp, Sem.run_bind, hb, Result.andThen_ok, Sem.run_pure]
      · exact h.elim
    · exact h.elim
  · exact h.elim

/-- What is asked of an operation's outcome. -/
def Good (c : Ctx) (r : Bool) (w : World) (K : Value → Hp → Prop) : Result Next → Prop
  | .ok (.value v) w' => ∃ H', St c H' w' ∧ K v H' ∧ (r = true → R w w')
  | .ok .skip w' => ∃ H', St c H' w' ∧ K undef H' ∧ (r = true → R w w')
  | .ok (.enter f args) w' => w' = w ∧ Calls c.P f args w (fun e w'' => ∃ v H', e = .returned v ∧ St c H' w'' ∧ K v H' ∧ (r = true → R w w''))
  | _ => False
def rOf (m : Md) (op : Op) : Bool := match m with | .act => !wr op | _ => false
def GoodD (c : Ctx) (m : Md) (o : Oper) (fr : Fr) (H : Hp) (K : Value → Hp → Prop) : Prop :=
  ∀ w, St c H w → Good c (rOf m o.op) w K ((execOp (act fr).eval o).run c.P w)
/-- .. of a quiet one. -/
def QuietD (c : Ctx) (o : Oper) (fr : Fr) (H : Hp) (K : Value → Hp → Prop) : Prop :=
  ∃ v, K v H ∧ ∀ w, St c H w → Quiet1 c.P o (act fr) w v
/-- Either, by the mode. -/
def Did (c : Ctx) (m : Md) (o : Oper) (fr : Fr) (H : Hp) (K : Value → Hp → Prop) : Prop := match m with
  | .quiet => QuietD c o fr H K
  | m => GoodD c m o fr H K
theorem PureD.did {o : Oper} (h : PureD c o fr H K) : Did c m o fr H K := by
  obtain ⟨v, hK, hr⟩ := h
  cases m with
  | quiet => exact ⟨v, hK, fun w hw => by unfold Quiet1; rw [hr w hw]; exact ⟨rfl, rfl⟩⟩
  | plain => exact fun w hw => by rw [hr w hw]; exact ⟨H, hw, hK, fun _ => R.refl _⟩
  | act => exact fun w hw => by rw [hr w hw]; exact ⟨H, hw, hK, fun _ => R.refl _⟩
theorem OthP.did {o : Oper} (h : OthP c o fr H fun v => K v H) : Did c m o fr H K := PureD.did ⟨_, h.ok.choose_spec.1, h.ok.choose_spec.2⟩
theorem Oth.good {o : Oper} {b : Bool} (h : Oth c b o fr H K) (hb : rOf m o.op = true → b = true) : GoodD c m o fr H K := fun w hw => by
  obtain ⟨v, w', H', hr, hs, hK, hR⟩ := h.ok w hw
  rw [hr]
  exact ⟨H', hs, hK, fun h => hR (hb h)⟩
theorem othU_did {o : Oper} (hw : wr o.op = true) (h : match m with | .quiet => False | _ => OthU c o fr H K) : Did c m o fr H K := by
  have key : OthU c o fr H K → rOf m o.op = false → GoodD c m o fr H K := fun h hr w hw => by
    obtain ⟨w', H', hrun, hs, hK⟩ := h.ok w hw
    rw [hrun]
    exact ⟨H', hs, hK, fun h => by rw [hr] at h; cases h⟩
  cases m with
  | quiet => exact h.elim
  | plain => exact key h rfl
  | act => exact key h (by unfold rOf; rw [hw]; rfl)
theorem oth_did {o : Oper} (h : match m with | .quiet => False | .plain => Oth c false o fr H K | .act => Oth c (!wr o.op) o fr H K) : Did c m o fr H K := by
  cases m with
  | quiet => exact h.elim
  | plain => exact Oth.good (m := .plain) h (fun h => h)
  | act => exact Oth.good (m := .act) h (fun h => h)

theorem d_store (hT : TOk c.P T) (t : TypeId) (a x : Operand) (h : wop c T m ⟨d, .store t a x, ty, pos, after, gd⟩ fr H K) : Did c m ⟨d, .store t a x, ty, pos, after, gd⟩ fr H K := by
  have key : (evK fr a fun a => evK fr x fun x => (match lookT T t with | ⟨d, _, sz, _, _⟩ => (match d with | .invalid => False | _ => Sto c H a x sz fun H' => K undef H'))) → (m = .act → wr (.store t a x) = true) → GoodD c m ⟨d, .store t a x, ty, pos, after, gd⟩ fr H K := by
    intro h hm w hw
    rw [evK_eq, evK_eq] at h
    replace h : (match (lookT T t).d with | .invalid => False | _ => Sto c H ((act fr).eval a) ((act fr).eval x) (lookT T t).size fun H' => K undef H') := h
    split at h
    · exact h.elim
    · rename_i hd
      have hi := lookT_ok hT hd
      obtain ⟨p, H', ha, hsz, hK, _, hst⟩ := h.ok
      obtain ⟨_, w', hr, hs, _⟩ := hst w hw
      have hx : (execOp (act fr).eval ⟨d, .store t a x, ty, pos, after, gd⟩).run c.P w = .ok .skip w' := by
        generalize (act fr).eval = ρ at *
        simp [execOp, ha, Instr.storeAt, Instr.sureAddr, storeVar, Sem.run_bind, run_sizeOf hi, hsz, hr]
      rw [hx]
      refine ⟨H', hs, hK, fun h => ?_⟩
      cases m <;> simp_all [rOf]
  cases m with
  | quiet => exact h.elim
  | plain => exact key h (fun h => by cases h)
  | act => exact key h (fun _ => rfl)
theorem d_alloc (hT : TOk c.P T) (t : TypeId) (h : wop c T m ⟨d, .alloc t, ty, pos, after, gd⟩ fr H K) : Did c m ⟨d, .alloc t, ty, pos, after, gd⟩ fr H K := by
  have key : (match (lookT T t).d with | .invalid => False | _ => (match (lookT T t).zero.cells with | ⟨z⟩ => Alc z t H K)) → GoodD c m ⟨d, .alloc t, ty, pos, after, gd⟩ fr H K := by
    intro h w hw
    split at h
    · exact h.elim
    · rename_i hd
      have hi := lookT_ok hT hd
      split at h
      rename_i z hz
      have hx : (execOp (act fr).eval ⟨d, .alloc t, ty, pos, after, gd⟩).run c.P w = .ok (.value (.pointer (some ⟨w.heap.size, 0, none⟩))) (w.alloc (.cells ⟨z⟩ t)) := by
        simp [execOp, Instr.alloc, Sem.run_bind, run_zeroValue hi, newVar, newRow, newObj, Sem.run, hz]
      rw [hx]
      exact ⟨_, hw.alloc z t, h.ok _, fun _ => (Below.refl _ _).alloc (Nat.le_refl _) _⟩
  cases m with
  | quiet => exact h.elim
  | plain => exact key h
  | act => exact key h
theorem d_box (t : TypeId) (x : Operand) (h : wop c T m ⟨d, .box t x, ty, pos, after, gd⟩ fr H K) : Did c m ⟨d, .box t x, ty, pos, after, gd⟩ fr H K := by
  have key : (evK fr x fun x => (match x.cells with | ⟨z⟩ => Alc z t H K)) → GoodD c m ⟨d, .box t x, ty, pos, after, gd⟩ fr H K := by
    intro h w hw
    simp only [evK_eq] at h
    have hx : (execOp (act fr).eval ⟨d, .box t x, ty, pos, after, gd⟩).run c.P w = .ok (.value (.pointer (some ⟨w.heap.size, 0, none⟩))) (w.alloc (.cells ((act fr).eval x).cells t)) := by
      generalize (act fr).eval = ρ at *
      simp [execOp, Instr.box, newVar, newRow, newObj, Sem.run]
    rw [hx]
    exact ⟨_, hw.alloc ((act fr).eval x).cells.toList t, h.ok _, fun _ => (Below.refl _ _).alloc (Nat.le_refl _) _⟩
  cases m with
  | quiet => exact h.elim
  | plain => exact key h
  | act => exact key h
/-! ## Rows of bytes and others -/
theorem setCells_fields (g : Nat) : ∀ (vs : List Value) (o : Nat) (w : World), (w.setCells g o vs).os = w.os ∧ (w.setCells g o vs).tape = w.tape ∧ (w.setCells g o vs).output = w.output ∧ (w.setCells g o vs).heap.size = w.heap.size ∧ ∀ k, k ≠ g → (w.setCells g o vs).heap[k]? = w.heap[k]?
  | [], _, _ => ⟨rfl, rfl, rfl, rfl, fun _ _ => rfl⟩
  | v :: r, o, w => by
    obtain ⟨h1, h2, h3, h4, h5⟩ := setCells_fields g r (o + 1) (w.setCell ⟨g, o, none⟩ v)
    refine ⟨h1, h2, h3, h4.trans (by simp [World.setCell]), fun k hk => (h5 k hk).trans (Below.heap_setCell _ _ _ _ hk)⟩
theorem heap_setCells (g e : Nat) (fz : Nat × Nat) : ∀ (vs : List Value) (o : Nat) (cur : List Value) (w : World), w.heap[g]? = some (.cells ⟨cur⟩ e fz) → o + vs.length ≤ cur.length →
    (w.setCells g o vs).heap[g]? = some (.cells ⟨cur.take o ++ vs ++ cur.drop (o + vs.length)⟩ e fz)
  | [], o, cur, w, h, _ => by simpa [World.setCells] using h
  | v :: r, o, cur, w, h, hl => by
    simp only [List.length_cons] at hl
    have h1 : (w.setCell ⟨g, o, none⟩ v).heap[g]? = some (.cells ⟨cur.set o v⟩ e fz) := by
      simp only [World.setCell, Array.getElem?_modify, if_true, h, Option.map_some]
      simp
    rw [World.setCells, heap_setCells g e fz r (o + 1) (cur.set o v) _ h1 (by rw [List.length_set]; omega)]
    congr 3
    have e1 : (cur.set o v).take (o + 1) = cur.take o ++ [v] := by
      rw [List.take_succ_eq_append_getElem (by rw [List.length_set]; omega), List.take_set_of_le (Nat.le_refl _)]
      simp
    have e2 : (cur.set o v).drop (o + 1 + r.length) = cur.drop (o + (r.length + 1)) := by
      rw [List.drop_set_of_lt (by omega)]
      congr 1; omega
    rw [e1, e2]
    simp

theorem d_s2b {o : Oper} {src dst : TypeId} {x : Operand} (ho : o.op = .convert src dst x) {l : List UInt8} {e : Nat} {s : TypeDesc} (hx : (act fr).eval x = str l) (hs : c.P.underlying src = some s) (hd : c.P.underlying dst = some (.slice e)) (he : c.P.underlying e = some (.int .u8))
    (h : S2B l e H K) (hm : m = .quiet → False) : Did c m o fr H K := by
  have key : GoodD c m o fr H K := by
    intro w hw
    obtain ⟨hl, hK⟩ := h.ok
    have hr := Lib.run_convert_string_bytes (P := c.P) w src dst e ⟨⟨l⟩⟩ hs hd he
    have hrun : (execOp (act fr).eval o).run c.P w = .ok (.value (.slice (some ⟨w.heap.size, 0, none⟩) l.length (grownCap w l.length 0 e))) (Lib.bytesWorld w e ⟨⟨l⟩⟩) := by
      have hr' : (convert src dst (str l)).run c.P w = .ok (.slice (some ⟨w.heap.size, 0, none⟩) l.length (grownCap w l.length 0 e)) (Lib.bytesWorld w e ⟨⟨l⟩⟩) := hr
      generalize (act fr).eval = ρ at *
      simp only [execOp, ho, hx, Sem.run_bind, hr', Result.andThen_ok, Sem.run_pure]
    rw [hrun]
    have hge := grownCap_ge w l.length 0 e
    have hcs : (Lib.bytesCells w e ⟨⟨l⟩⟩).size = grownCap w l.length 0 e := by
      have hz : (⟨⟨l⟩⟩ : ByteArray).size = l.length := rfl
      simp [Lib.bytesCells, hz]; omega
    have hR : R w (Lib.bytesWorld w e ⟨⟨l⟩⟩) := ⟨rfl, rfl, rfl, by rw [Lib.bytesWorld_size]; omega, fun k hk => Lib.bytesWorld_at_old w e _ k hk⟩
    refine ⟨_, (hw.below hR).push (x := .row (.slice (some ⟨w.heap.size, 0, none⟩) l.length (grownCap w l.length 0 e)) e 1 l.length (l.map byteV)) ⟨by simp, .inr ⟨w.heap.size, _, _, _, rfl, Lib.bytesWorld_at_new w e _, hge, grownCap_le_maxLen w _ _ e (by simp only [maxLen]; omega), by rw [hcs]; simp, ?_, .inr (Nat.le_refl _)⟩⟩ (fun b e' => ?_) (fun b e' y hy he' => ?_), hK _ _, fun _ => hR⟩
    · simp only [Lib.bytesCells, Array.toList_append, Array.toList_map, Nat.mul_one]
      rw [List.take_append_of_le_length (by simp), List.take_of_length_le (by simp)]
      rfl
    · obtain rfl : w.heap.size = b := Option.some.inj e'
      exact ⟨by rw [Lib.bytesWorld_size]; omega, .inl hw.mod.size⟩
    · obtain rfl : w.heap.size = b := Option.some.inj e'
      have := ((hw.own y hy).2 _ he').1
      omega
  cases m with
  | quiet => exact (hm rfl).elim
  | plain => exact key
  | act => exact key

theorem zero_row (s : Nat) (z : List Value) (hz : z.length = s) : ∀ n : Nat, (List.range (n * s)).map (fun i => z[i % s]!) = (List.replicate n z).flatten
  | 0 => by simp
  | n + 1 => by
    rw [show (n + 1) * s = s + n * s by rw [Nat.add_mul]; omega, List.range_add, List.map_append, List.map_map, List.replicate_succ, List.flatten_cons]
    congr 1
    · apply List.ext_getElem
      · simp [hz]
      · intro i h1 h2
        simp only [List.length_map, List.length_range] at h1
        simp [Nat.mod_eq_of_lt h1, h2]
    · rw [← zero_row s z hz n]
      apply List.map_congr_left
      intro i _
      simp
theorem d_buildSlice (hT : TOk c.P T) (t : TypeId) (n : Nat) (ps : Array (Nat × Operand)) (h : wop c T m ⟨d, .buildSlice t n ps, ty, pos, after, gd⟩ fr H K) : Did c m ⟨d, .buildSlice t n ps, ty, pos, after, gd⟩ fr H K := by
  have key : (evPK fr ps.toList fun ps => (match (lookT T t).d with
        | .slice e => (match lookT T e with | ⟨d, z, sz, _, _⟩ => (match d, z.cells with
          | .invalid, _ => False
          | _, ⟨z⟩ => (match decide (z.length = sz) with
            | false => False
            | true => (match fillL ((List.range n).map fun i => (i * sz, sz)) ps (List.replicate n z).flatten with
              | some cs => BSl cs e sz n H K
              | none => False))))
        | _ => False)) → GoodD c m ⟨d, .buildSlice t n ps, ty, pos, after, gd⟩ fr H K := by
    intro h w hw
    · rw [evPK_eq] at h
      split at h
      · rename_i e hd
        have ht := (lookT_ok hT (t := t) (by rw [hd]; exact fun h => by cases h)).1
        rw [hd] at ht
        replace h : (match (lookT T e).d, (lookT T e).zero.cells with
          | .invalid, _ => False
          | _, ⟨z⟩ => (match decide (z.length = (lookT T e).size) with
            | false => False
            | true => (match fillL ((List.range n).map fun i => (i * (lookT T e).size, (lookT T e).size)) (ps.toList.map fun p => (p.1, (act fr).eval p.2)) (List.replicate n z).flatten with
              | some cs => BSl cs e (lookT T e).size n H K
              | none => False))) := h
        split at h
        · exact h.elim
        · rename_i z hz he
          have hi := lookT_ok hT he
          split at h
          · exact h.elim
          · rename_i hdz
            have hdz := of_decide_eq_true hdz
            split at h
            · rename_i cs hcs
              obtain ⟨hl, h24, hn24, hK⟩ := h.ok
              have hf := fill_eq _ (fun i => some (i * (lookT T e).size, (lookT T e).size)) (fun i p hp => by
                rw [List.getElem?_map] at hp
                cases hr : (List.range n)[i]? with
                | none => rw [hr] at hp; cases hp
                | some j =>
                  rw [hr] at hp
                  obtain ⟨hj, he'⟩ := List.getElem?_eq_some_iff.1 hr
                  simp at he'
                  subst he'
                  simpa using hp) _ _ cs hcs
              have hzc : (lookT T e).zero.cells = ⟨z⟩ := hz
              have hfill : Instr.fill (fun i => some (i * (lookT T e).size, (lookT T e).size)) ((Array.range (n * (lookT T e).size)).map ((if n * (lookT T e).size = 0 then #[] else (⟨z⟩ : Array Value))[· % (if n * (lookT T e).size = 0 then #[] else (⟨z⟩ : Array Value)).size]!)) (ps.toList.map fun p => (p.1, (act fr).eval p.2)) = some ⟨cs⟩ := by
                rw [← hf]
                congr 1
                rw [← Array.toList_inj]
                by_cases h0 : n * (lookT T e).size = 0
                · have := zero_row (lookT T e).size z hdz n
                  rw [h0] at this
                  simp only [List.range_zero, List.map_nil] at this
                  simp [h0, ← this]
                · rw [if_neg h0, ← zero_row (lookT T e).size z hdz n, ← hdz]
                  simp
              have e2 : (Array.map (fun x => match x with | (i, x) => (i, (act fr).eval x)) ps).toList = ps.toList.map fun p => (p.1, (act fr).eval p.2) := by simp
              have hb : (Instr.buildSlice t n (ps.map fun (i, x) => (i, (act fr).eval x))).run c.P w = .ok (.slice (some ⟨w.heap.size, 0, none⟩) n n) (w.alloc (.cells ⟨cs⟩ e)) := by
                unfold Instr.buildSlice
                simp only [Sem.run_bind, run_underlying ht, Result.andThen_ok, run_sizeOf hi, if_neg (show ¬ n * (lookT T e).size > 2 ^ 24 by omega)]
                by_cases h0 : n * (lookT T e).size = 0
                · rw [if_pos h0] at hfill
                  simp only [if_pos h0, Sem.run_pure, Result.andThen_ok, e2, hfill, newRow, newObj, Sem.run_bind, Sem.run]
                  rfl
                · rw [if_neg h0] at hfill
                  simp only [if_neg h0, Sem.run_bind, run_zeroValue hi, hzc, Sem.run_pure, Result.andThen_ok, e2, hfill, newRow, newObj, Sem.run]
                  rfl
              have hx : (execOp (act fr).eval ⟨d, .buildSlice t n ps, ty, pos, after, gd⟩).run c.P w = .ok (.value (.slice (some ⟨w.heap.size, 0, none⟩) n n)) (w.alloc (.cells ⟨cs⟩ e)) := by
                simp only [execOp, Sem.run_bind, hb, Result.andThen_ok, Sem.run_pure]
              rw [hx]
              have hR : R w (w.alloc (.cells ⟨cs⟩ e)) := (Below.refl _ _).alloc (Nat.le_refl _) _
              refine ⟨_, (hw.below hR).push (x := .row (.slice (some ⟨w.heap.size, 0, none⟩) n n) e (lookT T e).size n cs) ⟨hl, .inr ⟨w.heap.size, n, ⟨cs⟩, (0, 0), rfl, heap_alloc_new w _, Nat.le_refl _, by simp only [maxLen]; omega, hl, List.take_of_length_le (by rw [← hl]; exact Nat.le_refl _), .inl (Nat.le_refl _)⟩⟩ (fun b e' => ?_) (fun b e' y hy he' => ?_), hK _, fun _ => hR⟩
              · obtain rfl : w.heap.size = b := Option.some.inj e'
                exact ⟨by simp, .inl hw.mod.size⟩
              · obtain rfl : w.heap.size = b := Option.some.inj e'
                have := ((hw.own y hy).2 _ he').1
                omega
            · exact h.elim
      · exact h.elim
  cases m with
  | quiet => exact h.elim
  | plain => exact key h
  | act => exact key h
theorem run_append {P : Program} {t tx ty e : TypeId} {i : TI} (ht : P.underlying t = some (.slice e)) (hi : TIok P e i) (hz : i.zero.cells.size = i.size) (_hsz : 0 < i.size) {w : World} {v : Value} {n : Nat} {xs : List Value} (hr : RowH w v e i.size n xs)
    {x : Value} {m : Nat} {news : List Value} (hs : Src P i.size tx x m news w) (h63 : n + m ≤ 9223372036854775807) (hb : (n + m) * i.bytes ≤ 140737488355328) :
    (∃ A cp w', (Builtin.append_ #[t, tx] ty #[v, x]).run P w = .ok (.slice A (n + m) cp) w' ∧ RowH w' (.slice A (n + m) cp) e i.size (n + m) (xs ++ news) ∧
      (Value.slice A (n + m) cp).ownBlock = v.ownBlock ∧ (∀ k, some k ≠ v.ownBlock → k < w.heap.size → w'.heap[k]? = w.heap[k]?) ∧ w'.os = w.os ∧ w'.tape = w.tape ∧ w'.output = w.output ∧ w.heap.size ≤ w'.heap.size) ∨
    ∃ A cp w', (Builtin.append_ #[t, tx] ty #[v, x]).run P w = .ok (.slice A (n + m) cp) w' ∧ RowH w' (.slice A (n + m) cp) e i.size (n + m) (xs ++ news) ∧
      (Value.slice A (n + m) cp).ownBlock = some w.heap.size ∧ R w w' ∧ w.heap.size < w'.heap.size := by
  obtain ⟨x0, hx0, hx1, hx2, hx3⟩ := some_info hi
  have hlen : (xs ++ news).length = (n + m) * i.size := by rw [List.length_append, hr.1, hs.newsLen, Nat.add_mul]
  have grow : ∀ (base : Option Addr) (cap : Nat), cap < n + m → (Builtin.firstCells i.size n (.slice base n cap)).run P w.drew = .ok xs.toArray w.drew → v = .slice base n cap → ∃ A cp w', (Builtin.append_ #[t, tx] ty #[v, x]).run P w = .ok (.slice A (n + m) cp) w' ∧ RowH w' (.slice A (n + m) cp) e i.size (n + m) (xs ++ news) ∧
      (Value.slice A (n + m) cp).ownBlock = some w.heap.size ∧ R w w' ∧ w.heap.size < w'.heap.size := by
    intro base cap hc hf hv
    subst hv
    have hrun := run_append_grow_src (P := P) w t tx ty e x0 i.zero ht hx0 hx1 base n cap xs (by rw [hx2]; exact hf) x m news (by rw [hx2]; exact hs) hc (by omega) (by rw [hx3]; exact growslice_fits hc hb)
    have hge := grownCap_ge w (n + m) cap e
    refine ⟨_, _, _, hrun, ⟨hlen, .inr ⟨w.heap.size, _, _, (0, 0), rfl, heap_alloc_new w.drew _, hge, grownCap_le_maxLen w _ _ e (by simp only [maxLen]; omega), ?_, ?_, .inl (Nat.le_refl _)⟩⟩, rfl, ((Below.refl _ _).drew).alloc (by simp) _, by simp⟩
    · simp only [Array.size_append, List.size_toArray, size_zeroCells, hz, hlen, ← Nat.add_mul]
      congr 1
      omega
    · simp only [Array.toList_append]
      rw [← hlen]
      exact List.take_left
  rcases hr.2 with ⟨rfl, rfl⟩ | ⟨g, cap, cur, fz, rfl, hg, hnc, hcm, hcs, htake, hfz⟩
  · have hx : xs = [] := List.eq_nil_of_length_eq_zero (by simpa using hr.1)
    subst hx
    by_cases hm : m = 0
    · subst hm
      have hn : news = [] := List.eq_nil_of_length_eq_zero (by simpa using hs.newsLen)
      subst hn
      left
      refine ⟨none, 0, w, ?_, ⟨by simp, .inl ⟨rfl, rfl⟩⟩, rfl, fun _ _ _ => rfl, rfl, rfl, rfl, Nat.le_refl _⟩
      have hc := hs.cells
      rw [← hx2] at hc
      rcases hs.kind with ⟨e', hk⟩ | hk <;> simp [Builtin.append_, run_underlying ht, run_underlying hk, sizeOf, typeInfo, hx0, hs.len, hc]
    · right
      exact grow none 0 (by omega) (run_firstCells_none w.drew _ _ _ _) rfl
  · by_cases hroom : n + m ≤ cap
    · left
      have hfit : n * i.size + news.length ≤ cur.size := by rw [hs.newsLen, hcs, ← Nat.add_mul]; exact Nat.mul_le_mul_right _ hroom
      have hrun := run_append_room_src (P := P) w t tx ty e x0 ht hx0 g 0 n cap x m news (by rw [hx2]; exact hs) hroom (fun j hj => by
        rw [cell_of_row w g _ cur e fz hg, hx2]
        simp; omega) (fun j hj => by
        simp only [World.frozen?, hg, hx2]
        simp; omega)
      rw [hx2, Nat.zero_add] at hrun
      have hh := heap_setCells g e fz news (n * i.size) cur.toList w (by simpa using hg) (by simpa using hfit)
      obtain ⟨h1, h2, h3, h4, h5⟩ := setCells_fields g news (n * i.size) w
      refine ⟨_, _, _, hrun, ⟨hlen, .inr ⟨g, cap, _, fz, rfl, hh, hroom, hcm, ?_, ?_, ?_⟩⟩, rfl, fun k hk _ => h5 k (fun e => hk (by rw [e]; rfl)), h1, h2, h3, by rw [h4]; exact Nat.le_refl _⟩
      · simp only [List.size_toArray, List.length_append, List.length_take, List.length_drop, Array.length_toList]
        omega
      · rw [htake, ← hlen]
        exact List.take_left
      · rcases hfz with h | h
        · exact .inl h
        · right
          simp only [List.size_toArray, List.length_append, List.length_take, List.length_drop, Array.length_toList]
          omega
    · right
      refine grow (some ⟨g, 0, none⟩) cap (by omega) ?_ rfl
      refine run_firstCells_some w.drew i.size n ⟨g, 0, none⟩ n cap xs hr.1 fun j u hj => ?_
      have hc : w.drew.heap[g]? = some (.cells cur e fz) := hg
      rw [Addr.add_lit, Nat.zero_add, cell_of_row w.drew g j cur e fz hc]
      have : cur.toList[j]? = some u := by
        rw [← htake, List.getElem?_take] at hj
        split at hj
        · exact hj
        · cases hj
      simpa using this
theorem d_append (hT : TOk c.P T) {args : Array Operand} {ats : Array TypeId} (h : wop c T m ⟨d, .call ⟨.builtin .append, args, ats⟩, ty, pos, after, gd⟩ fr H K) : Did c m ⟨d, .call ⟨.builtin .append, args, ats⟩, ty, pos, after, gd⟩ fr H K := by
  have main : ∀ {t tx e : TypeId} {v x : Value} {sz : Nat}, ats = #[t, tx] → args.map (act fr).eval = #[v, x] → c.P.underlying t = some (.slice e) → ((∃ e', c.P.underlying tx = some (.slice e') ∧ ∃ A n cp, x = .slice A n cp) ∨ (c.P.underlying tx = some .string ∧ sz = 1 ∧ ∃ l, x = str l)) → TIok c.P e (lookT T e) → (lookT T e).size = sz → (lookT T e).zero.cells.size = sz →
      AppS c v x e sz (lookT T e).bytes H K → GoodD c m ⟨d, .call ⟨.builtin .append, args, ats⟩, ty, pos, after, gd⟩ fr H K := by
    intro t tx e v x sz hats hargs ht hkind hi hsz hz h w hw
    subst hsz
    obtain ⟨h0, n, xs, mm, news, H2, hp, hsrc, hnl, h1, h63, hb, hK⟩ := h.ok
    have hw2 := hp w hw
    have hrow : RowH w v e (lookT T e).size n xs := (hw2.own _ (List.mem_cons_self ..)).1
    have hlt := (hw2.own _ (List.mem_cons_self ..)).2
    have hsr : Src c.P (lookT T e).size tx x mm news w := by
      rcases hkind with ⟨e', hk, A, n', cp, rfl⟩ | ⟨hk, hs1, l, rfl⟩
      · obtain ⟨rfl, hc⟩ := hsrc
        cases A with
        | none =>
          have hn : news = [] := by
            cases news with
            | nil => rfl
            | cons u r => obtain ⟨a, ha, _⟩ := hc w hw 0 u rfl; cases ha
          subst hn
          have hm : n' = 0 := by
            simp only [List.length_nil] at hnl
            rcases Nat.mul_eq_zero.1 hnl.symm with h | h
            · exact h
            · omega
          subst hm
          exact Src.ofNil w hk cp
        | some a =>
          refine Src.ofSlice w hk a n' cp news hnl (fun j u hj => ?_) h1
          obtain ⟨a', ha, hcell⟩ := hc w hw j u hj
          cases ha
          exact hcell
      · obtain ⟨rfl, rfl⟩ := hsrc
        rw [hs1]
        exact Src.ofString w hk ⟨⟨l⟩⟩
    have run : ∀ {r : Value} {w' : World}, (Builtin.append_ #[t, tx] ty #[v, x]).run c.P w = .ok r w' → (execOp (act fr).eval ⟨d, .call ⟨.builtin .append, args, ats⟩, ty, pos, after, gd⟩).run c.P w = .ok (.value r) w' := fun {r w'} hr => by
      simp only [execOp, resolve, Sem.run_bind, Sem.run_pure, Result.andThen_ok, invoke, builtin, hargs, hats, hr]
    have hm : rOf m (.call ⟨.builtin .append, args, ats⟩) = true → False := by
      cases m <;> simp [rOf, wr]
    have hrest : St c H2 w := hw2.sub (List.sublist_cons_self _ _)
    have hnin : ∀ b, v.ownBlock = some b → ∀ y ∈ H2, y.blk ≠ some b := fun b hb y hy he => by
      have hap := hw2.apart
      rw [List.filterMap_cons] at hap
      have hvb : (Ent.row v e (lookT T e).size n xs).blk = some b := hb
      rw [hvb] at hap
      exact (List.nodup_cons.1 hap).1 (List.mem_filterMap.2 ⟨y, hy, he⟩)
    rcases run_append (ty := ty) ht hi hz h0 hrow hsr h63 hb with ⟨A, cp, w', hr, hrow', hblk, hfar, hos, htp, hou, hsz'⟩ | ⟨A, cp, w', hr, hrow', hblk, hR, hlt'⟩
    · rw [run hr]
      have hmod : ModW c.M c.w0 w' := ⟨hos.trans hw.mod.os, htp.trans hw.mod.tape, hou.trans hw.mod.output, Nat.le_trans hw.mod.size hsz', fun k hk hM => by
        refine (hfar k (fun e' => ?_) (Nat.lt_of_lt_of_le hk hw.mod.size)).trans (hw.mod.block k hk hM)
        rcases (hlt k e'.symm).2 with h | h
        · omega
        · exact hM h⟩
      have hrest' : St c H2 w' := ⟨hmod, fun y hy => ⟨Ent.holds_of_block (hrest.own y hy).1 fun b hb => hfar b (fun e' => hnin b e'.symm y hy hb) ((hrest.own y hy).2 b hb).1, fun b hb => ⟨Nat.lt_of_lt_of_le ((hrest.own y hy).2 b hb).1 hsz', ((hrest.own y hy).2 b hb).2⟩⟩, hrest.apart⟩
      refine ⟨_, hrest'.push (x := .row (.slice A (n + mm) cp) e (lookT T e).size (n + mm) (xs ++ news)) hrow' (fun b hb => ?_) (fun b hb y hy => ?_), hK A cp, fun h => (hm h).elim⟩
      · have hb' : v.ownBlock = some b := hblk.symm.trans hb
        exact ⟨Nat.lt_of_lt_of_le (hlt b hb').1 hsz', (hlt b hb').2⟩
      · exact hnin b (hblk.symm.trans hb) y hy
    · rw [run hr]
      have hrest' : St c H2 w' := hrest.below hR
      refine ⟨_, hrest'.push (x := .row (.slice A (n + mm) cp) e (lookT T e).size (n + mm) (xs ++ news)) hrow' (fun b hb => ?_) (fun b hb y hy he => ?_), hK A cp, fun h => (hm h).elim⟩
      · obtain rfl : w.heap.size = b := Option.some.inj (hblk.symm.trans hb)
        exact ⟨hlt', .inl hw.mod.size⟩
      · obtain rfl : w.heap.size = b := Option.some.inj (hblk.symm.trans hb)
        have := ((hrest.own y hy).2 _ he).1
        omega
  have key : (evLK fr args.toList fun ar => (match ats.toList, ar with
          | [t, tx], [v, x] => (match (lookT T t).d, (lookT T tx).d with
            | .slice e, .slice _ => (match lookT T e with | ⟨d, z, sz, by', _⟩ => (match d, decide (z.cells.size = sz) with | .invalid, _ => False | _, false => False | _, true => (match isStr x with | false => AppS c v x e sz by' H K | true => False)))
            | .slice e, .string => (match lookT T e with | ⟨d, z, sz, by', _⟩ => (match d, decide (z.cells.size = 1), decide (sz = 1) with | .int .u8, true, true => (match isStr x with | true => AppS c v x e 1 by' H K | false => False) | _, _, _ => False))
            | _, _ => False)
          | _, _ => False)) → GoodD c m ⟨d, .call ⟨.builtin .append, args, ats⟩, ty, pos, after, gd⟩ fr H K := by
    intro h
    rw [evLK_eq] at h
    split at h
    · rename_i t tx v x hats hargs
      have hats' : ats = #[t, tx] := by rw [← Array.toList_inj]; exact hats
      have hargs' : args.map (act fr).eval = #[v, x] := by rw [← Array.toList_inj, Array.toList_map]; exact hargs
      split at h
      · rename_i e e' hd hd'
        have ht := (lookT_ok hT (t := t) (by rw [hd]; exact fun h => by cases h)).1
        rw [hd] at ht
        have htx := (lookT_ok hT (t := tx) (by rw [hd']; exact fun h => by cases h)).1
        rw [hd'] at htx
        replace h : (match (lookT T e).d, decide ((lookT T e).zero.cells.size = (lookT T e).size) with | .invalid, _ => False | _, false => False | _, true => (match isStr x with | false => AppS c v x e (lookT T e).size (lookT T e).bytes H K | true => False)) := h
        split at h
        · exact h.elim
        · exact h.elim
        · rename_i hz he
          have hz := of_decide_eq_true hz
          split at h
          case h_2 => exact h.elim
          rename_i hstr
          have hx : ∃ A n cp, x = .slice A n cp := by
            obtain ⟨_, _, _, _, _, _, _, hs, _⟩ := h.ok
            unfold SrcK at hs
            split at hs
            · exact ⟨_, _, _, rfl⟩
            · cases hstr
            · exact hs.elim
          exact main hats' hargs' ht (.inl ⟨e', htx, hx⟩) (lookT_ok hT he) rfl hz h
      · rename_i e hd hd'
        have ht := (lookT_ok hT (t := t) (by rw [hd]; exact fun h => by cases h)).1
        rw [hd] at ht
        have htx := (lookT_ok hT (t := tx) (by rw [hd']; exact fun h => by cases h)).1
        rw [hd'] at htx
        replace h : (match (lookT T e).d, decide ((lookT T e).zero.cells.size = 1), decide ((lookT T e).size = 1) with | .int .u8, true, true => (match isStr x with | true => AppS c v x e 1 (lookT T e).bytes H K | false => False) | _, _, _ => False) := h
        split at h
        · rename_i he hz hs1
          have hz := of_decide_eq_true hz
          have hs1 := of_decide_eq_true hs1
          split at h
          case h_2 => exact h.elim
          rename_i hstr
          have hx : ∃ l, x = str l := by
            obtain ⟨_, _, _, _, _, _, _, hs, _⟩ := h.ok
            unfold SrcK at hs
            split at hs
            · cases hstr
            · exact ⟨_, rfl⟩
            · exact hs.elim
          exact main hats' hargs' ht (.inr ⟨htx, rfl, hx⟩) (lookT_ok hT (by rw [he]; exact fun h => by cases h)) hs1 hz h
        · exact h.elim
      · exact h.elim
    · exact h.elim
  cases m with
  | quiet => exact h.elim
  | plain => exact key h
  | act => exact key h
theorem run_call {P : Program} {f : FuncId} {first cap : List Value} {ρ : Operand → Value} {x : Operand} {args : Array Operand} {ats : Array TypeId} (hx : ρ x = .func (.func f) ⟨first⟩ ⟨cap⟩) (hc : Callable P f) (w : World) :
    (execOp ρ ⟨d, .call ⟨.value x, args, ats⟩, ty, pos, after, gd⟩).run P w = .ok (.enter f ⟨first ++ args.toList.map ρ ++ cap⟩) w := by
  obtain ⟨fn, h1, h2, h3⟩ := hc
  have e : ((⟨first⟩ : Array Value) ++ args.map ρ) ++ (⟨cap⟩ : Array Value) = ⟨first ++ args.toList.map ρ ++ cap⟩ := by rw [← Array.toList_inj]; simp
  simp only [execOp, resolve, hx, Deferred.ofValue, invoke, Sem.run_bind, Sem.run_pure, Result.andThen_ok, callFunc, program, Sem.run, h1, h2, h3, e]
  simp
theorem run_yieldCall {P : Program} {l : Nat} {ρ : Operand → Value} {x : Operand} {args : Array Operand} {ats : Array TypeId} (hx : ρ x = .func (.yield l) ⟨[]⟩ ⟨[]⟩) (w : World) :
    (execOp ρ ⟨d, .call ⟨.value x, args, ats⟩, ty, pos, after, gd⟩).run P w = (Instr.yield l ⟨args.toList.map ρ⟩).run P w := by
  have e : (⟨[]⟩ : Array Value) ++ args.map ρ = ⟨args.toList.map ρ⟩ := by rw [← Array.toList_inj]; simp
  simp only [execOp, resolve, hx, Deferred.ofValue, invoke, Sem.run_bind, Sem.run_pure, Result.andThen_ok, e]
/-- A round is begun. -/
def YieldD (c : Ctx) (o : Oper) (fr : Fr) (H : Hp) (K : Value → Hp → Prop) : Prop := ∀ w, St c H w → ∃ l fn tmps as' body, (execOp (act fr).eval o).run c.P w = .ok (.round l fn tmps as' body) w ∧ RoundIn Fence.wide 0 c.P l fn tmps as' body w fun e w' => ∃ v H', e = .returned v ∧ St c H' w' ∧ K v H'
def Did2 (c : Ctx) (m : Md) (o : Oper) (fr : Fr) (H : Hp) (K : Value → Hp → Prop) : Prop := Did c m o fr H K ∨ (m = .plain ∧ YieldD c o fr H K)
theorem d_call (ca : Call) (h : wop c T m ⟨d, .call ca, ty, pos, after, gd⟩ fr H K) (hT : TOk c.P T) : Did2 c m ⟨d, .call ca, ty, pos, after, gd⟩ fr H K := by
  obtain ⟨callee, args, ats⟩ := ca
  cases callee with
  | invoke r s => exact h.elim
  | value x =>
    simp only [wop, evK_eq, evLK_eq] at h
    split at h
    · rename_i f first cap hx
      refine .inl ?_
      cases m with
      | plain =>
        intro w hw
        rw [run_call hx h.can]
        exact ⟨rfl, (h.ok w hw).mono fun e w' ⟨v, H', he, hs, hK, _⟩ => ⟨v, H', he, hs, hK, fun h => by cases h⟩⟩
      | act =>
        intro w hw
        rw [run_call hx h.can]
        exact ⟨rfl, (h.ok w hw).mono fun e w' ⟨v, H', he, hs, hK, hR⟩ => ⟨v, H', he, hs, hK, fun _ => hR rfl⟩⟩
      | quiet =>
        obtain ⟨v, hK, hC⟩ := h.ok
        refine ⟨v, hK, fun w hw => ?_⟩
        unfold Quiet1
        rw [run_call hx h.can]
        exact ⟨rfl, hC w hw⟩
    · rename_i l hx
      cases m with
      | plain =>
        refine .inr ⟨rfl, fun w hw => ?_⟩
        obtain ⟨fn, tmps, as', body, hy, hr⟩ := h.ok w hw
        exact ⟨l, fn, tmps, as', body, (run_yieldCall hx w).trans hy, hr⟩
      | _ => exact h.elim
    · exact h.elim
  | builtin b =>
    refine .inl ?_
    have len : ∀ (h : wop c T m ⟨d, .call ⟨.builtin .len, args, ats⟩, ty, pos, after, gd⟩ fr H K), Did c m ⟨d, .call ⟨.builtin .len, args, ats⟩, ty, pos, after, gd⟩ fr H K := by
      intro h
      simp only [wop, evLK_eq] at h
      have ea : args.map (act fr).eval = ⟨args.toList.map (act fr).eval⟩ := by rw [← Array.toList_inj]; simp
      split at h
      · rename_i t r hat
        have hat' : ats[0]? = some t := by
          have : ats[0]? = ats.toList[0]? := by simp
          rw [this, hat]; rfl
        have run : ∀ {v x : Value} {w : World}, args.toList.map (act fr).eval = [x] → (Builtin.len_ ats ty #[x]).run c.P w = .ok v w → (execOp (act fr).eval ⟨d, .call ⟨.builtin .len, args, ats⟩, ty, pos, after, gd⟩).run c.P w = .ok (.value v) w := fun {v x w} hx hv => by
          simp only [execOp, resolve, Sem.run_bind, Sem.run_pure, Result.andThen_ok, invoke, builtin, ea, hx]
          rw [show (⟨[x]⟩ : Array Value) = #[x] from rfl, hv]
          rfl
        split at h
        · rename_i l ha hd
          have ht := (lookT_ok hT (by rw [hd]; exact fun h => by cases h)).1
          rw [hd] at ht
          refine PureD.did ⟨_, h, fun w _ => run ha ?_⟩
          simp only [Builtin.len_, hat']
          simp [Sem.run_bind, run_underlying ht, goInt]
          rfl
        · rename_i a n cp e ha hd
          have ht := (lookT_ok hT (by rw [hd]; exact fun h => by cases h)).1
          rw [hd] at ht
          refine PureD.did ⟨_, h, fun w _ => run ha ?_⟩
          simp only [Builtin.len_, hat']
          simp [Sem.run_bind, run_underlying ht, goInt]
        · exact OthP.did h
      · exact h.elim
    cases b with
    | len => exact len h
    | append => exact d_append hT h
    | _ => first
      | exact oth_did h
      | exact OthP.did h


theorem wop_did1 (hT : TOk c.P T) (o : Oper) (hc : ∀ ca, o.op ≠ .call ca) (h : wop c T m o fr H K) : Did c m o fr H K := by
  obtain ⟨d, op, ty, pos, after, gd⟩ := o
  cases op with
  | move x => exact (p_move x h).did
  | assign x => exact (p_assign x h).did
  | pick q a b => exact (p_pick q a b h).did
  | unOp op t x => exact (p_unOp op t x h).did
  | binOp op t x y yt => exact (p_binOp hT op t x y yt h).did
  | extract x i => exact (p_extract x i h).did
  | fieldAddr s x f => exact (p_fieldAddr hT s x f h).did
  | field s x f => exact (p_field hT s x f h).did
  | index t x i => exact (p_index hT t x i h).did
  | indexAddr t x i => exact (p_indexAddr hT t x i h).did
  | slice t x lo hi mx => exact (p_slice hT t x lo hi mx h).did
  | build t ps => exact (p_build hT t ps h).did
  | nilCheck x => exact (p_nilCheck x h).did
  | load t a => exact (p_load hT t a h).did
  | makeFunc f a b => exact (p_makeFunc f a b h).did
  | store t a x => exact d_store hT t a x h
  | alloc t => exact d_alloc hT t h
  | box t x => exact d_box t x h
  | call ca => exact absurd rfl (hc ca)
  | convert src dst x =>
    rcases p_convert hT src dst x h with h | ⟨hq, l, e, s, hx, hs, hd, he, h⟩ | ⟨b, ho, hm⟩
    · exact h.did
    · exact d_s2b rfl hx hs hd he h (fun e => by subst e; exact hq)
    · cases m with
      | quiet => exact hm.elim
      | plain => exact Oth.good (m := .plain) ho (fun h => by cases h)
      | act => exact Oth.good (m := .act) ho (fun _ => hm)
  | buildSlice t n ps => exact d_buildSlice hT t n ps h
  | makeSlice _ _ _ => exact oth_did h
  | range _ _ => exact oth_did h
  | makeMap _ _ => exact oth_did h
  | mapUpdate _ _ _ _ => exact othU_did rfl h
  | mapEntry _ _ _ => exact oth_did h
  | entryStore _ _ _ _ => exact othU_did rfl h
  | insert _ _ _ _ => exact othU_did rfl h
  | next _ _ => exact oth_did h
  | lookup _ _ _ _ => exact OthP.did h
  | makeInterface _ _ => exact OthP.did h
  | typeAssert _ _ _ _ => exact OthP.did h
  | _ => exact h.elim
theorem wop_did (hT : TOk c.P T) (o : Oper) (h : wop c T m o fr H K) : Did2 c m o fr H K := by
  by_cases hc : ∃ ca, o.op = .call ca
  · obtain ⟨ca, hc⟩ := hc
    obtain ⟨d, op, ty, pos, after, gd⟩ := o
    subst hc
    exact d_call ca h hT
  · exact .inl (wop_did1 hT o (fun ca e => hc ⟨ca, e⟩) h)
theorem wop_noDefer (o : Oper) (h : wop c T m o fr H K) : ∀ ca, o.op ≠ .defer ca := fun ca e => by
  obtain ⟨d, op, ty, pos, after, gd⟩ := o
  subst e
  exact h.elim
end
end Go.Proofs.YtflfajcaicackaaDoor.Vex
