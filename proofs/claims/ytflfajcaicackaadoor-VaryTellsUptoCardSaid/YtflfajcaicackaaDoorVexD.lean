/- A walk by reckoning, part four: each operation does what its words say. No program in sight. -/
import Derived.Test.YtflfajcaicackaaDoorVexC
import Derived.Lib.Strings
import Derived.WalkLawsBesides
import Derived.Laws.IdiomStrings
namespace Go.Proofs.YtflfajcaicackaaDoor.Vex
open Go Go.RowKit

/-- The operation yields one value, in every world with this heap, and leaves the world alone. -/
def PureD (c : Ctx) (o : Oper) (fr : Fr) (H : Hp) (K : Value → Hp → Prop) : Prop :=
  ∃ v, K v H ∧ ∀ w, St c H w → (execOp (act fr).eval o).run c.P w = .ok (.value v) w

section
variable {c : Ctx} {T : Ty} {m : Md} {fr : Fr} {H : Hp} {K : Value → Hp → Prop} {d : Option Tmp} {ty : TypeId} {pos : String} {after : Array Edge} {gd : Option (Nat × Bool)}

theorem run_vbind {P : Program} {s : Sem Value} {v : Value} {w : World} (h : s.run P w = .ok v w) : (do pure (.value (← s)) : Sem Next).run P w = .ok (.value v) w := by
  simp [h]

theorem run_sizeOf {P : Program} {t : TypeId} {i : TI} (h : TIok P t i) (w : World) : (sizeOf t).run P w = .ok i.size w := by
  obtain ⟨_, h2, _⟩ := h
  cases hi : P.info? t with
  | none => rw [hi] at h2; cases h2
  | some x =>
    rw [hi] at h2
    simp at h2
    simp [sizeOf, typeInfo, hi, h2.2.1]
theorem run_zeroValue {P : Program} {t : TypeId} {i : TI} (h : TIok P t i) (w : World) : (zeroValue t).run P w = .ok i.zero w := by
  obtain ⟨_, h2, _⟩ := h
  cases hi : P.info? t with
  | none => rw [hi] at h2; cases h2
  | some x =>
    rw [hi] at h2
    simp at h2
    simp [zeroValue, typeInfo, hi, h2.1]
theorem run_isAgg {P : Program} {t : TypeId} {i : TI} (h : TIok P t i) (w : World) : (isAgg t).run P w = .ok (aggN i).isSome w := by
  unfold isAgg aggN
  rw [Sem.run_bind, run_underlying h.1]
  cases i.d <;> rfl
theorem aggN_size {i : TI} {n : Nat} (h : aggN i = some n) : n = i.size := by
  unfold aggN at h
  split at h <;> simp_all

theorem p_move (x : Operand) (h : wop c T m ⟨d, .move x, ty, pos, after, gd⟩ fr H K) : PureD c ⟨d, .move x, ty, pos, after, gd⟩ fr H K := by
  simp only [wop, evK_eq] at h
  exact ⟨_, h, fun w _ => rfl⟩
theorem p_assign (x : Operand) (h : wop c T m ⟨d, .assign x, ty, pos, after, gd⟩ fr H K) : PureD c ⟨d, .assign x, ty, pos, after, gd⟩ fr H K := by
  simp only [wop, evK_eq] at h
  exact ⟨_, h, fun w _ => rfl⟩
theorem p_pick (q a b : Operand) (h : wop c T m ⟨d, .pick q a b, ty, pos, after, gd⟩ fr H K) : PureD c ⟨d, .pick q a b, ty, pos, after, gd⟩ fr H K := by
  simp only [wop, evK_eq] at h
  split at h
  · rename_i b' hq
    cases b'
    · exact ⟨_, h, fun w _ => by simp [execOp, hq, asBool]⟩
    · exact ⟨_, h, fun w _ => by simp [execOp, hq, asBool]⟩
  · exact h.elim
theorem p_unOp (op : UnOp) (xt : TypeId) (x : Operand) (h : wop c T m ⟨d, .unOp op xt x, ty, pos, after, gd⟩ fr H K) : PureD c ⟨d, .unOp op xt x, ty, pos, after, gd⟩ fr H K := by
  simp only [wop, evK_eq] at h
  split at h
  · rename_i b hx
    exact ⟨_, h, fun w _ => by simp [execOp, hx, Op.unary]⟩
  · rename_i k a hx
    obtain ⟨r, rfl, hr⟩ := h.ok
    exact ⟨_, hr, fun w _ => by simp [execOp, hx, Op.unary, Op.intArith]⟩
  · exact h.elim
theorem p_extract (x : Operand) (i : Nat) (h : wop c T m ⟨d, .extract x i, ty, pos, after, gd⟩ fr H K) : PureD c ⟨d, .extract x i, ty, pos, after, gd⟩ fr H K := by
  simp only [wop, evK_eq] at h
  split at h
  · rename_i vs hx
    split at h
    · rename_i v hv
      exact ⟨v, h, fun w _ => by simp [execOp, hx, Instr.extract, hv]⟩
    · exact h.elim
  · exact h.elim
theorem some_info {P : Program} {t : TypeId} {i : TI} (h : TIok P t i) : ∃ x, P.info? t = some x ∧ x.zero = some i.zero ∧ x.size = i.size ∧ x.bytes = i.bytes := by
  obtain ⟨_, h2, _⟩ := h
  cases hi : P.info? t with
  | none => rw [hi] at h2; cases h2
  | some x => rw [hi] at h2; simp at h2; exact ⟨x, rfl, h2⟩
theorem p_fieldAddr (hT : TOk c.P T) (s : TypeId) (x : Operand) (f : Nat) (h : wop c T m ⟨d, .fieldAddr s x f, ty, pos, after, gd⟩ fr H K) : PureD c ⟨d, .fieldAddr s x f, ty, pos, after, gd⟩ fr H K := by
  simp only [wop, evK_eq] at h
  split at h
  · rename_i a0 hx
    split at h
    · rename_i fs hd
      have hi := lookT_ok hT (t := s) (by rw [hd]; exact fun h => by cases h)
      split at h
      · rename_i p hp
        split at h
        · exact h.elim
        · rename_i n hn
          refine ⟨_, h, fun w _ => ?_⟩
          have h3 := hi.2.2
          rw [hd] at h3
          simp only at h3
          have h4 : (fs.toList.map (fun f => (f.offset, (c.P.info? f.type).map (·.size))))[f]? = some (p.1, some p.2) := by rw [h3]; simp [hp]
          rw [List.getElem?_map] at h4
          cases hf : fs.toList[f]? with
          | none => rw [hf] at h4; cases h4
          | some g =>
            rw [hf] at h4
            simp at h4
            obtain ⟨h4, x', hx', hs⟩ := h4
            have hf' : fs[f]? = some g := by simpa using hf
            have hu := hi.1
            rw [hd] at hu
            generalize (act fr).eval = ρ at *
            simp [execOp, hx, Instr.fieldAt, Sem.run_bind, run_underlying hu, hf', Instr.sureAddr, fieldPlace, sizeOf, typeInfo, hx', hs, hn, h4]
      · exact h.elim
    · exact h.elim
  · exact h.elim
theorem p_index (hT : TOk c.P T) (t : TypeId) (x i : Operand) (h : wop c T m ⟨d, .index t x i, ty, pos, after, gd⟩ fr H K) : PureD c ⟨d, .index t x i, ty, pos, after, gd⟩ fr H K := by
  simp only [wop, evK_eq] at h
  split at h
  · rename_i l k n hx hi
    split at h
    · rename_i hd
      have ht := (lookT_ok hT (t := t) (by rw [hd]; exact fun h => by cases h)).1
      rw [hd] at ht
      obtain ⟨h0, u, hu, hK⟩ := h.ok
      refine ⟨_, hK, fun w _ => ?_⟩
      generalize (act fr).eval = ρ at *
      have hg : (⟨⟨l⟩⟩ : ByteArray)[n.toNat]? = some u := by
        have hlt : n.toNat < l.length := (List.getElem?_eq_some_iff.1 hu).1
        have hlt' : n.toNat < (⟨⟨l⟩⟩ : ByteArray).size := hlt
        rw [getElem?_pos (⟨⟨l⟩⟩ : ByteArray) n.toNat hlt']
        exact congrArg some (List.getElem?_eq_some_iff.1 hu).2
      simp [execOp, hx, hi, Instr.index, Sem.run_bind, run_underlying ht, asIntOf, h0, hg]
    · exact h.elim
  · exact ⟨_, h.ok.choose_spec.1, h.ok.choose_spec.2⟩
theorem p_indexAddr (hT : TOk c.P T) (t : TypeId) (x i : Operand) (h : wop c T m ⟨d, .indexAddr t x i, ty, pos, after, gd⟩ fr H K) : PureD c ⟨d, .indexAddr t x i, ty, pos, after, gd⟩ fr H K := by
  simp only [wop, evK_eq] at h
  split at h
  · rename_i A len cp k n e hx hi hd
    replace h : (match (lookT T e).d with | .invalid => False | _ => IdxA c H A len n (lookT T e).size fun v => K v H) := h
    split at h
    · exact h.elim
    · rename_i he
      have ht := (lookT_ok hT (t := t) (by rw [hd]; exact fun h => by cases h)).1
      rw [hd] at ht
      have hs := run_sizeOf (lookT_ok hT (t := e) he)
      obtain ⟨h0, h1, hA, hK⟩ := h.ok
      refine ⟨_, hK, fun w hw => ?_⟩
      cases A with
      | none => have := hA w hw; cases this
      | some a =>
        generalize (act fr).eval = ρ at *
        simp [execOp, hx, hi, Instr.indexAt, Sem.run_bind, run_underlying ht, asIntOf, h0, h1, hs]
  · exact h.elim
theorem p_nilCheck (x : Operand) (h : wop c T m ⟨d, .nilCheck x, ty, pos, after, gd⟩ fr H K) : PureD c ⟨d, .nilCheck x, ty, pos, after, gd⟩ fr H K := by
  simp only [wop, evK_eq] at h
  split at h
  · rename_i p hx
    exact ⟨_, h, fun w _ => by simp [execOp, hx]⟩
  · rename_i f a b hx
    exact ⟨_, h, fun w _ => by simp [execOp, hx]⟩
  · exact h.elim
theorem p_makeFunc (f : Fn) (a b : Array Operand) (h : wop c T m ⟨d, .makeFunc f a b, ty, pos, after, gd⟩ fr H K) : PureD c ⟨d, .makeFunc f a b, ty, pos, after, gd⟩ fr H K := by
  simp only [wop, evLK_eq] at h
  refine ⟨_, h, fun w _ => ?_⟩
  have e1 : ∀ x : Array Operand, (⟨x.toList.map (act fr).eval⟩ : Array Value) = x.map (act fr).eval := fun x => by
    rw [← Array.toList_inj]; simp
  rw [e1, e1]
  simp only [execOp, Instr.makeFunc]
  rfl
theorem rd_run {P : Program} {t : TypeId} {i : TI} (h : TIok P t i) {w : World} {p : Addr} {v : Value} (hr : Rd w p (aggN i) v) : (loadVar t p).run P w = .ok v w := by
  unfold loadVar
  rw [Sem.run_bind, run_isAgg h]
  cases ha : aggN i with
  | none =>
    rw [ha] at hr
    have hr' : w.cell? p = some v := hr
    simp [load, Sem.run, hr']
  | some n =>
    rw [ha] at hr
    obtain ⟨vs, rfl, hl, hc⟩ := hr
    have hn := aggN_size ha
    have := run_loadCells_list (P := P) w p vs hc
    rw [hl, hn] at this
    simp [Sem.run_bind, run_sizeOf h, this]
theorem p_load (hT : TOk c.P T) (t : TypeId) (a : Operand) (h : wop c T m ⟨d, .load t a, ty, pos, after, gd⟩ fr H K) : PureD c ⟨d, .load t a, ty, pos, after, gd⟩ fr H K := by
  simp only [wop, evK_eq] at h
  split at h
  · exact h.elim
  · rename_i he
    obtain ⟨v, p, ha, hr, hK⟩ := h.ok
    refine ⟨v, hK, fun w hw => ?_⟩
    have := rd_run (lookT_ok hT he) (hr w hw)
    generalize (act fr).eval = ρ at *
    simp [execOp, ha, Instr.loadAt, Instr.sureAddr, this]
theorem p_slice (hT : TOk c.P T) (t : TypeId) (x : Operand) (lo hi mx : Option Operand) (h : wop c T m ⟨d, .slice t x lo hi mx, ty, pos, after, gd⟩ fr H K) : PureD c ⟨d, .slice t x lo hi mx, ty, pos, after, gd⟩ fr H K := by
  simp only [wop, evK_eq] at h
  split at h
  · exact h.elim
  · split at h
    · rename_i l hx hd
      have ht := (lookT_ok hT (t := t) (by rw [hd]; exact fun h => by cases h)).1
      rw [hd] at ht
      have hex : ∀ a b : Nat, (⟨⟨l⟩⟩ : ByteArray).extract a b = ⟨⟨(l.take b).drop a⟩⟩ := fun a b => by
        apply ByteArray.ext
        rw [← Array.toList_inj, Lib.extract_data, List.drop_take]
      have hz : (⟨⟨l⟩⟩ : ByteArray).size = l.length := rfl
      split at h
      · refine ⟨_, h, fun w _ => ?_⟩
        generalize (act fr).eval = ρ at *
        have := hex 0 l.length
        simp at this
        simp [execOp, hx, Instr.sliceAt, Instr.slice, Instr.sliceBounds, Sem.run_bind, run_underlying ht]
      · split at h
        · rename_i k n hn
          obtain ⟨h0, h1, h2, hK⟩ := h.ok
          refine ⟨_, hK, fun w _ => ?_⟩
          generalize (act fr).eval = ρ at *
          simp [execOp, hx, hn, Instr.sliceAt, Instr.slice, Instr.sliceBounds, Instr.sliceBound, asIntOf, Sem.run_bind, run_underlying ht, hz, h0, h1, hex]
        · exact h.elim
      · split at h
        · rename_i k n hn
          obtain ⟨h0, h1, h2, hK⟩ := h.ok
          refine ⟨_, hK, fun w _ => ?_⟩
          generalize (act fr).eval = ρ at *
          simp [execOp, hx, hn, Instr.sliceAt, Instr.slice, Instr.sliceBounds, Instr.sliceBound, asIntOf, Sem.run_bind, run_underlying ht, hz, h1, h2, hex]
        · exact h.elim
      · split at h
        · rename_i k n k' n' hn hn'
          obtain ⟨h0, h1, h2, hK⟩ := h.ok
          refine ⟨_, hK, fun w _ => ?_⟩
          generalize (act fr).eval = ρ at *
          have h3 : (n : Int) ≤ (n'.toNat : Int) := by omega
          have h4 : 0 ≤ n' := by omega
          have h5 : ¬ max n' 0 < n := by omega
          simp [execOp, hx, hn, hn', Instr.sliceAt, Instr.slice, Instr.sliceBounds, Instr.sliceBound, asIntOf, Sem.run_bind, run_underlying ht, hz, h0, h2, h4, h5, hex]
        · exact h.elim
    · rename_i A n cp e hx hd
      have ht := (lookT_ok hT (t := t) (by rw [hd]; exact fun h => by cases h)).1
      rw [hd] at ht
      replace h : (match (lookT T e).d with
          | .invalid => False
          | _ => (match (generalizing := false) lo, hi with
            | none, none => SlcV c H A n cp 0 none (lookT T e).size fun v => K v H
            | some a, none => (match (act fr).eval a with | .int _ a => SlcV c H A n cp a none (lookT T e).size fun v => K v H | _ => False)
            | none, some b => (match (act fr).eval b with | .int _ b => SlcV c H A n cp 0 (some b) (lookT T e).size fun v => K v H | _ => False)
            | some a, some b => (match (act fr).eval a, (act fr).eval b with | .int _ a, .int _ b => SlcV c H A n cp a (some b) (lookT T e).size fun v => K v H | _, _ => False))) := h
      split at h
      · exact h.elim
      · rename_i he
        have hs := run_sizeOf (lookT_ok hT (t := e) he)
        have ite_eq : ∀ (l : Nat) (j : Int), 0 ≤ j → j.toNat = l → (if cp = l then A else A.map (·.add (l * (lookT T e).size))) = (if (cp : Int) = j then A else A.map (·.add (j.toNat * (lookT T e).size))) := fun l j hj hl => by
          subst hl
          by_cases hc : (cp : Int) = j
          · rw [if_pos hc, if_pos (by omega)]
          · rw [if_neg hc, if_neg (by omega)]
        split at h
        · obtain ⟨h0, h1, h2, hK⟩ := h.ok
          refine ⟨_, hK, fun w _ => ?_⟩
          rw [← ite_eq 0 0 (by omega) rfl]
          generalize (act fr).eval = ρ at *
          simp [execOp, hx, Instr.sliceAt, Instr.slice, Instr.sliceBounds, Sem.run_bind, run_underlying ht, hs]
        · split at h
          · rename_i k j hj
            obtain ⟨h0, h1, h2, hK⟩ := h.ok
            simp only [Option.getD_none] at h1
            refine ⟨_, hK, fun w _ => ?_⟩
            rw [← ite_eq j.toNat j h0 rfl]
            generalize (act fr).eval = ρ at *
            simp [execOp, hx, hj, Instr.sliceAt, Instr.slice, Instr.sliceBounds, Instr.sliceBound, asIntOf, Sem.run_bind, run_underlying ht, hs, h0, h1]
          · exact h.elim
        · split at h
          · rename_i k j hj
            obtain ⟨h0, h1, h2, hK⟩ := h.ok
            simp only [Option.getD_some] at h1
            refine ⟨_, hK, fun w hw => ?_⟩
            have h3 := h2 j rfl w hw
            rw [← ite_eq 0 0 (by omega) rfl]
            generalize (act fr).eval = ρ at *
            simp [execOp, hx, hj, Instr.sliceAt, Instr.slice, Instr.sliceBounds, Instr.sliceBound, asIntOf, Sem.run_bind, run_underlying ht, hs, h1, h3]
          · exact h.elim
        · split at h
          · rename_i k j k' j' hj hj'
            obtain ⟨h0, h1, h2, hK⟩ := h.ok
            simp only [Option.getD_some] at h1
            refine ⟨_, hK, fun w hw => ?_⟩
            have h3 := h2 j' rfl w hw
            rw [← ite_eq j.toNat j h0 rfl]
            have h4 : 0 ≤ j' := by omega
            have h5 : ¬ max j' 0 < j := by omega
            have h6 : j ≤ (j'.toNat : Int) := by omega
            generalize (act fr).eval = ρ at *
            simp [execOp, hx, hj, hj', Instr.sliceAt, Instr.slice, Instr.sliceBounds, Instr.sliceBound, asIntOf, Sem.run_bind, run_underlying ht, hs, h0, h3, h4, h5]
          · exact h.elim
    · exact ⟨_, h.ok.choose_spec.1, h.ok.choose_spec.2⟩
theorem beq_toList (a b : List UInt8) : ((⟨⟨a⟩⟩ : ByteArray).toList == (⟨⟨b⟩⟩ : ByteArray).toList) = decide (a = b) := by
  rw [Lib.toList_data, Lib.toList_data]
  show (a == b) = _
  rw [Bool.eq_iff_iff]; simp
theorem run_equal_bool {P : Program} {t : TypeId} (ht : P.underlying t = some .bool) (a b : Bool) (w : World) : (Op.equal t (.bool a) (.bool b)).run P w = .ok (a == b) w := by
  have e : Op.equal t (.bool a) (.bool b) = Op.equalIn (9999 + 1) t (.bool a) (.bool b) := rfl
  rw [e, Op.equalIn, Sem.run_bind, run_underlying ht]
  rfl
theorem run_bool_eq {P : Program} {ρ : Operand → Value} {x y : Operand} {t : TypeId} {yt : TypeId} {a b : Bool} (hx : ρ x = .bool a) (hy : ρ y = .bool b) (ht : P.underlying t = some .bool) (w : World) :
    (execOp ρ ⟨d, .binOp .eql t x y yt, ty, pos, after, gd⟩).run P w = .ok (.value (.bool (a == b))) w := by
  have hg : (eqGuard .eql t x y (.bool a) (.bool b)).run P w = .ok () w := rfl
  have hb : (binOp .eql t (.bool a) (.bool b)).run P w = .ok (.bool (a == b)) w := by
    show (do pure (.bool (← Op.equal t (.bool a) (.bool b))) : Sem Value).run P w = _
    rw [Sem.run_bind, run_equal_bool ht]
    rfl
  simp only [execOp, hx, hy, Sem.run_bind, hg, Result.andThen_ok, hb]
  rfl
theorem run_bool_neq {P : Program} {ρ : Operand → Value} {x y : Operand} {t : TypeId} {yt : TypeId} {a b : Bool} (hx : ρ x = .bool a) (hy : ρ y = .bool b) (ht : P.underlying t = some .bool) (w : World) :
    (execOp ρ ⟨d, .binOp .neq t x y yt, ty, pos, after, gd⟩).run P w = .ok (.value (.bool (!(a == b)))) w := by
  have hg : (eqGuard .neq t x y (.bool a) (.bool b)).run P w = .ok () w := rfl
  have hb : (binOp .neq t (.bool a) (.bool b)).run P w = .ok (.bool (!(a == b))) w := by
    show (do pure (.bool (!(← Op.equal t (.bool a) (.bool b)))) : Sem Value).run P w = _
    rw [Sem.run_bind, run_equal_bool ht]
    rfl
  simp only [execOp, hx, hy, Sem.run_bind, hg, Result.andThen_ok, hb]
  rfl
theorem p_binOp (hT : TOk c.P T) (op : BinOp) (t : TypeId) (x y : Operand) (yt : TypeId) (h : wop c T m ⟨d, .binOp op t x y yt, ty, pos, after, gd⟩ fr H K) : PureD c ⟨d, .binOp op t x y yt, ty, pos, after, gd⟩ fr H K := by
  simp only [wop, evK_eq] at h
  have other : OthP c ⟨d, .binOp op t x y yt, ty, pos, after, gd⟩ fr H (fun v => K v H) → PureD c ⟨d, .binOp op t x y yt, ty, pos, after, gd⟩ fr H K := fun h => ⟨_, h.ok.choose_spec.1, h.ok.choose_spec.2⟩
  unfold wbin at h
  split at h
  · rename_i k a k' b hx hy
    split at h
    · rename_i hk
      have hk := of_decide_eq_true hk
      subst hk
      have run : ∀ {z : Value} {w : World}, (binOp op t (.int k a) (.int k b)).run c.P w = .ok z w → (execOp (act fr).eval ⟨d, .binOp op t x y yt, ty, pos, after, gd⟩).run c.P w = .ok (.value z) w := fun {z w} hz => by
        generalize (act fr).eval = ρ at *
        have hg : (eqGuard op t x y (.int k a) (.int k b)).run c.P w = .ok () w := by
          unfold eqGuard
          split <;> rfl
        simp [execOp, hx, hy, Sem.run_bind, hg, hz]
      have cmp : ∀ {p : Prop} {z : Bool}, Cmp p (fun v => K v H) → (∀ w, (binOp op t (.int k a) (.int k b)).run c.P w = .ok (.bool z) w) → (z = true ↔ p) → PureD c ⟨d, .binOp op t x y yt, ty, pos, after, gd⟩ fr H K :=
        fun hc hz hp => ⟨_, hc.ok _ hp, fun w _ => run (hz w)⟩
      split at h
      · obtain ⟨r, rfl, hr⟩ := h.ok
        exact ⟨_, hr, fun w _ => run (by simp [binOp, Op.intArith])⟩
      · obtain ⟨r, rfl, hr⟩ := h.ok
        exact ⟨_, hr, fun w _ => run (by simp [binOp, Op.intArith])⟩
      · obtain ⟨r, rfl, hr⟩ := h.ok
        exact ⟨_, hr, fun w _ => run (by simp [binOp, Op.intArith])⟩
      · obtain ⟨h0, ⟨_, r, rfl, hr⟩ | ⟨h1, _⟩⟩ := h.ok
        · exact ⟨_, hr, fun w _ => run (by simp [binOp, Op.intDiv, h0])⟩
        · cases h1
      · obtain ⟨h0, ⟨h1, _⟩ | ⟨_, r, rfl, hr⟩⟩ := h.ok
        · cases h1
        · exact ⟨_, hr, fun w _ => run (by simp [binOp, Op.intDiv, h0])⟩
      · unfold wcmp at h
        split at h
        · exact cmp h (fun w => by simp only [binOp, Op.intCmp]; simp) decide_eq_true_iff
        · exact cmp h (fun w => by simp only [binOp, Op.intCmp]; simp) decide_eq_true_iff
        · exact cmp h (fun w => by simp only [binOp, Op.intCmp]; simp) decide_eq_true_iff
        · exact cmp h (fun w => by simp only [binOp, Op.intCmp]; simp) decide_eq_true_iff
        · exact cmp h (fun w => by simp only [binOp, Op.intCmp]; simp) beq_iff_eq
        · exact cmp h (fun w => by simp only [binOp, Op.intCmp]; simp) bne_iff_ne
        · exact other h
    · exact other h
  · rename_i a b hx hy
    have run : ∀ {z : Value} {w : World}, (Op.stringOp op ⟨⟨a⟩⟩ ⟨⟨b⟩⟩).run c.P w = .ok z w → (execOp (act fr).eval ⟨d, .binOp op t x y yt, ty, pos, after, gd⟩).run c.P w = .ok (.value z) w := fun {z w} hz => by
      generalize (act fr).eval = ρ at *
      have hg : (eqGuard op t x y (.string ⟨⟨a⟩⟩) (.string ⟨⟨b⟩⟩)).run c.P w = .ok () w := by
        unfold eqGuard
        split <;> rfl
      have hb : binOp op t (.string ⟨⟨a⟩⟩) (.string ⟨⟨b⟩⟩) = Op.stringOp op ⟨⟨a⟩⟩ ⟨⟨b⟩⟩ := by cases op <;> rfl
      simp [execOp, hx, hy, Sem.run_bind, hg, hb, hz]
    split at h
    · obtain ⟨hl, hK⟩ := h.ok
      refine ⟨_, hK, fun w _ => run ?_⟩
      have e : ((⟨⟨a⟩⟩ : ByteArray) ++ ⟨⟨b⟩⟩) = ⟨⟨a ++ b⟩⟩ := by
        apply ByteArray.ext
        rw [ByteArray.data_append, ← Array.toList_inj, Array.toList_append]
      have hz : ∀ l : List UInt8, (⟨⟨l⟩⟩ : ByteArray).size = l.length := fun l => rfl
      unfold Op.stringOp
      simp only [hz, e]
      rw [if_neg (by show ¬ (_ > (9223372036854775807 : Int)); omega)]
      rfl
    · exact ⟨_, h.ok _ decide_eq_true_iff, fun w _ => run (by unfold Op.stringOp; simp only [beq_toList]; rfl)⟩
    · exact ⟨_, h.ok (!decide (a = b)) (by simp), fun w _ => run (by unfold Op.stringOp; simp only [beq_toList]; rfl)⟩
    · exact other h
  · rename_i a b hx hy
    split at h
    · rename_i hd
      have ht := (lookT_ok hT (t := t) (by rw [hd]; exact fun h => by cases h)).1
      rw [hd] at ht
      exact ⟨_, h.ok _ beq_iff_eq, fun w _ => run_bool_eq hx hy ht w⟩
    · rename_i hd
      have ht := (lookT_ok hT (t := t) (by rw [hd]; exact fun h => by cases h)).1
      rw [hd] at ht
      exact ⟨_, h.ok (!(a == b)) (by simp), fun w _ => run_bool_neq hx hy ht w⟩
    · exact other h
  · exact other h
theorem bytes_row {w : World} {A : Addr} {l : List UInt8} (h : ∀ (j : Nat) (x : UInt8), l[j]? = some x → w.cell? (A.add j) = some (byteV x)) : ∀ (j : Nat) (hj : j < l.length), w.cell? (A.add j) = some (.int .u8 (l[j].toNat : Int)) :=
  fun j hj => h j l[j] (List.getElem?_eq_getElem hj)
/-- A conversion: plain, or of a text to bytes, or by its own law. -/
theorem p_convert (hT : TOk c.P T) (src dst : TypeId) (x : Operand) (h : wop c T m ⟨d, .convert src dst x, ty, pos, after, gd⟩ fr H K) :
    PureD c ⟨d, .convert src dst x, ty, pos, after, gd⟩ fr H K ∨
    ((match m with | .quiet => False | _ => True) ∧ ∃ l e s, (act fr).eval x = str l ∧ (c.P.underlying src = some s) ∧ c.P.underlying dst = some (.slice e) ∧ c.P.underlying e = some (.int .u8) ∧ S2B l e H K) ∨
    ∃ b, Oth c b ⟨d, .convert src dst x, ty, pos, after, gd⟩ fr H K ∧ (match m with | .quiet => False | .plain => b = false | .act => b = true) := by
  simp only [wop, evK_eq] at h
  split at h
  · rename_i k k' n hd hx
    left
    split at h
    · exact h.elim
    · rename_i hs
      have ht := (lookT_ok hT (t := dst) (by rw [hd]; exact fun h => by cases h)).1
      rw [hd] at ht
      have hs := (lookT_ok hT (t := src) hs).1
      obtain ⟨r, rfl, hr⟩ := h.ok
      refine ⟨_, hr, fun w _ => ?_⟩
      generalize (act fr).eval = ρ at *
      simp [execOp, hx, Sem.run_bind, convert, run_underlying ht, run_underlying hs, Conv.intToInt]
  · rename_i s hd hx
    left
    split at h
    · exact h.elim
    · rename_i hs
      have ht := (lookT_ok hT (t := dst) (by rw [hd]; exact fun h => by cases h)).1
      rw [hd] at ht
      have hs := (lookT_ok hT (t := src) hs).1
      refine ⟨_, h, fun w _ => ?_⟩
      generalize (act fr).eval = ρ at *
      simp [execOp, hx, Sem.run_bind, convert, run_underlying ht, run_underlying hs]
  · rename_i A n cp hd hx
    left
    have ht := (lookT_ok hT (t := dst) (by rw [hd]; exact fun h => by cases h)).1
    rw [hd] at ht
    split at h
    · rename_i e hs
      have hsu := (lookT_ok hT (t := src) (by rw [hs]; exact fun h => by cases h)).1
      rw [hs] at hsu
      split at h
      · rename_i he
        have heu := (lookT_ok hT (t := e) (by rw [he]; exact fun h => by cases h)).1
        rw [he] at heu
        obtain ⟨l, rfl, hr, hK⟩ := h.ok
        refine ⟨_, hK, fun w hw => ?_⟩
        have hb := hr w hw
        cases A with
        | none =>
          have hl : l = [] := by
            cases l with
            | nil => rfl
            | cons y l => obtain ⟨a, ha, _⟩ := hb 0 y rfl; cases ha
          subst hl
          generalize (act fr).eval = ρ at *
          simp [execOp, hx, Sem.run_bind, convert, run_underlying ht, run_underlying hsu, run_underlying heu, Conv.bytesToString]
          rfl
        | some a =>
          have hb' : ∀ (j : Nat) (x : UInt8), l[j]? = some x → w.cell? (a.add j) = some (byteV x) := fun j x hj => by
            obtain ⟨a', ha, hc⟩ := hb j x hj
            cases ha
            exact hc
          have := run_convert_bytes_back (P := c.P) w src dst e a cp l hsu heu ht (bytes_row hb')
          generalize (act fr).eval = ρ at *
          simp only [execOp, hx, Sem.run_bind, this, Result.andThen_ok, Sem.run_pure]
      · exact ⟨_, h.ok.choose_spec.1, h.ok.choose_spec.2⟩
    · exact ⟨_, h.ok.choose_spec.1, h.ok.choose_spec.2⟩
  · exact .inl ⟨_, h.ok.choose_spec.1, h.ok.choose_spec.2⟩
  · rename_i e l hd hx
    right; left
    split at h
    · rename_i hs he
      have ht := (lookT_ok hT (t := dst) (by rw [hd]; exact fun h => by cases h)).1
      rw [hd] at ht
      have hsu := (lookT_ok hT (t := src) (by rw [hs]; exact fun h => by cases h)).1
      rw [hs] at hsu
      have heu := (lookT_ok hT (t := e) (by rw [he]; exact fun h => by cases h)).1
      rw [he] at heu
      cases m with
      | quiet => exact h.elim
      | plain => exact ⟨trivial, l, e, _, hx, hsu, ht, heu, h⟩
      | act => exact ⟨trivial, l, e, _, hx, hsu, ht, heu, h⟩
    · exact h.elim
  · right; right
    cases m with
    | quiet => exact h.elim
    | plain => exact ⟨_, h, rfl⟩
    | act => exact ⟨_, h, rfl⟩
end
end Go.Proofs.YtflfajcaicackaaDoor.Vex
