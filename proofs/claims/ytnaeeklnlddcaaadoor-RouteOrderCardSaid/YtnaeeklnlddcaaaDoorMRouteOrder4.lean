/- The statement RouteOrder: what is found does not hang on the order of pages; any pages, method and path, and which page is brought to the front. -/
import Derived.Test.YtnaeeklnlddcaaaDoorMRouteOrder3
/- The parameters of a path at a page's places, reckoned. -/
namespace Go.Proofs.YtnaeeklnlddcaaaDoor.Vex
open Go Go.RowKit
set_option maxRecDepth 100000
set_option linter.unusedSectionVars false
set_option linter.unusedSectionVars false
variable {gI : GI} [HasMax gI] [HasErr gI]

theorem CallQ.fnV {c : Ctx} {H : Hp} {f : Nat} {args : List Value} {pre : World → Prop} {v : Value} {K : Value → Prop} (h : FnE c.P c.g f args pre fun _ u _ => u = v) (hp : ∀ w, St c H w → pre w) (k : K v) : CallQ c f args H K :=
  ⟨h.can, v, k, fun w hw => (h.ok w hw.glob (hp w hw)).mono fun _ w' ⟨v', he, hv, hR⟩ => ⟨by rw [he, hv], hR⟩⟩
theorem SlcV.strs {c : Ctx} {H : Hp} {A : Option Addr} {n cp : Nat} {lo : Int} {l : List (List UInt8)} {K : Value → Prop} (hR : ∀ H, RdA c H A (l.map str)) (hn : l.length = n) (hc : n ≤ cp) (h0 : 0 ≤ lo) (h1 : lo ≤ n)
    (k : ∀ A2 c2 r, r = l.drop lo.toNat → (∀ H, RdA c H A2 (r.map str)) → r.length ≤ c2 → K (.slice A2 r.length c2)) : SlcV c H A n cp lo none 1 K := by
  refine SlcV.from h0 h1 ?_
  have hl : (l.drop lo.toNat).length = n - lo.toNat := by rw [List.length_drop]; omega
  have := k (if (cp : Int) = lo then A else A.map (·.add (lo.toNat * 1))) (cp - lo.toNat) _ rfl (fun H => ⟨by
    have hp := RdS.piece (cp := cp) (sz := 1) (lo := lo) (hR H).ok h0 (fun e => by rw [List.length_map]; omega)
    rw [Nat.mul_one, ← List.map_drop] at hp
    rw [Nat.mul_one]
    exact hp⟩) (by rw [hl]; omega)
  rw [hl] at this
  exact this
/-- How much segments hold, with their slashes. -/
def totS (l : List (List UInt8)) : Nat := (l.map fun s => s.length + 1).sum
theorem totS_cons (s : List UInt8) (l : List (List UInt8)) : totS (s :: l) = s.length + 1 + totS l := by simp [totS]
theorem totS_drop : ∀ (l : List (List UInt8)) (k : Nat), totS (l.drop k) ≤ totS l
  | [], k => by simp
  | s :: l, 0 => Nat.le_refl _
  | s :: l, k + 1 => by
    have := totS_drop l k
    rw [List.drop_succ_cons, totS_cons]
    omega
theorem totS_len : ∀ l : List (List UInt8), l.length ≤ totS l
  | [] => Nat.le_refl _
  | s :: l => by have := totS_len l; rw [totS_cons, List.length_cons]; omega
theorem tot_tail : ∀ r : List (List UInt8), (Lib.joinTail [47] r).length = totS r
  | [] => rfl
  | s :: r => by
    have ih := tot_tail r
    unfold Lib.joinTail at *
    rw [List.map_cons, List.flatten_cons, List.length_append, ih, totS_cons, List.length_append, List.length_singleton]
    omega
theorem join_tot (l : List (List UInt8)) : (Lib.join l [47]).length ≤ totS l := by
  cases l with
  | nil => simp [Lib.join_nil]
  | cons s r => rw [Lib.join_cons, List.length_append, tot_tail, totS_cons]; omega
theorem unq_len : ∀ (n : Nat) (s : List UInt8), s.length ≤ n → (unq s).length ≤ s.length
  | _, [], _ => Nat.le_refl _
  | 0, _ :: _, h => by simp at h
  | n + 1, x :: r, h => by
    simp only [List.length_cons] at h
    unfold unq
    split
    · simp
    · rename_i a b t e
      obtain ⟨rfl, rfl⟩ := List.cons.inj e
      simp only [List.length_cons] at h ⊢
      have h1 := unq_len n t (by omega)
      have h2 := unq_len n (a :: b :: t) (by simp only [List.length_cons]; omega)
      simp only [List.length_cons] at h2
      split
      · simp only [List.length_cons]; omega
      · simp only [List.length_cons]; omega
    · rename_i y t _ e
      obtain ⟨rfl, rfl⟩ := List.cons.inj e
      have h1 := unq_len n r (by omega)
      simp only [List.length_cons]
      omega
theorem tot_split : ∀ l : List UInt8, totS ((splitB 47 l).map unq) ≤ l.length + 1 ∧ totS (splitB 47 l) = l.length + 1
  | l => by
    have e2 : totS (splitB 47 l) = l.length + 1 := by
      have h := congrArg List.length (split_slashed l)
      have h2 : ∀ R : List (List UInt8), (slashed R).length = totS R := fun R => by
        induction R with
        | nil => rfl
        | cons s R ih =>
          rw [slashed, List.flatMap_cons, List.length_append, totS_cons, List.length_cons]
          have ih : (List.flatMap (fun s => (47 : UInt8) :: s) R).length = totS R := ih
          rw [ih]
      rw [h2] at h
      exact h
    refine ⟨?_, e2⟩
    rw [← e2]
    generalize splitB 47 l = R
    induction R with
    | nil => exact Nat.le_refl _
    | cons s R ih =>
      rw [List.map_cons, totS_cons, totS_cons]
      have := unq_len s.length s (Nat.le_refl _)
      omega
theorem tot_segs {p : List UInt8} (hp : pathOf p = true) : totS (segs p) ≤ p.length := by
  obtain ⟨l, rfl⟩ := path_head hp
  exact (tot_split l).1
/-- How much values hold. -/
def totV (l : List Fld) : Nat := (l.map fun f => f.2.length).sum
theorem totV_app (a b : List Fld) : totV (a ++ b) = totV a + totV b := by simp [totV]
theorem params_tot : ∀ (ls : List Plc) (ss : List (List UInt8)), ls.map keyP ∈ cands ss → totV (paramsG ls ss) ≤ totS ss
  | [], ss, _ => Nat.zero_le _
  | p :: r, ss, h => by
    obtain ⟨x, xs, rfl, hc⟩ := cands_cons (by rw [List.map_cons] at h; exact h)
    rw [paramsG, totV_app, totS_cons]
    simp only [List.headD_cons, List.tail_cons]
    have hj := join_tot (x :: xs)
    rw [totS_cons] at hj
    rcases hc with ⟨e, hr⟩ | ⟨e, hr⟩ | ⟨e, hr⟩
    · have ih := params_tot r xs hr
      have hp : p.1 = 0 := by unfold keyP at e; split at e <;> simp_all
      rw [if_neg (by rw [hp]; decide), if_neg (by rw [hp]; decide)]
      simp only [totV, List.map_nil, List.sum_nil] at ih ⊢
      omega
    · have ih := params_tot r xs hr
      have hp : p.1 = 1 := by unfold keyP at e; split at e <;> simp_all
      rw [if_pos hp]
      simp only [totV, List.map_cons, List.map_nil, List.sum_cons, List.sum_nil] at ih ⊢
      omega
    · obtain rfl : r = [] := List.map_eq_nil_iff.1 hr
      have hp : p.1 = 2 := by unfold keyP at e; split at e <;> simp_all
      rw [if_neg (by rw [hp]; decide), if_pos hp]
      simp only [paramsG, totV, List.map_cons, List.map_nil, List.sum_cons, List.sum_nil]
      omega
theorem key_kind (p : Plc) : (keyP p).1 = p.1 := by unfold keyP; split <;> rfl
structure PrS where
  i : Nat
  o : List Fld
  A : Option Addr
  cp : Nat
structure RwM where
  A : Option Addr
  cp : Nat
set_option maxHeartbeats 4000000 in
theorem params_f (LA : Option Addr) (Lc : Nat) (ls : List Plc) (SA : Option Addr) (Sc : Nat) (ss : List (List UInt8)) (hm : ls.map keyP ∈ cands ss) (ht : totS ss ≤ 1000000) (hl : ls.length ≤ 2000000) :
    FnT Tryd.prog gI 16 [.slice LA ls.length Lc, .slice SA ss.length Sc] (fun w => Rdw w LA (plcCells ls) ∧ Rdw w SA (ss.map str) ∧ ss.length ≤ Sc) (fun x : RwM => .slice x.A (paramsG ls ss).length x.cp) (fun _ => True)
      (fun x => [.row (.slice x.A (paramsG ls ss).length x.cp) 55 2 (paramsG ls ss).length (fcells (paramsG ls ss))]) (fun _ => []) := by
  refine FnE.of tys_ok Tryd.func16 rfl (by kernel_rfl) rfl rfl ?_; intro w hG hP
  have hL : ∀ H, RdA (mkC Tryd.prog gI w hG) H LA (plcCells ls) := fun H => ⟨hP.1.now⟩
  have hS : ∀ H, RdA (mkC Tryd.prog gI w hG) H SA (ss.map str) := fun H => ⟨hP.2.1.now⟩
  have hSc := hP.2.2
  clear hP
  have hsl := totS_len ss
  generalize hpg : paramsG ls ss = Pm
  (conv => whnf); repeat ((first | refine tk1 ?_ | refine tk2 ?_ | refine tk3 ?_ | refine tk12 (fun _ => ?_) | refine tk4 ?_ | refine tk5 ?_ | refine tk6 ?_ | refine tk7 ?_ | refine tk8 ?_ | refine tk9 ?_ | refine tk10 (fun _ _ => ?_) | refine tk11 (fun _ => ?_) | refine tk13 ?_ | refine tk14 ?_); (conv => whnf))
  refine LoopS.lpT tys_ok (fun (z : PrS) u => [u 0, .slice SA ss.length Sc, u 2, u 3, .slice z.A z.o.length z.cp, u 5, u 6, .slice LA ls.length Lc, .int .i64 ls.length, .int .i64 (z.i : Nat), u 10, u 11, u 12, u 13, u 14, u 15, u 16, u 17, u 18, u 19, u 20, u 21, u 22, u 23, u 24, u 25, u 26, u 27, u 28, u 29, u 30, u 31, u 32, u 33, u 34, u 35, u 36, u 37, u 38, u 39, u 40, u 41]) (fun z => [.row (.slice z.A z.o.length z.cp) 55 2 z.o.length (fcells z.o)])
    (fun z => z.i ≤ ls.length ∧ z.o.length ≤ z.i ∧ z.o ++ paramsG (ls.drop z.i) (ss.drop z.i) = Pm ∧ (ls.drop z.i = [] ∨ (ls.drop z.i).map keyP ∈ cands (ss.drop z.i))) (fun z => ls.length - z.i) ⟨0, [], none, 0⟩ ⟨Nat.zero_le _, Nat.le_refl _, hpg, .inr hm⟩ rfl (Into.nilRow (e := 55) (sz := 2) (fun _ h => h)) ?_
  rintro ⟨i, o, A, cp⟩ u ⟨hi, ho, hI, hc⟩
  dsimp only at hi ho hI hc ⊢
  by_cases hlt : i < ls.length
  rotate_left
  · rw [List.drop_eq_nil_of_le (by omega), paramsG, List.append_nil] at hI
    subst hI
    (conv => whnf); repeat ((first | refine tk1 ?_ | refine tk2 ?_ | refine tk3 ?_ | refine tk12 (fun _ => ?_) | refine tk4 ?_ | refine tk5 ?_ | refine tk6 ?_ | refine tk7 ?_ | refine tk8 ?_ | refine tk9 ?_ | refine tk10 (fun _ _ => ?_) | refine tk11 (fun _ => ?_) | refine tk13 ?_ | refine tk14 ?_); (conv => whnf))
    exact fun w' hw' => ⟨⟨A, cp⟩, rfl, trivial, newH.into hw' (Cv.into (by (try dsimp only); repeat' (first | with_reducible exact Cv.refl | with_reducible exact Cv.left | with_reducible exact Cv.right | with_reducible exact Cv.nil | (with_reducible apply Cv.cons; focus ((repeat (first | with_reducible exact Pick.here | with_reducible apply Pick.skip)); done)) | (apply Cv.cons; focus ((repeat (first | exact Pick.here | apply Pick.skip)); done)) | exact Cv.nil | exact Cv.refl | exact Cv.left | exact Cv.right | refine Cv.skip ?_)))⟩
  have hcell := plcCells_at ls i hlt
  have hd : ls.drop i = ls[i] :: ls.drop (i + 1) := List.drop_eq_getElem_cons hlt
  rw [hd] at hI hc
  obtain ⟨⟨a, s⟩, hp⟩ : ∃ p, ls[i] = p := ⟨_, rfl⟩
  rw [hp] at hcell hI hc
  have hc := hc.resolve_left (by simp)
  rw [List.map_cons] at hc
  obtain ⟨x, xs, hx, hcc⟩ := cands_cons hc
  have hss : i < ss.length := by
    have := congrArg List.length hx
    rw [List.length_drop, List.length_cons] at this
    omega
  have hxi : ss[i] = x := by
    rw [List.drop_eq_getElem_cons hss] at hx
    exact (List.cons.inj hx).1
  have hxs : ss.drop (i + 1) = xs := by
    rw [List.drop_eq_getElem_cons hss] at hx
    exact (List.cons.inj hx).2
  have hsx : (ss.map str)[((i : Nat) : Int).toNat * 1]? = some (str x) := by rw [Int.toNat_natCast, Nat.mul_one, List.getElem?_map, List.getElem?_eq_getElem hss, hxi]; rfl
  have hk : ∀ (k : Int) (t : List UInt8), (k, t) = keyP (a, s) → a = k := fun k t e => by
    have h1 := congrArg Prod.fst e
    rw [key_kind] at h1
    exact h1.symm
  rw [paramsG, hx, List.tail_cons, List.headD_cons] at hI
  have hjt := join_tot (ss.drop i)
  have htd := totS_drop ss i
  rcases hcc with ⟨e, hr⟩ | ⟨e, hr⟩ | ⟨e, hr⟩
  · as_aux_lemma =>
    obtain rfl : a = 0 := hk 0 x e.symm
    rw [if_neg (show ¬ ((0 : Int) = 1) by decide), if_neg (show ¬ ((0 : Int) = 2) by decide), List.nil_append] at hI
    (conv => whnf); repeat ((first | refine tk1 ?_ | refine tk2 ?_ | refine tk3 ?_ | refine tk12 (fun _ => ?_) | refine tk4 ?_ | refine tk5 ?_ | refine tk6 ?_ | refine tk7 ?_ | refine tk8 ?_ | refine tk9 ?_ | refine tk10 (fun _ _ => ?_) | refine tk11 (fun _ => ?_) | refine tk13 ?_ | refine tk14 ?_); (conv => whnf))
    refine IdxA.tc (xs := plcCells ls) (by rw [plcCells_length]; omega) (by omega) (by omega) ?_
    (conv => whnf); repeat ((first | refine tk1 ?_ | refine tk2 ?_ | refine tk3 ?_ | refine tk12 (fun _ => ?_) | refine tk4 ?_ | refine tk5 ?_ | refine tk6 ?_ | refine tk7 ?_ | refine tk8 ?_ | refine tk9 ?_ | refine tk10 (fun _ _ => ?_) | refine tk11 (fun _ => ?_) | refine tk13 ?_ | refine tk14 ?_); (conv => whnf))
    refine Ld.taN (xs := plcCells ls) (vs := [.int .i64 0, str s]) (by rw [Int.toNat_natCast]; exact hcell) rfl ?_
    (conv => whnf); repeat ((first | refine tk1 ?_ | refine tk2 ?_ | refine tk3 ?_ | refine tk12 (fun _ => ?_) | refine tk4 ?_ | refine tk5 ?_ | refine tk6 ?_ | refine tk7 ?_ | refine tk8 ?_ | refine tk9 ?_ | refine tk10 (fun _ _ => ?_) | refine tk11 (fun _ => ?_) | refine tk13 ?_ | refine tk14 ?_); (conv => whnf))
    exact ⟨⟨i + 1, o, A, cp⟩, ⟨by dsimp only; omega, by dsimp only; omega, by dsimp only; rw [hxs]; exact hI, .inr (by dsimp only; rw [hxs]; exact hr)⟩, rfl, Cv.into (by (try dsimp only); repeat' (first | with_reducible exact Cv.refl | with_reducible exact Cv.left | with_reducible exact Cv.right | with_reducible exact Cv.nil | (with_reducible apply Cv.cons; focus ((repeat (first | with_reducible exact Pick.here | with_reducible apply Pick.skip)); done)) | (apply Cv.cons; focus ((repeat (first | exact Pick.here | apply Pick.skip)); done)) | exact Cv.nil | exact Cv.refl | exact Cv.left | exact Cv.right | refine Cv.skip ?_)), by dsimp only; omega⟩
  · as_aux_lemma =>
    obtain rfl : a = 1 := hk 1 [] e.symm
    rw [if_pos rfl] at hI
    (conv => whnf); repeat ((first | refine tk1 ?_ | refine tk2 ?_ | refine tk3 ?_ | refine tk12 (fun _ => ?_) | refine tk4 ?_ | refine tk5 ?_ | refine tk6 ?_ | refine tk7 ?_ | refine tk8 ?_ | refine tk9 ?_ | refine tk10 (fun _ _ => ?_) | refine tk11 (fun _ => ?_) | refine tk13 ?_ | refine tk14 ?_); (conv => whnf))
    refine IdxA.tc (xs := plcCells ls) (by rw [plcCells_length]; omega) (by omega) (by omega) ?_
    (conv => whnf); repeat ((first | refine tk1 ?_ | refine tk2 ?_ | refine tk3 ?_ | refine tk12 (fun _ => ?_) | refine tk4 ?_ | refine tk5 ?_ | refine tk6 ?_ | refine tk7 ?_ | refine tk8 ?_ | refine tk9 ?_ | refine tk10 (fun _ _ => ?_) | refine tk11 (fun _ => ?_) | refine tk13 ?_ | refine tk14 ?_); (conv => whnf))
    refine Ld.taN (xs := plcCells ls) (vs := [.int .i64 1, str s]) (by rw [Int.toNat_natCast]; exact hcell) rfl ?_
    (conv => whnf); repeat ((first | refine tk1 ?_ | refine tk2 ?_ | refine tk3 ?_ | refine tk12 (fun _ => ?_) | refine tk4 ?_ | refine tk5 ?_ | refine tk6 ?_ | refine tk7 ?_ | refine tk8 ?_ | refine tk9 ?_ | refine tk10 (fun _ _ => ?_) | refine tk11 (fun _ => ?_) | refine tk13 ?_ | refine tk14 ?_); (conv => whnf))
    refine DrawS.go [(0, true), (1, true), (2, true), (3, true), (4, true), (5, true), (6, true), (7, true), (8, false), (9, false), (10, true)] tys_ok mixed (by kernel_rfl) ?_
    (conv => whnf); repeat ((first | refine tk1 ?_ | refine tk2 ?_ | refine tk3 ?_ | refine tk12 (fun _ => ?_) | refine tk4 ?_ | refine tk5 ?_ | refine tk6 ?_ | refine tk7 ?_ | refine tk8 ?_ | refine tk9 ?_ | refine tk10 (fun _ _ => ?_) | refine tk11 (fun _ => ?_) | refine tk13 ?_ | refine tk14 ?_); (conv => whnf))
    refine IdxA.tc (xs := ss.map str) (by rw [List.length_map]; omega) (by omega) (by omega) ?_
    (conv => whnf); repeat ((first | refine tk1 ?_ | refine tk2 ?_ | refine tk3 ?_ | refine tk12 (fun _ => ?_) | refine tk4 ?_ | refine tk5 ?_ | refine tk6 ?_ | refine tk7 ?_ | refine tk8 ?_ | refine tk9 ?_ | refine tk10 (fun _ _ => ?_) | refine tk11 (fun _ => ?_) | refine tk13 ?_ | refine tk14 ?_); (conv => whnf))
    refine Ld.ta (xs := ss.map str) hsx ?_
    (conv => whnf); repeat ((first | refine tk1 ?_ | refine tk2 ?_ | refine tk3 ?_ | refine tk12 (fun _ => ?_) | refine tk4 ?_ | refine tk5 ?_ | refine tk6 ?_ | refine tk7 ?_ | refine tk8 ?_ | refine tk9 ?_ | refine tk10 (fun _ _ => ?_) | refine tk11 (fun _ => ?_) | refine tk13 ?_ | refine tk14 ?_); (conv => whnf))
    refine AppS.tc (m := 1) (news := [str s, str x]) SrcK.tc rfl (by simp [Value.oneCell']) (by decide) (by omega) (by omega) (zs := fcells (o ++ [(s, x)])) (by rw [fcells_app]; rfl) (fun A' cp' => ?_)
    rw [show o.length + 1 = (o ++ [((s, x) : Fld)]).length by simp]
    (conv => whnf); repeat ((first | refine tk1 ?_ | refine tk2 ?_ | refine tk3 ?_ | refine tk12 (fun _ => ?_) | refine tk4 ?_ | refine tk5 ?_ | refine tk6 ?_ | refine tk7 ?_ | refine tk8 ?_ | refine tk9 ?_ | refine tk10 (fun _ _ => ?_) | refine tk11 (fun _ => ?_) | refine tk13 ?_ | refine tk14 ?_); (conv => whnf))
    exact ⟨⟨i + 1, o ++ [(s, x)], A', cp'⟩, ⟨by dsimp only; omega, by dsimp only; rw [List.length_append, List.length_singleton]; omega, by dsimp only; rw [hxs, List.append_assoc]; exact hI, .inr (by dsimp only; rw [hxs]; exact hr)⟩, rfl, Cv.into (by (try dsimp only); repeat' (first | with_reducible exact Cv.refl | with_reducible exact Cv.left | with_reducible exact Cv.right | with_reducible exact Cv.nil | (with_reducible apply Cv.cons; focus ((repeat (first | with_reducible exact Pick.here | with_reducible apply Pick.skip)); done)) | (apply Cv.cons; focus ((repeat (first | exact Pick.here | apply Pick.skip)); done)) | exact Cv.nil | exact Cv.refl | exact Cv.left | exact Cv.right | refine Cv.skip ?_)), by dsimp only; omega⟩
  · as_aux_lemma =>
    obtain rfl : a = 2 := hk 2 [] e.symm
    have hr0 : ls.drop (i + 1) = [] := List.map_eq_nil_iff.1 hr
    rw [if_neg (show ¬ ((2 : Int) = 1) by decide), if_pos rfl, hr0, paramsG, List.append_nil, ← hx] at hI
    (conv => whnf); repeat ((first | refine tk1 ?_ | refine tk2 ?_ | refine tk3 ?_ | refine tk12 (fun _ => ?_) | refine tk4 ?_ | refine tk5 ?_ | refine tk6 ?_ | refine tk7 ?_ | refine tk8 ?_ | refine tk9 ?_ | refine tk10 (fun _ _ => ?_) | refine tk11 (fun _ => ?_) | refine tk13 ?_ | refine tk14 ?_); (conv => whnf))
    refine IdxA.tc (xs := plcCells ls) (by rw [plcCells_length]; omega) (by omega) (by omega) ?_
    (conv => whnf); repeat ((first | refine tk1 ?_ | refine tk2 ?_ | refine tk3 ?_ | refine tk12 (fun _ => ?_) | refine tk4 ?_ | refine tk5 ?_ | refine tk6 ?_ | refine tk7 ?_ | refine tk8 ?_ | refine tk9 ?_ | refine tk10 (fun _ _ => ?_) | refine tk11 (fun _ => ?_) | refine tk13 ?_ | refine tk14 ?_); (conv => whnf))
    refine Ld.taN (xs := plcCells ls) (vs := [.int .i64 2, str s]) (by rw [Int.toNat_natCast]; exact hcell) rfl ?_
    (conv => whnf); repeat ((first | refine tk1 ?_ | refine tk2 ?_ | refine tk3 ?_ | refine tk12 (fun _ => ?_) | refine tk4 ?_ | refine tk5 ?_ | refine tk6 ?_ | refine tk7 ?_ | refine tk8 ?_ | refine tk9 ?_ | refine tk10 (fun _ _ => ?_) | refine tk11 (fun _ => ?_) | refine tk13 ?_ | refine tk14 ?_); (conv => whnf))
    refine DrawS.go [(0, true), (1, true), (2, true), (3, true), (4, true), (5, true), (6, true), (7, true), (8, false), (9, false), (10, true)] tys_ok mixed (by kernel_rfl) ?_
    (conv => whnf); repeat ((first | refine tk1 ?_ | refine tk2 ?_ | refine tk3 ?_ | refine tk12 (fun _ => ?_) | refine tk4 ?_ | refine tk5 ?_ | refine tk6 ?_ | refine tk7 ?_ | refine tk8 ?_ | refine tk9 ?_ | refine tk10 (fun _ _ => ?_) | refine tk11 (fun _ => ?_) | refine tk13 ?_ | refine tk14 ?_); (conv => whnf))
    refine SlcV.strs hS rfl hSc (by omega) (by omega) (fun A2 c2 r hr2 hR2 hc2 => ?_)
    rw [Int.toNat_natCast] at hr2
    subst hr2
    (conv => whnf); repeat ((first | refine tk1 ?_ | refine tk2 ?_ | refine tk3 ?_ | refine tk12 (fun _ => ?_) | refine tk4 ?_ | refine tk5 ?_ | refine tk6 ?_ | refine tk7 ?_ | refine tk8 ?_ | refine tk9 ?_ | refine tk10 (fun _ _ => ?_) | refine tk11 (fun _ => ?_) | refine tk13 ?_ | refine tk14 ?_); (conv => whnf))
    refine CallQ.fnV (Join_f A2 c2 (ss.drop i) [47] (by rw [List.length_drop]; omega) (by omega)) (fun w1 hw1 => ⟨(hR2 _).ok w1 hw1, hc2⟩) ?_
    generalize Lib.join (ss.drop i) [47] = jn at *
    (conv => whnf); repeat ((first | refine tk1 ?_ | refine tk2 ?_ | refine tk3 ?_ | refine tk12 (fun _ => ?_) | refine tk4 ?_ | refine tk5 ?_ | refine tk6 ?_ | refine tk7 ?_ | refine tk8 ?_ | refine tk9 ?_ | refine tk10 (fun _ _ => ?_) | refine tk11 (fun _ => ?_) | refine tk13 ?_ | refine tk14 ?_); (conv => whnf))
    refine AppS.tc (m := 1) (news := [str s, str jn]) SrcK.tc rfl (by simp [Value.oneCell']) (by decide) (by omega) (by omega) (zs := fcells (o ++ [(s, jn)])) (by rw [fcells_app]; rfl) (fun A' cp' => ?_)
    rw [show o.length + 1 = (o ++ [((s, jn) : Fld)]).length by simp]
    (conv => whnf); repeat ((first | refine tk1 ?_ | refine tk2 ?_ | refine tk3 ?_ | refine tk12 (fun _ => ?_) | refine tk4 ?_ | refine tk5 ?_ | refine tk6 ?_ | refine tk7 ?_ | refine tk8 ?_ | refine tk9 ?_ | refine tk10 (fun _ _ => ?_) | refine tk11 (fun _ => ?_) | refine tk13 ?_ | refine tk14 ?_); (conv => whnf))
    exact ⟨⟨i + 1, o ++ [(s, jn)], A', cp'⟩, ⟨by dsimp only; omega, by dsimp only; rw [List.length_append, List.length_singleton]; omega, by dsimp only; rw [hr0, paramsG, List.append_nil]; exact hI, .inl hr0⟩, rfl, Cv.into (by (try dsimp only); repeat' (first | with_reducible exact Cv.refl | with_reducible exact Cv.left | with_reducible exact Cv.right | with_reducible exact Cv.nil | (with_reducible apply Cv.cons; focus ((repeat (first | with_reducible exact Pick.here | with_reducible apply Pick.skip)); done)) | (apply Cv.cons; focus ((repeat (first | exact Pick.here | apply Pick.skip)); done)) | exact Cv.nil | exact Cv.refl | exact Cv.left | exact Cv.right | refine Cv.skip ?_)), by dsimp only; omega⟩
end Go.Proofs.YtnaeeklnlddcaaaDoor.Vex
/- Find, reckoned. -/
namespace Go.Proofs.YtnaeeklnlddcaaaDoor.Vex
open Go Go.RowKit
set_option maxRecDepth 100000
set_option linter.unusedSectionVars false
set_option linter.unusedSectionVars false
variable {gI : GI} [HasMax gI] [HasErr gI]

/-- How many keys a map has. -/
theorem OthP.lenMap {c : Ctx} {T : Ty} {H : Hp} {fr : Fr} {d : Option Nat} {t u v ty : TypeId} {x : Operand} {pos : String} {after : Array Edge} {gd : Option (Nat × Bool)} {α : Type} {kv : α → Value} {b : Nat} {l : List (α × Value)} {K : Value → Prop} (hT : TOk c.P T) (hb : ∀ w, St c H w → w.heap[b]? = some (mobj kv l))
    (ht : (lookT T t).d = .map u v) (hx : evK fr x fun v => v = .map (some b)) (k : K (.int .i64 l.length)) : OthP c ⟨d, .call ⟨.builtin .len, #[x], #[t]⟩, ty, pos, after, gd⟩ fr H K := ⟨⟨_, k, fun w hw => by
  rw [evK_eq] at hx
  have hu := (lookT_ok hT (t := t) (by rw [ht]; intro h; cases h)).1
  rw [ht] at hu
  have hbw : w.heap[b]? = some (.map ⟨mkEs kv 0 l⟩ l.length) := hb w hw
  generalize (act fr).eval = ρ at *
  have hl : (Builtin.len_ #[t] ty #[.map (some b)]).run c.P w = .ok (.int .i64 l.length) w := by
    unfold Builtin.len_
    simp only [List.getElem?_toArray, List.getElem?_cons_zero, Sem.run_bind, run_underlying hu, Result.andThen_ok, MapKept.run_getObj_map hbw, Sem.run_pure, goInt]
    simp [length_es]
  simp only [execOp, resolve, Sem.run_bind, Sem.run_pure, Result.andThen_ok, invoke, builtin]
  rw [show (#[x] : Array Operand).map ρ = #[.map (some b)] by simp [hx], hl]
  rfl⟩⟩
theorem front3 {E L R : Hp} : (E ++ (L ++ R)).Perm (L ++ (E ++ R)) := by
  rw [← List.append_assoc, ← List.append_assoc]
  exact List.Perm.append_right _ List.perm_append_comm
set_option maxHeartbeats 4000000 in
theorem find1_k {P : Program} {g : GI} {w0 : World} {M : List Nat} {hM : ∀ b ∈ M, g.n ≤ b} {hG : g.G w0} (hP : P = Tryd.prog) {ns : List Nd} {pg : List Plk → List UInt8 → Option Int} (ht : TreeI ns pg) {b8 b6 b4 : Nat} {m : List UInt8} {R : Hp} :
    DoK ⟨P, g, w0, M, hM, hG⟩ (fun s : Int × Int => .box b8 [.int .i64 s.2] 3 :: .box b6 [.int .i64 s.1] 3 :: .box b4 [str m] 9 :: (R ++ nodesH ns)) ns 14 [.pointer (some ⟨b8, 0, none⟩), .pointer (some ⟨b4, 0, none⟩), .pointer (some ⟨b6, 0, none⟩)] (FindS pg m) := ⟨by
  rintro E ⟨page, st⟩ n K hn k
  subst hP
  have hb1 : Ent.box n.b [.map (some n.pm), .map (some n.nm)] 47 ∈ E ++ (R ++ nodesH ns) := Ent.inE (Ent.inE (nodesH_mem hn _ (by simp [Nd.hd])))
  have hb2 : Ent.obj n.pm (mobj str n.pages) ∈ E ++ (R ++ nodesH ns) := Ent.inE (Ent.inE (nodesH_mem hn _ (by simp [Nd.hd])))
  have hpg := ht.pages n hn m
  have hst : stAt n st = if n.pages.length = 0 then st else 405 := by
    unfold stAt
    simp [List.length_eq_zero_iff]
  refine CallK.into (fun w hw => hw.perm (front3 (L := [.box b8 [.int .i64 st] 3, .box b6 [.int .i64 page] 3, .box b4 [str m] 9]))) (CallK.post ?_)
  have hback : ∀ (page st : Int) (w : World), St ⟨Tryd.prog, g, w0, M, hM, hG⟩ (.box b8 [.int .i64 st] 3 :: .box b6 [.int .i64 page] 3 :: .box b4 [str m] 9 :: (E ++ (R ++ nodesH ns))) w → St ⟨Tryd.prog, g, w0, M, hM, hG⟩ (E ++ (.box b8 [.int .i64 st] 3 :: .box b6 [.int .i64 page] 3 :: .box b4 [str m] 9 :: (R ++ nodesH ns))) w :=
    fun page st w hw => hw.perm (front3 (L := [.box b8 [.int .i64 st] 3, .box b6 [.int .i64 page] 3, .box b4 [str m] 9])).symm
  dsimp only [List.cons_append, List.nil_append]
  refine CallK.inl tys_ok Tryd.func14 rfl (by kernel_rfl) rfl rfl ?_
  unfold Nd.ptr
  (conv => whnf); repeat ((first | refine tk1 ?_ | refine tk2 ?_ | refine tk3 ?_ | refine tk12 (fun _ => ?_) | refine tk4 ?_ | refine tk5 ?_ | refine tk6 ?_ | refine tk7 ?_ | refine tk8 ?_ | refine tk9 ?_ | refine tk10 (fun _ _ => ?_) | refine tk11 (fun _ => ?_) | refine tk13 ?_ | refine tk14 ?_); (conv => whnf))
  refine Ld.mem (.tail _ (.tail _ (.tail _ hb1))) (v := .map (some n.pm)) rfl ?_
  (conv => whnf); repeat ((first | refine tk1 ?_ | refine tk2 ?_ | refine tk3 ?_ | refine tk12 (fun _ => ?_) | refine tk4 ?_ | refine tk5 ?_ | refine tk6 ?_ | refine tk7 ?_ | refine tk8 ?_ | refine tk9 ?_ | refine tk10 (fun _ _ => ?_) | refine tk11 (fun _ => ?_) | refine tk13 ?_ | refine tk14 ?_); (conv => whnf))
  refine OthP.lenMap tys_ok (objAt_mem (.tail _ (.tail _ (.tail _ hb2)))) rfl rfl ?_
  unfold FindS at k
  rw [hst] at k
  by_cases hz : n.pages.length = 0
  · rw [if_pos hz] at k
    have hnil : n.pages = [] := List.eq_nil_of_length_eq_zero hz
    have hpn : pg n.c m = none := by
      rw [hnil] at hpg
      cases hp : pg n.c m with
      | none => rfl
      | some i => rw [hp] at hpg; cases hpg
    have k2 := k (page, st) true (by rw [hpn]; exact ⟨rfl, rfl⟩)
    have e1 : (Value.tuple ⟨[(mget m n.pages).getD (.int .i64 0), .bool (mget m n.pages).isSome]⟩) = .tuple ⟨[.int .i64 0, .bool false]⟩ := by rw [hnil]; rfl
    (conv => whnf); repeat ((first | refine tk1 ?_ | refine tk2 ?_ | refine tk3 ?_ | refine tk12 (fun _ => ?_) | refine tk4 ?_ | refine tk5 ?_ | refine tk6 ?_ | refine tk7 ?_ | refine tk8 ?_ | refine tk9 ?_ | refine tk10 (fun _ _ => ?_) | refine tk11 (fun _ => ?_) | refine tk13 ?_ | refine tk14 ?_); (conv => whnf))
    refine DrawS.go (qs 11) tys_ok mixed (by kernel_rfl) ?_
    (conv => whnf); repeat ((first | refine tk1 ?_ | refine tk2 ?_ | refine tk3 ?_ | refine tk12 (fun _ => ?_) | refine tk4 ?_ | refine tk5 ?_ | refine tk6 ?_ | refine tk7 ?_ | refine tk8 ?_ | refine tk9 ?_ | refine tk10 (fun _ _ => ?_) | refine tk11 (fun _ => ?_) | refine tk13 ?_ | refine tk14 ?_); (conv => whnf))
    refine Ld.mem (.tail _ (.tail _ (.tail _ hb1))) (v := .map (some n.pm)) rfl ?_
    (conv => whnf); repeat ((first | refine tk1 ?_ | refine tk2 ?_ | refine tk3 ?_ | refine tk12 (fun _ => ?_) | refine tk4 ?_ | refine tk5 ?_ | refine tk6 ?_ | refine tk7 ?_ | refine tk8 ?_ | refine tk9 ?_ | refine tk10 (fun _ _ => ?_) | refine tk11 (fun _ => ?_) | refine tk13 ?_ | refine tk14 ?_); (conv => whnf))
    refine OthP.lookA (k := m) (l := n.pages) strK tys_ok (objAt_mem (.tail _ (.tail _ (.tail _ hb2)))) rfl rfl rfl rfl (fun h => by cases h) (fun h => by cases h) rfl e1 ?_
    (conv => whnf); repeat ((first | refine tk1 ?_ | refine tk2 ?_ | refine tk3 ?_ | refine tk12 (fun _ => ?_) | refine tk4 ?_ | refine tk5 ?_ | refine tk6 ?_ | refine tk7 ?_ | refine tk8 ?_ | refine tk9 ?_ | refine tk10 (fun _ _ => ?_) | refine tk11 (fun _ => ?_) | refine tk13 ?_ | refine tk14 ?_); (conv => whnf))
    exact ⟨_, hback page st, k2⟩
  · rw [if_neg hz] at k
    cases hp : pg n.c m with
    | none =>
      have k2 := k (page, 405) true (by rw [hp]; exact ⟨rfl, rfl⟩)
      rw [hp] at hpg
      have e1 : (Value.tuple ⟨[(mget m n.pages).getD (.int .i64 0), .bool (mget m n.pages).isSome]⟩) = .tuple ⟨[.int .i64 0, .bool false]⟩ := by rw [hpg]; rfl
      (conv => whnf); repeat ((first | refine tk1 ?_ | refine tk2 ?_ | refine tk3 ?_ | refine tk12 (fun _ => ?_) | refine tk4 ?_ | refine tk5 ?_ | refine tk6 ?_ | refine tk7 ?_ | refine tk8 ?_ | refine tk9 ?_ | refine tk10 (fun _ _ => ?_) | refine tk11 (fun _ => ?_) | refine tk13 ?_ | refine tk14 ?_); (conv => whnf))
      refine DrawS.go (qs 11) tys_ok mixed (by kernel_rfl) ?_
      (conv => whnf); repeat ((first | refine tk1 ?_ | refine tk2 ?_ | refine tk3 ?_ | refine tk12 (fun _ => ?_) | refine tk4 ?_ | refine tk5 ?_ | refine tk6 ?_ | refine tk7 ?_ | refine tk8 ?_ | refine tk9 ?_ | refine tk10 (fun _ _ => ?_) | refine tk11 (fun _ => ?_) | refine tk13 ?_ | refine tk14 ?_); (conv => whnf))
      refine Ld.mem (.tail _ (.tail _ (.tail _ hb1))) (v := .map (some n.pm)) rfl ?_
      (conv => whnf); repeat ((first | refine tk1 ?_ | refine tk2 ?_ | refine tk3 ?_ | refine tk12 (fun _ => ?_) | refine tk4 ?_ | refine tk5 ?_ | refine tk6 ?_ | refine tk7 ?_ | refine tk8 ?_ | refine tk9 ?_ | refine tk10 (fun _ _ => ?_) | refine tk11 (fun _ => ?_) | refine tk13 ?_ | refine tk14 ?_); (conv => whnf))
      refine OthP.lookA (k := m) (l := n.pages) strK tys_ok (objAt_mem (.tail _ (.tail _ (.tail _ hb2)))) rfl rfl rfl rfl (fun h => by cases h) (fun h => by cases h) rfl e1 ?_
      (conv => whnf); repeat ((first | refine tk1 ?_ | refine tk2 ?_ | refine tk3 ?_ | refine tk12 (fun _ => ?_) | refine tk4 ?_ | refine tk5 ?_ | refine tk6 ?_ | refine tk7 ?_ | refine tk8 ?_ | refine tk9 ?_ | refine tk10 (fun _ _ => ?_) | refine tk11 (fun _ => ?_) | refine tk13 ?_ | refine tk14 ?_); (conv => whnf))
      exact ⟨_, hback page 405, k2⟩
    | some i =>
      have k2 := k (i, 405) false (by rw [hp]; exact ⟨rfl, rfl⟩)
      rw [hp] at hpg
      have e1 : (Value.tuple ⟨[(mget m n.pages).getD (.int .i64 0), .bool (mget m n.pages).isSome]⟩) = .tuple ⟨[.int .i64 i, .bool true]⟩ := by rw [hpg]; rfl
      (conv => whnf); repeat ((first | refine tk1 ?_ | refine tk2 ?_ | refine tk3 ?_ | refine tk12 (fun _ => ?_) | refine tk4 ?_ | refine tk5 ?_ | refine tk6 ?_ | refine tk7 ?_ | refine tk8 ?_ | refine tk9 ?_ | refine tk10 (fun _ _ => ?_) | refine tk11 (fun _ => ?_) | refine tk13 ?_ | refine tk14 ?_); (conv => whnf))
      refine DrawS.go (qs 11) tys_ok mixed (by kernel_rfl) ?_
      (conv => whnf); repeat ((first | refine tk1 ?_ | refine tk2 ?_ | refine tk3 ?_ | refine tk12 (fun _ => ?_) | refine tk4 ?_ | refine tk5 ?_ | refine tk6 ?_ | refine tk7 ?_ | refine tk8 ?_ | refine tk9 ?_ | refine tk10 (fun _ _ => ?_) | refine tk11 (fun _ => ?_) | refine tk13 ?_ | refine tk14 ?_); (conv => whnf))
      refine Ld.mem (.tail _ (.tail _ (.tail _ hb1))) (v := .map (some n.pm)) rfl ?_
      (conv => whnf); repeat ((first | refine tk1 ?_ | refine tk2 ?_ | refine tk3 ?_ | refine tk12 (fun _ => ?_) | refine tk4 ?_ | refine tk5 ?_ | refine tk6 ?_ | refine tk7 ?_ | refine tk8 ?_ | refine tk9 ?_ | refine tk10 (fun _ _ => ?_) | refine tk11 (fun _ => ?_) | refine tk13 ?_ | refine tk14 ?_); (conv => whnf))
      refine OthP.lookA (k := m) (l := n.pages) strK tys_ok (objAt_mem (.tail _ (.tail _ (.tail _ hb2)))) rfl rfl rfl rfl (fun h => by cases h) (fun h => by cases h) rfl e1 ?_
      (conv => whnf); repeat ((first | refine tk1 ?_ | refine tk2 ?_ | refine tk3 ?_ | refine tk12 (fun _ => ?_) | refine tk4 ?_ | refine tk5 ?_ | refine tk6 ?_ | refine tk7 ?_ | refine tk8 ?_ | refine tk9 ?_ | refine tk10 (fun _ _ => ?_) | refine tk11 (fun _ => ?_) | refine tk13 ?_ | refine tk14 ?_); (conv => whnf))
      exact ⟨_, hback i 405, k2⟩⟩
theorem places_len {p : List UInt8} {q : List Plc} (h : placesOf p = some q) : q.length ≤ p.length + 1 := by
  have h1 := placesG_len _ _ _ (show placesG (splitB 47 (p.drop 1)) (segs p) = some q by
    unfold placesOf at h
    split at h
    · exact h
    · cases h)
  have h2 := splitB_length 47 (p.drop 1)
  rw [List.length_drop] at h2
  omega
def FndV (o : Fnd) (x : RwM) : Value := .tuple #[.int .i64 o.n, .slice x.A o.ps.length x.cp, .int .i64 o.st, .int .i64 o.e]
def FndH (o : Fnd) (x : RwM) : Hp := [.row (.slice x.A o.ps.length x.cp) 55 2 o.ps.length (fcells o.ps)]
set_option maxHeartbeats 4000000 in
theorem Find_f (PA : Option Addr) (Pc : Nat) (l : List Pg) (hl : l.length ≤ 1000000) (hp : ∀ x ∈ l, x.p.length ≤ 1000000) (m path : List UInt8) (hpa : path.length ≤ 1000000) :
    FnT Tryd.prog gI 7 [.slice PA l.length Pc, str m, str path] (fun w => Rdw w PA (pgCells l)) (FndV (findO (rp l) m path)) (fun _ => True) (FndH (findO (rp l) m path)) (fun _ => []) := by
  have hgr := grown_f (gI := gI) PA Pc l hl hp
  have hseg := Segments_f (gI := gI) path (by omega)
  refine FnE.of tys_ok Tryd.func7 rfl (by kernel_rfl) rfl rfl ?_; intro w hG hP
  have hR : ∀ H, RdA (mkC Tryd.prog gI w hG) H PA (pgCells l) := fun H => ⟨hP.now⟩
  clear hP
  have hnone : ∀ (n st e : Int) (H : Hp), findO (rp l) m path = ⟨n, [], st, e⟩ → ∀ w', St (mkC Tryd.prog gI w hG) H w' → ∃ x : RwM, Value.tuple #[.int .i64 n, .slice none 0 0, .int .i64 st, .int .i64 e] = FndV (findO (rp l) m path) x ∧ True ∧ newH w w' (FndH (findO (rp l) m path) x ++ []) := fun n st e H hO w' hw' => by
    rw [hO]
    exact ⟨⟨none, 0⟩, rfl, trivial, newH.into hw' (Into.nilRow Into.nil)⟩
  have hO0 : grownE (rp l) ≠ 0 → findO (rp l) m path = ⟨0, [], 0, grownE (rp l)⟩ := fun h => by unfold findO; rw [if_pos h]
  (conv => whnf); repeat ((first | refine tk1 ?_ | refine tk2 ?_ | refine tk3 ?_ | refine tk12 (fun _ => ?_) | refine tk4 ?_ | refine tk5 ?_ | refine tk6 ?_ | refine tk7 ?_ | refine tk8 ?_ | refine tk9 ?_ | refine tk10 (fun _ _ => ?_) | refine tk11 (fun _ => ?_) | refine tk13 ?_ | refine tk14 ?_); (conv => whnf))
  rename_i b4 b6 b8
  refine CallK.fnT hgr (fun w1 hw1 => (hR _).ok w1 hw1) ?_
  rintro ⟨ns, r⟩ hQ
  dsimp only [GrV, List.cons_append, List.nil_append]
  by_cases hg : grownE (rp l) = 0
  rotate_left
  · as_aux_lemma =>
    rw [if_neg hg]
    have hO := hO0 hg
    generalize grownE (rp l) = e at *
    (conv => whnf); repeat ((first | refine tk1 ?_ | refine tk2 ?_ | refine tk3 ?_ | refine tk12 (fun _ => ?_) | refine tk4 ?_ | refine tk5 ?_ | refine tk6 ?_ | refine tk7 ?_ | refine tk8 ?_ | refine tk9 ?_ | refine tk10 (fun _ _ => ?_) | refine tk11 (fun _ => ?_) | refine tk13 ?_ | refine tk14 ?_); (conv => whnf))
    exact fun w' hw' => hnone 0 0 e _ hO w' hw'
  rw [if_pos hg, hg]
  have hO1 : pathOf path = false → findO (rp l) m path = ⟨-1, [], 404, 0⟩ := fun h => by unfold findO; rw [if_neg (not_not_intro hg), if_pos h]
  have hO2 : pathOf path = true → findO (rp l) m path = if (findC (rp l) (methodG m) (cands (segs path)) 404).1 < 0 then ⟨-1, [], (findC (rp l) (methodG m) (cands (segs path)) 404).2, 0⟩ else ⟨(findC (rp l) (methodG m) (cands (segs path)) 404).1, paramsG (placesAt (rp l) (findC (rp l) (methodG m) (cands (segs path)) 404).1) (segs path), 200, 0⟩ := fun h => by unfold findO; rw [if_neg (not_not_intro hg), if_neg (by rw [h]; decide)]
  unfold Nd.ptr
  (conv => whnf); repeat ((first | refine tk1 ?_ | refine tk2 ?_ | refine tk3 ?_ | refine tk12 (fun _ => ?_) | refine tk4 ?_ | refine tk5 ?_ | refine tk6 ?_ | refine tk7 ?_ | refine tk8 ?_ | refine tk9 ?_ | refine tk10 (fun _ _ => ?_) | refine tk11 (fun _ => ?_) | refine tk13 ?_ | refine tk14 ?_); (conv => whnf))
  by_cases hm : m = [72, 69, 65, 68]
  · have hmg : methodG m = [71, 69, 84] := by rw [hm]; rfl
    refine Cmp.t hm ?_
    (conv => whnf); repeat ((first | refine tk1 ?_ | refine tk2 ?_ | refine tk3 ?_ | refine tk12 (fun _ => ?_) | refine tk4 ?_ | refine tk5 ?_ | refine tk6 ?_ | refine tk7 ?_ | refine tk8 ?_ | refine tk9 ?_ | refine tk10 (fun _ _ => ?_) | refine tk11 (fun _ => ?_) | refine tk13 ?_ | refine tk14 ?_); (conv => whnf))
    refine CallK.fnG (G := fun u => .tuple #[u, .int .i64 (segE path)]) hseg (fun _ _ => trivial) (fun SA Sc hSc => ?_)
    cases hp2 : pathOf path
    · as_aux_lemma =>
      have hO := hO1 hp2
      rw [show segE path = 3 by unfold segE; rw [hp2]; rfl]
      (conv => whnf); repeat ((first | refine tk1 ?_ | refine tk2 ?_ | refine tk3 ?_ | refine tk12 (fun _ => ?_) | refine tk4 ?_ | refine tk5 ?_ | refine tk6 ?_ | refine tk7 ?_ | refine tk8 ?_ | refine tk9 ?_ | refine tk10 (fun _ _ => ?_) | refine tk11 (fun _ => ?_) | refine tk13 ?_ | refine tk14 ?_); (conv => whnf))
      refine DrawS.fork [] (.q 0 (.ch 1 (.a 2 (.q 3 (.a 4 (.q 5 (.nil))))) (.ch 2 (.q 1 (.q 3 (.a 4 (.q 5 (.nil))))) (.stop)))) tys_ok mixed (by kernel_rfl) ?_
      (repeat' ((conv => whnf); first | (first | refine tk1 ?_ | refine tk2 ?_ | refine tk3 ?_ | refine tk12 (fun _ => ?_) | refine tk4 ?_ | refine tk5 ?_ | refine tk6 ?_ | refine tk7 ?_ | refine tk8 ?_ | refine tk9 ?_ | refine tk10 (fun _ _ => ?_) | refine tk11 (fun _ => ?_) | refine tk13 ?_ | refine tk14 ?_) | refine And.intro ?_ ?_ | exact trivial | exact fun w' hw' => hnone (-1) 404 0 _ hO w' hw'))
    rw [show segO path = segs path by unfold segO; rw [hp2]; rfl] at hSc
    rw [show segE path = 0 by unfold segE; rw [hp2]; rfl, show segO path = segs path by unfold segO; rw [hp2]; rfl]
    have hO := hO2 hp2
    rw [hmg] at hO
    obtain ⟨htr, hr, hrc⟩ := hQ hg
    have hfw := find_ways htr [71, 69, 84] (cands (segs path)) 404
    have htot := tot_segs hp2
    have hfc := findC_cases (rp l) [71, 69, 84] (cands (segs path)) 404
    obtain ⟨ss, hss⟩ : ∃ ss, segs path = ss := ⟨_, rfl⟩
    rw [hss] at hO hfw htot hfc hSc ⊢
    (conv => whnf); repeat ((first | refine tk1 ?_ | refine tk2 ?_ | refine tk3 ?_ | refine tk12 (fun _ => ?_) | refine tk4 ?_ | refine tk5 ?_ | refine tk6 ?_ | refine tk7 ?_ | refine tk8 ?_ | refine tk9 ?_ | refine tk10 (fun _ _ => ?_) | refine tk11 (fun _ => ?_) | refine tk13 ?_ | refine tk14 ?_); (conv => whnf))
    refine CallK.into (G := [] ++ (.box b8 [.int .i64 404] 3 :: .box b6 [.int .i64 (-1)] 3 :: .box b4 [str [71, 69, 84]] 9 :: ([.row (.slice SA ss.length Sc) 9 1 ss.length (ss.map str)] ++ nodesH ns))) (Cv.into (by (try dsimp only); repeat' (first | with_reducible exact Cv.refl | with_reducible exact Cv.left | with_reducible exact Cv.right | with_reducible exact Cv.nil | (with_reducible apply Cv.cons; focus ((repeat (first | with_reducible exact Pick.here | with_reducible apply Pick.skip)); done)) | (apply Cv.cons; focus ((repeat (first | exact Pick.here | apply Pick.skip)); done)) | exact Cv.nil | exact Cv.refl | exact Cv.left | exact Cv.right | refine Cv.skip ?_))) ?_
    refine walk_k (G := fun s : Int × Int => .box b8 [.int .i64 s.2] 3 :: .box b6 [.int .i64 s.1] 3 :: .box b4 [str [71, 69, 84]] 9 :: ([.row (.slice SA ss.length Sc) 9 1 ss.length (ss.map str)] ++ nodesH ns)) rfl htr (fun s x hx => .tail _ (.tail _ (.tail _ (.tail _ hx)))) (find1_k rfl htr) ss SA Sc r (-1, 404) [] _ hr (by have := totS_len ss; omega) ?_ (fun s => RdS.skip (RdS.skip (RdS.skip RdS.here))) (fun s' b hs => ?_)
    · exact hSc
    rw [hrc] at hs
    have hs' := hfw s' b hs
    clear hfw hs
    obtain ⟨⟨fn, fst⟩, hfcc⟩ : ∃ y, findC (rp l) [71, 69, 84] (cands ss) 404 = y := ⟨_, rfl⟩
    rw [hfcc] at hO hfc hs'
    subst hs'
    dsimp only at hO hfc ⊢
    rcases hfc with rfl | ⟨i, gg, rfl, h2, h3, _⟩
    · as_aux_lemma =>
      rw [if_pos (by decide)] at hO
      dsimp only [List.cons_append, List.nil_append]
      (conv => whnf); repeat ((first | refine tk1 ?_ | refine tk2 ?_ | refine tk3 ?_ | refine tk12 (fun _ => ?_) | refine tk4 ?_ | refine tk5 ?_ | refine tk6 ?_ | refine tk7 ?_ | refine tk8 ?_ | refine tk9 ?_ | refine tk10 (fun _ _ => ?_) | refine tk11 (fun _ => ?_) | refine tk13 ?_ | refine tk14 ?_); (conv => whnf))
      refine DrawS.fork [] (.q 0 (.ch 1 (.a 2 (.q 3 (.a 4 (.q 5 (.nil))))) (.ch 2 (.q 1 (.q 3 (.a 4 (.q 5 (.nil))))) (.stop)))) tys_ok mixed (by kernel_rfl) ?_
      (repeat' ((conv => whnf); first | (first | refine tk1 ?_ | refine tk2 ?_ | refine tk3 ?_ | refine tk12 (fun _ => ?_) | refine tk4 ?_ | refine tk5 ?_ | refine tk6 ?_ | refine tk7 ?_ | refine tk8 ?_ | refine tk9 ?_ | refine tk10 (fun _ _ => ?_) | refine tk11 (fun _ => ?_) | refine tk13 ?_ | refine tk14 ?_) | refine And.intro ?_ ?_ | exact trivial | exact fun w' hw' => hnone (-1) fst 0 _ hO w' hw'))
    rw [if_neg (by omega)] at hO
    have hil : i < l.length := by
      have := (List.getElem?_eq_some_iff.1 h2).1
      rw [rp_length] at this
      exact this
    obtain ⟨c1, c2, c3⟩ := pgCells_at l i hil
    have hxl := hp l[i] (List.getElem_mem hil)
    have hri := rp_at l i hil
    rw [h2] at hri
    have hgg := Option.some.inj hri
    clear hri
    generalize l[i] = x at *
    subst hgg
    obtain ⟨⟨q, hq⟩, _⟩ := pgOK_is ((grown_zero hg).2.1 _ (List.mem_of_getElem? h2))
    have hq : placesOf x.p = some q := hq
    have hpf := places_f (gI := gI) x.p (by omega)
    rw [hq] at hpf
    have hpq : placesAt (rp l) (i : Int) = q := by
      unfold placesAt
      rw [Int.toNat_natCast, h2]
      show (placesOf x.p).getD [] = q
      rw [hq]
      rfl
    rw [hpq] at hO
    have hsq : q.map keyP ∈ cands ss := by
      unfold shapeOf at h3
      rw [hq] at h3
      exact h3
    have hql : q.length ≤ 2000000 := by
      have h5 := places_len hq
      omega
    dsimp only [List.cons_append, List.nil_append]
    (conv => whnf); repeat ((first | refine tk1 ?_ | refine tk2 ?_ | refine tk3 ?_ | refine tk12 (fun _ => ?_) | refine tk4 ?_ | refine tk5 ?_ | refine tk6 ?_ | refine tk7 ?_ | refine tk8 ?_ | refine tk9 ?_ | refine tk10 (fun _ _ => ?_) | refine tk11 (fun _ => ?_) | refine tk13 ?_ | refine tk14 ?_); (conv => whnf))
    refine IdxA.tc (xs := pgCells l) (by rw [pgCells_length]; omega) (by omega) (by omega) ?_
    (conv => whnf); repeat ((first | refine tk1 ?_ | refine tk2 ?_ | refine tk3 ?_ | refine tk12 (fun _ => ?_) | refine tk4 ?_ | refine tk5 ?_ | refine tk6 ?_ | refine tk7 ?_ | refine tk8 ?_ | refine tk9 ?_ | refine tk10 (fun _ _ => ?_) | refine tk11 (fun _ => ?_) | refine tk13 ?_ | refine tk14 ?_); (conv => whnf))
    refine Ld.taF (xs := pgCells l) (v := str x.p) (by rw [Int.toNat_natCast]; exact c3) ?_
    (conv => whnf); repeat ((first | refine tk1 ?_ | refine tk2 ?_ | refine tk3 ?_ | refine tk12 (fun _ => ?_) | refine tk4 ?_ | refine tk5 ?_ | refine tk6 ?_ | refine tk7 ?_ | refine tk8 ?_ | refine tk9 ?_ | refine tk10 (fun _ _ => ?_) | refine tk11 (fun _ => ?_) | refine tk13 ?_ | refine tk14 ?_); (conv => whnf))
    refine CallK.fnT hpf (fun _ _ => trivial) ?_
    rintro ⟨qA, qc⟩ _
    dsimp only [PlV, PlH, Option.getD_some, List.cons_append, List.nil_append]
    (conv => whnf); repeat ((first | refine tk1 ?_ | refine tk2 ?_ | refine tk3 ?_ | refine tk12 (fun _ => ?_) | refine tk4 ?_ | refine tk5 ?_ | refine tk6 ?_ | refine tk7 ?_ | refine tk8 ?_ | refine tk9 ?_ | refine tk10 (fun _ _ => ?_) | refine tk11 (fun _ => ?_) | refine tk13 ?_ | refine tk14 ?_); (conv => whnf))
    refine DrawS.go [(0, true), (1, true), (2, true), (3, false), (4, false), (5, true), (6, false), (7, true)] tys_ok mixed (by kernel_rfl) ?_
    (conv => whnf); repeat ((first | refine tk1 ?_ | refine tk2 ?_ | refine tk3 ?_ | refine tk12 (fun _ => ?_) | refine tk4 ?_ | refine tk5 ?_ | refine tk6 ?_ | refine tk7 ?_ | refine tk8 ?_ | refine tk9 ?_ | refine tk10 (fun _ _ => ?_) | refine tk11 (fun _ => ?_) | refine tk13 ?_ | refine tk14 ?_); (conv => whnf))
    refine CallK.fnT (params_f (gI := gI) qA qc q SA Sc ss hsq (by omega) hql) (fun w1 hw1 => ⟨RdA.ok (xs := plcCells q) w1 hw1, RdA.ok (xs := ss.map str) w1 hw1, hSc⟩) ?_
    rintro ⟨fA, fc⟩ _
    dsimp only [List.cons_append, List.nil_append]
    (conv => whnf); repeat ((first | refine tk1 ?_ | refine tk2 ?_ | refine tk3 ?_ | refine tk12 (fun _ => ?_) | refine tk4 ?_ | refine tk5 ?_ | refine tk6 ?_ | refine tk7 ?_ | refine tk8 ?_ | refine tk9 ?_ | refine tk10 (fun _ _ => ?_) | refine tk11 (fun _ => ?_) | refine tk13 ?_ | refine tk14 ?_); (conv => whnf))
    refine fun w' hw' => ⟨⟨fA, fc⟩, ?_, trivial, ?_⟩
    · rw [hO]
      rfl
    · rw [hO]
      exact newH.into hw' (Cv.into (by (try dsimp only); repeat' (first | with_reducible exact Cv.refl | with_reducible exact Cv.left | with_reducible exact Cv.right | with_reducible exact Cv.nil | (with_reducible apply Cv.cons; focus ((repeat (first | with_reducible exact Pick.here | with_reducible apply Pick.skip)); done)) | (apply Cv.cons; focus ((repeat (first | exact Pick.here | apply Pick.skip)); done)) | exact Cv.nil | exact Cv.refl | exact Cv.left | exact Cv.right | refine Cv.skip ?_)))
  · have hmg : methodG m = m := if_neg hm
    refine Cmp.f hm ?_
    (conv => whnf); repeat ((first | refine tk1 ?_ | refine tk2 ?_ | refine tk3 ?_ | refine tk12 (fun _ => ?_) | refine tk4 ?_ | refine tk5 ?_ | refine tk6 ?_ | refine tk7 ?_ | refine tk8 ?_ | refine tk9 ?_ | refine tk10 (fun _ _ => ?_) | refine tk11 (fun _ => ?_) | refine tk13 ?_ | refine tk14 ?_); (conv => whnf))
    refine CallK.fnG (G := fun u => .tuple #[u, .int .i64 (segE path)]) hseg (fun _ _ => trivial) (fun SA Sc hSc => ?_)
    cases hp2 : pathOf path
    · as_aux_lemma =>
      have hO := hO1 hp2
      rw [show segE path = 3 by unfold segE; rw [hp2]; rfl]
      (conv => whnf); repeat ((first | refine tk1 ?_ | refine tk2 ?_ | refine tk3 ?_ | refine tk12 (fun _ => ?_) | refine tk4 ?_ | refine tk5 ?_ | refine tk6 ?_ | refine tk7 ?_ | refine tk8 ?_ | refine tk9 ?_ | refine tk10 (fun _ _ => ?_) | refine tk11 (fun _ => ?_) | refine tk13 ?_ | refine tk14 ?_); (conv => whnf))
      refine DrawS.fork [] (.q 0 (.ch 1 (.a 2 (.q 3 (.a 4 (.q 5 (.nil))))) (.ch 2 (.q 1 (.q 3 (.a 4 (.q 5 (.nil))))) (.stop)))) tys_ok mixed (by kernel_rfl) ?_
      (repeat' ((conv => whnf); first | (first | refine tk1 ?_ | refine tk2 ?_ | refine tk3 ?_ | refine tk12 (fun _ => ?_) | refine tk4 ?_ | refine tk5 ?_ | refine tk6 ?_ | refine tk7 ?_ | refine tk8 ?_ | refine tk9 ?_ | refine tk10 (fun _ _ => ?_) | refine tk11 (fun _ => ?_) | refine tk13 ?_ | refine tk14 ?_) | refine And.intro ?_ ?_ | exact trivial | exact fun w' hw' => hnone (-1) 404 0 _ hO w' hw'))
    rw [show segO path = segs path by unfold segO; rw [hp2]; rfl] at hSc
    rw [show segE path = 0 by unfold segE; rw [hp2]; rfl, show segO path = segs path by unfold segO; rw [hp2]; rfl]
    have hO := hO2 hp2
    rw [hmg] at hO
    obtain ⟨htr, hr, hrc⟩ := hQ hg
    have hfw := find_ways htr m (cands (segs path)) 404
    have htot := tot_segs hp2
    have hfc := findC_cases (rp l) m (cands (segs path)) 404
    obtain ⟨ss, hss⟩ : ∃ ss, segs path = ss := ⟨_, rfl⟩
    rw [hss] at hO hfw htot hfc hSc ⊢
    (conv => whnf); repeat ((first | refine tk1 ?_ | refine tk2 ?_ | refine tk3 ?_ | refine tk12 (fun _ => ?_) | refine tk4 ?_ | refine tk5 ?_ | refine tk6 ?_ | refine tk7 ?_ | refine tk8 ?_ | refine tk9 ?_ | refine tk10 (fun _ _ => ?_) | refine tk11 (fun _ => ?_) | refine tk13 ?_ | refine tk14 ?_); (conv => whnf))
    refine CallK.into (G := [] ++ (.box b8 [.int .i64 404] 3 :: .box b6 [.int .i64 (-1)] 3 :: .box b4 [str m] 9 :: ([.row (.slice SA ss.length Sc) 9 1 ss.length (ss.map str)] ++ nodesH ns))) (Cv.into (by (try dsimp only); repeat' (first | with_reducible exact Cv.refl | with_reducible exact Cv.left | with_reducible exact Cv.right | with_reducible exact Cv.nil | (with_reducible apply Cv.cons; focus ((repeat (first | with_reducible exact Pick.here | with_reducible apply Pick.skip)); done)) | (apply Cv.cons; focus ((repeat (first | exact Pick.here | apply Pick.skip)); done)) | exact Cv.nil | exact Cv.refl | exact Cv.left | exact Cv.right | refine Cv.skip ?_))) ?_
    refine walk_k (G := fun s : Int × Int => .box b8 [.int .i64 s.2] 3 :: .box b6 [.int .i64 s.1] 3 :: .box b4 [str m] 9 :: ([.row (.slice SA ss.length Sc) 9 1 ss.length (ss.map str)] ++ nodesH ns)) rfl htr (fun s x hx => .tail _ (.tail _ (.tail _ (.tail _ hx)))) (find1_k rfl htr) ss SA Sc r (-1, 404) [] _ hr (by have := totS_len ss; omega) ?_ (fun s => RdS.skip (RdS.skip (RdS.skip RdS.here))) (fun s' b hs => ?_)
    · exact hSc
    rw [hrc] at hs
    have hs' := hfw s' b hs
    clear hfw hs
    obtain ⟨⟨fn, fst⟩, hfcc⟩ : ∃ y, findC (rp l) m (cands ss) 404 = y := ⟨_, rfl⟩
    rw [hfcc] at hO hfc hs'
    subst hs'
    dsimp only at hO hfc ⊢
    rcases hfc with rfl | ⟨i, gg, rfl, h2, h3, _⟩
    · as_aux_lemma =>
      rw [if_pos (by decide)] at hO
      dsimp only [List.cons_append, List.nil_append]
      (conv => whnf); repeat ((first | refine tk1 ?_ | refine tk2 ?_ | refine tk3 ?_ | refine tk12 (fun _ => ?_) | refine tk4 ?_ | refine tk5 ?_ | refine tk6 ?_ | refine tk7 ?_ | refine tk8 ?_ | refine tk9 ?_ | refine tk10 (fun _ _ => ?_) | refine tk11 (fun _ => ?_) | refine tk13 ?_ | refine tk14 ?_); (conv => whnf))
      refine DrawS.fork [] (.q 0 (.ch 1 (.a 2 (.q 3 (.a 4 (.q 5 (.nil))))) (.ch 2 (.q 1 (.q 3 (.a 4 (.q 5 (.nil))))) (.stop)))) tys_ok mixed (by kernel_rfl) ?_
      (repeat' ((conv => whnf); first | (first | refine tk1 ?_ | refine tk2 ?_ | refine tk3 ?_ | refine tk12 (fun _ => ?_) | refine tk4 ?_ | refine tk5 ?_ | refine tk6 ?_ | refine tk7 ?_ | refine tk8 ?_ | refine tk9 ?_ | refine tk10 (fun _ _ => ?_) | refine tk11 (fun _ => ?_) | refine tk13 ?_ | refine tk14 ?_) | refine And.intro ?_ ?_ | exact trivial | exact fun w' hw' => hnone (-1) fst 0 _ hO w' hw'))
    rw [if_neg (by omega)] at hO
    have hil : i < l.length := by
      have := (List.getElem?_eq_some_iff.1 h2).1
      rw [rp_length] at this
      exact this
    obtain ⟨c1, c2, c3⟩ := pgCells_at l i hil
    have hxl := hp l[i] (List.getElem_mem hil)
    have hri := rp_at l i hil
    rw [h2] at hri
    have hgg := Option.some.inj hri
    clear hri
    generalize l[i] = x at *
    subst hgg
    obtain ⟨⟨q, hq⟩, _⟩ := pgOK_is ((grown_zero hg).2.1 _ (List.mem_of_getElem? h2))
    have hq : placesOf x.p = some q := hq
    have hpf := places_f (gI := gI) x.p (by omega)
    rw [hq] at hpf
    have hpq : placesAt (rp l) (i : Int) = q := by
      unfold placesAt
      rw [Int.toNat_natCast, h2]
      show (placesOf x.p).getD [] = q
      rw [hq]
      rfl
    rw [hpq] at hO
    have hsq : q.map keyP ∈ cands ss := by
      unfold shapeOf at h3
      rw [hq] at h3
      exact h3
    have hql : q.length ≤ 2000000 := by
      have h5 := places_len hq
      omega
    dsimp only [List.cons_append, List.nil_append]
    (conv => whnf); repeat ((first | refine tk1 ?_ | refine tk2 ?_ | refine tk3 ?_ | refine tk12 (fun _ => ?_) | refine tk4 ?_ | refine tk5 ?_ | refine tk6 ?_ | refine tk7 ?_ | refine tk8 ?_ | refine tk9 ?_ | refine tk10 (fun _ _ => ?_) | refine tk11 (fun _ => ?_) | refine tk13 ?_ | refine tk14 ?_); (conv => whnf))
    refine IdxA.tc (xs := pgCells l) (by rw [pgCells_length]; omega) (by omega) (by omega) ?_
    (conv => whnf); repeat ((first | refine tk1 ?_ | refine tk2 ?_ | refine tk3 ?_ | refine tk12 (fun _ => ?_) | refine tk4 ?_ | refine tk5 ?_ | refine tk6 ?_ | refine tk7 ?_ | refine tk8 ?_ | refine tk9 ?_ | refine tk10 (fun _ _ => ?_) | refine tk11 (fun _ => ?_) | refine tk13 ?_ | refine tk14 ?_); (conv => whnf))
    refine Ld.taF (xs := pgCells l) (v := str x.p) (by rw [Int.toNat_natCast]; exact c3) ?_
    (conv => whnf); repeat ((first | refine tk1 ?_ | refine tk2 ?_ | refine tk3 ?_ | refine tk12 (fun _ => ?_) | refine tk4 ?_ | refine tk5 ?_ | refine tk6 ?_ | refine tk7 ?_ | refine tk8 ?_ | refine tk9 ?_ | refine tk10 (fun _ _ => ?_) | refine tk11 (fun _ => ?_) | refine tk13 ?_ | refine tk14 ?_); (conv => whnf))
    refine CallK.fnT hpf (fun _ _ => trivial) ?_
    rintro ⟨qA, qc⟩ _
    dsimp only [PlV, PlH, Option.getD_some, List.cons_append, List.nil_append]
    (conv => whnf); repeat ((first | refine tk1 ?_ | refine tk2 ?_ | refine tk3 ?_ | refine tk12 (fun _ => ?_) | refine tk4 ?_ | refine tk5 ?_ | refine tk6 ?_ | refine tk7 ?_ | refine tk8 ?_ | refine tk9 ?_ | refine tk10 (fun _ _ => ?_) | refine tk11 (fun _ => ?_) | refine tk13 ?_ | refine tk14 ?_); (conv => whnf))
    refine DrawS.go [(0, true), (1, true), (2, true), (3, false), (4, false), (5, true), (6, false), (7, true)] tys_ok mixed (by kernel_rfl) ?_
    (conv => whnf); repeat ((first | refine tk1 ?_ | refine tk2 ?_ | refine tk3 ?_ | refine tk12 (fun _ => ?_) | refine tk4 ?_ | refine tk5 ?_ | refine tk6 ?_ | refine tk7 ?_ | refine tk8 ?_ | refine tk9 ?_ | refine tk10 (fun _ _ => ?_) | refine tk11 (fun _ => ?_) | refine tk13 ?_ | refine tk14 ?_); (conv => whnf))
    refine CallK.fnT (params_f (gI := gI) qA qc q SA Sc ss hsq (by omega) hql) (fun w1 hw1 => ⟨RdA.ok (xs := plcCells q) w1 hw1, RdA.ok (xs := ss.map str) w1 hw1, hSc⟩) ?_
    rintro ⟨fA, fc⟩ _
    dsimp only [List.cons_append, List.nil_append]
    (conv => whnf); repeat ((first | refine tk1 ?_ | refine tk2 ?_ | refine tk3 ?_ | refine tk12 (fun _ => ?_) | refine tk4 ?_ | refine tk5 ?_ | refine tk6 ?_ | refine tk7 ?_ | refine tk8 ?_ | refine tk9 ?_ | refine tk10 (fun _ _ => ?_) | refine tk11 (fun _ => ?_) | refine tk13 ?_ | refine tk14 ?_); (conv => whnf))
    refine fun w' hw' => ⟨⟨fA, fc⟩, ?_, trivial, ?_⟩
    · rw [hO]
      rfl
    · rw [hO]
      exact newH.into hw' (Cv.into (by (try dsimp only); repeat' (first | with_reducible exact Cv.refl | with_reducible exact Cv.left | with_reducible exact Cv.right | with_reducible exact Cv.nil | (with_reducible apply Cv.cons; focus ((repeat (first | with_reducible exact Pick.here | with_reducible apply Pick.skip)); done)) | (apply Cv.cons; focus ((repeat (first | exact Pick.here | apply Pick.skip)); done)) | exact Cv.nil | exact Cv.refl | exact Cv.left | exact Cv.right | refine Cv.skip ?_)))
end Go.Proofs.YtnaeeklnlddcaaaDoor.Vex
/- Lists of fields: whether two are the same; whether one is great; reckoned. -/
namespace Go.Proofs.YtnaeeklnlddcaaaDoor.Vex
open Go Go.RowKit
set_option maxRecDepth 100000
set_option linter.unusedSectionVars false
variable {gI : GI} [HasMax gI]

theorem SameFields_r (A B : Option Addr) (cp cq : Nat) (a b : List Fld) (ha : a.length ≤ 1000000000) (hb : b.length ≤ 1000000000) :
    FnR Tryd.prog gI 8 [.slice A a.length cp, .slice B b.length cq] [(A, fcells a), (B, fcells b)] (.bool (decide (a = b))) := by
  refine FnE.of tys_ok Tryd.func8 rfl (by kernel_rfl) rfl rfl ?_; intro w hG hP
  have hA : ∀ H, RdA (mkC Tryd.prog gI w hG) H A (fcells a) := fun H => ⟨hP.1.now⟩
  have hB : ∀ H, RdA (mkC Tryd.prog gI w hG) H B (fcells b) := fun H => ⟨hP.2.1.now⟩
  (conv => whnf); repeat ((first | refine tk1 ?_ | refine tk2 ?_ | refine tk3 ?_ | refine tk12 (fun _ => ?_) | refine tk4 ?_ | refine tk5 ?_ | refine tk6 ?_ | refine tk7 ?_ | refine tk8 ?_ | refine tk9 ?_ | refine tk10 (fun _ _ => ?_) | refine tk11 (fun _ => ?_) | refine tk13 ?_ | refine tk14 ?_); (conv => whnf))
  refine Cmp.cases (fun hz => ?_) (fun hz => ?_)
  · (conv => whnf); repeat ((first | refine tk1 ?_ | refine tk2 ?_ | refine tk3 ?_ | refine tk12 (fun _ => ?_) | refine tk4 ?_ | refine tk5 ?_ | refine tk6 ?_ | refine tk7 ?_ | refine tk8 ?_ | refine tk9 ?_ | refine tk10 (fun _ _ => ?_) | refine tk11 (fun _ => ?_) | refine tk13 ?_ | refine tk14 ?_); (conv => whnf))
    intro w' _
    rw [decide_eq_false (fun h => hz (by rw [h]))]
  have hz' : a.length = b.length := by omega
  (conv => whnf); repeat ((first | refine tk1 ?_ | refine tk2 ?_ | refine tk3 ?_ | refine tk12 (fun _ => ?_) | refine tk4 ?_ | refine tk5 ?_ | refine tk6 ?_ | refine tk7 ?_ | refine tk8 ?_ | refine tk9 ?_ | refine tk10 (fun _ _ => ?_) | refine tk11 (fun _ => ?_) | refine tk13 ?_ | refine tk14 ?_); (conv => whnf))
  refine LoopS.lp tys_ok (fun (k : Nat) u => [.slice A a.length cp, .slice B b.length cq, u 2, u 3, u 4, .int .i64 (k : Nat), u 6, u 7, u 8, u 9, u 10, u 11, u 12, u 13, u 14, u 15, u 16, u 17, u 18, u 19, u 20, u 21, u 22, u 23, u 24, u 25]) (fun _ => [])
    (fun k => k ≤ a.length ∧ a.take k = b.take k) (fun k => a.length - k) 0 ⟨Nat.zero_le _, rfl⟩ rfl (by repeat' (first | exact List.Sublist.refl _ | exact List.nil_sublist _ | apply List.Sublist.cons_cons | apply List.Sublist.cons)) ?_
  intro k u ⟨hk, hI⟩
  (conv => whnf); repeat ((first | refine tk1 ?_ | refine tk2 ?_ | refine tk3 ?_ | refine tk12 (fun _ => ?_) | refine tk4 ?_ | refine tk5 ?_ | refine tk6 ?_ | refine tk7 ?_ | refine tk8 ?_ | refine tk9 ?_ | refine tk10 (fun _ _ => ?_) | refine tk11 (fun _ => ?_) | refine tk13 ?_ | refine tk14 ?_); (conv => whnf))
  refine Cmp.cases (fun hlt => ?_) (fun hlt => ?_)
  · have hka : k < a.length := by omega
    have hkb : k < b.length := by omega
    (conv => whnf); repeat ((first | refine tk1 ?_ | refine tk2 ?_ | refine tk3 ?_ | refine tk12 (fun _ => ?_) | refine tk4 ?_ | refine tk5 ?_ | refine tk6 ?_ | refine tk7 ?_ | refine tk8 ?_ | refine tk9 ?_ | refine tk10 (fun _ _ => ?_) | refine tk11 (fun _ => ?_) | refine tk13 ?_ | refine tk14 ?_); (conv => whnf))
    refine DrawS.go (qs 9) tys_ok mixed (by kernel_rfl) ?_
    (conv => whnf); repeat ((first | refine tk1 ?_ | refine tk2 ?_ | refine tk3 ?_ | refine tk12 (fun _ => ?_) | refine tk4 ?_ | refine tk5 ?_ | refine tk6 ?_ | refine tk7 ?_ | refine tk8 ?_ | refine tk9 ?_ | refine tk10 (fun _ _ => ?_) | refine tk11 (fun _ => ?_) | refine tk13 ?_ | refine tk14 ?_); (conv => whnf))
    refine IdxA.tc (by rw [fcells_length]; omega) (by omega) (by omega) ?_
    (conv => whnf); repeat ((first | refine tk1 ?_ | refine tk2 ?_ | refine tk3 ?_ | refine tk12 (fun _ => ?_) | refine tk4 ?_ | refine tk5 ?_ | refine tk6 ?_ | refine tk7 ?_ | refine tk8 ?_ | refine tk9 ?_ | refine tk10 (fun _ _ => ?_) | refine tk11 (fun _ => ?_) | refine tk13 ?_ | refine tk14 ?_); (conv => whnf))
    refine Ld.taN (fcells_two a k hka) rfl ?_
    (conv => whnf); repeat ((first | refine tk1 ?_ | refine tk2 ?_ | refine tk3 ?_ | refine tk12 (fun _ => ?_) | refine tk4 ?_ | refine tk5 ?_ | refine tk6 ?_ | refine tk7 ?_ | refine tk8 ?_ | refine tk9 ?_ | refine tk10 (fun _ _ => ?_) | refine tk11 (fun _ => ?_) | refine tk13 ?_ | refine tk14 ?_); (conv => whnf))
    refine IdxA.tc (by rw [fcells_length]; omega) (by omega) (by omega) ?_
    (conv => whnf); repeat ((first | refine tk1 ?_ | refine tk2 ?_ | refine tk3 ?_ | refine tk12 (fun _ => ?_) | refine tk4 ?_ | refine tk5 ?_ | refine tk6 ?_ | refine tk7 ?_ | refine tk8 ?_ | refine tk9 ?_ | refine tk10 (fun _ _ => ?_) | refine tk11 (fun _ => ?_) | refine tk13 ?_ | refine tk14 ?_); (conv => whnf))
    refine Ld.taN (fcells_two b k hkb) rfl ?_
    (conv => whnf); repeat ((first | refine tk1 ?_ | refine tk2 ?_ | refine tk3 ?_ | refine tk12 (fun _ => ?_) | refine tk4 ?_ | refine tk5 ?_ | refine tk6 ?_ | refine tk7 ?_ | refine tk8 ?_ | refine tk9 ?_ | refine tk10 (fun _ _ => ?_) | refine tk11 (fun _ => ?_) | refine tk13 ?_ | refine tk14 ?_); (conv => whnf))
    refine OthP.neF rfl rfl rfl ?_
    cases hq : (a[k].1 == b[k].1 && a[k].2 == b[k].2)
    · (conv => whnf); repeat ((first | refine tk1 ?_ | refine tk2 ?_ | refine tk3 ?_ | refine tk12 (fun _ => ?_) | refine tk4 ?_ | refine tk5 ?_ | refine tk6 ?_ | refine tk7 ?_ | refine tk8 ?_ | refine tk9 ?_ | refine tk10 (fun _ _ => ?_) | refine tk11 (fun _ => ?_) | refine tk13 ?_ | refine tk14 ?_); (conv => whnf))
      intro w' _
      rw [decide_eq_false (fun h => by subst h; simp at hq)]
    · have hq' : a[k] = b[k] := by simp at hq; exact Prod.ext hq.1 hq.2
      (conv => whnf); repeat ((first | refine tk1 ?_ | refine tk2 ?_ | refine tk3 ?_ | refine tk12 (fun _ => ?_) | refine tk4 ?_ | refine tk5 ?_ | refine tk6 ?_ | refine tk7 ?_ | refine tk8 ?_ | refine tk9 ?_ | refine tk10 (fun _ _ => ?_) | refine tk11 (fun _ => ?_) | refine tk13 ?_ | refine tk14 ?_); (conv => whnf))
      exact ⟨k + 1, ⟨by omega, by rw [List.take_succ_eq_append_getElem hka, List.take_succ_eq_append_getElem hkb, hI, hq']⟩, rfl, (by repeat' (first | exact List.Sublist.refl _ | exact List.nil_sublist _ | apply List.Sublist.cons_cons | apply List.Sublist.cons)), by dsimp only; omega⟩
  · (conv => whnf); repeat ((first | refine tk1 ?_ | refine tk2 ?_ | refine tk3 ?_ | refine tk12 (fun _ => ?_) | refine tk4 ?_ | refine tk5 ?_ | refine tk6 ?_ | refine tk7 ?_ | refine tk8 ?_ | refine tk9 ?_ | refine tk10 (fun _ _ => ?_) | refine tk11 (fun _ => ?_) | refine tk13 ?_ | refine tk14 ?_); (conv => whnf))
    intro w' _
    have : a = b := by rw [List.take_of_length_le (by omega), List.take_of_length_le (by omega)] at hI; exact hI
    rw [decide_eq_true this]
end Go.Proofs.YtnaeeklnlddcaaaDoor.Vex
/- The statements on routes: what they call; RouteLiteral, reckoned. -/
namespace Go.Proofs.YtnaeeklnlddcaaaDoor.Vex
open Go Go.RowKit
set_option maxRecDepth 100000
set_option linter.unusedSectionVars false
set_option linter.unusedSectionVars false
variable {gI : GI} [HasMax gI] [HasErr gI]

def grtN (l : List Pg) : Nat := (l.map fun x => 1 + min x.p.length 100000).sum
/-- Are pages great? -/
def grtP (l : List Pg) : Bool := decide (40 < l.length) || decide (6000 < grtN (l.take 1000))
theorem grtN_snoc (l : List Pg) (x : Pg) : grtN (l ++ [x]) = grtN l + (1 + min x.p.length 100000) := by simp [grtN]
theorem grtN_mem : ∀ (l : List Pg) (x : Pg), x ∈ l → 1 + min x.p.length 100000 ≤ grtN l
  | y :: r, x, h => by
    have e : grtN (y :: r) = (1 + min y.p.length 100000) + grtN r := by simp [grtN]
    rw [e]
    rcases List.mem_cons.1 h with rfl | h
    · omega
    · have := grtN_mem r x h
      omega
theorem grtP_false {l : List Pg} (h : grtP l = false) : l.length ≤ 40 ∧ ∀ x ∈ l, x.p.length ≤ 6000 := by
  unfold grtP at h
  rw [Bool.or_eq_false_iff, decide_eq_false_iff_not, decide_eq_false_iff_not] at h
  refine ⟨by omega, fun x hx => ?_⟩
  rw [List.take_of_length_le (by omega)] at h
  have := grtN_mem l x hx
  omega
theorem Great26_r (PA : Option Addr) (Pc : Nat) (l : List Pg) : FnR Tryd.prog gI 6 [.slice PA l.length Pc] [(PA, pgCells l)] (.bool (grtP l)) := by
  refine FnE.of tys_ok Tryd.func6 rfl (by kernel_rfl) rfl rfl ?_; intro w hG hP
  have hR : ∀ H, RdA (mkC Tryd.prog gI w hG) H PA (pgCells l) := fun H => ⟨hP.1.now⟩
  clear hP
  have hend : ∀ n : Nat, n = grtN (l.take 1000) → ∀ b : Bool, b = (decide (40 < l.length) || decide (6000 < n)) → b = grtP l := fun n hn b hb => by rw [hb, hn]; rfl
  (conv => whnf); repeat ((first | refine tk1 ?_ | refine tk2 ?_ | refine tk3 ?_ | refine tk12 (fun _ => ?_) | refine tk4 ?_ | refine tk5 ?_ | refine tk6 ?_ | refine tk7 ?_ | refine tk8 ?_ | refine tk9 ?_ | refine tk10 (fun _ _ => ?_) | refine tk11 (fun _ => ?_) | refine tk13 ?_ | refine tk14 ?_); (conv => whnf))
  refine LoopS.lp tys_ok (fun (z : Nat × Nat) u => [.slice PA l.length Pc, u 1, u 2, .int .i64 (z.2 : Nat), .int .i64 (z.1 : Nat), u 5, u 6, u 7, u 8, u 9, u 10, u 11, u 12, u 13, u 14, u 15, u 16, u 17, u 18, u 19, u 20, u 21, u 22, u 23, u 24, u 25, u 26, u 27, u 28, u 29, u 30, u 31]) (fun _ => [])
    (fun z => z.1 ≤ l.length ∧ z.1 ≤ 1000 ∧ z.2 = grtN (l.take z.1) ∧ z.2 ≤ z.1 * 100001) (fun z => l.length - z.1) (0, 0) ⟨Nat.zero_le _, by decide, rfl, by decide⟩ rfl (by repeat' (first | exact List.Sublist.refl _ | exact List.nil_sublist _ | apply List.Sublist.cons_cons | apply List.Sublist.cons)) ?_
  rintro ⟨i, n⟩ u ⟨h1, h2, h3, h4⟩
  dsimp only at h1 h2 h3 h4 ⊢
  by_cases hlt : i < l.length ∧ i < 1000
  · obtain ⟨hlt, hlt2⟩ := hlt
    obtain ⟨c1, c2, c3⟩ := pgCells_at l i hlt
    have htk : l.take (i + 1) = l.take i ++ [l[i]] := by rw [List.take_add_one, List.getElem?_eq_getElem hlt]; rfl
    generalize l[i] = x at *
    have hmin : min (x.p.length : Int) 100000 = (min x.p.length 100000 : Nat) := by omega
    (conv => whnf); repeat ((first | refine tk1 ?_ | refine tk2 ?_ | refine tk3 ?_ | refine tk12 (fun _ => ?_) | refine tk4 ?_ | refine tk5 ?_ | refine tk6 ?_ | refine tk7 ?_ | refine tk8 ?_ | refine tk9 ?_ | refine tk10 (fun _ _ => ?_) | refine tk11 (fun _ => ?_) | refine tk13 ?_ | refine tk14 ?_); (conv => whnf))
    refine IdxA.tc (xs := pgCells l) (by rw [pgCells_length]; omega) (by omega) (by omega) ?_
    (conv => whnf); repeat ((first | refine tk1 ?_ | refine tk2 ?_ | refine tk3 ?_ | refine tk12 (fun _ => ?_) | refine tk4 ?_ | refine tk5 ?_ | refine tk6 ?_ | refine tk7 ?_ | refine tk8 ?_ | refine tk9 ?_ | refine tk10 (fun _ _ => ?_) | refine tk11 (fun _ => ?_) | refine tk13 ?_ | refine tk14 ?_); (conv => whnf))
    refine Ld.taF (xs := pgCells l) (v := str x.p) (by rw [Int.toNat_natCast]; exact c3) ?_
    (conv => whnf); repeat ((first | refine tk1 ?_ | refine tk2 ?_ | refine tk3 ?_ | refine tk12 (fun _ => ?_) | refine tk4 ?_ | refine tk5 ?_ | refine tk6 ?_ | refine tk7 ?_ | refine tk8 ?_ | refine tk9 ?_ | refine tk10 (fun _ _ => ?_) | refine tk11 (fun _ => ?_) | refine tk13 ?_ | refine tk14 ?_); (conv => whnf))
    refine OthP.min2 ((min x.p.length 100000 : Nat) : Int) rfl rfl hmin ?_
    have hm2 : min x.p.length 100000 ≤ 100000 := Nat.min_le_right _ _
    generalize hmv : min x.p.length 100000 = mv at *
    (conv => whnf); repeat ((first | refine tk1 ?_ | refine tk2 ?_ | refine tk3 ?_ | refine tk12 (fun _ => ?_) | refine tk4 ?_ | refine tk5 ?_ | refine tk6 ?_ | refine tk7 ?_ | refine tk8 ?_ | refine tk9 ?_ | refine tk10 (fun _ _ => ?_) | refine tk11 (fun _ => ?_) | refine tk13 ?_ | refine tk14 ?_); (conv => whnf))
    refine ⟨(i + 1, n + 1 + mv), ⟨by dsimp only; omega, by dsimp only; omega, ?_, by dsimp only; omega⟩, ?_, (by repeat' (first | exact List.Sublist.refl _ | exact List.nil_sublist _ | apply List.Sublist.cons_cons | apply List.Sublist.cons)), by dsimp only; omega⟩
    · dsimp only
      rw [htk, grtN_snoc, ← h3, hmv]
      omega
    · dsimp only
      rw [show ((n + 1 + mv : Nat) : Int) = (n : Int) + 1 + (mv : Int) by omega]
      rfl
  · have hn : n = grtN (l.take 1000) := by
      rw [h3]
      rcases Nat.lt_or_ge i l.length with h | h
      · rw [show i = 1000 by omega]
      · rw [List.take_of_length_le h, List.take_of_length_le (by omega)]
    by_cases hl1 : i < l.length
    · by_cases h40 : 40 < l.length
      · (conv => whnf); repeat ((first | refine tk1 ?_ | refine tk2 ?_ | refine tk3 ?_ | refine tk12 (fun _ => ?_) | refine tk4 ?_ | refine tk5 ?_ | refine tk6 ?_ | refine tk7 ?_ | refine tk8 ?_ | refine tk9 ?_ | refine tk10 (fun _ _ => ?_) | refine tk11 (fun _ => ?_) | refine tk13 ?_ | refine tk14 ?_); (conv => whnf))
        intro w' _
        exact congrArg Value.bool (hend n hn true (by rw [decide_eq_true h40]; rfl))
      · omega
    · by_cases h40 : 40 < l.length
      · (conv => whnf); repeat ((first | refine tk1 ?_ | refine tk2 ?_ | refine tk3 ?_ | refine tk12 (fun _ => ?_) | refine tk4 ?_ | refine tk5 ?_ | refine tk6 ?_ | refine tk7 ?_ | refine tk8 ?_ | refine tk9 ?_ | refine tk10 (fun _ _ => ?_) | refine tk11 (fun _ => ?_) | refine tk13 ?_ | refine tk14 ?_); (conv => whnf))
        intro w' _
        exact congrArg Value.bool (hend n hn true (by rw [decide_eq_true h40]; rfl))
      · by_cases h6 : 6000 < n
        · (conv => whnf); repeat ((first | refine tk1 ?_ | refine tk2 ?_ | refine tk3 ?_ | refine tk12 (fun _ => ?_) | refine tk4 ?_ | refine tk5 ?_ | refine tk6 ?_ | refine tk7 ?_ | refine tk8 ?_ | refine tk9 ?_ | refine tk10 (fun _ _ => ?_) | refine tk11 (fun _ => ?_) | refine tk13 ?_ | refine tk14 ?_); (conv => whnf))
          intro w' _
          exact congrArg Value.bool (hend n hn true (by rw [decide_eq_true h6, Bool.or_true]))
        · (conv => whnf); repeat ((first | refine tk1 ?_ | refine tk2 ?_ | refine tk3 ?_ | refine tk12 (fun _ => ?_) | refine tk4 ?_ | refine tk5 ?_ | refine tk6 ?_ | refine tk7 ?_ | refine tk8 ?_ | refine tk9 ?_ | refine tk10 (fun _ _ => ?_) | refine tk11 (fun _ => ?_) | refine tk13 ?_ | refine tk14 ?_); (conv => whnf))
          intro w' _
          exact congrArg Value.bool (hend n hn false (by rw [decide_eq_false h6, decide_eq_false h40]; rfl))
theorem Check26_f (PA : Option Addr) (Pc : Nat) (l : List Pg) (hl : l.length ≤ 1000000) (hp : ∀ x ∈ l, x.p.length ≤ 1000000) : FnR Tryd.prog gI 9 [.slice PA l.length Pc] [(PA, pgCells l)] (.int .i64 (grownE (rp l))) := by
  have hgr := grown_f (gI := gI) PA Pc l hl hp
  refine FnE.of tys_ok Tryd.func9 rfl (by kernel_rfl) rfl rfl ?_; intro w hG hP
  have hR : ∀ H, RdA (mkC Tryd.prog gI w hG) H PA (pgCells l) := fun H => ⟨hP.1.now⟩
  clear hP
  (conv => whnf); repeat ((first | refine tk1 ?_ | refine tk2 ?_ | refine tk3 ?_ | refine tk12 (fun _ => ?_) | refine tk4 ?_ | refine tk5 ?_ | refine tk6 ?_ | refine tk7 ?_ | refine tk8 ?_ | refine tk9 ?_ | refine tk10 (fun _ _ => ?_) | refine tk11 (fun _ => ?_) | refine tk13 ?_ | refine tk14 ?_); (conv => whnf))
  refine CallK.fnT hgr (fun w1 hw1 => (hR _).ok w1 hw1) ?_
  rintro x _
  unfold GrV
  (conv => whnf); repeat ((first | refine tk1 ?_ | refine tk2 ?_ | refine tk3 ?_ | refine tk12 (fun _ => ?_) | refine tk4 ?_ | refine tk5 ?_ | refine tk6 ?_ | refine tk7 ?_ | refine tk8 ?_ | refine tk9 ?_ | refine tk10 (fun _ _ => ?_) | refine tk11 (fun _ => ?_) | refine tk13 ?_ | refine tk14 ?_); (conv => whnf))
  exact fun w' _ => rfl
abbrev mkPg (m p : List UInt8) : Pg := ⟨m, p, 0, ⟨none, 0, []⟩, [], false, ⟨none, 0, []⟩⟩
def fourP : List Pg := [mkPg [71, 69, 84] [47, 97, 47, 58, 120], mkPg [71, 69, 84] [47, 97, 47, 98], mkPg [80, 79, 83, 84] [47, 97, 47, 58, 121], mkPg [71, 69, 84] [47, 42, 114]]
theorem four_f : FnT Tryd.prog gI 17 [] (fun _ => True) (fun q : Nat => .slice (some ⟨q, 0, none⟩) 4 4) (fun _ => True) (fun q => [.row (.slice (some ⟨q, 0, none⟩) 4 4) 28 7 4 (pgCells fourP)]) (fun _ => []) := by
  refine FnE.of tys_ok Tryd.func17 rfl (by kernel_rfl) rfl rfl ?_; intro w hG hP
  (conv => whnf); repeat ((first | refine tk1 ?_ | refine tk2 ?_ | refine tk3 ?_ | refine tk12 (fun _ => ?_) | refine tk4 ?_ | refine tk5 ?_ | refine tk6 ?_ | refine tk7 ?_ | refine tk8 ?_ | refine tk9 ?_ | refine tk10 (fun _ _ => ?_) | refine tk11 (fun _ => ?_) | refine tk13 ?_ | refine tk14 ?_); (conv => whnf))
  rename_i q
  exact fun w' hw' => ⟨q, rfl, trivial, newH.into hw' (fun _ h => h)⟩
def findsB (m path : List UInt8) (n st : Int) (nm v : List UInt8) : Bool := decide ((findO (rp fourP) m path).e = 0) && decide ((findO (rp fourP) m path).n = n) && decide ((findO (rp fourP) m path).st = st) && decide ((findO (rp fourP) m path).ps = if nm = [] then [] else [(nm, v)])
theorem find_ps {l : List Rpg} {N : Nat} (h : ∀ g ∈ l, g.p.length ≤ N) (m path : List UInt8) : (findO l m path).ps.length ≤ N + 1 := by
  have h1 : ∀ (ls : List Plc) (ss : List (List UInt8)), (paramsG ls ss).length ≤ ls.length := fun ls => by
    induction ls with
    | nil => exact fun _ => Nat.le_refl _
    | cons p r ih =>
      intro ss
      have := ih ss.tail
      rw [paramsG, List.length_append, List.length_cons]
      split
      · simp only [List.length_singleton]; omega
      · split
        · simp only [List.length_singleton]; omega
        · simp only [List.length_nil]; omega
  have h2 : ∀ n : Int, (placesAt l n).length ≤ N + 1 := fun n => by
    unfold placesAt
    cases hg : l[n.toNat]? with
    | none => exact Nat.zero_le _
    | some g =>
      show ((placesOf g.p).getD []).length ≤ N + 1
      cases hq : placesOf g.p with
      | none => exact Nat.zero_le _
      | some q =>
        have := places_len hq
        have := h g (List.mem_of_getElem? hg)
        show q.length ≤ N + 1
        omega
  unfold findO
  split
  · exact Nat.zero_le _
  split
  · exact Nat.zero_le _
  split
  · exact Nat.zero_le _
  · exact Nat.le_trans (h1 _ _) (h2 _)
theorem finds_f (m path : List UInt8) (n st : Int) (nm v : List UInt8) (hpa : path.length ≤ 1000000) : Fn Tryd.prog gI 10 [str m, str path, .int .i64 n, .int .i64 st, str nm, str v] (.bool (findsB m path n st nm v)) := by
  have hf := fun q => Find_f (gI := gI) (some ⟨q, 0, none⟩) 4 fourP (by decide) (by decide) m path hpa
  have hps := find_ps (l := rp fourP) (N := 10) (by decide) m path
  unfold findsB
  generalize findO (rp fourP) m path = o at *
  obtain ⟨on, ops, ost, oe⟩ := o
  dsimp only at hps ⊢
  refine Fn.of tys_ok Tryd.func10 rfl (by kernel_rfl) rfl rfl ?_; intro w hG
  (conv => whnf); repeat ((first | refine tk1 ?_ | refine tk2 ?_ | refine tk3 ?_ | refine tk12 (fun _ => ?_) | refine tk4 ?_ | refine tk5 ?_ | refine tk6 ?_ | refine tk7 ?_ | refine tk8 ?_ | refine tk9 ?_ | refine tk10 (fun _ _ => ?_) | refine tk11 (fun _ => ?_) | refine tk13 ?_ | refine tk14 ?_); (conv => whnf))
  refine CallK.fnT four_f (fun _ _ => trivial) ?_
  rintro q _
  dsimp only [List.cons_append, List.nil_append, List.append_nil]
  (conv => whnf); repeat ((first | refine tk1 ?_ | refine tk2 ?_ | refine tk3 ?_ | refine tk12 (fun _ => ?_) | refine tk4 ?_ | refine tk5 ?_ | refine tk6 ?_ | refine tk7 ?_ | refine tk8 ?_ | refine tk9 ?_ | refine tk10 (fun _ _ => ?_) | refine tk11 (fun _ => ?_) | refine tk13 ?_ | refine tk14 ?_); (conv => whnf))
  refine CallK.fnT (hf q) (fun w1 hw1 => RdA.ok (xs := pgCells fourP) w1 hw1) ?_
  rintro ⟨fA, fc⟩ _
  dsimp only [FndV, FndH, List.cons_append, List.nil_append, List.append_nil]
  by_cases he : oe = 0
  rotate_left
  · rw [decide_eq_false he]
    by_cases hnm : nm = []
    · subst hnm
      (conv => whnf); repeat ((first | refine tk1 ?_ | refine tk2 ?_ | refine tk3 ?_ | refine tk12 (fun _ => ?_) | refine tk4 ?_ | refine tk5 ?_ | refine tk6 ?_ | refine tk7 ?_ | refine tk8 ?_ | refine tk9 ?_ | refine tk10 (fun _ _ => ?_) | refine tk11 (fun _ => ?_) | refine tk13 ?_ | refine tk14 ?_); (conv => whnf))
      rfl
    · (conv => whnf); repeat ((first | refine tk1 ?_ | refine tk2 ?_ | refine tk3 ?_ | refine tk12 (fun _ => ?_) | refine tk4 ?_ | refine tk5 ?_ | refine tk6 ?_ | refine tk7 ?_ | refine tk8 ?_ | refine tk9 ?_ | refine tk10 (fun _ _ => ?_) | refine tk11 (fun _ => ?_) | refine tk13 ?_ | refine tk14 ?_); (conv => whnf))
      refine AppS.t0 (m := 1) (news := fcells [(nm, v)]) SrcK.tc (by simp [fcells]) (by simp [fcells, Value.oneCell']) (by decide) (by omega) (by omega) (fun _ _ => ?_)
      (conv => whnf); repeat ((first | refine tk1 ?_ | refine tk2 ?_ | refine tk3 ?_ | refine tk12 (fun _ => ?_) | refine tk4 ?_ | refine tk5 ?_ | refine tk6 ?_ | refine tk7 ?_ | refine tk8 ?_ | refine tk9 ?_ | refine tk10 (fun _ _ => ?_) | refine tk11 (fun _ => ?_) | refine tk13 ?_ | refine tk14 ?_); (conv => whnf))
      rfl
  rw [decide_eq_true he, Bool.true_and]
  by_cases hn : on = n
  rotate_left
  · rw [decide_eq_false hn]
    by_cases hnm : nm = []
    · subst hnm
      (conv => whnf); repeat ((first | refine tk1 ?_ | refine tk2 ?_ | refine tk3 ?_ | refine tk12 (fun _ => ?_) | refine tk4 ?_ | refine tk5 ?_ | refine tk6 ?_ | refine tk7 ?_ | refine tk8 ?_ | refine tk9 ?_ | refine tk10 (fun _ _ => ?_) | refine tk11 (fun _ => ?_) | refine tk13 ?_ | refine tk14 ?_); (conv => whnf))
      rfl
    · (conv => whnf); repeat ((first | refine tk1 ?_ | refine tk2 ?_ | refine tk3 ?_ | refine tk12 (fun _ => ?_) | refine tk4 ?_ | refine tk5 ?_ | refine tk6 ?_ | refine tk7 ?_ | refine tk8 ?_ | refine tk9 ?_ | refine tk10 (fun _ _ => ?_) | refine tk11 (fun _ => ?_) | refine tk13 ?_ | refine tk14 ?_); (conv => whnf))
      refine AppS.t0 (m := 1) (news := fcells [(nm, v)]) SrcK.tc (by simp [fcells]) (by simp [fcells, Value.oneCell']) (by decide) (by omega) (by omega) (fun _ _ => ?_)
      (conv => whnf); repeat ((first | refine tk1 ?_ | refine tk2 ?_ | refine tk3 ?_ | refine tk12 (fun _ => ?_) | refine tk4 ?_ | refine tk5 ?_ | refine tk6 ?_ | refine tk7 ?_ | refine tk8 ?_ | refine tk9 ?_ | refine tk10 (fun _ _ => ?_) | refine tk11 (fun _ => ?_) | refine tk13 ?_ | refine tk14 ?_); (conv => whnf))
      rfl
  rw [decide_eq_true hn, Bool.true_and]
  by_cases hs : ost = st
  rotate_left
  · rw [decide_eq_false hs]
    by_cases hnm : nm = []
    · subst hnm
      (conv => whnf); repeat ((first | refine tk1 ?_ | refine tk2 ?_ | refine tk3 ?_ | refine tk12 (fun _ => ?_) | refine tk4 ?_ | refine tk5 ?_ | refine tk6 ?_ | refine tk7 ?_ | refine tk8 ?_ | refine tk9 ?_ | refine tk10 (fun _ _ => ?_) | refine tk11 (fun _ => ?_) | refine tk13 ?_ | refine tk14 ?_); (conv => whnf))
      rfl
    · (conv => whnf); repeat ((first | refine tk1 ?_ | refine tk2 ?_ | refine tk3 ?_ | refine tk12 (fun _ => ?_) | refine tk4 ?_ | refine tk5 ?_ | refine tk6 ?_ | refine tk7 ?_ | refine tk8 ?_ | refine tk9 ?_ | refine tk10 (fun _ _ => ?_) | refine tk11 (fun _ => ?_) | refine tk13 ?_ | refine tk14 ?_); (conv => whnf))
      refine AppS.t0 (m := 1) (news := fcells [(nm, v)]) SrcK.tc (by simp [fcells]) (by simp [fcells, Value.oneCell']) (by decide) (by omega) (by omega) (fun _ _ => ?_)
      (conv => whnf); repeat ((first | refine tk1 ?_ | refine tk2 ?_ | refine tk3 ?_ | refine tk12 (fun _ => ?_) | refine tk4 ?_ | refine tk5 ?_ | refine tk6 ?_ | refine tk7 ?_ | refine tk8 ?_ | refine tk9 ?_ | refine tk10 (fun _ _ => ?_) | refine tk11 (fun _ => ?_) | refine tk13 ?_ | refine tk14 ?_); (conv => whnf))
      rfl
  rw [decide_eq_true hs, Bool.true_and]
  by_cases hnm : nm = []
  · subst hnm
    rw [if_pos rfl]
    (conv => whnf); repeat ((first | refine tk1 ?_ | refine tk2 ?_ | refine tk3 ?_ | refine tk12 (fun _ => ?_) | refine tk4 ?_ | refine tk5 ?_ | refine tk6 ?_ | refine tk7 ?_ | refine tk8 ?_ | refine tk9 ?_ | refine tk10 (fun _ _ => ?_) | refine tk11 (fun _ => ?_) | refine tk13 ?_ | refine tk14 ?_); (conv => whnf))
    refine CallK.fnR (SameFields_r fA none fc 0 ops [] (by omega) (by decide)) ⟨RdA.ok, RdS.nil, trivial⟩ ?_
    (conv => whnf); repeat ((first | refine tk1 ?_ | refine tk2 ?_ | refine tk3 ?_ | refine tk12 (fun _ => ?_) | refine tk4 ?_ | refine tk5 ?_ | refine tk6 ?_ | refine tk7 ?_ | refine tk8 ?_ | refine tk9 ?_ | refine tk10 (fun _ _ => ?_) | refine tk11 (fun _ => ?_) | refine tk13 ?_ | refine tk14 ?_); (conv => whnf))
  · rw [if_neg hnm]
    (conv => whnf); repeat ((first | refine tk1 ?_ | refine tk2 ?_ | refine tk3 ?_ | refine tk12 (fun _ => ?_) | refine tk4 ?_ | refine tk5 ?_ | refine tk6 ?_ | refine tk7 ?_ | refine tk8 ?_ | refine tk9 ?_ | refine tk10 (fun _ _ => ?_) | refine tk11 (fun _ => ?_) | refine tk13 ?_ | refine tk14 ?_); (conv => whnf))
    refine AppS.t0 (m := 1) (news := fcells [(nm, v)]) SrcK.tc (by simp [fcells]) (by simp [fcells, Value.oneCell']) (by decide) (by omega) (by omega) (fun gA gc => ?_)
    (conv => whnf); repeat ((first | refine tk1 ?_ | refine tk2 ?_ | refine tk3 ?_ | refine tk12 (fun _ => ?_) | refine tk4 ?_ | refine tk5 ?_ | refine tk6 ?_ | refine tk7 ?_ | refine tk8 ?_ | refine tk9 ?_ | refine tk10 (fun _ _ => ?_) | refine tk11 (fun _ => ?_) | refine tk13 ?_ | refine tk14 ?_); (conv => whnf))
    refine CallK.fnR (SameFields_r fA gA fc gc ops [(nm, v)] (by omega) (by simp)) ⟨RdA.ok, RdA.ok, trivial⟩ ?_
    (conv => whnf); repeat ((first | refine tk1 ?_ | refine tk2 ?_ | refine tk3 ?_ | refine tk12 (fun _ => ?_) | refine tk4 ?_ | refine tk5 ?_ | refine tk6 ?_ | refine tk7 ?_ | refine tk8 ?_ | refine tk9 ?_ | refine tk10 (fun _ _ => ?_) | refine tk11 (fun _ => ?_) | refine tk13 ?_ | refine tk14 ?_); (conv => whnf))
theorem alive26_f : Fn Tryd.prog gI 5 [] (.bool true) := by
  have h1 := finds_f (gI := gI) [71, 69, 84] [47, 97, 47, 98] 1 200 [] [] (by decide)
  have h2 := finds_f (gI := gI) [72, 69, 65, 68] [47, 97, 47, 37, 54, 51] 0 200 [120] [99] (by decide)
  have h3 := finds_f (gI := gI) [80, 79, 83, 84] [47, 97, 47, 98] 2 200 [121] [98] (by decide)
  rw [show findsB [71, 69, 84] [47, 97, 47, 98] 1 200 [] [] = true by decide +kernel] at h1
  rw [show findsB [72, 69, 65, 68] [47, 97, 47, 37, 54, 51] 0 200 [120] [99] = true by decide +kernel] at h2
  rw [show findsB [80, 79, 83, 84] [47, 97, 47, 98] 2 200 [121] [98] = true by decide +kernel] at h3
  refine Fn.of tys_ok Tryd.func5 rfl (by kernel_rfl) rfl rfl ?_; intro w hG
  (conv => whnf); repeat ((first | refine tk1 ?_ | refine tk2 ?_ | refine tk3 ?_ | refine tk12 (fun _ => ?_) | refine tk4 ?_ | refine tk5 ?_ | refine tk6 ?_ | refine tk7 ?_ | refine tk8 ?_ | refine tk9 ?_ | refine tk10 (fun _ _ => ?_) | refine tk11 (fun _ => ?_) | refine tk13 ?_ | refine tk14 ?_); (conv => whnf))
  refine CallK.fn h1 ?_
  (conv => whnf); repeat ((first | refine tk1 ?_ | refine tk2 ?_ | refine tk3 ?_ | refine tk12 (fun _ => ?_) | refine tk4 ?_ | refine tk5 ?_ | refine tk6 ?_ | refine tk7 ?_ | refine tk8 ?_ | refine tk9 ?_ | refine tk10 (fun _ _ => ?_) | refine tk11 (fun _ => ?_) | refine tk13 ?_ | refine tk14 ?_); (conv => whnf))
  refine CallK.fn h2 ?_
  (conv => whnf); repeat ((first | refine tk1 ?_ | refine tk2 ?_ | refine tk3 ?_ | refine tk12 (fun _ => ?_) | refine tk4 ?_ | refine tk5 ?_ | refine tk6 ?_ | refine tk7 ?_ | refine tk8 ?_ | refine tk9 ?_ | refine tk10 (fun _ _ => ?_) | refine tk11 (fun _ => ?_) | refine tk13 ?_ | refine tk14 ?_); (conv => whnf))
  refine CallK.fn h3 ?_
  (conv => whnf); repeat ((first | refine tk1 ?_ | refine tk2 ?_ | refine tk3 ?_ | refine tk12 (fun _ => ?_) | refine tk4 ?_ | refine tk5 ?_ | refine tk6 ?_ | refine tk7 ?_ | refine tk8 ?_ | refine tk9 ?_ | refine tk10 (fun _ _ => ?_) | refine tk11 (fun _ => ?_) | refine tk13 ?_ | refine tk14 ?_); (conv => whnf))
end Go.Proofs.YtnaeeklnlddcaaaDoor.Vex
/- The statement RouteOrder, reckoned. -/
namespace Go.Proofs.YtnaeeklnlddcaaaDoor.Vex
open Go Go.RowKit
set_option maxRecDepth 100000
set_option linter.unusedSectionVars false
set_option linter.unusedSectionVars false
variable {gI : GI} [HasMax gI] [HasErr gI]

/-- Where the turning stands: how many pages are looked at; those behind the first one. -/
structure TrS where
  i : Nat
  o : List Pg
  A : Option Addr
  cp : Nat
def trI (l : List Pg) (k : Nat) (x : Pg) (z : TrS) : Prop := z.i ≤ l.length ∧ (if k < z.i then (x :: z.o).Perm (l.take z.i) else z.o = l.take z.i)
theorem rp_perm {a b : List Pg} (h : a.Perm b) : (rp a).Perm (rp b) := h.map _
set_option maxHeartbeats 4000000 in
theorem RouteOrder_v (PA : Option Addr) (Pc : Nat) (l : List Pg) (m path : List UInt8) (k : Int) : FnR Tryd.prog gI 3 [.slice PA l.length Pc, str m, str path, .int .i64 k] [(PA, pgCells l)] (.bool true) := by
  refine FnE.of tys_ok Tryd.func3 rfl (by kernel_rfl) rfl rfl ?_; intro w hG hP
  have hR : ∀ H, RdA (mkC Tryd.prog gI w hG) H PA (pgCells l) := fun H => ⟨hP.1.now⟩
  clear hP
  (conv => whnf); repeat ((first | refine tk1 ?_ | refine tk2 ?_ | refine tk3 ?_ | refine tk12 (fun _ => ?_) | refine tk4 ?_ | refine tk5 ?_ | refine tk6 ?_ | refine tk7 ?_ | refine tk8 ?_ | refine tk9 ?_ | refine tk10 (fun _ _ => ?_) | refine tk11 (fun _ => ?_) | refine tk13 ?_ | refine tk14 ?_); (conv => whnf))
  refine CallK.fn alive26_f ?_
  (conv => whnf); repeat ((first | refine tk1 ?_ | refine tk2 ?_ | refine tk3 ?_ | refine tk12 (fun _ => ?_) | refine tk4 ?_ | refine tk5 ?_ | refine tk6 ?_ | refine tk7 ?_ | refine tk8 ?_ | refine tk9 ?_ | refine tk10 (fun _ _ => ?_) | refine tk11 (fun _ => ?_) | refine tk13 ?_ | refine tk14 ?_); (conv => whnf))
  refine CallK.fnR (Great26_r PA Pc l) ⟨(hR _).ok, trivial⟩ ?_
  cases hgr : grtP l
  rotate_left
  · (conv => whnf); repeat ((first | refine tk1 ?_ | refine tk2 ?_ | refine tk3 ?_ | refine tk12 (fun _ => ?_) | refine tk4 ?_ | refine tk5 ?_ | refine tk6 ?_ | refine tk7 ?_ | refine tk8 ?_ | refine tk9 ?_ | refine tk10 (fun _ _ => ?_) | refine tk11 (fun _ => ?_) | refine tk13 ?_ | refine tk14 ?_); (conv => whnf))
    exact fun w' _ => rfl
  obtain ⟨hl, hpl⟩ := grtP_false hgr
  by_cases hpa : 5000 < path.length
  · (conv => whnf); repeat ((first | refine tk1 ?_ | refine tk2 ?_ | refine tk3 ?_ | refine tk12 (fun _ => ?_) | refine tk4 ?_ | refine tk5 ?_ | refine tk6 ?_ | refine tk7 ?_ | refine tk8 ?_ | refine tk9 ?_ | refine tk10 (fun _ _ => ?_) | refine tk11 (fun _ => ?_) | refine tk13 ?_ | refine tk14 ?_); (conv => whnf))
    exact fun w' _ => rfl
  by_cases hk0 : k < 0
  · (conv => whnf); repeat ((first | refine tk1 ?_ | refine tk2 ?_ | refine tk3 ?_ | refine tk12 (fun _ => ?_) | refine tk4 ?_ | refine tk5 ?_ | refine tk6 ?_ | refine tk7 ?_ | refine tk8 ?_ | refine tk9 ?_ | refine tk10 (fun _ _ => ?_) | refine tk11 (fun _ => ?_) | refine tk13 ?_ | refine tk14 ?_); (conv => whnf))
    exact fun w' _ => rfl
  by_cases hk1 : (l.length : Int) ≤ k
  · (conv => whnf); repeat ((first | refine tk1 ?_ | refine tk2 ?_ | refine tk3 ?_ | refine tk12 (fun _ => ?_) | refine tk4 ?_ | refine tk5 ?_ | refine tk6 ?_ | refine tk7 ?_ | refine tk8 ?_ | refine tk9 ?_ | refine tk10 (fun _ _ => ?_) | refine tk11 (fun _ => ?_) | refine tk13 ?_ | refine tk14 ?_); (conv => whnf))
    exact fun w' _ => rfl
  obtain ⟨j, rfl⟩ : ∃ j : Nat, k = j := ⟨k.toNat, by omega⟩
  have hjl : j < l.length := by omega
  obtain ⟨c1, _, _⟩ := pgCells_at l j hjl
  have hjx : l[j]? = some l[j] := List.getElem?_eq_getElem hjl
  obtain ⟨x, hx⟩ : ∃ x, l[j] = x := ⟨_, rfl⟩
  rw [hx] at c1 hjx
  (conv => whnf); repeat ((first | refine tk1 ?_ | refine tk2 ?_ | refine tk3 ?_ | refine tk12 (fun _ => ?_) | refine tk4 ?_ | refine tk5 ?_ | refine tk6 ?_ | refine tk7 ?_ | refine tk8 ?_ | refine tk9 ?_ | refine tk10 (fun _ _ => ?_) | refine tk11 (fun _ => ?_) | refine tk13 ?_ | refine tk14 ?_); (conv => whnf))
  refine IdxA.tc (xs := pgCells l) (by rw [pgCells_length]; omega) (by omega) (by omega) ?_
  (conv => whnf); repeat ((first | refine tk1 ?_ | refine tk2 ?_ | refine tk3 ?_ | refine tk12 (fun _ => ?_) | refine tk4 ?_ | refine tk5 ?_ | refine tk6 ?_ | refine tk7 ?_ | refine tk8 ?_ | refine tk9 ?_ | refine tk10 (fun _ _ => ?_) | refine tk11 (fun _ => ?_) | refine tk13 ?_ | refine tk14 ?_); (conv => whnf))
  refine Ld.taN (xs := pgCells l) (vs := pgV x) (by rw [Int.toNat_natCast]; exact c1) rfl ?_
  (conv => whnf); repeat ((first | refine tk1 ?_ | refine tk2 ?_ | refine tk3 ?_ | refine tk12 (fun _ => ?_) | refine tk4 ?_ | refine tk5 ?_ | refine tk6 ?_ | refine tk7 ?_ | refine tk8 ?_ | refine tk9 ?_ | refine tk10 (fun _ _ => ?_) | refine tk11 (fun _ => ?_) | refine tk13 ?_ | refine tk14 ?_); (conv => whnf))
  rename_i tb
  refine LoopS.lpT tys_ok (fun (z : TrS) u => [.slice PA l.length Pc, str m, str path, .int .i64 (j : Nat), u 4, u 5, u 6, u 7, u 8, .bool true, .slice z.A (x :: z.o).length z.cp, .int .i64 (z.i : Nat), u 12, u 13, u 14, u 15, u 16, u 17, u 18, u 19, u 20, u 21, u 22, u 23, u 24, u 25, u 26, u 27, u 28, u 29, u 30, u 31, u 32, u 33, u 34, u 35, u 36, u 37, u 38, u 39, u 40, u 41, u 42, u 43, u 44, u 45, u 46, u 47, u 48, u 49, u 50, u 51, u 52, u 53, u 54, u 55, u 56, u 57, u 58, u 59, u 60, u 61, u 62, u 63, u 64, u 65, u 66, u 67, u 68, u 69, u 70, u 71, u 72, u 73, u 74, u 75, u 76, u 77, u 78, u 79, u 80, u 81, u 82, u 83, u 84, u 85, u 86, u 87, u 88, u 89, u 90, u 91, u 92, u 93, u 94, u 95, u 96, u 97, u 98, u 99, u 100, u 101, u 102, u 103, u 104, u 105, u 106, u 107, u 108, u 109, u 110, u 111, u 112, u 113, u 114, u 115, u 116, u 117, u 118, u 119, u 120, u 121, u 122, u 123, u 124, u 125, u 126, u 127, u 128, u 129, u 130, u 131, u 132, u 133, u 134, u 135, u 136, u 137, u 138, u 139, u 140, u 141, u 142, u 143, u 144, u 145, u 146, u 147, u 148, u 149, u 150, u 151, u 152, u 153, u 154, u 155, u 156, u 157, u 158, u 159, u 160, u 161]) (fun z => [.row (.slice z.A (x :: z.o).length z.cp) 28 7 (x :: z.o).length (pgCells (x :: z.o))])
    (trI l j x) (fun z => l.length - z.i) ⟨0, [], some ⟨tb, 0, none⟩, 1⟩ ⟨Nat.zero_le _, by rw [if_neg (Nat.not_lt_zero j)]; rfl⟩ rfl (fun _ h => h) ?_
  rintro ⟨i, o, A, cp⟩ u ⟨hi, hI⟩
  dsimp only at hi hI ⊢
  by_cases hlt : i < l.length
  · as_aux_lemma =>
    obtain ⟨d1, _, _⟩ := pgCells_at l i hlt
    have htk : l.take (i + 1) = l.take i ++ [l[i]] := by rw [List.take_add_one, List.getElem?_eq_getElem hlt]; rfl
    by_cases hij : i = j
    · subst hij
      rw [if_neg (by omega)] at hI
      (conv => whnf); repeat ((first | refine tk1 ?_ | refine tk2 ?_ | refine tk3 ?_ | refine tk12 (fun _ => ?_) | refine tk4 ?_ | refine tk5 ?_ | refine tk6 ?_ | refine tk7 ?_ | refine tk8 ?_ | refine tk9 ?_ | refine tk10 (fun _ _ => ?_) | refine tk11 (fun _ => ?_) | refine tk13 ?_ | refine tk14 ?_); (conv => whnf))
      refine ⟨⟨i + 1, o, A, cp⟩, ⟨by dsimp only; omega, ?_⟩, rfl, Cv.into (by (try dsimp only); repeat' (first | with_reducible exact Cv.refl | with_reducible exact Cv.left | with_reducible exact Cv.right | with_reducible exact Cv.nil | (with_reducible apply Cv.cons; focus ((repeat (first | with_reducible exact Pick.here | with_reducible apply Pick.skip)); done)) | (apply Cv.cons; focus ((repeat (first | exact Pick.here | apply Pick.skip)); done)) | exact Cv.nil | exact Cv.refl | exact Cv.left | exact Cv.right | refine Cv.skip ?_)), by dsimp only; omega⟩
      dsimp only
      rw [if_pos (by omega), htk, hx, hI]
      exact List.perm_append_comm (l₁ := [x])
    · have hol : o.length ≤ i := by
        split at hI
        · have := hI.length_eq
          rw [List.length_cons, List.length_take] at this
          omega
        · rw [hI, List.length_take]
          omega
      generalize l[i] = y at *
      (conv => whnf); repeat ((first | refine tk1 ?_ | refine tk2 ?_ | refine tk3 ?_ | refine tk12 (fun _ => ?_) | refine tk4 ?_ | refine tk5 ?_ | refine tk6 ?_ | refine tk7 ?_ | refine tk8 ?_ | refine tk9 ?_ | refine tk10 (fun _ _ => ?_) | refine tk11 (fun _ => ?_) | refine tk13 ?_ | refine tk14 ?_); (conv => whnf))
      refine IdxA.tc (xs := pgCells l) (by rw [pgCells_length]; omega) (by omega) (by omega) ?_
      (conv => whnf); repeat ((first | refine tk1 ?_ | refine tk2 ?_ | refine tk3 ?_ | refine tk12 (fun _ => ?_) | refine tk4 ?_ | refine tk5 ?_ | refine tk6 ?_ | refine tk7 ?_ | refine tk8 ?_ | refine tk9 ?_ | refine tk10 (fun _ _ => ?_) | refine tk11 (fun _ => ?_) | refine tk13 ?_ | refine tk14 ?_); (conv => whnf))
      refine Ld.taN (xs := pgCells l) (vs := pgV y) (by rw [Int.toNat_natCast]; exact d1) rfl ?_
      (conv => whnf); repeat ((first | refine tk1 ?_ | refine tk2 ?_ | refine tk3 ?_ | refine tk12 (fun _ => ?_) | refine tk4 ?_ | refine tk5 ?_ | refine tk6 ?_ | refine tk7 ?_ | refine tk8 ?_ | refine tk9 ?_ | refine tk10 (fun _ _ => ?_) | refine tk11 (fun _ => ?_) | refine tk13 ?_ | refine tk14 ?_); (conv => whnf))
      refine AppS.tc (m := 1) (news := pgV y) SrcK.tc rfl (by simp [Value.oneCell']) (by decide) (by simp only [List.length_cons]; omega) (by simp only [List.length_cons]; omega) (zs := pgCells (x :: (o ++ [y]))) (by rw [← List.cons_append, pgCells_app]; rfl) (fun A' cp' => ?_)
      rw [show (x :: o).length + 1 = (x :: (o ++ [y])).length by simp]
      (conv => whnf); repeat ((first | refine tk1 ?_ | refine tk2 ?_ | refine tk3 ?_ | refine tk12 (fun _ => ?_) | refine tk4 ?_ | refine tk5 ?_ | refine tk6 ?_ | refine tk7 ?_ | refine tk8 ?_ | refine tk9 ?_ | refine tk10 (fun _ _ => ?_) | refine tk11 (fun _ => ?_) | refine tk13 ?_ | refine tk14 ?_); (conv => whnf))
      refine ⟨⟨i + 1, o ++ [y], A', cp'⟩, ⟨by dsimp only; omega, ?_⟩, rfl, Cv.into (by (try dsimp only); repeat' (first | with_reducible exact Cv.refl | with_reducible exact Cv.left | with_reducible exact Cv.right | with_reducible exact Cv.nil | (with_reducible apply Cv.cons; focus ((repeat (first | with_reducible exact Pick.here | with_reducible apply Pick.skip)); done)) | (apply Cv.cons; focus ((repeat (first | exact Pick.here | apply Pick.skip)); done)) | exact Cv.nil | exact Cv.refl | exact Cv.left | exact Cv.right | refine Cv.skip ?_)), by dsimp only; omega⟩
      dsimp only
      rw [htk]
      by_cases hji : j < i
      · rw [if_pos hji] at hI
        rw [if_pos (by omega), ← List.cons_append]
        exact hI.append_right _
      · rw [if_neg hji] at hI
        rw [if_neg (by omega), hI]
  rw [if_pos (by omega), List.take_of_length_le (by omega)] at hI
  obtain ⟨t, ht⟩ : ∃ t, x :: o = t := ⟨_, rfl⟩
  rw [ht] at hI ⊢
  have htl : t.length = l.length := hI.length_eq
  have htp : ∀ y ∈ t, y.p.length ≤ 6000 := fun y hy => hpl y (hI.mem_iff.1 hy)
  have hf1 := Find_f (gI := gI) PA Pc l (by omega) (fun y hy => by have := hpl y hy; omega) m path (by omega)
  have hf2 := Find_f (gI := gI) A cp t (by omega) (fun y hy => by have := htp y hy; omega) m path (by omega)
  obtain ⟨h1, h2, h3⟩ := order_law (rp_perm hI).symm m path
  have hps := find_ps (l := rp l) (N := 6000) (fun g hg => by
    obtain ⟨y, hy, rfl⟩ := List.mem_map.1 hg
    exact hpl y hy) m path
  generalize findO (rp l) m path = o1 at *
  generalize findO (rp t) m path = o2 at *
  obtain ⟨n1, ps1, st1, e1⟩ := o1
  obtain ⟨n2, ps2, st2, e2⟩ := o2
  dsimp only at h1 h2 h3 hps
  subst h1
  clear ht hx hjx c1
  (conv => whnf); repeat ((first | refine tk1 ?_ | refine tk2 ?_ | refine tk3 ?_ | refine tk12 (fun _ => ?_) | refine tk4 ?_ | refine tk5 ?_ | refine tk6 ?_ | refine tk7 ?_ | refine tk8 ?_ | refine tk9 ?_ | refine tk10 (fun _ _ => ?_) | refine tk11 (fun _ => ?_) | refine tk13 ?_ | refine tk14 ?_); (conv => whnf))
  refine CallK.fnT hf1 (fun w1 hw1 => (hR _).ok w1 hw1) ?_
  rintro ⟨fA, fc⟩ _
  dsimp only [FndV, FndH, List.cons_append, List.nil_append, List.append_nil]
  (conv => whnf); repeat ((first | refine tk1 ?_ | refine tk2 ?_ | refine tk3 ?_ | refine tk12 (fun _ => ?_) | refine tk4 ?_ | refine tk5 ?_ | refine tk6 ?_ | refine tk7 ?_ | refine tk8 ?_ | refine tk9 ?_ | refine tk10 (fun _ _ => ?_) | refine tk11 (fun _ => ?_) | refine tk13 ?_ | refine tk14 ?_); (conv => whnf))
  refine CallK.fnT hf2 (fun w1 hw1 => RdA.ok (xs := pgCells t) w1 hw1) ?_
  rintro ⟨gA, gc⟩ _
  dsimp only [FndV, FndH, List.cons_append, List.nil_append, List.append_nil]
  by_cases he : e1 = 0
  rotate_left
  · obtain ⟨rfl, rfl⟩ := h2 he
    dsimp only [List.length_nil]
    (conv => whnf); repeat ((first | refine tk1 ?_ | refine tk2 ?_ | refine tk3 ?_ | refine tk12 (fun _ => ?_) | refine tk4 ?_ | refine tk5 ?_ | refine tk6 ?_ | refine tk7 ?_ | refine tk8 ?_ | refine tk9 ?_ | refine tk10 (fun _ _ => ?_) | refine tk11 (fun _ => ?_) | refine tk13 ?_ | refine tk14 ?_); (conv => whnf))
    exact fun w' _ => rfl
  subst he
  obtain ⟨rfl, rfl, hn⟩ := h3 rfl
  rcases hn with ⟨rfl, rfl⟩ | ⟨a, b, g, rfl, rfl, hg1, hg2⟩
  · (conv => whnf); repeat ((first | refine tk1 ?_ | refine tk2 ?_ | refine tk3 ?_ | refine tk12 (fun _ => ?_) | refine tk4 ?_ | refine tk5 ?_ | refine tk6 ?_ | refine tk7 ?_ | refine tk8 ?_ | refine tk9 ?_ | refine tk10 (fun _ _ => ?_) | refine tk11 (fun _ => ?_) | refine tk13 ?_ | refine tk14 ?_); (conv => whnf))
    refine CallK.fnR (SameFields_r fA gA fc gc ps1 ps1 (by omega) (by omega)) ⟨RdA.ok, RdA.ok, trivial⟩ ?_
    rw [decide_eq_true (rfl : ps1 = ps1)]
    (conv => whnf); repeat ((first | refine tk1 ?_ | refine tk2 ?_ | refine tk3 ?_ | refine tk12 (fun _ => ?_) | refine tk4 ?_ | refine tk5 ?_ | refine tk6 ?_ | refine tk7 ?_ | refine tk8 ?_ | refine tk9 ?_ | refine tk10 (fun _ _ => ?_) | refine tk11 (fun _ => ?_) | refine tk13 ?_ | refine tk14 ?_); (conv => whnf))
    refine DrawS.go (qs 32) tys_ok mixed (by kernel_rfl) ?_
    (conv => whnf); repeat ((first | refine tk1 ?_ | refine tk2 ?_ | refine tk3 ?_ | refine tk12 (fun _ => ?_) | refine tk4 ?_ | refine tk5 ?_ | refine tk6 ?_ | refine tk7 ?_ | refine tk8 ?_ | refine tk9 ?_ | refine tk10 (fun _ _ => ?_) | refine tk11 (fun _ => ?_) | refine tk13 ?_ | refine tk14 ?_); (conv => whnf))
    exact fun w' _ => rfl
  · have hal : a < l.length := by
      have := (List.getElem?_eq_some_iff.1 hg1).1
      rw [rp_length] at this
      exact this
    have hbl : b < t.length := by
      have := (List.getElem?_eq_some_iff.1 hg2).1
      rw [rp_length] at this
      exact this
    obtain ⟨_, a2, a3⟩ := pgCells_at l a hal
    obtain ⟨_, b2, b3⟩ := pgCells_at t b hbl
    rw [rp_at l a hal] at hg1
    rw [rp_at t b hbl] at hg2
    have hm : l[a].m = t[b].m := by rw [← Option.some.inj hg2] at hg1; exact congrArg Rpg.m (Option.some.inj hg1)
    have hpp : l[a].p = t[b].p := by rw [← Option.some.inj hg2] at hg1; exact congrArg Rpg.p (Option.some.inj hg1)
    rw [hm] at a2
    rw [hpp] at a3
    clear hg1 hg2 hm hpp
    generalize t[b].m = gm at *
    generalize t[b].p = gp at *
    (conv => whnf); repeat ((first | refine tk1 ?_ | refine tk2 ?_ | refine tk3 ?_ | refine tk12 (fun _ => ?_) | refine tk4 ?_ | refine tk5 ?_ | refine tk6 ?_ | refine tk7 ?_ | refine tk8 ?_ | refine tk9 ?_ | refine tk10 (fun _ _ => ?_) | refine tk11 (fun _ => ?_) | refine tk13 ?_ | refine tk14 ?_); (conv => whnf))
    refine CallK.fnR (SameFields_r fA gA fc gc ps1 ps1 (by omega) (by omega)) ⟨RdA.ok, RdA.ok, trivial⟩ ?_
    rw [decide_eq_true (rfl : ps1 = ps1)]
    (conv => whnf); repeat ((first | refine tk1 ?_ | refine tk2 ?_ | refine tk3 ?_ | refine tk12 (fun _ => ?_) | refine tk4 ?_ | refine tk5 ?_ | refine tk6 ?_ | refine tk7 ?_ | refine tk8 ?_ | refine tk9 ?_ | refine tk10 (fun _ _ => ?_) | refine tk11 (fun _ => ?_) | refine tk13 ?_ | refine tk14 ?_); (conv => whnf))
    refine DrawS.go (qs 32) tys_ok mixed (by kernel_rfl) ?_
    (conv => whnf); repeat ((first | refine tk1 ?_ | refine tk2 ?_ | refine tk3 ?_ | refine tk12 (fun _ => ?_) | refine tk4 ?_ | refine tk5 ?_ | refine tk6 ?_ | refine tk7 ?_ | refine tk8 ?_ | refine tk9 ?_ | refine tk10 (fun _ _ => ?_) | refine tk11 (fun _ => ?_) | refine tk13 ?_ | refine tk14 ?_); (conv => whnf))
    refine IdxA.tc (xs := pgCells l) (by rw [pgCells_length]; omega) (by omega) (by omega) ?_
    (conv => whnf); repeat ((first | refine tk1 ?_ | refine tk2 ?_ | refine tk3 ?_ | refine tk12 (fun _ => ?_) | refine tk4 ?_ | refine tk5 ?_ | refine tk6 ?_ | refine tk7 ?_ | refine tk8 ?_ | refine tk9 ?_ | refine tk10 (fun _ _ => ?_) | refine tk11 (fun _ => ?_) | refine tk13 ?_ | refine tk14 ?_); (conv => whnf))
    refine Ld.taF (xs := pgCells l) (v := str gm) (by rw [Int.toNat_natCast]; exact a2) ?_
    (conv => whnf); repeat ((first | refine tk1 ?_ | refine tk2 ?_ | refine tk3 ?_ | refine tk12 (fun _ => ?_) | refine tk4 ?_ | refine tk5 ?_ | refine tk6 ?_ | refine tk7 ?_ | refine tk8 ?_ | refine tk9 ?_ | refine tk10 (fun _ _ => ?_) | refine tk11 (fun _ => ?_) | refine tk13 ?_ | refine tk14 ?_); (conv => whnf))
    refine IdxA.tc (xs := pgCells t) (by rw [pgCells_length]; omega) (by omega) (by omega) ?_
    (conv => whnf); repeat ((first | refine tk1 ?_ | refine tk2 ?_ | refine tk3 ?_ | refine tk12 (fun _ => ?_) | refine tk4 ?_ | refine tk5 ?_ | refine tk6 ?_ | refine tk7 ?_ | refine tk8 ?_ | refine tk9 ?_ | refine tk10 (fun _ _ => ?_) | refine tk11 (fun _ => ?_) | refine tk13 ?_ | refine tk14 ?_); (conv => whnf))
    refine Ld.taF (xs := pgCells t) (v := str gm) (by rw [Int.toNat_natCast]; exact b2) ?_
    (conv => whnf); repeat ((first | refine tk1 ?_ | refine tk2 ?_ | refine tk3 ?_ | refine tk12 (fun _ => ?_) | refine tk4 ?_ | refine tk5 ?_ | refine tk6 ?_ | refine tk7 ?_ | refine tk8 ?_ | refine tk9 ?_ | refine tk10 (fun _ _ => ?_) | refine tk11 (fun _ => ?_) | refine tk13 ?_ | refine tk14 ?_); (conv => whnf))
    refine Cmp.t rfl ?_
    (conv => whnf); repeat ((first | refine tk1 ?_ | refine tk2 ?_ | refine tk3 ?_ | refine tk12 (fun _ => ?_) | refine tk4 ?_ | refine tk5 ?_ | refine tk6 ?_ | refine tk7 ?_ | refine tk8 ?_ | refine tk9 ?_ | refine tk10 (fun _ _ => ?_) | refine tk11 (fun _ => ?_) | refine tk13 ?_ | refine tk14 ?_); (conv => whnf))
    refine IdxA.tc (xs := pgCells l) (by rw [pgCells_length]; omega) (by omega) (by omega) ?_
    (conv => whnf); repeat ((first | refine tk1 ?_ | refine tk2 ?_ | refine tk3 ?_ | refine tk12 (fun _ => ?_) | refine tk4 ?_ | refine tk5 ?_ | refine tk6 ?_ | refine tk7 ?_ | refine tk8 ?_ | refine tk9 ?_ | refine tk10 (fun _ _ => ?_) | refine tk11 (fun _ => ?_) | refine tk13 ?_ | refine tk14 ?_); (conv => whnf))
    refine Ld.taF (xs := pgCells l) (v := str gp) (by rw [Int.toNat_natCast]; exact a3) ?_
    (conv => whnf); repeat ((first | refine tk1 ?_ | refine tk2 ?_ | refine tk3 ?_ | refine tk12 (fun _ => ?_) | refine tk4 ?_ | refine tk5 ?_ | refine tk6 ?_ | refine tk7 ?_ | refine tk8 ?_ | refine tk9 ?_ | refine tk10 (fun _ _ => ?_) | refine tk11 (fun _ => ?_) | refine tk13 ?_ | refine tk14 ?_); (conv => whnf))
    refine IdxA.tc (xs := pgCells t) (by rw [pgCells_length]; omega) (by omega) (by omega) ?_
    (conv => whnf); repeat ((first | refine tk1 ?_ | refine tk2 ?_ | refine tk3 ?_ | refine tk12 (fun _ => ?_) | refine tk4 ?_ | refine tk5 ?_ | refine tk6 ?_ | refine tk7 ?_ | refine tk8 ?_ | refine tk9 ?_ | refine tk10 (fun _ _ => ?_) | refine tk11 (fun _ => ?_) | refine tk13 ?_ | refine tk14 ?_); (conv => whnf))
    refine Ld.taF (xs := pgCells t) (v := str gp) (by rw [Int.toNat_natCast]; exact b3) ?_
    (conv => whnf); repeat ((first | refine tk1 ?_ | refine tk2 ?_ | refine tk3 ?_ | refine tk12 (fun _ => ?_) | refine tk4 ?_ | refine tk5 ?_ | refine tk6 ?_ | refine tk7 ?_ | refine tk8 ?_ | refine tk9 ?_ | refine tk10 (fun _ _ => ?_) | refine tk11 (fun _ => ?_) | refine tk13 ?_ | refine tk14 ?_); (conv => whnf))
    refine Cmp.t rfl ?_
    (conv => whnf); repeat ((first | refine tk1 ?_ | refine tk2 ?_ | refine tk3 ?_ | refine tk12 (fun _ => ?_) | refine tk4 ?_ | refine tk5 ?_ | refine tk6 ?_ | refine tk7 ?_ | refine tk8 ?_ | refine tk9 ?_ | refine tk10 (fun _ _ => ?_) | refine tk11 (fun _ => ?_) | refine tk13 ?_ | refine tk14 ?_); (conv => whnf))
    exact fun w' _ => rfl
end Go.Proofs.YtnaeeklnlddcaaaDoor.Vex
/- Arguments that are lists of pages. -/
namespace Go.Proofs.YtnaeeklnlddcaaaDoor.Vex
open Go Go.RowKit Go.ChangeShapes Go.WideShapes Go.Deep
set_option maxRecDepth 100000

abbrev pagesShape : Shape := sliceShape pageShape
theorem opens_pages : Opens Tryd.prog 22 pagesShape := opens_slice Tryd.underlying22 (by kernel_rfl) opens_page
theorem rd_pages {W : World} {x : Sl Pg} (h : pagesShape.ok W x) : Rdw W x.A (pgCells x.l) := h.2.1
end Go.Proofs.YtnaeeklnlddcaaaDoor.Vex
namespace Go.Proofs.YtnaeeklnlddcaaaDoor.routeOrder
open Go.ChangeShapes Go.WideShapes Go.ChangeAt Go.RowKit

set_option maxRecDepth 100000 in
theorem contract (H : Type) (enc : TypeId × Value → H) (W : World) (base : Nat) (args : Array Value) (ds gs : List (DataW H)) (before : List MemPlace)
    (hval : ∀ (j : Nat) t v, Tryd.f3.params[j]? = some t → args[j]? = some v → Value.okWide Tryd.prog W .any base t v)
    (hW : DataW.Whole enc Tryd.prog Tryd.f3.params.toList Rows.routeOrderSpec.vars false W args.toList ds gs before) (hL : laidMetH Tryd.prog Rows.routeOrderRow.laid W) (hS : W.ShapedOpen Tryd.prog) :
    Calls Tryd.prog 3 args W fun e W' => ∃ v, e = .returned v ∧ Rows.routeOrderSpec.post enc Tryd.prog Tryd.f3 false true false false W args v W' := by
  have hW' := hW
  obtain ⟨p, q, hA, hV, rfl, hfz, hnd⟩ := hW
  rw [Tryd.params3] at hA hval
  obtain ⟨v0, vs0, d0, ds0, p0, q0, hargs, rfl, rfl, h0, r0⟩ := trodAll_cons hA
  obtain ⟨v1, vs1, d1, ds1, p1, q1, rfl, rfl, rfl, h1, r1⟩ := trodAll_cons r0
  obtain ⟨v2, vs2, d2, ds2, p2, q2, rfl, rfl, rfl, h2, r2⟩ := trodAll_cons r1
  obtain ⟨v3, vs3, d3, ds3, p3, q3, rfl, rfl, rfl, h3, r3⟩ := trodAll_cons r2
  obtain ⟨rfl, rfl, rfl⟩ := trodAll_nil r3
  obtain rfl : args = #[v0, v1, v2, v3] := by rw [← Array.toList_inj]; exact hargs
  obtain ⟨rfl, rfl⟩ := trodVars_none hV
  obtain ⟨x0, e0, k0, z0⟩ := Vex.open_cell Vex.opens_pages (by rw [Tryd.underlying22]) (hval 0 22 v0 rfl rfl) h0
  obtain rfl := (List.cons.inj e0).1
  obtain ⟨x1, e1, k1, z1⟩ := Vex.open_cell Vex.opens_string (by rw [Tryd.underlying9]) (hval 1 9 v1 rfl rfl) h1
  obtain rfl := (List.cons.inj e1).1
  obtain ⟨x2, e2, k2, z2⟩ := Vex.open_cell Vex.opens_string (by rw [Tryd.underlying9]) (hval 2 9 v2 rfl rfl) h2
  obtain rfl := (List.cons.inj e2).1
  obtain ⟨x3, e3, k3, z3⟩ := Vex.open_cell Vex.opens_i64 (by rw [Tryd.underlying3]) (hval 3 3 v3 rfl rfl) h3
  obtain rfl := (List.cons.inj e3).1
  have hG := Vex.gE_of hL hS (by kernel_rfl) (List.mem_of_getElem? (i := 5) rfl) (List.mem_of_getElem? (i := 4) rfl)
  refine (Vex.done_E (Vex.RouteOrder_v x0.A x0.cp x0.l x1 x2 x3) hG ⟨Vex.rd_pages k0, trivial⟩).mono fun e W' ⟨he, hb⟩ => ?_
  exact ⟨_, he, law_post laidOut rfl hW' (by kernel_rfl) (by kernel_rfl) Tryd.underlying4 (by kernel_rfl) hb⟩

abbrev start : Array Value := #[.slice none 0 0, .string ⟨#[]⟩, .string ⟨#[]⟩, .int .i64 0]
theorem laid_met (os : Os) : laidMet Tryd.prog Rows.routeOrderRow.laid ((laidWorld os start).forCall (fun _ _ => 0) ⟨#[], start, []⟩).memory :=
  laidMet_of_run' 8 (by kernel_rfl) (by kernel_rfl)
theorem reads (os : Os) {H : Type} (enc : TypeId × Value → H) : ∃ places, DataW.whole enc Tryd.prog ((laidWorld os start).forCall (fun _ _ => 0) ⟨#[], start, []⟩).memory Tryd.f3.params.toList Rows.routeOrderSpec.vars false start.toList 8 = some ([.nil, .lit (.string []), .lit (.string []), .lit (.int .i64 0)], [], places) :=
  ⟨[], by kernel_rfl⟩

set_option maxRecDepth 100000 in
theorem lifted (os : Os) (started : os.Started) (H : Type) (enc : TypeId × Value → H) (F : Stop.Interp) :
    ReturnsInHanded {} Tryd.checked os 3 .any ((OpenSpec.ofChange Rows.routeOrderSpec).preRow enc Tryd.prog Tryd.f3 Rows.routeOrderRow.domain false Rows.routeOrderRow.laid) (((OpenSpec.ofChange Rows.routeOrderSpec).at F).post enc Tryd.prog Tryd.f3 false true false false) := by
  obtain ⟨places, hx⟩ := reads os enc
  refine returnsInHanded_of_row (C := Tryd.checked) (s := OpenSpec.ofChange Rows.routeOrderSpec) own started (by kernel_rfl) Tryd.func3
    (witness_row_atRef (enc := enc) (C := Tryd.checked) false (laidWorld os start) start rfl (by kernel_rfl) (by kernel_rfl) (by kernel_rfl)
      (OpenSpec.preRow_of_cond 8 hx (by kernel_rfl) (fun k hk => by cases hk) (by kernel_rfl) (laid_met os))) ?_
  intro W base args ds gs before hval hW _ _ _ hL hS _
  exact contract H enc W base args ds gs before hval hW hL hS

theorem said : Rows.RouteOrderSaid :=
  OpenClaim.holds_of_cond 3 Tryd.f3 rfl rfl rfl rfl rfl rfl rfl ⟨rfl, rfl, rfl, rfl, rfl⟩ rfl rfl rfl rfl rfl (by kernel_rfl) Tryd.func3 (by kernel_rfl)
    (of_decide_eq_true (by kernel_rfl)) (by unfold Func.isWrapper; first | (rw [if_pos (by decide +kernel)]; kernel_rfl) | (rw [if_neg (by decide +kernel)]; exact ⟨rfl, rfl⟩))
    (fun os started H enc _ F => by rw [OpenClaim.pre_eq_preRow]; exact lifted os started H enc F)

/-- No parameter wants a stand-in; the program's own looks. -/
theorem plain (f : FuncId) (fn : Func) (hf : Tryd.pinned.checked.prog.funcNamed "bellows/bellowslaw26.RouteOrder" = some f) (hfn : Tryd.pinned.checked.prog.funcs[f]? = some fn) :
    true = Tryd.pinned.checked.prog.looks [] ∧ ∀ (j : Nat) t, fn.params[j]? = some t → Tryd.pinned.checked.prog.wantsStandIn t = false := by
  obtain rfl : f = 3 := Option.some.inj ((show Tryd.prog.funcNamed "bellows/bellowslaw26.RouteOrder" = some 3 by kernel_rfl).symm.trans hf) |>.symm
  obtain rfl : fn = Tryd.f3 := (Option.some.inj (Tryd.func3.symm.trans hfn)).symm
  refine ⟨by kernel_rfl, fun j t ht => ?_⟩
  have hall : (Tryd.f3.params.toList.all fun t => !Tryd.prog.wantsStandIn t) = true := by kernel_rfl
  have := List.all_eq_true.1 hall t (Array.mem_toList_iff.2 (Array.mem_of_getElem? ht))
  exact (show Tryd.prog.wantsStandIn t = false by simpa using this)

theorem proved : Rows.RouteOrderCardSaid :=
  Claim7.holds_tied_plain_at .later [] _ _ _ _ said (fun _ h => by cases h) (by kernel_rfl) (fun _ h => by cases h) routeOrder_row_tie rfl ⟨rfl, rfl⟩ (by kernel_rfl) rfl plain (by kernel_rfl)
end Go.Proofs.YtnaeeklnlddcaaaDoor.routeOrder
