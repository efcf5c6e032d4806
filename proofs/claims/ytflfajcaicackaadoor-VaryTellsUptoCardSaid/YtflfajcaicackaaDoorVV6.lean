/- vary.Fields and the reference's, and the laws VaryNames, VaryFields, VaryTells, reckoned. -/
import Derived.Test.YtflfajcaicackaaDoorVV5
import Derived.Test.YtflfajcaicackaaDoorVV3
namespace Go.Proofs.YtflfajcaicackaaDoor.Vex
open Go Go.RowKit
set_option maxRecDepth 100000
set_option linter.unusedSectionVars false
variable {gI : GI} [HasMax gI]

def fsum (l : List Fld) : Nat := (l.map fun p => p.1.length + p.2.length + 3).sum
theorem fsum_cons (p : Fld) (l : List Fld) : fsum (p :: l) = p.1.length + p.2.length + 3 + fsum l := rfl
theorem fsum_append : ∀ a b : List Fld, fsum (a ++ b) = fsum a + fsum b
  | [], b => by simp [fsum]
  | x :: a, b => by rw [List.cons_append, fsum_cons, fsum_cons, fsum_append a b]; omega
theorem fsum_mem {l : List Fld} {p : Fld} (h : p ∈ l) : p.1.length + p.2.length + 3 ≤ fsum l := by
  induction l with
  | nil => cases h
  | cons y r ih =>
    rw [fsum_cons]
    rcases List.mem_cons.1 h with rfl | h
    · omega
    · have := ih h; omega
theorem fsum_length : ∀ l : List Fld, 3 * l.length ≤ fsum l
  | [] => Nat.le_refl _
  | x :: r => by have := fsum_length r; rw [fsum_cons, List.length_cons]; omega
theorem fsum_kept : ∀ l : List Fld, fsum (kept l) ≤ fsum l
  | [] => Nat.le_refl _
  | x :: r => by
    have := fsum_kept r
    unfold kept at this ⊢
    rw [List.filter_cons, fsum_cons]
    split
    · rw [fsum_cons]; omega
    · omega
theorem allOf_sum (s : List UInt8) : ∀ l : List Fld, lsum (allOf l s) ≤ fsum l
  | [] => Nat.le_refl _
  | x :: r => by
    have := allOf_sum s r
    unfold allOf at this ⊢
    rw [List.filter_cons, fsum_cons]
    split
    · rw [List.map_cons, lsum_cons]; omega
    · omega
theorem lsum_length (l : List (List UInt8)) : l.length ≤ lsum l := by
  induction l with
  | nil => exact Nat.le_refl _
  | cons x r ih => rw [lsum_cons, List.length_cons]; omega
theorem join1_length (l : List (List UInt8)) : (Lib.join l [44]).length ≤ lsum l := join_length l [44]
theorem vF_sum (l : List Fld) (name : List UInt8) : fsum (vF l name) ≤ fsum l + 2 * (fsum l + name.length + 2) + 7 := by
  unfold vF
  split
  · rw [fsum_append]
    have h1 := fsum_kept l
    have h2 := mergeS_length (allOf l varyN) name
    have h3 := join1_length (allOf l varyN)
    have h4 := allOf_sum varyN l
    have h5 : ∀ s, fsum [(varyN, s)] = 4 + s.length + 3 := fun s => by simp [fsum, varyN]
    rw [h5]
    omega
  · simp [fsum]
theorem Fields_f (A : Option Addr) (cp : Nat) (l : List Fld) (name : List UInt8) (hl : fsum l ≤ 4000000) (hn : name.length ≤ 4000000) :
    FnE Tryd.prog gI 23 [.slice A l.length cp, str name] (fun w => RdL w [(A, fcells l)]) fun w v w' => ∃ u, v = .tuple #[u, .int .i64 (vE l name)] ∧ rowPost 43 2 (vF l name).length (fcells (vF l name)) w u w' := by
  have hlz := fsum_length l
  have hlm : ∀ p ∈ l, p.1.length ≤ 4000000 := fun p hp => by have := fsum_mem hp; omega
  have ha1 := allOf_sum varyN l
  have ha2 := lsum_length (allOf l varyN)
  have ha3 := join1_length (allOf l varyN)
  have hkl := kept_le l
  refine FnE.of tys_ok Tryd.func23 rfl (by kernel_rfl) rfl rfl ?_; intro w hG hP
  have hR : ∀ H, RdA (mkC Tryd.prog gI w hG) H A (fcells l) := fun H => ⟨hP.1.now⟩
  (conv => whnf); repeat ((first | refine Ld.tc (by exact rfl) ?_ | refine Ld.tv (by exact rfl) ?_ | refine Ld.tw (by exact rfl) (by exact rfl) ?_ | refine Alc.mk (fun _ => ?_) | refine Ar.in64 (by first | omega | decide | (simp only [List.length_cons, List.length_nil, List.length_append]; omega)) (by first | omega | decide | (simp only [List.length_cons, List.length_nil, List.length_append]; omega)) ?_ | refine Cmp.t (by first | omega | decide | (simp only [List.length_cons, List.length_nil, List.length_append]; omega)) ?_ | refine Cmp.f (by first | omega | decide | (simp only [List.length_cons, List.length_nil, List.length_append]; omega)) ?_ | refine Sto.tv (by exact rfl) (by exact rfl) (by simp [Value.oneCell']) ?_ | refine Sto.tc (by exact rfl) (Nat.le_of_ble_eq_true (by exact rfl)) (by exact rfl) ?_ | refine Sto.tw (by exact rfl) (by exact rfl) (Nat.le_of_ble_eq_true (by exact rfl)) (by simp [Value.oneCell']) ?_ | refine S2B.go (by omega) (fun _ _ => ?_) | refine BSl.go rfl (by decide) (by decide) (fun _ => ?_)); (conv => whnf))
  refine CallK.fnSc (All_f A cp l varyN (by omega) (by decide) (fun p hp => by have := hlm p hp; omega)) ⟨(hR _).ok, trivial⟩ (fun B cq hcq => ?_)
  (conv => whnf); repeat ((first | refine Ld.tc (by exact rfl) ?_ | refine Ld.tv (by exact rfl) ?_ | refine Ld.tw (by exact rfl) (by exact rfl) ?_ | refine Alc.mk (fun _ => ?_) | refine Ar.in64 (by first | omega | decide | (simp only [List.length_cons, List.length_nil, List.length_append]; omega)) (by first | omega | decide | (simp only [List.length_cons, List.length_nil, List.length_append]; omega)) ?_ | refine Cmp.t (by first | omega | decide | (simp only [List.length_cons, List.length_nil, List.length_append]; omega)) ?_ | refine Cmp.f (by first | omega | decide | (simp only [List.length_cons, List.length_nil, List.length_append]; omega)) ?_ | refine Sto.tv (by exact rfl) (by exact rfl) (by simp [Value.oneCell']) ?_ | refine Sto.tc (by exact rfl) (Nat.le_of_ble_eq_true (by exact rfl)) (by exact rfl) ?_ | refine Sto.tw (by exact rfl) (by exact rfl) (Nat.le_of_ble_eq_true (by exact rfl)) (by simp [Value.oneCell']) ?_ | refine S2B.go (by omega) (fun _ _ => ?_) | refine BSl.go rfl (by decide) (by decide) (fun _ => ?_)); (conv => whnf))
  refine CallK.fnR (Merge_f B cq (allOf l varyN) name hcq (by omega) (by omega) hn) ⟨RdA.ok, trivial⟩ ?_
  cases hok : mergeOK (allOf l varyN) name
  · have e1 : mergeE (allOf l varyN) name = 3 := by unfold mergeE; rw [hok]; rfl
    have e2 : vE l name = 3 := e1
    have e3 : vF l name = [] := by unfold vF; rw [hok]; rfl
    rw [e1]
    (conv => whnf); repeat ((first | refine Ld.tc (by exact rfl) ?_ | refine Ld.tv (by exact rfl) ?_ | refine Ld.tw (by exact rfl) (by exact rfl) ?_ | refine Alc.mk (fun _ => ?_) | refine Ar.in64 (by first | omega | decide | (simp only [List.length_cons, List.length_nil, List.length_append]; omega)) (by first | omega | decide | (simp only [List.length_cons, List.length_nil, List.length_append]; omega)) ?_ | refine Cmp.t (by first | omega | decide | (simp only [List.length_cons, List.length_nil, List.length_append]; omega)) ?_ | refine Cmp.f (by first | omega | decide | (simp only [List.length_cons, List.length_nil, List.length_append]; omega)) ?_ | refine Sto.tv (by exact rfl) (by exact rfl) (by simp [Value.oneCell']) ?_ | refine Sto.tc (by exact rfl) (Nat.le_of_ble_eq_true (by exact rfl)) (by exact rfl) ?_ | refine Sto.tw (by exact rfl) (by exact rfl) (Nat.le_of_ble_eq_true (by exact rfl)) (by simp [Value.oneCell']) ?_ | refine S2B.go (by omega) (fun _ _ => ?_) | refine BSl.go rfl (by decide) (by decide) (fun _ => ?_)); (conv => whnf))
    intro w' hw'
    rw [e2, e3]
    exact ⟨_, rfl, rowPost.nil (hG := hG) _ _ w' hw'⟩
  · have e1 : mergeE (allOf l varyN) name = 0 := by unfold mergeE; rw [hok]; rfl
    have e2 : vE l name = 0 := e1
    have e3 : vF l name = kept l ++ [(varyN, mergeS (allOf l varyN) name)] := by unfold vF; rw [hok]; rfl
    rw [e1]
    (conv => whnf); repeat ((first | refine Ld.tc (by exact rfl) ?_ | refine Ld.tv (by exact rfl) ?_ | refine Ld.tw (by exact rfl) (by exact rfl) ?_ | refine Alc.mk (fun _ => ?_) | refine Ar.in64 (by first | omega | decide | (simp only [List.length_cons, List.length_nil, List.length_append]; omega)) (by first | omega | decide | (simp only [List.length_cons, List.length_nil, List.length_append]; omega)) ?_ | refine Cmp.t (by first | omega | decide | (simp only [List.length_cons, List.length_nil, List.length_append]; omega)) ?_ | refine Cmp.f (by first | omega | decide | (simp only [List.length_cons, List.length_nil, List.length_append]; omega)) ?_ | refine Sto.tv (by exact rfl) (by exact rfl) (by simp [Value.oneCell']) ?_ | refine Sto.tc (by exact rfl) (Nat.le_of_ble_eq_true (by exact rfl)) (by exact rfl) ?_ | refine Sto.tw (by exact rfl) (by exact rfl) (Nat.le_of_ble_eq_true (by exact rfl)) (by simp [Value.oneCell']) ?_ | refine S2B.go (by omega) (fun _ _ => ?_) | refine BSl.go rfl (by decide) (by decide) (fun _ => ?_)); (conv => whnf))
    refine CallK.fnS (Clone_f A cp l (by omega)) ⟨(hR _).ok, trivial⟩ (fun C cr => ?_)
    (conv => whnf); repeat ((first | refine Ld.tc (by exact rfl) ?_ | refine Ld.tv (by exact rfl) ?_ | refine Ld.tw (by exact rfl) (by exact rfl) ?_ | refine Alc.mk (fun _ => ?_) | refine Ar.in64 (by first | omega | decide | (simp only [List.length_cons, List.length_nil, List.length_append]; omega)) (by first | omega | decide | (simp only [List.length_cons, List.length_nil, List.length_append]; omega)) ?_ | refine Cmp.t (by first | omega | decide | (simp only [List.length_cons, List.length_nil, List.length_append]; omega)) ?_ | refine Cmp.f (by first | omega | decide | (simp only [List.length_cons, List.length_nil, List.length_append]; omega)) ?_ | refine Sto.tv (by exact rfl) (by exact rfl) (by simp [Value.oneCell']) ?_ | refine Sto.tc (by exact rfl) (Nat.le_of_ble_eq_true (by exact rfl)) (by exact rfl) ?_ | refine Sto.tw (by exact rfl) (by exact rfl) (Nat.le_of_ble_eq_true (by exact rfl)) (by simp [Value.oneCell']) ?_ | refine S2B.go (by omega) (fun _ _ => ?_) | refine BSl.go rfl (by decide) (by decide) (fun _ => ?_)); (conv => whnf))
    refine Delete_k ⟨rfl, rfl⟩ C cr l (by omega) (fun p hp => by have := hlm p hp; omega) ?_
    (conv => whnf); repeat ((first | refine Ld.tc (by exact rfl) ?_ | refine Ld.tv (by exact rfl) ?_ | refine Ld.tw (by exact rfl) (by exact rfl) ?_ | refine Alc.mk (fun _ => ?_) | refine Ar.in64 (by first | omega | decide | (simp only [List.length_cons, List.length_nil, List.length_append]; omega)) (by first | omega | decide | (simp only [List.length_cons, List.length_nil, List.length_append]; omega)) ?_ | refine Cmp.t (by first | omega | decide | (simp only [List.length_cons, List.length_nil, List.length_append]; omega)) ?_ | refine Cmp.f (by first | omega | decide | (simp only [List.length_cons, List.length_nil, List.length_append]; omega)) ?_ | refine Sto.tv (by exact rfl) (by exact rfl) (by simp [Value.oneCell']) ?_ | refine Sto.tc (by exact rfl) (Nat.le_of_ble_eq_true (by exact rfl)) (by exact rfl) ?_ | refine Sto.tw (by exact rfl) (by exact rfl) (Nat.le_of_ble_eq_true (by exact rfl)) (by simp [Value.oneCell']) ?_ | refine S2B.go (by omega) (fun _ _ => ?_) | refine BSl.go rfl (by decide) (by decide) (fun _ => ?_)); (conv => whnf))
    refine AppS.tc SrcK.tc rfl (by simp [Value.oneCell']) (by decide) (by omega) (by omega) (zs := fcells (vF l name)) (by rw [e3, fcells_app]; rfl) (fun D cs => ?_)
    rw [show (kept l).length + 1 = (vF l name).length by rw [e3, List.length_append]; rfl]
    (conv => whnf); repeat ((first | refine Ld.tc (by exact rfl) ?_ | refine Ld.tv (by exact rfl) ?_ | refine Ld.tw (by exact rfl) (by exact rfl) ?_ | refine Alc.mk (fun _ => ?_) | refine Ar.in64 (by first | omega | decide | (simp only [List.length_cons, List.length_nil, List.length_append]; omega)) (by first | omega | decide | (simp only [List.length_cons, List.length_nil, List.length_append]; omega)) ?_ | refine Cmp.t (by first | omega | decide | (simp only [List.length_cons, List.length_nil, List.length_append]; omega)) ?_ | refine Cmp.f (by first | omega | decide | (simp only [List.length_cons, List.length_nil, List.length_append]; omega)) ?_ | refine Sto.tv (by exact rfl) (by exact rfl) (by simp [Value.oneCell']) ?_ | refine Sto.tc (by exact rfl) (Nat.le_of_ble_eq_true (by exact rfl)) (by exact rfl) ?_ | refine Sto.tw (by exact rfl) (by exact rfl) (Nat.le_of_ble_eq_true (by exact rfl)) (by simp [Value.oneCell']) ?_ | refine S2B.go (by omega) (fun _ _ => ?_) | refine BSl.go rfl (by decide) (by decide) (fun _ => ?_)); (conv => whnf))
    intro w' hw'
    rw [e2]
    exact ⟨_, rfl, rowPost.of (hG := hG) (List.mem_cons_self ..) w' hw'⟩
theorem Fields25_r (A : Option Addr) (cp : Nat) (l : List Fld) (name : List UInt8) (hl : fsum l ≤ 4000000) (hn : name.length ≤ 4000000) :
    FnE Tryd.prog gI 27 [.slice A l.length cp, str name] (fun w => RdL w [(A, fcells l)]) fun w v w' => ∃ u, v = .tuple #[u, .int .i64 (vE l name)] ∧ rowPost 43 2 (vF l name).length (fcells (vF l name)) w u w' := by
  have hlz := fsum_length l
  have hlm : ∀ p ∈ l, p.1.length ≤ 4000000 := fun p hp => by have := fsum_mem hp; omega
  have ha1 := allOf_sum varyN l
  have ha2 := lsum_length (allOf l varyN)
  refine FnE.of tys_ok Tryd.func27 rfl (by kernel_rfl) rfl rfl ?_; intro w hG hP
  have hR : ∀ H, RdA (mkC Tryd.prog gI w hG) H A (fcells l) := fun H => ⟨hP.1.now⟩
  (conv => whnf); repeat ((first | refine Ld.tc (by exact rfl) ?_ | refine Ld.tv (by exact rfl) ?_ | refine Ld.tw (by exact rfl) (by exact rfl) ?_ | refine Alc.mk (fun _ => ?_) | refine Ar.in64 (by first | omega | decide | (simp only [List.length_cons, List.length_nil, List.length_append]; omega)) (by first | omega | decide | (simp only [List.length_cons, List.length_nil, List.length_append]; omega)) ?_ | refine Cmp.t (by first | omega | decide | (simp only [List.length_cons, List.length_nil, List.length_append]; omega)) ?_ | refine Cmp.f (by first | omega | decide | (simp only [List.length_cons, List.length_nil, List.length_append]; omega)) ?_ | refine Sto.tv (by exact rfl) (by exact rfl) (by simp [Value.oneCell']) ?_ | refine Sto.tc (by exact rfl) (Nat.le_of_ble_eq_true (by exact rfl)) (by exact rfl) ?_ | refine Sto.tw (by exact rfl) (by exact rfl) (Nat.le_of_ble_eq_true (by exact rfl)) (by simp [Value.oneCell']) ?_ | refine S2B.go (by omega) (fun _ _ => ?_) | refine BSl.go rfl (by decide) (by decide) (fun _ => ?_)); (conv => whnf))
  refine CallK.fnS (All_r A cp l varyN (by omega) (by decide) (fun p hp => by have := hlm p hp; omega)) ⟨(hR _).ok, trivial⟩ (fun B cq => ?_)
  (conv => whnf); repeat ((first | refine Ld.tc (by exact rfl) ?_ | refine Ld.tv (by exact rfl) ?_ | refine Ld.tw (by exact rfl) (by exact rfl) ?_ | refine Alc.mk (fun _ => ?_) | refine Ar.in64 (by first | omega | decide | (simp only [List.length_cons, List.length_nil, List.length_append]; omega)) (by first | omega | decide | (simp only [List.length_cons, List.length_nil, List.length_append]; omega)) ?_ | refine Cmp.t (by first | omega | decide | (simp only [List.length_cons, List.length_nil, List.length_append]; omega)) ?_ | refine Cmp.f (by first | omega | decide | (simp only [List.length_cons, List.length_nil, List.length_append]; omega)) ?_ | refine Sto.tv (by exact rfl) (by exact rfl) (by simp [Value.oneCell']) ?_ | refine Sto.tc (by exact rfl) (Nat.le_of_ble_eq_true (by exact rfl)) (by exact rfl) ?_ | refine Sto.tw (by exact rfl) (by exact rfl) (Nat.le_of_ble_eq_true (by exact rfl)) (by simp [Value.oneCell']) ?_ | refine S2B.go (by omega) (fun _ _ => ?_) | refine BSl.go rfl (by decide) (by decide) (fun _ => ?_)); (conv => whnf))
  refine CallK.fnR (Merge25_r B cq (allOf l varyN) name (by omega) (by omega) hn) ⟨RdA.ok, trivial⟩ ?_
  cases hok : mergeOK (allOf l varyN) name
  · have e1 : mergeE (allOf l varyN) name = 3 := by unfold mergeE; rw [hok]; rfl
    have e2 : vE l name = 3 := e1
    have e3 : vF l name = [] := by unfold vF; rw [hok]; rfl
    rw [e1]
    (conv => whnf); repeat ((first | refine Ld.tc (by exact rfl) ?_ | refine Ld.tv (by exact rfl) ?_ | refine Ld.tw (by exact rfl) (by exact rfl) ?_ | refine Alc.mk (fun _ => ?_) | refine Ar.in64 (by first | omega | decide | (simp only [List.length_cons, List.length_nil, List.length_append]; omega)) (by first | omega | decide | (simp only [List.length_cons, List.length_nil, List.length_append]; omega)) ?_ | refine Cmp.t (by first | omega | decide | (simp only [List.length_cons, List.length_nil, List.length_append]; omega)) ?_ | refine Cmp.f (by first | omega | decide | (simp only [List.length_cons, List.length_nil, List.length_append]; omega)) ?_ | refine Sto.tv (by exact rfl) (by exact rfl) (by simp [Value.oneCell']) ?_ | refine Sto.tc (by exact rfl) (Nat.le_of_ble_eq_true (by exact rfl)) (by exact rfl) ?_ | refine Sto.tw (by exact rfl) (by exact rfl) (Nat.le_of_ble_eq_true (by exact rfl)) (by simp [Value.oneCell']) ?_ | refine S2B.go (by omega) (fun _ _ => ?_) | refine BSl.go rfl (by decide) (by decide) (fun _ => ?_)); (conv => whnf))
    intro w' hw'
    rw [e2, e3]
    exact ⟨_, rfl, rowPost.nil (hG := hG) _ _ w' hw'⟩
  · have e1 : mergeE (allOf l varyN) name = 0 := by unfold mergeE; rw [hok]; rfl
    have e2 : vE l name = 0 := e1
    have e3 : vF l name = kept l ++ [(varyN, mergeS (allOf l varyN) name)] := by unfold vF; rw [hok]; rfl
    rw [e1]
    (conv => whnf); repeat ((first | refine Ld.tc (by exact rfl) ?_ | refine Ld.tv (by exact rfl) ?_ | refine Ld.tw (by exact rfl) (by exact rfl) ?_ | refine Alc.mk (fun _ => ?_) | refine Ar.in64 (by first | omega | decide | (simp only [List.length_cons, List.length_nil, List.length_append]; omega)) (by first | omega | decide | (simp only [List.length_cons, List.length_nil, List.length_append]; omega)) ?_ | refine Cmp.t (by first | omega | decide | (simp only [List.length_cons, List.length_nil, List.length_append]; omega)) ?_ | refine Cmp.f (by first | omega | decide | (simp only [List.length_cons, List.length_nil, List.length_append]; omega)) ?_ | refine Sto.tv (by exact rfl) (by exact rfl) (by simp [Value.oneCell']) ?_ | refine Sto.tc (by exact rfl) (Nat.le_of_ble_eq_true (by exact rfl)) (by exact rfl) ?_ | refine Sto.tw (by exact rfl) (by exact rfl) (Nat.le_of_ble_eq_true (by exact rfl)) (by simp [Value.oneCell']) ?_ | refine S2B.go (by omega) (fun _ _ => ?_) | refine BSl.go rfl (by decide) (by decide) (fun _ => ?_)); (conv => whnf))
    refine LoopS.nilRow 43 2 ?_
    refine LoopS.lp tys_ok (fun (x : Nat × Option Addr × Nat) u => [.slice A l.length cp, u 1, u 2, u 3, u 4, u 5, str (mergeS (allOf l varyN) name), u 7, .slice x.2.1 (kept (l.take x.1)).length x.2.2, .int .i64 (x.1 : Nat), u 10, u 11, u 12, u 13, u 14, u 15, u 16, u 17, u 18, u 19, u 20, u 21, u 22, u 23, u 24, u 25, u 26, u 27, u 28, u 29, u 30, u 31, u 32, u 33, u 34, u 35, u 36, u 37, u 38, u 39, u 40, u 41, u 42, u 43, u 44])
      (fun x => [.row (.slice x.2.1 (kept (l.take x.1)).length x.2.2) 43 2 (kept (l.take x.1)).length (fcells (kept (l.take x.1)))])
      (fun x => x.1 ≤ l.length) (fun x => l.length - x.1) (0, none, 0) (Nat.zero_le _) rfl (by repeat' (first | exact List.Sublist.refl _ | exact List.nil_sublist _ | apply List.Sublist.cons_cons | apply List.Sublist.cons)) ?_
    rintro ⟨k, C, cr⟩ u hk
    dsimp only at hk ⊢
    (conv => whnf); repeat ((first | refine Ld.tc (by exact rfl) ?_ | refine Ld.tv (by exact rfl) ?_ | refine Ld.tw (by exact rfl) (by exact rfl) ?_ | refine Alc.mk (fun _ => ?_) | refine Ar.in64 (by first | omega | decide | (simp only [List.length_cons, List.length_nil, List.length_append]; omega)) (by first | omega | decide | (simp only [List.length_cons, List.length_nil, List.length_append]; omega)) ?_ | refine Cmp.t (by first | omega | decide | (simp only [List.length_cons, List.length_nil, List.length_append]; omega)) ?_ | refine Cmp.f (by first | omega | decide | (simp only [List.length_cons, List.length_nil, List.length_append]; omega)) ?_ | refine Sto.tv (by exact rfl) (by exact rfl) (by simp [Value.oneCell']) ?_ | refine Sto.tc (by exact rfl) (Nat.le_of_ble_eq_true (by exact rfl)) (by exact rfl) ?_ | refine Sto.tw (by exact rfl) (by exact rfl) (Nat.le_of_ble_eq_true (by exact rfl)) (by simp [Value.oneCell']) ?_ | refine S2B.go (by omega) (fun _ _ => ?_) | refine BSl.go rfl (by decide) (by decide) (fun _ => ?_)); (conv => whnf))
    refine Cmp.cases (fun hlt => ?_) (fun hlt => ?_)
    · have hlt' : k < l.length := by omega
      have ht := kept_take l k hlt'
      have hle := kept_le (l.take k)
      rw [List.length_take] at hle
      (conv => whnf); repeat ((first | refine Ld.tc (by exact rfl) ?_ | refine Ld.tv (by exact rfl) ?_ | refine Ld.tw (by exact rfl) (by exact rfl) ?_ | refine Alc.mk (fun _ => ?_) | refine Ar.in64 (by first | omega | decide | (simp only [List.length_cons, List.length_nil, List.length_append]; omega)) (by first | omega | decide | (simp only [List.length_cons, List.length_nil, List.length_append]; omega)) ?_ | refine Cmp.t (by first | omega | decide | (simp only [List.length_cons, List.length_nil, List.length_append]; omega)) ?_ | refine Cmp.f (by first | omega | decide | (simp only [List.length_cons, List.length_nil, List.length_append]; omega)) ?_ | refine Sto.tv (by exact rfl) (by exact rfl) (by simp [Value.oneCell']) ?_ | refine Sto.tc (by exact rfl) (Nat.le_of_ble_eq_true (by exact rfl)) (by exact rfl) ?_ | refine Sto.tw (by exact rfl) (by exact rfl) (Nat.le_of_ble_eq_true (by exact rfl)) (by simp [Value.oneCell']) ?_ | refine S2B.go (by omega) (fun _ _ => ?_) | refine BSl.go rfl (by decide) (by decide) (fun _ => ?_)); (conv => whnf))
      refine IdxA.tc (by rw [fcells_length]; omega) (by omega) (by omega) ?_
      (conv => whnf); repeat ((first | refine Ld.tc (by exact rfl) ?_ | refine Ld.tv (by exact rfl) ?_ | refine Ld.tw (by exact rfl) (by exact rfl) ?_ | refine Alc.mk (fun _ => ?_) | refine Ar.in64 (by first | omega | decide | (simp only [List.length_cons, List.length_nil, List.length_append]; omega)) (by first | omega | decide | (simp only [List.length_cons, List.length_nil, List.length_append]; omega)) ?_ | refine Cmp.t (by first | omega | decide | (simp only [List.length_cons, List.length_nil, List.length_append]; omega)) ?_ | refine Cmp.f (by first | omega | decide | (simp only [List.length_cons, List.length_nil, List.length_append]; omega)) ?_ | refine Sto.tv (by exact rfl) (by exact rfl) (by simp [Value.oneCell']) ?_ | refine Sto.tc (by exact rfl) (Nat.le_of_ble_eq_true (by exact rfl)) (by exact rfl) ?_ | refine Sto.tw (by exact rfl) (by exact rfl) (Nat.le_of_ble_eq_true (by exact rfl)) (by simp [Value.oneCell']) ?_ | refine S2B.go (by omega) (fun _ _ => ?_) | refine BSl.go rfl (by decide) (by decide) (fun _ => ?_)); (conv => whnf))
      refine Ld.taF (fcells_0 l k hlt') ?_
      (conv => whnf); repeat ((first | refine Ld.tc (by exact rfl) ?_ | refine Ld.tv (by exact rfl) ?_ | refine Ld.tw (by exact rfl) (by exact rfl) ?_ | refine Alc.mk (fun _ => ?_) | refine Ar.in64 (by first | omega | decide | (simp only [List.length_cons, List.length_nil, List.length_append]; omega)) (by first | omega | decide | (simp only [List.length_cons, List.length_nil, List.length_append]; omega)) ?_ | refine Cmp.t (by first | omega | decide | (simp only [List.length_cons, List.length_nil, List.length_append]; omega)) ?_ | refine Cmp.f (by first | omega | decide | (simp only [List.length_cons, List.length_nil, List.length_append]; omega)) ?_ | refine Sto.tv (by exact rfl) (by exact rfl) (by simp [Value.oneCell']) ?_ | refine Sto.tc (by exact rfl) (Nat.le_of_ble_eq_true (by exact rfl)) (by exact rfl) ?_ | refine Sto.tw (by exact rfl) (by exact rfl) (Nat.le_of_ble_eq_true (by exact rfl)) (by simp [Value.oneCell']) ?_ | refine S2B.go (by omega) (fun _ _ => ?_) | refine BSl.go rfl (by decide) (by decide) (fun _ => ?_)); (conv => whnf))
      refine CallK.fn (Small_r l[k].1 (by have := hlm _ (List.getElem_mem hlt'); omega)) ?_
      (conv => whnf); repeat ((first | refine Ld.tc (by exact rfl) ?_ | refine Ld.tv (by exact rfl) ?_ | refine Ld.tw (by exact rfl) (by exact rfl) ?_ | refine Alc.mk (fun _ => ?_) | refine Ar.in64 (by first | omega | decide | (simp only [List.length_cons, List.length_nil, List.length_append]; omega)) (by first | omega | decide | (simp only [List.length_cons, List.length_nil, List.length_append]; omega)) ?_ | refine Cmp.t (by first | omega | decide | (simp only [List.length_cons, List.length_nil, List.length_append]; omega)) ?_ | refine Cmp.f (by first | omega | decide | (simp only [List.length_cons, List.length_nil, List.length_append]; omega)) ?_ | refine Sto.tv (by exact rfl) (by exact rfl) (by simp [Value.oneCell']) ?_ | refine Sto.tc (by exact rfl) (Nat.le_of_ble_eq_true (by exact rfl)) (by exact rfl) ?_ | refine Sto.tw (by exact rfl) (by exact rfl) (Nat.le_of_ble_eq_true (by exact rfl)) (by simp [Value.oneCell']) ?_ | refine S2B.go (by omega) (fun _ _ => ?_) | refine BSl.go rfl (by decide) (by decide) (fun _ => ?_)); (conv => whnf))
      refine Cmp.cases (fun hq => ?_) (fun hq => ?_)
      · have hp : pv l[k] = false := beq_false_of_ne hq
        rw [hp] at ht
        simp only [Bool.false_eq_true, if_false] at ht
        (conv => whnf); repeat ((first | refine Ld.tc (by exact rfl) ?_ | refine Ld.tv (by exact rfl) ?_ | refine Ld.tw (by exact rfl) (by exact rfl) ?_ | refine Alc.mk (fun _ => ?_) | refine Ar.in64 (by first | omega | decide | (simp only [List.length_cons, List.length_nil, List.length_append]; omega)) (by first | omega | decide | (simp only [List.length_cons, List.length_nil, List.length_append]; omega)) ?_ | refine Cmp.t (by first | omega | decide | (simp only [List.length_cons, List.length_nil, List.length_append]; omega)) ?_ | refine Cmp.f (by first | omega | decide | (simp only [List.length_cons, List.length_nil, List.length_append]; omega)) ?_ | refine Sto.tv (by exact rfl) (by exact rfl) (by simp [Value.oneCell']) ?_ | refine Sto.tc (by exact rfl) (Nat.le_of_ble_eq_true (by exact rfl)) (by exact rfl) ?_ | refine Sto.tw (by exact rfl) (by exact rfl) (Nat.le_of_ble_eq_true (by exact rfl)) (by simp [Value.oneCell']) ?_ | refine S2B.go (by omega) (fun _ _ => ?_) | refine BSl.go rfl (by decide) (by decide) (fun _ => ?_)); (conv => whnf))
        refine IdxA.tc (by rw [fcells_length]; omega) (by omega) (by omega) ?_
        (conv => whnf); repeat ((first | refine Ld.tc (by exact rfl) ?_ | refine Ld.tv (by exact rfl) ?_ | refine Ld.tw (by exact rfl) (by exact rfl) ?_ | refine Alc.mk (fun _ => ?_) | refine Ar.in64 (by first | omega | decide | (simp only [List.length_cons, List.length_nil, List.length_append]; omega)) (by first | omega | decide | (simp only [List.length_cons, List.length_nil, List.length_append]; omega)) ?_ | refine Cmp.t (by first | omega | decide | (simp only [List.length_cons, List.length_nil, List.length_append]; omega)) ?_ | refine Cmp.f (by first | omega | decide | (simp only [List.length_cons, List.length_nil, List.length_append]; omega)) ?_ | refine Sto.tv (by exact rfl) (by exact rfl) (by simp [Value.oneCell']) ?_ | refine Sto.tc (by exact rfl) (Nat.le_of_ble_eq_true (by exact rfl)) (by exact rfl) ?_ | refine Sto.tw (by exact rfl) (by exact rfl) (Nat.le_of_ble_eq_true (by exact rfl)) (by simp [Value.oneCell']) ?_ | refine S2B.go (by omega) (fun _ _ => ?_) | refine BSl.go rfl (by decide) (by decide) (fun _ => ?_)); (conv => whnf))
        refine Ld.taN (fcells_two l k hlt') rfl ?_
        (conv => whnf); repeat ((first | refine Ld.tc (by exact rfl) ?_ | refine Ld.tv (by exact rfl) ?_ | refine Ld.tw (by exact rfl) (by exact rfl) ?_ | refine Alc.mk (fun _ => ?_) | refine Ar.in64 (by first | omega | decide | (simp only [List.length_cons, List.length_nil, List.length_append]; omega)) (by first | omega | decide | (simp only [List.length_cons, List.length_nil, List.length_append]; omega)) ?_ | refine Cmp.t (by first | omega | decide | (simp only [List.length_cons, List.length_nil, List.length_append]; omega)) ?_ | refine Cmp.f (by first | omega | decide | (simp only [List.length_cons, List.length_nil, List.length_append]; omega)) ?_ | refine Sto.tv (by exact rfl) (by exact rfl) (by simp [Value.oneCell']) ?_ | refine Sto.tc (by exact rfl) (Nat.le_of_ble_eq_true (by exact rfl)) (by exact rfl) ?_ | refine Sto.tw (by exact rfl) (by exact rfl) (Nat.le_of_ble_eq_true (by exact rfl)) (by simp [Value.oneCell']) ?_ | refine S2B.go (by omega) (fun _ _ => ?_) | refine BSl.go rfl (by decide) (by decide) (fun _ => ?_)); (conv => whnf))
        refine AppS.tc SrcK.tc rfl (by simp [Value.oneCell']) (by decide) (by omega) (by omega) (zs := fcells (kept (l.take (k + 1)))) (by rw [ht, fcells_app]; rfl) (fun D cs => ?_)
        rw [show (kept (l.take k)).length + 1 = (kept (l.take (k + 1))).length by rw [ht, List.length_append]; rfl]
        (conv => whnf); repeat ((first | refine Ld.tc (by exact rfl) ?_ | refine Ld.tv (by exact rfl) ?_ | refine Ld.tw (by exact rfl) (by exact rfl) ?_ | refine Alc.mk (fun _ => ?_) | refine Ar.in64 (by first | omega | decide | (simp only [List.length_cons, List.length_nil, List.length_append]; omega)) (by first | omega | decide | (simp only [List.length_cons, List.length_nil, List.length_append]; omega)) ?_ | refine Cmp.t (by first | omega | decide | (simp only [List.length_cons, List.length_nil, List.length_append]; omega)) ?_ | refine Cmp.f (by first | omega | decide | (simp only [List.length_cons, List.length_nil, List.length_append]; omega)) ?_ | refine Sto.tv (by exact rfl) (by exact rfl) (by simp [Value.oneCell']) ?_ | refine Sto.tc (by exact rfl) (Nat.le_of_ble_eq_true (by exact rfl)) (by exact rfl) ?_ | refine Sto.tw (by exact rfl) (by exact rfl) (Nat.le_of_ble_eq_true (by exact rfl)) (by simp [Value.oneCell']) ?_ | refine S2B.go (by omega) (fun _ _ => ?_) | refine BSl.go rfl (by decide) (by decide) (fun _ => ?_)); (conv => whnf))
        exact ⟨(k + 1, D, cs), by dsimp only; omega, rfl, (by repeat' (first | exact List.Sublist.refl _ | exact List.nil_sublist _ | apply List.Sublist.cons_cons | apply List.Sublist.cons)), by dsimp only; omega⟩
      · have hp : pv l[k] = true := by unfold pv; rw [beq_iff_eq]; exact Classical.not_not.1 hq
        rw [hp] at ht
        simp only [if_true, List.append_nil] at ht
        (conv => whnf); repeat ((first | refine Ld.tc (by exact rfl) ?_ | refine Ld.tv (by exact rfl) ?_ | refine Ld.tw (by exact rfl) (by exact rfl) ?_ | refine Alc.mk (fun _ => ?_) | refine Ar.in64 (by first | omega | decide | (simp only [List.length_cons, List.length_nil, List.length_append]; omega)) (by first | omega | decide | (simp only [List.length_cons, List.length_nil, List.length_append]; omega)) ?_ | refine Cmp.t (by first | omega | decide | (simp only [List.length_cons, List.length_nil, List.length_append]; omega)) ?_ | refine Cmp.f (by first | omega | decide | (simp only [List.length_cons, List.length_nil, List.length_append]; omega)) ?_ | refine Sto.tv (by exact rfl) (by exact rfl) (by simp [Value.oneCell']) ?_ | refine Sto.tc (by exact rfl) (Nat.le_of_ble_eq_true (by exact rfl)) (by exact rfl) ?_ | refine Sto.tw (by exact rfl) (by exact rfl) (Nat.le_of_ble_eq_true (by exact rfl)) (by simp [Value.oneCell']) ?_ | refine S2B.go (by omega) (fun _ _ => ?_) | refine BSl.go rfl (by decide) (by decide) (fun _ => ?_)); (conv => whnf))
        exact ⟨(k + 1, C, cr), by dsimp only; omega, by dsimp only; rw [ht]; rfl, by dsimp only; rw [ht]; exact (by repeat' (first | exact List.Sublist.refl _ | exact List.nil_sublist _ | apply List.Sublist.cons_cons | apply List.Sublist.cons)), by dsimp only; omega⟩
    · rw [List.take_of_length_le (show l.length ≤ k by omega)]
      have hle := kept_le l
      (conv => whnf); repeat ((first | refine Ld.tc (by exact rfl) ?_ | refine Ld.tv (by exact rfl) ?_ | refine Ld.tw (by exact rfl) (by exact rfl) ?_ | refine Alc.mk (fun _ => ?_) | refine Ar.in64 (by first | omega | decide | (simp only [List.length_cons, List.length_nil, List.length_append]; omega)) (by first | omega | decide | (simp only [List.length_cons, List.length_nil, List.length_append]; omega)) ?_ | refine Cmp.t (by first | omega | decide | (simp only [List.length_cons, List.length_nil, List.length_append]; omega)) ?_ | refine Cmp.f (by first | omega | decide | (simp only [List.length_cons, List.length_nil, List.length_append]; omega)) ?_ | refine Sto.tv (by exact rfl) (by exact rfl) (by simp [Value.oneCell']) ?_ | refine Sto.tc (by exact rfl) (Nat.le_of_ble_eq_true (by exact rfl)) (by exact rfl) ?_ | refine Sto.tw (by exact rfl) (by exact rfl) (Nat.le_of_ble_eq_true (by exact rfl)) (by simp [Value.oneCell']) ?_ | refine S2B.go (by omega) (fun _ _ => ?_) | refine BSl.go rfl (by decide) (by decide) (fun _ => ?_)); (conv => whnf))
      refine AppS.tc SrcK.tc rfl (by simp [Value.oneCell']) (by decide) (by omega) (by omega) (zs := fcells (vF l name)) (by rw [e3, fcells_app]; rfl) (fun D cs => ?_)
      rw [show (kept l).length + 1 = (vF l name).length by rw [e3, List.length_append]; rfl]
      (conv => whnf); repeat ((first | refine Ld.tc (by exact rfl) ?_ | refine Ld.tv (by exact rfl) ?_ | refine Ld.tw (by exact rfl) (by exact rfl) ?_ | refine Alc.mk (fun _ => ?_) | refine Ar.in64 (by first | omega | decide | (simp only [List.length_cons, List.length_nil, List.length_append]; omega)) (by first | omega | decide | (simp only [List.length_cons, List.length_nil, List.length_append]; omega)) ?_ | refine Cmp.t (by first | omega | decide | (simp only [List.length_cons, List.length_nil, List.length_append]; omega)) ?_ | refine Cmp.f (by first | omega | decide | (simp only [List.length_cons, List.length_nil, List.length_append]; omega)) ?_ | refine Sto.tv (by exact rfl) (by exact rfl) (by simp [Value.oneCell']) ?_ | refine Sto.tc (by exact rfl) (Nat.le_of_ble_eq_true (by exact rfl)) (by exact rfl) ?_ | refine Sto.tw (by exact rfl) (by exact rfl) (Nat.le_of_ble_eq_true (by exact rfl)) (by simp [Value.oneCell']) ?_ | refine S2B.go (by omega) (fun _ _ => ?_) | refine BSl.go rfl (by decide) (by decide) (fun _ => ?_)); (conv => whnf))
      intro w' hw'
      rw [e2]
      exact ⟨_, rfl, rowPost.of (hG := hG) (List.mem_cons_self ..) w' hw'⟩
end Go.Proofs.YtflfajcaicackaaDoor.Vex
