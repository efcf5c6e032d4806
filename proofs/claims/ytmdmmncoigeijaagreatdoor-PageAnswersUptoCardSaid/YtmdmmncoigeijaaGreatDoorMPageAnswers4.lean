/- For every page, request, parameters and status, together of bulk at most uptoSmall, PageAnswers returns true; the arguments read behind the call as they read before. -/
import Derived.Test.YtmdmmncoigeijaaGreatDoorMPageAnswers3
import Derived.RangeFuncRecord
import Derived.Lib.ItoaLen
/- Body, SameParts and Great of layer 27, reckoned. -/
namespace Go.Proofs.YtmdmmncoigeijaaGreatDoor.Vex
open Go Go.RowKit
set_option maxRecDepth 100000
set_option linter.unusedSectionVars false
variable {gI : GI} [HasMax gI]

/-- Parts that can be read. -/
def PrtsOk (w : World) (A : Option Addr) (ps : List Prt) : Prop := Rdw w A (pcells ps) ∧ ∀ q ∈ ps, Rdw w q.A (q.l.map byteV)
theorem Body_f (A : Option Addr) (cp : Nat) (ps : List Prt) (hn : ps.length ≤ 4000000) (ht : total (ps.map pure1) ≤ 4000000) :
    FnE Tryz.prog gI 16 [.slice A ps.length cp] (fun w => PrtsOk w A ps) fun w v w' => ∃ u, v = u ∧ rowPost 5 1 (bodyOf (ps.map pure1)).length ((bodyOf (ps.map pure1)).map byteV) w u w' := by
  refine FnE.of tys_ok Tryz.func16 rfl (by kernel_rfl) rfl rfl ?_; intro w hG hP
  have hR : ∀ H, RdA (mkC Tryz.prog gI w hG) H A (pcells ps) := fun H => ⟨hP.1.now⟩
  (conv => whnf); repeat ((first | refine tk1 ?_ | refine tk2 ?_ | refine tk3 ?_ | refine tk12 (fun _ => ?_) | refine tk4 ?_ | refine tk5 ?_ | refine tk6 ?_ | refine tk7 ?_ | refine tk8 ?_ | refine tk9 ?_ | refine tk10 (fun _ _ => ?_) | refine tk11 (fun _ => ?_) | refine tk13 ?_ | refine tk14 ?_); (conv => whnf))
  refine LoopS.nilRow 5 1 ?_
  refine LoopS.lp tys_ok (fun (x : Nat × Option Addr × Nat) u => [u 0, u 1, .slice x.2.1 (bodyOf ((ps.map pure1).take x.1)).length x.2.2, u 3, u 4, .slice A ps.length cp, .int .i64 ps.length, .int .i64 (x.1 : Nat), u 8, u 9, u 10, u 11, u 12, u 13, u 14, u 15, u 16])
    (fun x => [.row (.slice x.2.1 (bodyOf ((ps.map pure1).take x.1)).length x.2.2) 5 1 (bodyOf ((ps.map pure1).take x.1)).length ((bodyOf ((ps.map pure1).take x.1)).map byteV)])
    (fun x => x.1 ≤ ps.length) (fun x => ps.length - x.1) (0, none, 0) (Nat.zero_le _) rfl (by repeat' (first | exact List.Sublist.refl _ | exact List.nil_sublist _ | apply List.Sublist.cons_cons | apply List.Sublist.cons)) ?_
  rintro ⟨k, B, cq⟩ u hk
  dsimp only at hk ⊢
  (conv => whnf); repeat ((first | refine tk1 ?_ | refine tk2 ?_ | refine tk3 ?_ | refine tk12 (fun _ => ?_) | refine tk4 ?_ | refine tk5 ?_ | refine tk6 ?_ | refine tk7 ?_ | refine tk8 ?_ | refine tk9 ?_ | refine tk10 (fun _ _ => ?_) | refine tk11 (fun _ => ?_) | refine tk13 ?_ | refine tk14 ?_); (conv => whnf))
  refine Cmp.cases (fun hlt => ?_) (fun hlt => ?_)
  · have hlt' : k < ps.length := by omega
    have hkp : k < (ps.map pure1).length := by rw [List.length_map]; exact hlt'
    obtain ⟨q, hq⟩ : ∃ q, ps[k] = q := ⟨_, rfl⟩
    have hqm : q ∈ ps := hq ▸ List.getElem_mem hlt'
    have hRq : ∀ H, RdA (mkC Tryz.prog gI w hG) H q.A (q.l.map byteV) := fun H => ⟨(hP.2 q hqm).now⟩
    have h2 := (pcells_at ps k hlt').2.2
    have e1 : bodyOf ((ps.map pure1).take (k + 1)) = bodyOf ((ps.map pure1).take k) ++ q.l := by
      rw [List.take_succ_eq_append_getElem hkp, bodyOf_snoc, List.getElem_map, hq]; rfl
    have e2 := total_take (ps.map pure1) (k + 1)
    rw [← total_bodyOf, e1, List.length_append] at e2
    rw [hq] at h2
    (conv => whnf); repeat ((first | refine tk1 ?_ | refine tk2 ?_ | refine tk3 ?_ | refine tk12 (fun _ => ?_) | refine tk4 ?_ | refine tk5 ?_ | refine tk6 ?_ | refine tk7 ?_ | refine tk8 ?_ | refine tk9 ?_ | refine tk10 (fun _ _ => ?_) | refine tk11 (fun _ => ?_) | refine tk13 ?_ | refine tk14 ?_); (conv => whnf))
    refine IdxA.tc (by rw [pcells_length]; omega) (by omega) (by omega) ?_
    (conv => whnf); repeat ((first | refine tk1 ?_ | refine tk2 ?_ | refine tk3 ?_ | refine tk12 (fun _ => ?_) | refine tk4 ?_ | refine tk5 ?_ | refine tk6 ?_ | refine tk7 ?_ | refine tk8 ?_ | refine tk9 ?_ | refine tk10 (fun _ _ => ?_) | refine tk11 (fun _ => ?_) | refine tk13 ?_ | refine tk14 ?_); (conv => whnf))
    refine Ld.taN h2 rfl ?_
    (conv => whnf); repeat ((first | refine tk1 ?_ | refine tk2 ?_ | refine tk3 ?_ | refine tk12 (fun _ => ?_) | refine tk4 ?_ | refine tk5 ?_ | refine tk6 ?_ | refine tk7 ?_ | refine tk8 ?_ | refine tk9 ?_ | refine tk10 (fun _ _ => ?_) | refine tk11 (fun _ => ?_) | refine tk13 ?_ | refine tk14 ?_); (conv => whnf))
    refine AppS.tc (m := q.l.length) (news := q.l.map byteV) SrcK.tc (by simp) (by intro u hu; obtain ⟨y, _, rfl⟩ := List.mem_map.1 hu; rfl) (by decide) (by omega) (by omega) (zs := (bodyOf ((ps.map pure1).take (k + 1))).map byteV) (by rw [e1, List.map_append]) (fun B' cq' => ?_)
    rw [show (bodyOf ((ps.map pure1).take k)).length + q.l.length = (bodyOf ((ps.map pure1).take (k + 1))).length by rw [e1, List.length_append]]
    (conv => whnf); repeat ((first | refine tk1 ?_ | refine tk2 ?_ | refine tk3 ?_ | refine tk12 (fun _ => ?_) | refine tk4 ?_ | refine tk5 ?_ | refine tk6 ?_ | refine tk7 ?_ | refine tk8 ?_ | refine tk9 ?_ | refine tk10 (fun _ _ => ?_) | refine tk11 (fun _ => ?_) | refine tk13 ?_ | refine tk14 ?_); (conv => whnf))
    exact ⟨(k + 1, B', cq'), by dsimp only; omega, rfl, (by repeat' (first | exact List.Sublist.refl _ | exact List.nil_sublist _ | apply List.Sublist.cons_cons | apply List.Sublist.cons)), by dsimp only; omega⟩
  · rw [List.take_of_length_le (show (ps.map pure1).length ≤ k by rw [List.length_map]; omega)]
    (conv => whnf); repeat ((first | refine tk1 ?_ | refine tk2 ?_ | refine tk3 ?_ | refine tk12 (fun _ => ?_) | refine tk4 ?_ | refine tk5 ?_ | refine tk6 ?_ | refine tk7 ?_ | refine tk8 ?_ | refine tk9 ?_ | refine tk10 (fun _ _ => ?_) | refine tk11 (fun _ => ?_) | refine tk13 ?_ | refine tk14 ?_); (conv => whnf))
    exact fun w' hw' => ⟨_, rfl, rowPost.of (List.mem_cons_self ..) w' hw'⟩
theorem SameParts_r (A B : Option Addr) (cp cq : Nat) (a b : List Prt) (ha : a.length ≤ 4000000) (hb : b.length ≤ 4000000) :
    FnE Tryz.prog gI 43 [.slice A a.length cp, .slice B b.length cq] (fun w => PrtsOk w A a ∧ PrtsOk w B b) fun _ v _ => v = .bool (decide (a.map pure1 = b.map pure1)) := by
  refine FnE.of tys_ok Tryz.func43 rfl (by kernel_rfl) rfl rfl ?_; intro w hG hP
  have hA : ∀ H, RdA (mkC Tryz.prog gI w hG) H A (pcells a) := fun H => ⟨hP.1.1.now⟩
  have hB : ∀ H, RdA (mkC Tryz.prog gI w hG) H B (pcells b) := fun H => ⟨hP.2.1.now⟩
  (conv => whnf); repeat ((first | refine tk1 ?_ | refine tk2 ?_ | refine tk3 ?_ | refine tk12 (fun _ => ?_) | refine tk4 ?_ | refine tk5 ?_ | refine tk6 ?_ | refine tk7 ?_ | refine tk8 ?_ | refine tk9 ?_ | refine tk10 (fun _ _ => ?_) | refine tk11 (fun _ => ?_) | refine tk13 ?_ | refine tk14 ?_); (conv => whnf))
  refine Cmp.cases (fun hz => ?_) (fun hz => ?_)
  · (conv => whnf); repeat ((first | refine tk1 ?_ | refine tk2 ?_ | refine tk3 ?_ | refine tk12 (fun _ => ?_) | refine tk4 ?_ | refine tk5 ?_ | refine tk6 ?_ | refine tk7 ?_ | refine tk8 ?_ | refine tk9 ?_ | refine tk10 (fun _ _ => ?_) | refine tk11 (fun _ => ?_) | refine tk13 ?_ | refine tk14 ?_); (conv => whnf))
    intro w' _
    rw [decide_eq_false (fun h => hz (by have := congrArg List.length h; rw [List.length_map, List.length_map] at this; rw [this]))]
  have hz' : a.length = b.length := by omega
  (conv => whnf); repeat ((first | refine tk1 ?_ | refine tk2 ?_ | refine tk3 ?_ | refine tk12 (fun _ => ?_) | refine tk4 ?_ | refine tk5 ?_ | refine tk6 ?_ | refine tk7 ?_ | refine tk8 ?_ | refine tk9 ?_ | refine tk10 (fun _ _ => ?_) | refine tk11 (fun _ => ?_) | refine tk13 ?_ | refine tk14 ?_); (conv => whnf))
  refine LoopS.lp tys_ok (fun (k : Nat) u => [.slice A a.length cp, .slice B b.length cq, u 2, u 3, u 4, .int .i64 (k : Nat), u 6, u 7, u 8, u 9, u 10, u 11, u 12, u 13, u 14, u 15, u 16, u 17, u 18, u 19, u 20, u 21, u 22, u 23, u 24, u 25, u 26, u 27, u 28, u 29, u 30, u 31, u 32, u 33, u 34, u 35, u 36, u 37, u 38, u 39, u 40, u 41, u 42]) (fun _ => [])
    (fun k => k ≤ a.length ∧ (a.map pure1).take k = (b.map pure1).take k) (fun k => a.length - k) 0 ⟨Nat.zero_le _, rfl⟩ rfl (by repeat' (first | exact List.Sublist.refl _ | exact List.nil_sublist _ | apply List.Sublist.cons_cons | apply List.Sublist.cons)) ?_
  intro k u ⟨hk, hI⟩
  (conv => whnf); repeat ((first | refine tk1 ?_ | refine tk2 ?_ | refine tk3 ?_ | refine tk12 (fun _ => ?_) | refine tk4 ?_ | refine tk5 ?_ | refine tk6 ?_ | refine tk7 ?_ | refine tk8 ?_ | refine tk9 ?_ | refine tk10 (fun _ _ => ?_) | refine tk11 (fun _ => ?_) | refine tk13 ?_ | refine tk14 ?_); (conv => whnf))
  refine Cmp.cases (fun hlt => ?_) (fun hlt => ?_)
  · have hka : k < a.length := by omega
    have hkb : k < b.length := by omega
    have hka' : k < (a.map pure1).length := by rw [List.length_map]; exact hka
    have hkb' : k < (b.map pure1).length := by rw [List.length_map]; exact hkb
    have ga := pcells_at a k hka
    have gb := pcells_at b k hkb
    have ea : (a.map pure1)[k] = pure1 a[k] := List.getElem_map ..
    have eb : (b.map pure1)[k] = pure1 b[k] := List.getElem_map ..
    obtain ⟨p, hp⟩ : ∃ p, a[k] = p := ⟨_, rfl⟩
    obtain ⟨q, hq⟩ : ∃ q, b[k] = q := ⟨_, rfl⟩
    have hpm : p ∈ a := hp ▸ List.getElem_mem hka
    have hqm : q ∈ b := hq ▸ List.getElem_mem hkb
    have hRp : ∀ H, RdA (mkC Tryz.prog gI w hG) H p.A (p.l.map byteV) := fun H => ⟨(hP.1.2 p hpm).now⟩
    have hRq : ∀ H, RdA (mkC Tryz.prog gI w hG) H q.A (q.l.map byteV) := fun H => ⟨(hP.2.2 q hqm).now⟩
    rw [hp] at ga ea
    rw [hq] at gb eb
    have hbad : pure1 p ≠ pure1 q → a.map pure1 ≠ b.map pure1 := fun hne h => hne (by rw [← ea, ← eb]; simp only [h])
    have hok : pure1 p = pure1 q → (a.map pure1).take (k + 1) = (b.map pure1).take (k + 1) := fun h => by rw [List.take_succ_eq_append_getElem hka', List.take_succ_eq_append_getElem hkb', hI, ea, eb, h]
    (conv => whnf); repeat ((first | refine tk1 ?_ | refine tk2 ?_ | refine tk3 ?_ | refine tk12 (fun _ => ?_) | refine tk4 ?_ | refine tk5 ?_ | refine tk6 ?_ | refine tk7 ?_ | refine tk8 ?_ | refine tk9 ?_ | refine tk10 (fun _ _ => ?_) | refine tk11 (fun _ => ?_) | refine tk13 ?_ | refine tk14 ?_); (conv => whnf))
    refine DrawS.go (qs 26) tys_ok mixed (by kernel_rfl) ?_
    (conv => whnf); repeat ((first | refine tk1 ?_ | refine tk2 ?_ | refine tk3 ?_ | refine tk12 (fun _ => ?_) | refine tk4 ?_ | refine tk5 ?_ | refine tk6 ?_ | refine tk7 ?_ | refine tk8 ?_ | refine tk9 ?_ | refine tk10 (fun _ _ => ?_) | refine tk11 (fun _ => ?_) | refine tk13 ?_ | refine tk14 ?_); (conv => whnf))
    refine IdxA.tc (by rw [pcells_length]; omega) (by omega) (by omega) ?_
    (conv => whnf); repeat ((first | refine tk1 ?_ | refine tk2 ?_ | refine tk3 ?_ | refine tk12 (fun _ => ?_) | refine tk4 ?_ | refine tk5 ?_ | refine tk6 ?_ | refine tk7 ?_ | refine tk8 ?_ | refine tk9 ?_ | refine tk10 (fun _ _ => ?_) | refine tk11 (fun _ => ?_) | refine tk13 ?_ | refine tk14 ?_); (conv => whnf))
    refine Ld.taF (v := .bool p.f) ga.2.1 ?_
    (conv => whnf); repeat ((first | refine tk1 ?_ | refine tk2 ?_ | refine tk3 ?_ | refine tk12 (fun _ => ?_) | refine tk4 ?_ | refine tk5 ?_ | refine tk6 ?_ | refine tk7 ?_ | refine tk8 ?_ | refine tk9 ?_ | refine tk10 (fun _ _ => ?_) | refine tk11 (fun _ => ?_) | refine tk13 ?_ | refine tk14 ?_); (conv => whnf))
    refine IdxA.tc (by rw [pcells_length]; omega) (by omega) (by omega) ?_
    (conv => whnf); repeat ((first | refine tk1 ?_ | refine tk2 ?_ | refine tk3 ?_ | refine tk12 (fun _ => ?_) | refine tk4 ?_ | refine tk5 ?_ | refine tk6 ?_ | refine tk7 ?_ | refine tk8 ?_ | refine tk9 ?_ | refine tk10 (fun _ _ => ?_) | refine tk11 (fun _ => ?_) | refine tk13 ?_ | refine tk14 ?_); (conv => whnf))
    refine Ld.taF (v := .bool q.f) gb.2.1 ?_
    (conv => whnf); repeat ((first | refine tk1 ?_ | refine tk2 ?_ | refine tk3 ?_ | refine tk12 (fun _ => ?_) | refine tk4 ?_ | refine tk5 ?_ | refine tk6 ?_ | refine tk7 ?_ | refine tk8 ?_ | refine tk9 ?_ | refine tk10 (fun _ _ => ?_) | refine tk11 (fun _ => ?_) | refine tk13 ?_ | refine tk14 ?_); (conv => whnf))
    refine Cmp.cases (fun hff => ?_) (fun hff => ?_)
    · rw [decide_eq_false (hbad fun h => hff (congrArg Prod.snd h))]
      (conv => whnf); repeat ((first | refine tk1 ?_ | refine tk2 ?_ | refine tk3 ?_ | refine tk12 (fun _ => ?_) | refine tk4 ?_ | refine tk5 ?_ | refine tk6 ?_ | refine tk7 ?_ | refine tk8 ?_ | refine tk9 ?_ | refine tk10 (fun _ _ => ?_) | refine tk11 (fun _ => ?_) | refine tk13 ?_ | refine tk14 ?_); (conv => whnf))
      exact fun w' _ => rfl
    (conv => whnf); repeat ((first | refine tk1 ?_ | refine tk2 ?_ | refine tk3 ?_ | refine tk12 (fun _ => ?_) | refine tk4 ?_ | refine tk5 ?_ | refine tk6 ?_ | refine tk7 ?_ | refine tk8 ?_ | refine tk9 ?_ | refine tk10 (fun _ _ => ?_) | refine tk11 (fun _ => ?_) | refine tk13 ?_ | refine tk14 ?_); (conv => whnf))
    refine IdxA.tc (by rw [pcells_length]; omega) (by omega) (by omega) ?_
    (conv => whnf); repeat ((first | refine tk1 ?_ | refine tk2 ?_ | refine tk3 ?_ | refine tk12 (fun _ => ?_) | refine tk4 ?_ | refine tk5 ?_ | refine tk6 ?_ | refine tk7 ?_ | refine tk8 ?_ | refine tk9 ?_ | refine tk10 (fun _ _ => ?_) | refine tk11 (fun _ => ?_) | refine tk13 ?_ | refine tk14 ?_); (conv => whnf))
    refine Ld.taF (v := .slice p.A p.l.length p.cp) ga.1 ?_
    (conv => whnf); repeat ((first | refine tk1 ?_ | refine tk2 ?_ | refine tk3 ?_ | refine tk12 (fun _ => ?_) | refine tk4 ?_ | refine tk5 ?_ | refine tk6 ?_ | refine tk7 ?_ | refine tk8 ?_ | refine tk9 ?_ | refine tk10 (fun _ _ => ?_) | refine tk11 (fun _ => ?_) | refine tk13 ?_ | refine tk14 ?_); (conv => whnf))
    refine B2S.tc (xs := p.l.map byteV) (l := p.l) rfl rfl ?_
    (conv => whnf); repeat ((first | refine tk1 ?_ | refine tk2 ?_ | refine tk3 ?_ | refine tk12 (fun _ => ?_) | refine tk4 ?_ | refine tk5 ?_ | refine tk6 ?_ | refine tk7 ?_ | refine tk8 ?_ | refine tk9 ?_ | refine tk10 (fun _ _ => ?_) | refine tk11 (fun _ => ?_) | refine tk13 ?_ | refine tk14 ?_); (conv => whnf))
    refine IdxA.tc (by rw [pcells_length]; omega) (by omega) (by omega) ?_
    (conv => whnf); repeat ((first | refine tk1 ?_ | refine tk2 ?_ | refine tk3 ?_ | refine tk12 (fun _ => ?_) | refine tk4 ?_ | refine tk5 ?_ | refine tk6 ?_ | refine tk7 ?_ | refine tk8 ?_ | refine tk9 ?_ | refine tk10 (fun _ _ => ?_) | refine tk11 (fun _ => ?_) | refine tk13 ?_ | refine tk14 ?_); (conv => whnf))
    refine Ld.taF (v := .slice q.A q.l.length q.cp) gb.1 ?_
    (conv => whnf); repeat ((first | refine tk1 ?_ | refine tk2 ?_ | refine tk3 ?_ | refine tk12 (fun _ => ?_) | refine tk4 ?_ | refine tk5 ?_ | refine tk6 ?_ | refine tk7 ?_ | refine tk8 ?_ | refine tk9 ?_ | refine tk10 (fun _ _ => ?_) | refine tk11 (fun _ => ?_) | refine tk13 ?_ | refine tk14 ?_); (conv => whnf))
    refine B2S.tc (xs := q.l.map byteV) (l := q.l) rfl rfl ?_
    (conv => whnf); repeat ((first | refine tk1 ?_ | refine tk2 ?_ | refine tk3 ?_ | refine tk12 (fun _ => ?_) | refine tk4 ?_ | refine tk5 ?_ | refine tk6 ?_ | refine tk7 ?_ | refine tk8 ?_ | refine tk9 ?_ | refine tk10 (fun _ _ => ?_) | refine tk11 (fun _ => ?_) | refine tk13 ?_ | refine tk14 ?_); (conv => whnf))
    refine Cmp.cases (fun hll => ?_) (fun hll => ?_)
    · rw [decide_eq_false (hbad fun h => hll (congrArg Prod.fst h))]
      (conv => whnf); repeat ((first | refine tk1 ?_ | refine tk2 ?_ | refine tk3 ?_ | refine tk12 (fun _ => ?_) | refine tk4 ?_ | refine tk5 ?_ | refine tk6 ?_ | refine tk7 ?_ | refine tk8 ?_ | refine tk9 ?_ | refine tk10 (fun _ _ => ?_) | refine tk11 (fun _ => ?_) | refine tk13 ?_ | refine tk14 ?_); (conv => whnf))
      exact fun w' _ => rfl
    have hn := hok (by unfold pure1; rw [Classical.not_not.1 hff, Classical.not_not.1 hll])
    (conv => whnf); repeat ((first | refine tk1 ?_ | refine tk2 ?_ | refine tk3 ?_ | refine tk12 (fun _ => ?_) | refine tk4 ?_ | refine tk5 ?_ | refine tk6 ?_ | refine tk7 ?_ | refine tk8 ?_ | refine tk9 ?_ | refine tk10 (fun _ _ => ?_) | refine tk11 (fun _ => ?_) | refine tk13 ?_ | refine tk14 ?_); (conv => whnf))
    exact ⟨k + 1, ⟨by omega, hn⟩, rfl, (by repeat' (first | exact List.Sublist.refl _ | exact List.nil_sublist _ | apply List.Sublist.cons_cons | apply List.Sublist.cons)), by dsimp only; omega⟩
  · (conv => whnf); repeat ((first | refine tk1 ?_ | refine tk2 ?_ | refine tk3 ?_ | refine tk12 (fun _ => ?_) | refine tk4 ?_ | refine tk5 ?_ | refine tk6 ?_ | refine tk7 ?_ | refine tk8 ?_ | refine tk9 ?_ | refine tk10 (fun _ _ => ?_) | refine tk11 (fun _ => ?_) | refine tk13 ?_ | refine tk14 ?_); (conv => whnf))
    intro w' _
    rw [List.take_of_length_le (by rw [List.length_map]; omega), List.take_of_length_le (by rw [List.length_map]; omega)] at hI
    rw [decide_eq_true hI]
end Go.Proofs.YtmdmmncoigeijaaGreatDoor.Vex
/- What is great in layer 27, reckoned: it tells something of any argument. -/
namespace Go.Proofs.YtmdmmncoigeijaaGreatDoor.Vex
open Go Go.RowKit
set_option maxRecDepth 100000
set_option linter.unusedSectionVars false
variable {gI : GI} [HasMax gI]

theorem mul_bound {a b : Int} (h1 : 0 ≤ a) (h2 : a ≤ 2000) (h3 : 0 ≤ b) (h4 : b ≤ 200) : 0 ≤ a * b ∧ a * b ≤ 400000 :=
  ⟨Int.mul_nonneg h1 h3, Int.le_trans (Int.mul_le_mul h2 h4 h3 (by decide)) (by decide)⟩
theorem Great27_b (m p : List UInt8) (st : Int) (FA : Option Addr) (Fc : Nat) (F : List Fld) (tag : List UInt8) (press : Bool) (QA : Option Addr) (Qc : Nat) (Q : List Pce)
    (rm rp rq : List UInt8) (rv : Int) (rf : Value) (BA : Option Addr) (Bn Bc : Nat) (PA : Option Addr) (pm : List Fld) (Pc : Nat)
    (hQ : Q.length ≤ 1048576) (hB : Bn ≤ 1048576) (hq : rq.length ≤ 1048576) (ht : tag.length ≤ 1048576) :
    FnE Tryz.prog gI 8 [.agg ⟨[str m, str p, .int .i64 st, .slice FA F.length Fc, str tag, .bool press, .slice QA Q.length Qc]⟩, .agg ⟨[str rm, str rp, str rq, .int .i64 rv, rf, .slice BA Bn Bc]⟩, .slice PA pm.length Pc]
      (fun w => RdL w [(FA, fcells F), (QA, pccells Q), (PA, fcells pm)]) fun _ v _ => ∃ b, v = .bool b := by
  refine FnE.of tys_ok Tryz.func8 rfl (by kernel_rfl) rfl rfl ?_; intro w hG hP
  have hRF : ∀ H, RdA (mkC Tryz.prog gI w hG) H FA (fcells F) := fun H => ⟨hP.1.now⟩
  have hRQ : ∀ H, RdA (mkC Tryz.prog gI w hG) H QA (pccells Q) := fun H => ⟨hP.2.1.now⟩
  have hRP : ∀ H, RdA (mkC Tryz.prog gI w hG) H PA (fcells pm) := fun H => ⟨hP.2.2.1.now⟩
  (conv => whnf); repeat ((first | refine tk1 ?_ | refine tk2 ?_ | refine tk3 ?_ | refine tk12 (fun _ => ?_) | refine tk4 ?_ | refine tk5 ?_ | refine tk6 ?_ | refine tk7 ?_ | refine tk8 ?_ | refine tk9 ?_ | refine tk10 (fun _ _ => ?_) | refine tk11 (fun _ => ?_) | refine tk13 ?_ | refine tk14 ?_); (conv => whnf))
  rename_i b3 b4
  refine LoopS.lp tys_ok (fun (x : Nat × Int) u => [u 0, u 1, .slice PA pm.length Pc, .pointer (some ⟨b3, 0, none⟩), .pointer (some ⟨b4, 0, none⟩), u 5, u 6, .int .i64 x.2, .int .i64 (x.1 : Nat), u 9, u 10, u 11, u 12, u 13, u 14, u 15, u 16, u 17, u 18, u 19, u 20, u 21, u 22, u 23, u 24, u 25, u 26, u 27, u 28, u 29, u 30, u 31, u 32, u 33, u 34, u 35, u 36, u 37, u 38, u 39, u 40, u 41, u 42, u 43, u 44, u 45, u 46, u 47, u 48, u 49, u 50, u 51, u 52, u 53, u 54, u 55, u 56, u 57, u 58, u 59, u 60, u 61, u 62, u 63, u 64, u 65, u 66, u 67, u 68, u 69, u 70, u 71, u 72, u 73, u 74, u 75, u 76, u 77, u 78, u 79, u 80, u 81, u 82])
    (fun _ => [.box b4 [str rm, str rp, str rq, .int .i64 rv, rf, .slice BA Bn Bc] 28, .box b3 [str m, str p, .int .i64 st, .slice FA F.length Fc, str tag, .bool press, .slice QA Q.length Qc] 25])
    (fun x => x.1 ≤ 20 ∧ x.1 ≤ Q.length ∧ 0 ≤ x.2 ∧ x.2 ≤ 2097152 + x.1 * 500000) (fun x => 20 - x.1) (0, (tag.length : Int) + rq.length) ⟨Nat.zero_le _, Nat.zero_le _, by dsimp only; omega, by dsimp only; omega⟩ rfl (by repeat' (first | exact List.Sublist.refl _ | exact List.nil_sublist _ | apply List.Sublist.cons_cons | apply List.Sublist.cons)) ?_
  rintro ⟨k, n⟩ u ⟨hk, hkq, hn0, hn1⟩
  dsimp only at hk hkq hn0 hn1 ⊢
  (conv => whnf); repeat ((first | refine tk1 ?_ | refine tk2 ?_ | refine tk3 ?_ | refine tk12 (fun _ => ?_) | refine tk4 ?_ | refine tk5 ?_ | refine tk6 ?_ | refine tk7 ?_ | refine tk8 ?_ | refine tk9 ?_ | refine tk10 (fun _ _ => ?_) | refine tk11 (fun _ => ?_) | refine tk13 ?_ | refine tk14 ?_); (conv => whnf))
  refine Cmp.cases (fun hlt => ?_) (fun hlt => ?_)
  · (conv => whnf); repeat ((first | refine tk1 ?_ | refine tk2 ?_ | refine tk3 ?_ | refine tk12 (fun _ => ?_) | refine tk4 ?_ | refine tk5 ?_ | refine tk6 ?_ | refine tk7 ?_ | refine tk8 ?_ | refine tk9 ?_ | refine tk10 (fun _ _ => ?_) | refine tk11 (fun _ => ?_) | refine tk13 ?_ | refine tk14 ?_); (conv => whnf))
    refine Cmp.cases (fun hlt2 => ?_) (fun hlt2 => ?_)
    · have hlt' : k < Q.length := by omega
      have g4 := pccells_at Q k hlt'
      obtain ⟨x, hx⟩ : ∃ x, Q[k] = x := ⟨_, rfl⟩
      rw [hx] at g4
      (conv => whnf); repeat ((first | refine tk1 ?_ | refine tk2 ?_ | refine tk3 ?_ | refine tk12 (fun _ => ?_) | refine tk4 ?_ | refine tk5 ?_ | refine tk6 ?_ | refine tk7 ?_ | refine tk8 ?_ | refine tk9 ?_ | refine tk10 (fun _ _ => ?_) | refine tk11 (fun _ => ?_) | refine tk13 ?_ | refine tk14 ?_); (conv => whnf))
      refine DrawS.go (qs 21) tys_ok mixed (by kernel_rfl) ?_
      (conv => whnf); repeat ((first | refine tk1 ?_ | refine tk2 ?_ | refine tk3 ?_ | refine tk12 (fun _ => ?_) | refine tk4 ?_ | refine tk5 ?_ | refine tk6 ?_ | refine tk7 ?_ | refine tk8 ?_ | refine tk9 ?_ | refine tk10 (fun _ _ => ?_) | refine tk11 (fun _ => ?_) | refine tk13 ?_ | refine tk14 ?_); (conv => whnf))
      refine IdxA.tc (by rw [pccells_length]; omega) (by omega) (by omega) ?_
      (conv => whnf); repeat ((first | refine tk1 ?_ | refine tk2 ?_ | refine tk3 ?_ | refine tk12 (fun _ => ?_) | refine tk4 ?_ | refine tk5 ?_ | refine tk6 ?_ | refine tk7 ?_ | refine tk8 ?_ | refine tk9 ?_ | refine tk10 (fun _ _ => ?_) | refine tk11 (fun _ => ?_) | refine tk13 ?_ | refine tk14 ?_); (conv => whnf))
      refine Ld.taF (v := str x.t) g4.2.2.1 ?_
      (conv => whnf); repeat ((first | refine tk1 ?_ | refine tk2 ?_ | refine tk3 ?_ | refine tk12 (fun _ => ?_) | refine tk4 ?_ | refine tk5 ?_ | refine tk6 ?_ | refine tk7 ?_ | refine tk8 ?_ | refine tk9 ?_ | refine tk10 (fun _ _ => ?_) | refine tk11 (fun _ => ?_) | refine tk13 ?_ | refine tk14 ?_); (conv => whnf))
      refine OthP.min2 (min (x.t.length : Int) 2000) rfl rfl rfl ?_
      (conv => whnf); repeat ((first | refine tk1 ?_ | refine tk2 ?_ | refine tk3 ?_ | refine tk12 (fun _ => ?_) | refine tk4 ?_ | refine tk5 ?_ | refine tk6 ?_ | refine tk7 ?_ | refine tk8 ?_ | refine tk9 ?_ | refine tk10 (fun _ _ => ?_) | refine tk11 (fun _ => ?_) | refine tk13 ?_ | refine tk14 ?_); (conv => whnf))
      refine IdxA.tc (by rw [pccells_length]; omega) (by omega) (by omega) ?_
      (conv => whnf); repeat ((first | refine tk1 ?_ | refine tk2 ?_ | refine tk3 ?_ | refine tk12 (fun _ => ?_) | refine tk4 ?_ | refine tk5 ?_ | refine tk6 ?_ | refine tk7 ?_ | refine tk8 ?_ | refine tk9 ?_ | refine tk10 (fun _ _ => ?_) | refine tk11 (fun _ => ?_) | refine tk13 ?_ | refine tk14 ?_); (conv => whnf))
      refine Ld.taF (v := .int .i64 x.m) g4.2.2.2.1 ?_
      (conv => whnf); repeat ((first | refine tk1 ?_ | refine tk2 ?_ | refine tk3 ?_ | refine tk12 (fun _ => ?_) | refine tk4 ?_ | refine tk5 ?_ | refine tk6 ?_ | refine tk7 ?_ | refine tk8 ?_ | refine tk9 ?_ | refine tk10 (fun _ _ => ?_) | refine tk11 (fun _ => ?_) | refine tk13 ?_ | refine tk14 ?_); (conv => whnf))
      refine OthP.min2 (min x.m 200) rfl rfl rfl ?_
      (conv => whnf); repeat ((first | refine tk1 ?_ | refine tk2 ?_ | refine tk3 ?_ | refine tk12 (fun _ => ?_) | refine tk4 ?_ | refine tk5 ?_ | refine tk6 ?_ | refine tk7 ?_ | refine tk8 ?_ | refine tk9 ?_ | refine tk10 (fun _ _ => ?_) | refine tk11 (fun _ => ?_) | refine tk13 ?_ | refine tk14 ?_); (conv => whnf))
      refine OthP.max2 (max 1 (min x.m 200)) rfl rfl rfl ?_
      have hmb := mul_bound (a := min (x.t.length : Int) 2000) (b := max 1 (min x.m 200)) (by omega) (by omega) (by omega) (by omega)
      obtain ⟨z, hz⟩ : ∃ z, min (x.t.length : Int) 2000 * max 1 (min x.m 200) = z := ⟨_, rfl⟩
      rw [hz] at hmb
      (conv => whnf); repeat ((first | refine tk1 ?_ | refine tk2 ?_ | refine tk3 ?_ | refine tk12 (fun _ => ?_) | refine tk4 ?_ | refine tk5 ?_ | refine tk6 ?_ | refine tk7 ?_ | refine tk8 ?_ | refine tk9 ?_ | refine tk10 (fun _ _ => ?_) | refine tk11 (fun _ => ?_) | refine tk13 ?_ | refine tk14 ?_); (conv => whnf))
      rw [hz]
      refine IdxA.tc (by rw [pccells_length]; omega) (by omega) (by omega) ?_
      (conv => whnf); repeat ((first | refine tk1 ?_ | refine tk2 ?_ | refine tk3 ?_ | refine tk12 (fun _ => ?_) | refine tk4 ?_ | refine tk5 ?_ | refine tk6 ?_ | refine tk7 ?_ | refine tk8 ?_ | refine tk9 ?_ | refine tk10 (fun _ _ => ?_) | refine tk11 (fun _ => ?_) | refine tk13 ?_ | refine tk14 ?_); (conv => whnf))
      refine Ld.taF (v := .int .u8 x.k.toNat) g4.2.1 ?_
      (conv => whnf); repeat ((first | refine tk1 ?_ | refine tk2 ?_ | refine tk3 ?_ | refine tk12 (fun _ => ?_) | refine tk4 ?_ | refine tk5 ?_ | refine tk6 ?_ | refine tk7 ?_ | refine tk8 ?_ | refine tk9 ?_ | refine tk10 (fun _ _ => ?_) | refine tk11 (fun _ => ?_) | refine tk13 ?_ | refine tk14 ?_); (conv => whnf))
      refine Cmp.cases (fun h3 => ?_) (fun h3 => ?_)
      · (conv => whnf); repeat ((first | refine tk1 ?_ | refine tk2 ?_ | refine tk3 ?_ | refine tk12 (fun _ => ?_) | refine tk4 ?_ | refine tk5 ?_ | refine tk6 ?_ | refine tk7 ?_ | refine tk8 ?_ | refine tk9 ?_ | refine tk10 (fun _ _ => ?_) | refine tk11 (fun _ => ?_) | refine tk13 ?_ | refine tk14 ?_); (conv => whnf))
        refine OthP.min2 (min (Bn : Int) 10000) rfl rfl rfl ?_
        (conv => whnf); repeat ((first | refine tk1 ?_ | refine tk2 ?_ | refine tk3 ?_ | refine tk12 (fun _ => ?_) | refine tk4 ?_ | refine tk5 ?_ | refine tk6 ?_ | refine tk7 ?_ | refine tk8 ?_ | refine tk9 ?_ | refine tk10 (fun _ _ => ?_) | refine tk11 (fun _ => ?_) | refine tk13 ?_ | refine tk14 ?_); (conv => whnf))
        exact ⟨(k + 1, n + 1 + z + min (Bn : Int) 10000), ⟨by dsimp only; omega, by dsimp only; omega, by dsimp only; omega, by dsimp only; omega⟩, rfl, (by repeat' (first | exact List.Sublist.refl _ | exact List.nil_sublist _ | apply List.Sublist.cons_cons | apply List.Sublist.cons)), by dsimp only; omega⟩
      · (conv => whnf); repeat ((first | refine tk1 ?_ | refine tk2 ?_ | refine tk3 ?_ | refine tk12 (fun _ => ?_) | refine tk4 ?_ | refine tk5 ?_ | refine tk6 ?_ | refine tk7 ?_ | refine tk8 ?_ | refine tk9 ?_ | refine tk10 (fun _ _ => ?_) | refine tk11 (fun _ => ?_) | refine tk13 ?_ | refine tk14 ?_); (conv => whnf))
        exact ⟨(k + 1, n + 1 + z), ⟨by dsimp only; omega, by dsimp only; omega, by dsimp only; omega, by dsimp only; omega⟩, rfl, (by repeat' (first | exact List.Sublist.refl _ | exact List.nil_sublist _ | apply List.Sublist.cons_cons | apply List.Sublist.cons)), by dsimp only; omega⟩
    · clear hlt hk hkq hn0 hn1
      (conv => whnf); repeat ((first | refine tk1 ?_ | refine tk2 ?_ | refine tk3 ?_ | refine tk12 (fun _ => ?_) | refine tk4 ?_ | refine tk5 ?_ | refine tk6 ?_ | refine tk7 ?_ | refine tk8 ?_ | refine tk9 ?_ | refine tk10 (fun _ _ => ?_) | refine tk11 (fun _ => ?_) | refine tk13 ?_ | refine tk14 ?_); (conv => whnf))
      refine Cmp.cases (fun g1 => ?_) (fun g1 => ?_)
      · (conv => whnf); repeat ((first | refine tk1 ?_ | refine tk2 ?_ | refine tk3 ?_ | refine tk12 (fun _ => ?_) | refine tk4 ?_ | refine tk5 ?_ | refine tk6 ?_ | refine tk7 ?_ | refine tk8 ?_ | refine tk9 ?_ | refine tk10 (fun _ _ => ?_) | refine tk11 (fun _ => ?_) | refine tk13 ?_ | refine tk14 ?_); (conv => whnf))
        exact fun w' _ => ⟨_, rfl⟩
      (conv => whnf); repeat ((first | refine tk1 ?_ | refine tk2 ?_ | refine tk3 ?_ | refine tk12 (fun _ => ?_) | refine tk4 ?_ | refine tk5 ?_ | refine tk6 ?_ | refine tk7 ?_ | refine tk8 ?_ | refine tk9 ?_ | refine tk10 (fun _ _ => ?_) | refine tk11 (fun _ => ?_) | refine tk13 ?_ | refine tk14 ?_); (conv => whnf))
      refine Cmp.cases (fun g2 => ?_) (fun g2 => ?_)
      · (conv => whnf); repeat ((first | refine tk1 ?_ | refine tk2 ?_ | refine tk3 ?_ | refine tk12 (fun _ => ?_) | refine tk4 ?_ | refine tk5 ?_ | refine tk6 ?_ | refine tk7 ?_ | refine tk8 ?_ | refine tk9 ?_ | refine tk10 (fun _ _ => ?_) | refine tk11 (fun _ => ?_) | refine tk13 ?_ | refine tk14 ?_); (conv => whnf))
        exact fun w' _ => ⟨_, rfl⟩
      (conv => whnf); repeat ((first | refine tk1 ?_ | refine tk2 ?_ | refine tk3 ?_ | refine tk12 (fun _ => ?_) | refine tk4 ?_ | refine tk5 ?_ | refine tk6 ?_ | refine tk7 ?_ | refine tk8 ?_ | refine tk9 ?_ | refine tk10 (fun _ _ => ?_) | refine tk11 (fun _ => ?_) | refine tk13 ?_ | refine tk14 ?_); (conv => whnf))
      refine Cmp.cases (fun g3 => ?_) (fun g3 => ?_)
      · (conv => whnf); repeat ((first | refine tk1 ?_ | refine tk2 ?_ | refine tk3 ?_ | refine tk12 (fun _ => ?_) | refine tk4 ?_ | refine tk5 ?_ | refine tk6 ?_ | refine tk7 ?_ | refine tk8 ?_ | refine tk9 ?_ | refine tk10 (fun _ _ => ?_) | refine tk11 (fun _ => ?_) | refine tk13 ?_ | refine tk14 ?_); (conv => whnf))
        exact fun w' _ => ⟨_, rfl⟩
      (conv => whnf); repeat ((first | refine tk1 ?_ | refine tk2 ?_ | refine tk3 ?_ | refine tk12 (fun _ => ?_) | refine tk4 ?_ | refine tk5 ?_ | refine tk6 ?_ | refine tk7 ?_ | refine tk8 ?_ | refine tk9 ?_ | refine tk10 (fun _ _ => ?_) | refine tk11 (fun _ => ?_) | refine tk13 ?_ | refine tk14 ?_); (conv => whnf))
      refine CallK.fnAny (Great18_b FA Fc F) (fun w1 hw1 => (hRF _).ok w1 hw1) (fun b1 => ?_)
      cases b1
      · (conv => whnf); repeat ((first | refine tk1 ?_ | refine tk2 ?_ | refine tk3 ?_ | refine tk12 (fun _ => ?_) | refine tk4 ?_ | refine tk5 ?_ | refine tk6 ?_ | refine tk7 ?_ | refine tk8 ?_ | refine tk9 ?_ | refine tk10 (fun _ _ => ?_) | refine tk11 (fun _ => ?_) | refine tk13 ?_ | refine tk14 ?_); (conv => whnf))
        refine CallK.fnAny (Great18_b PA Pc pm) (fun w1 hw1 => (hRP _).ok w1 hw1) (fun b2 => ?_)
        (conv => whnf); repeat ((first | refine tk1 ?_ | refine tk2 ?_ | refine tk3 ?_ | refine tk12 (fun _ => ?_) | refine tk4 ?_ | refine tk5 ?_ | refine tk6 ?_ | refine tk7 ?_ | refine tk8 ?_ | refine tk9 ?_ | refine tk10 (fun _ _ => ?_) | refine tk11 (fun _ => ?_) | refine tk13 ?_ | refine tk14 ?_); (conv => whnf))
        exact fun w' _ => ⟨_, rfl⟩
      · (conv => whnf); repeat ((first | refine tk1 ?_ | refine tk2 ?_ | refine tk3 ?_ | refine tk12 (fun _ => ?_) | refine tk4 ?_ | refine tk5 ?_ | refine tk6 ?_ | refine tk7 ?_ | refine tk8 ?_ | refine tk9 ?_ | refine tk10 (fun _ _ => ?_) | refine tk11 (fun _ => ?_) | refine tk13 ?_ | refine tk14 ?_); (conv => whnf))
        exact fun w' _ => ⟨_, rfl⟩
  · clear hlt hk hkq hn0 hn1
    (conv => whnf); repeat ((first | refine tk1 ?_ | refine tk2 ?_ | refine tk3 ?_ | refine tk12 (fun _ => ?_) | refine tk4 ?_ | refine tk5 ?_ | refine tk6 ?_ | refine tk7 ?_ | refine tk8 ?_ | refine tk9 ?_ | refine tk10 (fun _ _ => ?_) | refine tk11 (fun _ => ?_) | refine tk13 ?_ | refine tk14 ?_); (conv => whnf))
    refine Cmp.cases (fun g1 => ?_) (fun g1 => ?_)
    · (conv => whnf); repeat ((first | refine tk1 ?_ | refine tk2 ?_ | refine tk3 ?_ | refine tk12 (fun _ => ?_) | refine tk4 ?_ | refine tk5 ?_ | refine tk6 ?_ | refine tk7 ?_ | refine tk8 ?_ | refine tk9 ?_ | refine tk10 (fun _ _ => ?_) | refine tk11 (fun _ => ?_) | refine tk13 ?_ | refine tk14 ?_); (conv => whnf))
      exact fun w' _ => ⟨_, rfl⟩
    (conv => whnf); repeat ((first | refine tk1 ?_ | refine tk2 ?_ | refine tk3 ?_ | refine tk12 (fun _ => ?_) | refine tk4 ?_ | refine tk5 ?_ | refine tk6 ?_ | refine tk7 ?_ | refine tk8 ?_ | refine tk9 ?_ | refine tk10 (fun _ _ => ?_) | refine tk11 (fun _ => ?_) | refine tk13 ?_ | refine tk14 ?_); (conv => whnf))
    refine Cmp.cases (fun g2 => ?_) (fun g2 => ?_)
    · (conv => whnf); repeat ((first | refine tk1 ?_ | refine tk2 ?_ | refine tk3 ?_ | refine tk12 (fun _ => ?_) | refine tk4 ?_ | refine tk5 ?_ | refine tk6 ?_ | refine tk7 ?_ | refine tk8 ?_ | refine tk9 ?_ | refine tk10 (fun _ _ => ?_) | refine tk11 (fun _ => ?_) | refine tk13 ?_ | refine tk14 ?_); (conv => whnf))
      exact fun w' _ => ⟨_, rfl⟩
    (conv => whnf); repeat ((first | refine tk1 ?_ | refine tk2 ?_ | refine tk3 ?_ | refine tk12 (fun _ => ?_) | refine tk4 ?_ | refine tk5 ?_ | refine tk6 ?_ | refine tk7 ?_ | refine tk8 ?_ | refine tk9 ?_ | refine tk10 (fun _ _ => ?_) | refine tk11 (fun _ => ?_) | refine tk13 ?_ | refine tk14 ?_); (conv => whnf))
    refine Cmp.cases (fun g3 => ?_) (fun g3 => ?_)
    · (conv => whnf); repeat ((first | refine tk1 ?_ | refine tk2 ?_ | refine tk3 ?_ | refine tk12 (fun _ => ?_) | refine tk4 ?_ | refine tk5 ?_ | refine tk6 ?_ | refine tk7 ?_ | refine tk8 ?_ | refine tk9 ?_ | refine tk10 (fun _ _ => ?_) | refine tk11 (fun _ => ?_) | refine tk13 ?_ | refine tk14 ?_); (conv => whnf))
      exact fun w' _ => ⟨_, rfl⟩
    (conv => whnf); repeat ((first | refine tk1 ?_ | refine tk2 ?_ | refine tk3 ?_ | refine tk12 (fun _ => ?_) | refine tk4 ?_ | refine tk5 ?_ | refine tk6 ?_ | refine tk7 ?_ | refine tk8 ?_ | refine tk9 ?_ | refine tk10 (fun _ _ => ?_) | refine tk11 (fun _ => ?_) | refine tk13 ?_ | refine tk14 ?_); (conv => whnf))
    refine CallK.fnAny (Great18_b FA Fc F) (fun w1 hw1 => (hRF _).ok w1 hw1) (fun b1 => ?_)
    cases b1
    · (conv => whnf); repeat ((first | refine tk1 ?_ | refine tk2 ?_ | refine tk3 ?_ | refine tk12 (fun _ => ?_) | refine tk4 ?_ | refine tk5 ?_ | refine tk6 ?_ | refine tk7 ?_ | refine tk8 ?_ | refine tk9 ?_ | refine tk10 (fun _ _ => ?_) | refine tk11 (fun _ => ?_) | refine tk13 ?_ | refine tk14 ?_); (conv => whnf))
      refine CallK.fnAny (Great18_b PA Pc pm) (fun w1 hw1 => (hRP _).ok w1 hw1) (fun b2 => ?_)
      (conv => whnf); repeat ((first | refine tk1 ?_ | refine tk2 ?_ | refine tk3 ?_ | refine tk12 (fun _ => ?_) | refine tk4 ?_ | refine tk5 ?_ | refine tk6 ?_ | refine tk7 ?_ | refine tk8 ?_ | refine tk9 ?_ | refine tk10 (fun _ _ => ?_) | refine tk11 (fun _ => ?_) | refine tk13 ?_ | refine tk14 ?_); (conv => whnf))
      exact fun w' _ => ⟨_, rfl⟩
    · (conv => whnf); repeat ((first | refine tk1 ?_ | refine tk2 ?_ | refine tk3 ?_ | refine tk12 (fun _ => ?_) | refine tk4 ?_ | refine tk5 ?_ | refine tk6 ?_ | refine tk7 ?_ | refine tk8 ?_ | refine tk9 ?_ | refine tk10 (fun _ _ => ?_) | refine tk11 (fun _ => ?_) | refine tk13 ?_ | refine tk14 ?_); (conv => whnf))
      exact fun w' _ => ⟨_, rfl⟩
end Go.Proofs.YtmdmmncoigeijaaGreatDoor.Vex
/- Plain laws on pages: where flushes cut a body. No program in sight. -/
namespace Go.Proofs.YtmdmmncoigeijaaGreatDoor.Vex

/-- How many bytes stand up to the end of each part. -/
def cumG (n : Nat) : Prs → List Nat
  | [] => []
  | p :: r => (n + p.1.length) :: cumG (n + p.1.length) r
def cumE (d : Prs) : List Nat := cumG 0 d
theorem cumG_length : ∀ (d : Prs) (n : Nat), (cumG n d).length = d.length
  | [], _ => rfl
  | p :: r, n => by simp only [cumG, List.length_cons, cumG_length r]
theorem cumG_snoc (p : List UInt8 × Bool) : ∀ (d : Prs) (n : Nat), cumG n (d ++ [p]) = cumG n d ++ [n + total d + p.1.length]
  | [], n => by simp [cumG, total]
  | q :: r, n => by
    simp only [List.cons_append, cumG, cumG_snoc p r, total]
    congr 3
    omega
theorem cumG_at : ∀ (d : Prs) (n i : Nat), i < d.length → (cumG n d)[i]? = some (n + total (d.take (i + 1)))
  | [], _, i, h => by simp at h
  | p :: r, n, 0, _ => by simp [cumG, total]
  | p :: r, n, i + 1, h => by
    simp only [cumG, List.getElem?_cons_succ, List.take_succ_cons, total]
    rw [cumG_at r _ i (by simpa using h)]
    congr 1
    omega
theorem cumE_length (d : Prs) : (cumE d).length = d.length := cumG_length d 0
theorem cumE_at (d : Prs) (i : Nat) (h : i < d.length) : (cumE d)[i]? = some (total (d.take (i + 1))) := by
  have := cumG_at d 0 i h
  rw [Nat.zero_add] at this
  exact this
theorem cumE_last (d : Prs) (h : d ≠ []) : (cumE d)[d.length - 1]? = some (total d) := by
  have h1 := List.length_pos_iff.2 h
  rw [cumE_at d _ (by omega), show d.length - 1 + 1 = d.length by omega, List.take_length]
/-- What the ends are when a piece more is told. -/
theorem ends_none (l : Prs) (x : List UInt8 × Bool) (h : x.2 = false) : cumE (stG (l ++ [x])).2 = cumE (stG l).2 := by
  rw [stG_snoc]; unfold stepG; rw [h]; rfl
theorem ends_step (l : Prs) (x : List UInt8 × Bool) (h : x.2 = true) :
    cumE (stG (l ++ [x])).2 = if 0 < total (l ++ [x]) ∧ ((stG l).2 = [] ∨ total (stG l).2 < total (l ++ [x])) then cumE (stG l).2 ++ [total (l ++ [x])] else cumE (stG l).2 := by
  have h1 := total_stG l
  have h2 := total_snoc l x
  have h3 : total (stG l).2 = 0 → (stG l).2 = [] := fun h0 => by
    have := length_le_total (stG l).2 fun p hp => (whole_stG l p hp).1
    exact List.eq_nil_of_length_eq_zero (by omega)
  rw [stG_snoc]
  unfold stepG
  rw [h]
  simp only [if_true]
  unfold close1
  by_cases hz : (stG l).1 ++ x.1 = []
  · have hz' := congrArg List.length hz
    rw [List.length_append, List.length_nil] at hz'
    rw [if_pos hz, if_neg]
    rintro ⟨h4, h5⟩
    rcases h5 with h5 | h5
    · rw [h5] at h1
      simp only [total] at h1
      omega
    · omega
  · have hz' : 0 < ((stG l).1 ++ x.1).length := List.length_pos_iff.2 hz
    rw [List.length_append] at hz'
    rw [if_neg hz, if_pos ⟨by omega, .inr (by omega)⟩]
    unfold cumE
    rw [cumG_snoc, List.length_append]
    congr 2
    omega
/-- The parts, and those among them that have a flush. -/
theorem parts_cases (l : Prs) : ((stG l).1 = [] ∧ partsG l = (stG l).2) ∨ ((stG l).1 ≠ [] ∧ partsG l = (stG l).2 ++ [((stG l).1, false)]) := by
  unfold partsG close1
  by_cases h : (stG l).1 = []
  · exact .inl ⟨h, by rw [if_pos h]⟩
  · exact .inr ⟨h, by rw [if_neg h]⟩
theorem parts_at (l : Prs) (i : Nat) (h : i < (partsG l).length) : ((partsG l)[i].1 ≠ []) ∧
    (((i < (stG l).2.length) ∧ (partsG l)[i].2 = true ∧ (cumE (stG l).2)[i]? = some (total ((partsG l).take (i + 1)))) ∨ (i = (stG l).2.length ∧ (partsG l)[i].2 = false ∧ i + 1 = (partsG l).length)) := by
  have hw := whole_stG l
  rcases parts_cases l with ⟨h0, h1⟩ | ⟨h0, h1⟩
  · have h2 : i < (stG l).2.length := by rw [← h1]; exact h
    have h3 : (partsG l)[i] = (stG l).2[i] := by simp only [h1]
    have h4 := hw _ (List.getElem_mem h2)
    rw [h3]
    exact ⟨h4.1, .inl ⟨h2, h4.2, by rw [cumE_at _ _ h2, h1]⟩⟩
  · have h5 : (partsG l).length = (stG l).2.length + 1 := by rw [h1]; simp
    by_cases h2 : i < (stG l).2.length
    · have h3 : (partsG l)[i] = (stG l).2[i] := by simp only [h1]; rw [List.getElem_append_left h2]
      have h4 := hw _ (List.getElem_mem h2)
      rw [h3]
      exact ⟨h4.1, .inl ⟨h2, h4.2, by rw [cumE_at _ _ h2, h1, List.take_append_of_le_length (by omega)]⟩⟩
    · have h6 : i = (stG l).2.length := by omega
      have h3 : (partsG l)[i] = ((stG l).1, false) := by simp only [h1]; rw [List.getElem_append_right (by omega)]; simp [h6]
      rw [h3]
      exact ⟨h0, .inr ⟨h6, rfl, by omega⟩⟩
theorem parts_length (l : Prs) : (partsG l).length ≤ l.length ∧ (stG l).2.length ≤ (partsG l).length ∧ (partsG l).length ≤ (stG l).2.length + 1 := by
  have key : ∀ l : Prs, (stG l).2.length + (if (stG l).1 = [] then 0 else 1) ≤ l.length := fun l => by
    refine snoc_ind (p := fun l => (stG l).2.length + (if (stG l).1 = [] then 0 else 1) ≤ l.length) (Nat.le_refl _) (fun l x ih => ?_) l
    have h9 := stG_length l
    rw [stG_snoc, List.length_append]
    unfold stepG close1
    by_cases hx : x.2 = true
    · rw [if_pos hx]
      dsimp only
      split
      · simp; omega
      · simp; omega
    · rw [if_neg hx]
      dsimp only
      split
      · simp; omega
      · simp; omega
  have h := key l
  rcases parts_cases l with ⟨h0, h1⟩ | ⟨h0, h1⟩
  · rw [if_pos h0] at h
    rw [h1]
    omega
  · rw [if_neg h0] at h
    rw [h1]
    simp
    omega
theorem parts_one (x : List UInt8 × Bool) : partsG [x] = if x.1 = [] then [] else [x] := by
  obtain ⟨s, f⟩ := x
  unfold partsG stG stepG close1
  cases f <;> by_cases h : s = [] <;> simp [h]
end Go.Proofs.YtmdmmncoigeijaaGreatDoor.Vex
/- A walk by reckoning, part nineteen: a row that is turned to its own type. No program in sight. -/
namespace Go.Proofs.YtmdmmncoigeijaaGreatDoor.Vex
open Go Go.RowKit Go.MapKept

/-- A row's object, by its first cells. -/
def RowO (o : Obj) (xs : List Value) : Prop := ∃ cur e fz, o = .cells cur e fz ∧ cur.toList.take xs.length = xs
section
variable {c : Ctx} {T : Ty} {H : Hp} {fr : Fr} {dst : Option Nat} {ty : TypeId} {pos : String} {after : Array Edge} {gd : Option (Nat × Bool)}
theorem RowO.rd {o : Obj} {xs : List Value} (h : RowO o xs) {b : Nat} : ∀ H, RdA c (.obj b o :: H) (some ⟨b, 0, none⟩) xs := fun H => ⟨fun w hw j u hj => by
  obtain ⟨cur, e, fz, rfl, ht⟩ := h
  have ho : w.heap[b]? = some (.cells cur e fz) := (hw.own _ (List.mem_cons_self ..)).1
  refine ⟨_, rfl, ?_⟩
  have h1 : cur.toList[j]? = some u := by
    rw [← ht, List.getElem?_take] at hj
    split at hj
    · exact hj
    · cases hj
  rw [Addr.add_lit]
  show (match w.heap[b]? with | some (.cells c _ _) => c[0 + j]? | _ => none) = some u
  rw [ho]
  simpa using h1⟩
theorem Oth.same {t e : TypeId} {x : Operand} {b n cp : Nat} {e' sz n' : Nat} {xs : List Value} {H2 : Hp} {K : Value → Hp → Prop} [hr : TakeRow (.slice (some ⟨b, 0, none⟩) n cp) H e' sz n' xs H2] (hT : TOk c.P T)
    (hx : evK fr x fun v => v = .slice (some ⟨b, 0, none⟩) n cp) (ht : (lookT T t).d = .slice e) (he : (lookT T e).d = .int .u8) (k : ∀ o, RowO o xs → K (.slice (some ⟨b, 0, none⟩) n cp) (.obj b o :: H2)) :
    Oth c false ⟨dst, .convert t t x, ty, pos, after, gd⟩ fr H K := ⟨fun w hw => by
  rw [evK_eq] at hx
  have hu := (lookT_ok hT (t := t) (by rw [ht]; intro h; cases h)).1
  have hue := (lookT_ok hT (t := e) (by rw [he]; intro h; cases h)).1
  rw [ht] at hu
  rw [he] at hue
  have hw1 := hw.perm hr.ok.perm
  have hrow : RowH w (.slice (some ⟨b, 0, none⟩) n cp) e' sz n' xs := (hw1.own _ (List.mem_cons_self ..)).1
  have hbk := (hw1.own _ (List.mem_cons_self ..)).2
  obtain ⟨hl, h0 | ⟨g, cap, cur, fz, h1, hg, h2, h3, h4, h5, _⟩⟩ := hrow
  · cases h0.1
  cases h1
  have hsh : w.shape? b = some (e', cur.size) := by unfold World.shape?; rw [hg]
  obtain ⟨fz', hfz⟩ : ∃ fz', w.freeze ⟨b, cur.size, none⟩ 1 = w.putObj b (.cells cur e' fz') := by
    refine ⟨if fz.1 == fz.2 then (cur.size, cur.size + 1) else (min fz.1 cur.size, max fz.2 (cur.size + 1)), ?_⟩
    unfold World.freeze World.putObj
    rw [if_neg (by decide)]
    congr 1
    have hlt : b < w.heap.size := (hbk b rfl).1
    have hge : w.heap[b] = .cells cur e' fz := by rw [Array.getElem?_eq_getElem hlt] at hg; exact Option.some.inj hg
    apply Array.ext
    · simp
    · intro i h1 h2
      simp only [Array.getElem_modify, Array.getElem_setIfInBounds (by simpa using h1)]
      by_cases hi : b = i
      · subst hi
        rw [if_pos rfl, if_pos rfl, hge]
      · rw [if_neg hi, if_neg hi]
  have hobj : St c (.obj b (.cells cur e' fz) :: H2) w := by
    have hrest := hw1.sub (List.sublist_cons_self _ _)
    refine hrest.push hg (fun b' hb' => hbk b' hb') (fun b' hb' y hy hyb => ?_)
    have := hw1.apart
    rw [List.filterMap_cons] at this
    exact (List.nodup_cons.1 this).1 (List.mem_filterMap.2 ⟨y, hy, by rw [hyb, ← hb']; rfl⟩)
  have hrun : (convert t t (.slice (some ⟨b, 0, none⟩) n cp)).run c.P w = .ok (.slice (some ⟨b, 0, none⟩) n cp) (w.putObj b (.cells cur e' fz')) := by
    simp [convert, run_underlying hu, run_underlying hue, markStringish, hsh]
    exact hfz
  refine ⟨_, _, _, ?_, hobj.putObj (o' := .cells cur e' fz'), k _ ⟨cur, e', fz', rfl, by rw [hl]; exact h5⟩, fun h => by cases h⟩
  generalize (act fr).eval = ρ at *
  simp only [execOp, hx, Sem.run_bind, hrun, Result.andThen_ok, Sem.run_pure]⟩
end
end Go.Proofs.YtmdmmncoigeijaaGreatDoor.Vex
/- The statements' own first example, reckoned: answers, alive. -/
namespace Go.Proofs.YtmdmmncoigeijaaGreatDoor.Vex
open Go Go.RowKit
set_option maxRecDepth 100000
set_option linter.unusedSectionVars false
variable {gI : GI} [HasMax gI]

theorem prtsOk_st {c : Ctx} {H : Hp} {A : Option Addr} {ps : List Prt} (h1 : RdS c H A (pcells ps)) (h2 : ∀ q ∈ ps, RdS c H q.A (q.l.map byteV)) : ∀ w, St c H w → PrtsOk w A ps :=
  fun w hw => ⟨h1 w hw, fun q hq => h2 q hq w hw⟩
theorem answers_ps_le {st : Int} {fs : List Fld} {tag : List UInt8} {press : Bool} {Q : List Pce} {B q : List UInt8} {pm : List Fld} {a : Ans} {e : Int} (h : answerOf st fs tag press Q B q pm = (a, e)) : a.ps.length ≤ Q.length ∧ total a.ps ≤ 131072 ∧ a.fs.length ≤ fs.length + 1 := by
  unfold answerOf at h
  split at h
  · split at h
    · rename_i h2
      obtain ⟨rfl, rfl⟩ := Prod.mk.inj h
      refine ⟨?_, ?_, ?_⟩
      · have := (parts_length (told B q pm Q)).1
        unfold told at this
        rw [List.length_map] at this
        exact this
      · show total (partsG _) ≤ _
        rw [← total_bodyOf, bodyOf_parts, total_bodyOf]
        exact h2
      · show (ansF tag fs).length ≤ _
        unfold ansF
        split
        · omega
        · simp
    · obtain ⟨rfl, rfl⟩ := Prod.mk.inj h
      exact ⟨Nat.zero_le _, Nat.zero_le _, Nat.zero_le _⟩
  · obtain ⟨rfl, rfl⟩ := Prod.mk.inj h
    exact ⟨Nat.zero_le _, Nat.zero_le _, Nat.zero_le _⟩
def pm2 : List Fld := [([120], [49]), ([120], [50])]
def aliveL : List Pce := [⟨1, [97, 98], 2, false⟩, ⟨2, [120], 0, true⟩, ⟨3, [], 0, false⟩]
end Go.Proofs.YtmdmmncoigeijaaGreatDoor.Vex
/- The document's own answer for pages, reckoned: May, Check, Bytes. -/
namespace Go.Proofs.YtmdmmncoigeijaaGreatDoor.Vex
open Go Go.RowKit
set_option maxRecDepth 100000
set_option linter.unusedSectionVars false
variable {gI : GI} [HasMax gI]

theorem May24_r (s : List UInt8) (hs : s.length ≤ 1000000000000) : Fn Tryz.prog gI 72 [str s] (.bool (mayB s)) := by
  refine Fn.of tys_ok Tryz.func72 rfl (by kernel_rfl) rfl rfl ?_; intro w hG
  (conv => whnf); repeat ((first | refine tk1 ?_ | refine tk2 ?_ | refine tk3 ?_ | refine tk12 (fun _ => ?_) | refine tk4 ?_ | refine tk5 ?_ | refine tk6 ?_ | refine tk7 ?_ | refine tk8 ?_ | refine tk9 ?_ | refine tk10 (fun _ _ => ?_) | refine tk11 (fun _ => ?_) | refine tk13 ?_ | refine tk14 ?_); (conv => whnf))
  refine LoopS.lp tys_ok (fun (k : Nat) u => [str s, u 1, u 2, .int .i64 (k : Nat), u 4, u 5, u 6, u 7, u 8, u 9, u 10, u 11, u 12, u 13, u 14, u 15, u 16, u 17, u 18, u 19, u 20, u 21, u 22, u 23, u 24, u 25, u 26, u 27, u 28, u 29, u 30, u 31, u 32, u 33]) (fun _ => []) (fun k => k ≤ s.length ∧ (s.take k).all tagB = true) (fun k => s.length - k) 0 ⟨Nat.zero_le _, rfl⟩ rfl (by repeat' (first | exact List.Sublist.refl _ | exact List.nil_sublist _ | apply List.Sublist.cons_cons | apply List.Sublist.cons)) ?_
  rintro k u ⟨hk, hI⟩
  (conv => whnf); repeat ((first | refine tk1 ?_ | refine tk2 ?_ | refine tk3 ?_ | refine tk12 (fun _ => ?_) | refine tk4 ?_ | refine tk5 ?_ | refine tk6 ?_ | refine tk7 ?_ | refine tk8 ?_ | refine tk9 ?_ | refine tk10 (fun _ _ => ?_) | refine tk11 (fun _ => ?_) | refine tk13 ?_ | refine tk14 ?_); (conv => whnf))
  refine Cmp.cases (fun hlt => ?_) (fun hlt => ?_)
  · have hlt' : k < s.length := by omega
    have hsn := all_snoc_take tagB s k hlt' hI
    obtain ⟨x, hx⟩ : ∃ x, s[k] = x := ⟨_, rfl⟩
    have hxm : x ∈ s := hx ▸ List.getElem_mem hlt'
    have hx2 : s[k]? = some x := by rw [List.getElem?_eq_getElem hlt', hx]
    rw [hx] at hsn
    have bad : tagB x = false → mayB s = false := fun h => by unfold mayB; rw [all_bad hxm h]; rfl
    have htb : tagB x = !(decide ((x.toNat : Int) < 33) || decide (126 < (x.toNat : Int)) || (x.toNat : Int) == 34) := rfl
    (conv => whnf); repeat ((first | refine tk1 ?_ | refine tk2 ?_ | refine tk3 ?_ | refine tk12 (fun _ => ?_) | refine tk4 ?_ | refine tk5 ?_ | refine tk6 ?_ | refine tk7 ?_ | refine tk8 ?_ | refine tk9 ?_ | refine tk10 (fun _ _ => ?_) | refine tk11 (fun _ => ?_) | refine tk13 ?_ | refine tk14 ?_); (conv => whnf))
    refine IdxS.at x (by simpa using hx2) (by omega) ?_
    (conv => whnf); repeat ((first | refine tk1 ?_ | refine tk2 ?_ | refine tk3 ?_ | refine tk12 (fun _ => ?_) | refine tk4 ?_ | refine tk5 ?_ | refine tk6 ?_ | refine tk7 ?_ | refine tk8 ?_ | refine tk9 ?_ | refine tk10 (fun _ _ => ?_) | refine tk11 (fun _ => ?_) | refine tk13 ?_ | refine tk14 ?_); (conv => whnf))
    refine Cmp.cases (fun c1 => ?_) (fun c1 => ?_)
    · rw [bad (by rw [htb, decide_eq_true c1]; simp)]
      (conv => whnf); repeat ((first | refine tk1 ?_ | refine tk2 ?_ | refine tk3 ?_ | refine tk12 (fun _ => ?_) | refine tk4 ?_ | refine tk5 ?_ | refine tk6 ?_ | refine tk7 ?_ | refine tk8 ?_ | refine tk9 ?_ | refine tk10 (fun _ _ => ?_) | refine tk11 (fun _ => ?_) | refine tk13 ?_ | refine tk14 ?_); (conv => whnf))
    (conv => whnf); repeat ((first | refine tk1 ?_ | refine tk2 ?_ | refine tk3 ?_ | refine tk12 (fun _ => ?_) | refine tk4 ?_ | refine tk5 ?_ | refine tk6 ?_ | refine tk7 ?_ | refine tk8 ?_ | refine tk9 ?_ | refine tk10 (fun _ _ => ?_) | refine tk11 (fun _ => ?_) | refine tk13 ?_ | refine tk14 ?_); (conv => whnf))
    refine IdxS.at x (by simpa using hx2) (by omega) ?_
    (conv => whnf); repeat ((first | refine tk1 ?_ | refine tk2 ?_ | refine tk3 ?_ | refine tk12 (fun _ => ?_) | refine tk4 ?_ | refine tk5 ?_ | refine tk6 ?_ | refine tk7 ?_ | refine tk8 ?_ | refine tk9 ?_ | refine tk10 (fun _ _ => ?_) | refine tk11 (fun _ => ?_) | refine tk13 ?_ | refine tk14 ?_); (conv => whnf))
    refine Cmp.cases (fun c2 => ?_) (fun c2 => ?_)
    · rw [bad (by rw [htb, decide_eq_true (show (126 : Int) < x.toNat by omega)]; simp)]
      (conv => whnf); repeat ((first | refine tk1 ?_ | refine tk2 ?_ | refine tk3 ?_ | refine tk12 (fun _ => ?_) | refine tk4 ?_ | refine tk5 ?_ | refine tk6 ?_ | refine tk7 ?_ | refine tk8 ?_ | refine tk9 ?_ | refine tk10 (fun _ _ => ?_) | refine tk11 (fun _ => ?_) | refine tk13 ?_ | refine tk14 ?_); (conv => whnf))
    (conv => whnf); repeat ((first | refine tk1 ?_ | refine tk2 ?_ | refine tk3 ?_ | refine tk12 (fun _ => ?_) | refine tk4 ?_ | refine tk5 ?_ | refine tk6 ?_ | refine tk7 ?_ | refine tk8 ?_ | refine tk9 ?_ | refine tk10 (fun _ _ => ?_) | refine tk11 (fun _ => ?_) | refine tk13 ?_ | refine tk14 ?_); (conv => whnf))
    refine IdxS.at x (by simpa using hx2) (by omega) ?_
    (conv => whnf); repeat ((first | refine tk1 ?_ | refine tk2 ?_ | refine tk3 ?_ | refine tk12 (fun _ => ?_) | refine tk4 ?_ | refine tk5 ?_ | refine tk6 ?_ | refine tk7 ?_ | refine tk8 ?_ | refine tk9 ?_ | refine tk10 (fun _ _ => ?_) | refine tk11 (fun _ => ?_) | refine tk13 ?_ | refine tk14 ?_); (conv => whnf))
    refine Cmp.cases (fun c3 => ?_) (fun c3 => ?_)
    · rw [bad (by rw [htb, c3]; simp)]
      (conv => whnf); repeat ((first | refine tk1 ?_ | refine tk2 ?_ | refine tk3 ?_ | refine tk12 (fun _ => ?_) | refine tk4 ?_ | refine tk5 ?_ | refine tk6 ?_ | refine tk7 ?_ | refine tk8 ?_ | refine tk9 ?_ | refine tk10 (fun _ _ => ?_) | refine tk11 (fun _ => ?_) | refine tk13 ?_ | refine tk14 ?_); (conv => whnf))
    have ht : tagB x = true := by
      rw [htb, decide_eq_false (by omega), decide_eq_false (by omega), beq_false_of_ne c3]; rfl
    rw [ht] at hsn
    (conv => whnf); repeat ((first | refine tk1 ?_ | refine tk2 ?_ | refine tk3 ?_ | refine tk12 (fun _ => ?_) | refine tk4 ?_ | refine tk5 ?_ | refine tk6 ?_ | refine tk7 ?_ | refine tk8 ?_ | refine tk9 ?_ | refine tk10 (fun _ _ => ?_) | refine tk11 (fun _ => ?_) | refine tk13 ?_ | refine tk14 ?_); (conv => whnf))
    exact ⟨k + 1, ⟨by omega, hsn⟩, rfl, (by repeat' (first | exact List.Sublist.refl _ | exact List.nil_sublist _ | apply List.Sublist.cons_cons | apply List.Sublist.cons)), by dsimp only; omega⟩
  · have hall : s.all tagB = true := by rw [List.take_of_length_le (by omega)] at hI; exact hI
    (conv => whnf); repeat ((first | refine tk1 ?_ | refine tk2 ?_ | refine tk3 ?_ | refine tk12 (fun _ => ?_) | refine tk4 ?_ | refine tk5 ?_ | refine tk6 ?_ | refine tk7 ?_ | refine tk8 ?_ | refine tk9 ?_ | refine tk10 (fun _ _ => ?_) | refine tk11 (fun _ => ?_) | refine tk13 ?_ | refine tk14 ?_); (conv => whnf))
    refine Cmp.cases (fun c1 => ?_) (fun c1 => ?_)
    · (conv => whnf); repeat ((first | refine tk1 ?_ | refine tk2 ?_ | refine tk3 ?_ | refine tk12 (fun _ => ?_) | refine tk4 ?_ | refine tk5 ?_ | refine tk6 ?_ | refine tk7 ?_ | refine tk8 ?_ | refine tk9 ?_ | refine tk10 (fun _ _ => ?_) | refine tk11 (fun _ => ?_) | refine tk13 ?_ | refine tk14 ?_); (conv => whnf))
      refine Cmp.cases (fun c2 => ?_) (fun c2 => ?_)
      · rw [show mayB s = true by unfold mayB; rw [hall, decide_eq_true (show 1 ≤ s.length by omega), decide_eq_true (show s.length ≤ 64 by omega)]; rfl]
        (conv => whnf); repeat ((first | refine tk1 ?_ | refine tk2 ?_ | refine tk3 ?_ | refine tk12 (fun _ => ?_) | refine tk4 ?_ | refine tk5 ?_ | refine tk6 ?_ | refine tk7 ?_ | refine tk8 ?_ | refine tk9 ?_ | refine tk10 (fun _ _ => ?_) | refine tk11 (fun _ => ?_) | refine tk13 ?_ | refine tk14 ?_); (conv => whnf))
      · rw [show mayB s = false by unfold mayB; rw [decide_eq_false (show ¬ s.length ≤ 64 by omega)]; simp]
        (conv => whnf); repeat ((first | refine tk1 ?_ | refine tk2 ?_ | refine tk3 ?_ | refine tk12 (fun _ => ?_) | refine tk4 ?_ | refine tk5 ?_ | refine tk6 ?_ | refine tk7 ?_ | refine tk8 ?_ | refine tk9 ?_ | refine tk10 (fun _ _ => ?_) | refine tk11 (fun _ => ?_) | refine tk13 ?_ | refine tk14 ?_); (conv => whnf))
    · rw [show mayB s = false by unfold mayB; rw [decide_eq_false (show ¬ 1 ≤ s.length by omega)]; simp]
      (conv => whnf); repeat ((first | refine tk1 ?_ | refine tk2 ?_ | refine tk3 ?_ | refine tk12 (fun _ => ?_) | refine tk4 ?_ | refine tk5 ?_ | refine tk6 ?_ | refine tk7 ?_ | refine tk8 ?_ | refine tk9 ?_ | refine tk10 (fun _ _ => ?_) | refine tk11 (fun _ => ?_) | refine tk13 ?_ | refine tk14 ?_); (conv => whnf))
theorem Marked_r (s : List UInt8) (hs : s.length ≤ 1000000000000) : Fn Tryz.prog gI 77 [str s, .int .u8 0] (str ([34] ++ s ++ [34])) := by
  refine Fn.of tys_ok Tryz.func77 rfl (by kernel_rfl) rfl rfl ?_; intro w hG
  (conv => whnf); repeat ((first | refine tk1 ?_ | refine tk2 ?_ | refine tk3 ?_ | refine tk12 (fun _ => ?_) | refine tk4 ?_ | refine tk5 ?_ | refine tk6 ?_ | refine tk7 ?_ | refine tk8 ?_ | refine tk9 ?_ | refine tk10 (fun _ _ => ?_) | refine tk11 (fun _ => ?_) | refine tk13 ?_ | refine tk14 ?_); (conv => whnf))
  refine CatS.at (by simp; omega) ?_
  (conv => whnf); repeat ((first | refine tk1 ?_ | refine tk2 ?_ | refine tk3 ?_ | refine tk12 (fun _ => ?_) | refine tk4 ?_ | refine tk5 ?_ | refine tk6 ?_ | refine tk7 ?_ | refine tk8 ?_ | refine tk9 ?_ | refine tk10 (fun _ _ => ?_) | refine tk11 (fun _ => ?_) | refine tk13 ?_ | refine tk14 ?_); (conv => whnf))
  refine CatS.at (by simp; omega) ?_
  (conv => whnf); repeat ((first | refine tk1 ?_ | refine tk2 ?_ | refine tk3 ?_ | refine tk12 (fun _ => ?_) | refine tk4 ?_ | refine tk5 ?_ | refine tk6 ?_ | refine tk7 ?_ | refine tk8 ?_ | refine tk9 ?_ | refine tk10 (fun _ _ => ?_) | refine tk11 (fun _ => ?_) | refine tk13 ?_ | refine tk14 ?_); (conv => whnf))
theorem piece_r (p : Pce) : Fn Tryz.prog gI 75 [.agg ⟨[.int .u8 p.k.toNat, str p.t, .int .i64 p.m, .bool p.f]⟩] (.bool (pieceOK p)) := by
  refine Fn.of tys_ok Tryz.func75 rfl (by kernel_rfl) rfl rfl ?_; intro w hG
  (repeat' ((conv => whnf); first | (first | refine tk1 ?_ | refine tk2 ?_ | refine tk3 ?_ | refine tk12 (fun _ => ?_) | refine tk4 ?_ | refine tk5 ?_ | refine tk6 ?_ | refine tk7 ?_ | refine tk8 ?_ | refine tk9 ?_ | refine tk10 (fun _ _ => ?_) | refine tk11 (fun _ => ?_) | refine tk13 ?_ | refine tk14 ?_) | refine Cmp.cases (fun _ => ?_) (fun _ => ?_) | refine IdxS.nat (by omega) ?_ | refine IdxS.go (by omega) (by omega) (fun _ _ _ => ?_) | refine SlcS.at (by omega) (by omega) (by omega) ?_ | refine CatS.at (by simp only [List.length_append, List.length_cons, List.length_nil]; omega) ?_ | fail)); all_goals (conv => whnf)
  all_goals (refine congrArg Value.bool ?_; unfold pieceOK; simp_all; try ((repeat' split) <;> first | omega | (simp_all; done) | (simp_all; omega)))
theorem Own_r (s : List UInt8) : Fn Tryz.prog gI 74 [str s] (.bool (ownL.contains s)) := by
  refine Fn.of tys_ok Tryz.func74 rfl (by kernel_rfl) rfl rfl ?_; intro w hG
  have key : ownL.contains s = (decide (s = clN) || (decide (s = teN) || (decide (s = coN) || (decide (s = ceN) || decide (s = etN))))) := by
    unfold ownL
    rw [Bool.eq_iff_iff]
    simp
  rw [key]
  (conv => whnf); repeat ((first | refine tk1 ?_ | refine tk2 ?_ | refine tk3 ?_ | refine tk12 (fun _ => ?_) | refine tk4 ?_ | refine tk5 ?_ | refine tk6 ?_ | refine tk7 ?_ | refine tk8 ?_ | refine tk9 ?_ | refine tk10 (fun _ _ => ?_) | refine tk11 (fun _ => ?_) | refine tk13 ?_ | refine tk14 ?_); (conv => whnf))
  refine Cmp.cases (fun c1 => ?_) (fun c1 => ?_)
  · rw [show decide (s = clN) = true from decide_eq_true c1]
    (conv => whnf); repeat ((first | refine tk1 ?_ | refine tk2 ?_ | refine tk3 ?_ | refine tk12 (fun _ => ?_) | refine tk4 ?_ | refine tk5 ?_ | refine tk6 ?_ | refine tk7 ?_ | refine tk8 ?_ | refine tk9 ?_ | refine tk10 (fun _ _ => ?_) | refine tk11 (fun _ => ?_) | refine tk13 ?_ | refine tk14 ?_); (conv => whnf))
    rfl
  rw [show decide (s = clN) = false from decide_eq_false c1]
  (conv => whnf); repeat ((first | refine tk1 ?_ | refine tk2 ?_ | refine tk3 ?_ | refine tk12 (fun _ => ?_) | refine tk4 ?_ | refine tk5 ?_ | refine tk6 ?_ | refine tk7 ?_ | refine tk8 ?_ | refine tk9 ?_ | refine tk10 (fun _ _ => ?_) | refine tk11 (fun _ => ?_) | refine tk13 ?_ | refine tk14 ?_); (conv => whnf))
  refine Cmp.cases (fun c2 => ?_) (fun c2 => ?_)
  · rw [show decide (s = teN) = true from decide_eq_true c2]
    (conv => whnf); repeat ((first | refine tk1 ?_ | refine tk2 ?_ | refine tk3 ?_ | refine tk12 (fun _ => ?_) | refine tk4 ?_ | refine tk5 ?_ | refine tk6 ?_ | refine tk7 ?_ | refine tk8 ?_ | refine tk9 ?_ | refine tk10 (fun _ _ => ?_) | refine tk11 (fun _ => ?_) | refine tk13 ?_ | refine tk14 ?_); (conv => whnf))
    rfl
  rw [show decide (s = teN) = false from decide_eq_false c2]
  (conv => whnf); repeat ((first | refine tk1 ?_ | refine tk2 ?_ | refine tk3 ?_ | refine tk12 (fun _ => ?_) | refine tk4 ?_ | refine tk5 ?_ | refine tk6 ?_ | refine tk7 ?_ | refine tk8 ?_ | refine tk9 ?_ | refine tk10 (fun _ _ => ?_) | refine tk11 (fun _ => ?_) | refine tk13 ?_ | refine tk14 ?_); (conv => whnf))
  refine Cmp.cases (fun c3 => ?_) (fun c3 => ?_)
  · rw [show decide (s = coN) = true from decide_eq_true c3]
    (conv => whnf); repeat ((first | refine tk1 ?_ | refine tk2 ?_ | refine tk3 ?_ | refine tk12 (fun _ => ?_) | refine tk4 ?_ | refine tk5 ?_ | refine tk6 ?_ | refine tk7 ?_ | refine tk8 ?_ | refine tk9 ?_ | refine tk10 (fun _ _ => ?_) | refine tk11 (fun _ => ?_) | refine tk13 ?_ | refine tk14 ?_); (conv => whnf))
    rfl
  rw [show decide (s = coN) = false from decide_eq_false c3]
  (conv => whnf); repeat ((first | refine tk1 ?_ | refine tk2 ?_ | refine tk3 ?_ | refine tk12 (fun _ => ?_) | refine tk4 ?_ | refine tk5 ?_ | refine tk6 ?_ | refine tk7 ?_ | refine tk8 ?_ | refine tk9 ?_ | refine tk10 (fun _ _ => ?_) | refine tk11 (fun _ => ?_) | refine tk13 ?_ | refine tk14 ?_); (conv => whnf))
  refine Cmp.cases (fun c4 => ?_) (fun c4 => ?_)
  · rw [show decide (s = ceN) = true from decide_eq_true c4]
    (conv => whnf); repeat ((first | refine tk1 ?_ | refine tk2 ?_ | refine tk3 ?_ | refine tk12 (fun _ => ?_) | refine tk4 ?_ | refine tk5 ?_ | refine tk6 ?_ | refine tk7 ?_ | refine tk8 ?_ | refine tk9 ?_ | refine tk10 (fun _ _ => ?_) | refine tk11 (fun _ => ?_) | refine tk13 ?_ | refine tk14 ?_); (conv => whnf))
    rfl
  rw [show decide (s = ceN) = false from decide_eq_false c4]
  (conv => whnf); repeat ((first | refine tk1 ?_ | refine tk2 ?_ | refine tk3 ?_ | refine tk12 (fun _ => ?_) | refine tk4 ?_ | refine tk5 ?_ | refine tk6 ?_ | refine tk7 ?_ | refine tk8 ?_ | refine tk9 ?_ | refine tk10 (fun _ _ => ?_) | refine tk11 (fun _ => ?_) | refine tk13 ?_ | refine tk14 ?_); (conv => whnf))
  refine Cmp.of (decide (s = etN)) (by simp; rfl) ?_
  (conv => whnf); repeat ((first | refine tk1 ?_ | refine tk2 ?_ | refine tk3 ?_ | refine tk12 (fun _ => ?_) | refine tk4 ?_ | refine tk5 ?_ | refine tk6 ?_ | refine tk7 ?_ | refine tk8 ?_ | refine tk9 ?_ | refine tk10 (fun _ _ => ?_) | refine tk11 (fun _ => ?_) | refine tk13 ?_ | refine tk14 ?_); (conv => whnf))
  rfl
end Go.Proofs.YtmdmmncoigeijaaGreatDoor.Vex
/- The document's own answer for pages, reckoned, second part: May, Check, Bytes. -/
namespace Go.Proofs.YtmdmmncoigeijaaGreatDoor.Vex
open Go Go.RowKit
set_option maxRecDepth 100000
set_option linter.unusedSectionVars false
variable {gI : GI} [HasMax gI]

theorem May27_r (m p : List UInt8) (st : Int) (FA : Option Addr) (Fc : Nat) (F : List Fld) (tag : List UInt8) (press : Bool) (QA : Option Addr) (Qc : Nat) (Q : List Pce) (hF : fsum F ≤ 1048576) (hQ : Q.length ≤ 1048576) (ht : tag.length ≤ 1048576) :
    FnR Tryz.prog gI 37 [.agg ⟨[str m, str p, .int .i64 st, .slice FA F.length Fc, str tag, .bool press, .slice QA Q.length Qc]⟩] [(FA, fcells F), (QA, pccells Q)] (.bool (pageOK st tag F Q)) := by
  have bad1 : statOK st Q.length = false → pageOK st tag F Q = false := fun h => by unfold pageOK; rw [h]; rfl
  have hFl := fsum_length F
  refine FnE.of tys_ok Tryz.func37 rfl (by kernel_rfl) rfl rfl ?_; intro w hG hP
  have hRF : ∀ H, RdA (mkC Tryz.prog gI w hG) H FA (fcells F) := fun H => ⟨hP.1.now⟩
  have hRQ : ∀ H, RdA (mkC Tryz.prog gI w hG) H QA (pccells Q) := fun H => ⟨hP.2.1.now⟩
  (conv => whnf); repeat ((first | refine tk1 ?_ | refine tk2 ?_ | refine tk3 ?_ | refine tk12 (fun _ => ?_) | refine tk4 ?_ | refine tk5 ?_ | refine tk6 ?_ | refine tk7 ?_ | refine tk8 ?_ | refine tk9 ?_ | refine tk10 (fun _ _ => ?_) | refine tk11 (fun _ => ?_) | refine tk13 ?_ | refine tk14 ?_); (conv => whnf))
  rename_i b
  refine Cmp.cases (fun c1 => ?_) (fun c1 => ?_)
  · rw [bad1 (stat_bad (by omega))]
    (conv => whnf); repeat ((first | refine tk1 ?_ | refine tk2 ?_ | refine tk3 ?_ | refine tk12 (fun _ => ?_) | refine tk4 ?_ | refine tk5 ?_ | refine tk6 ?_ | refine tk7 ?_ | refine tk8 ?_ | refine tk9 ?_ | refine tk10 (fun _ _ => ?_) | refine tk11 (fun _ => ?_) | refine tk13 ?_ | refine tk14 ?_); (conv => whnf))
    exact fun w' _ => rfl
  (conv => whnf); repeat ((first | refine tk1 ?_ | refine tk2 ?_ | refine tk3 ?_ | refine tk12 (fun _ => ?_) | refine tk4 ?_ | refine tk5 ?_ | refine tk6 ?_ | refine tk7 ?_ | refine tk8 ?_ | refine tk9 ?_ | refine tk10 (fun _ _ => ?_) | refine tk11 (fun _ => ?_) | refine tk13 ?_ | refine tk14 ?_); (conv => whnf))
  refine Cmp.cases (fun c2 => ?_) (fun c2 => ?_)
  · rw [bad1 (stat_bad (by omega))]
    (conv => whnf); repeat ((first | refine tk1 ?_ | refine tk2 ?_ | refine tk3 ?_ | refine tk12 (fun _ => ?_) | refine tk4 ?_ | refine tk5 ?_ | refine tk6 ?_ | refine tk7 ?_ | refine tk8 ?_ | refine tk9 ?_ | refine tk10 (fun _ _ => ?_) | refine tk11 (fun _ => ?_) | refine tk13 ?_ | refine tk14 ?_); (conv => whnf))
    exact fun w' _ => rfl
  (conv => whnf); repeat ((first | refine tk1 ?_ | refine tk2 ?_ | refine tk3 ?_ | refine tk12 (fun _ => ?_) | refine tk4 ?_ | refine tk5 ?_ | refine tk6 ?_ | refine tk7 ?_ | refine tk8 ?_ | refine tk9 ?_ | refine tk10 (fun _ _ => ?_) | refine tk11 (fun _ => ?_) | refine tk13 ?_ | refine tk14 ?_); (conv => whnf))
  refine Cmp.cases (fun c3 => ?_) (fun c3 => ?_)
  · rw [bad1 (stat_bad (by omega))]
    (conv => whnf); repeat ((first | refine tk1 ?_ | refine tk2 ?_ | refine tk3 ?_ | refine tk12 (fun _ => ?_) | refine tk4 ?_ | refine tk5 ?_ | refine tk6 ?_ | refine tk7 ?_ | refine tk8 ?_ | refine tk9 ?_ | refine tk10 (fun _ _ => ?_) | refine tk11 (fun _ => ?_) | refine tk13 ?_ | refine tk14 ?_); (conv => whnf))
    exact fun w' _ => rfl
  (conv => whnf); repeat ((first | refine tk1 ?_ | refine tk2 ?_ | refine tk3 ?_ | refine tk12 (fun _ => ?_) | refine tk4 ?_ | refine tk5 ?_ | refine tk6 ?_ | refine tk7 ?_ | refine tk8 ?_ | refine tk9 ?_ | refine tk10 (fun _ _ => ?_) | refine tk11 (fun _ => ?_) | refine tk13 ?_ | refine tk14 ?_); (conv => whnf))
  refine Cmp.cases (fun c4 => ?_) (fun c4 => ?_)
  · (conv => whnf); repeat ((first | refine tk1 ?_ | refine tk2 ?_ | refine tk3 ?_ | refine tk12 (fun _ => ?_) | refine tk4 ?_ | refine tk5 ?_ | refine tk6 ?_ | refine tk7 ?_ | refine tk8 ?_ | refine tk9 ?_ | refine tk10 (fun _ _ => ?_) | refine tk11 (fun _ => ?_) | refine tk13 ?_ | refine tk14 ?_); (conv => whnf))
    refine CallK.fn (May24_r tag (by omega)) ?_
    cases hm : mayB tag
    · rw [show pageOK st tag F Q = false by unfold pageOK tagOK; rw [hm, decide_eq_false c4]; simp]
      (conv => whnf); repeat ((first | refine tk1 ?_ | refine tk2 ?_ | refine tk3 ?_ | refine tk12 (fun _ => ?_) | refine tk4 ?_ | refine tk5 ?_ | refine tk6 ?_ | refine tk7 ?_ | refine tk8 ?_ | refine tk9 ?_ | refine tk10 (fun _ _ => ?_) | refine tk11 (fun _ => ?_) | refine tk13 ?_ | refine tk14 ?_); (conv => whnf))
      exact fun w' _ => rfl
    · have hto : tagOK tag = true := by unfold tagOK; rw [hm]; simp
      clear hm c4
      (conv => whnf); repeat ((first | refine tk1 ?_ | refine tk2 ?_ | refine tk3 ?_ | refine tk12 (fun _ => ?_) | refine tk4 ?_ | refine tk5 ?_ | refine tk6 ?_ | refine tk7 ?_ | refine tk8 ?_ | refine tk9 ?_ | refine tk10 (fun _ _ => ?_) | refine tk11 (fun _ => ?_) | refine tk13 ?_ | refine tk14 ?_); (conv => whnf))
      refine LoopS.lp tys_ok (fun (k : Nat) u => [u 0, .pointer (some ⟨b, 0, none⟩), u 2, .int .i64 (k : Nat), u 4, u 5, u 6, u 7, u 8, u 9, u 10, u 11, u 12, u 13, u 14, u 15, u 16, u 17, u 18, u 19, u 20, u 21, u 22, u 23, u 24, u 25, u 26, u 27, u 28, u 29, u 30, u 31, u 32, u 33, u 34, u 35, u 36, u 37, u 38, u 39, u 40, u 41, u 42, u 43, u 44, u 45, u 46, u 47, u 48, u 49, u 50, u 51, u 52, u 53, u 54, u 55, u 56, u 57, u 58, u 59, u 60, u 61, u 62, u 63, u 64, u 65, u 66, u 67, u 68, u 69, u 70, u 71, u 72, u 73, u 74, u 75, u 76, u 77, u 78, u 79, u 80]) (fun _ => [.box b [str m, str p, .int .i64 st, .slice FA F.length Fc, str tag, .bool press, .slice QA Q.length Qc] 25])
        (fun k => k ≤ F.length ∧ (F.take k).all fldOK = true) (fun k => F.length - k) 0 ⟨Nat.zero_le _, rfl⟩ rfl (by repeat' (first | exact List.Sublist.refl _ | exact List.nil_sublist _ | apply List.Sublist.cons_cons | apply List.Sublist.cons)) ?_
      rintro k u ⟨hk, hI⟩
      (conv => whnf); repeat ((first | refine tk1 ?_ | refine tk2 ?_ | refine tk3 ?_ | refine tk12 (fun _ => ?_) | refine tk4 ?_ | refine tk5 ?_ | refine tk6 ?_ | refine tk7 ?_ | refine tk8 ?_ | refine tk9 ?_ | refine tk10 (fun _ _ => ?_) | refine tk11 (fun _ => ?_) | refine tk13 ?_ | refine tk14 ?_); (conv => whnf))
      refine Cmp.cases (fun hlt => ?_) (fun hlt => ?_)
      · have hlt' : k < F.length := by omega
        have hsn := all_snoc_take fldOK F k hlt' hI
        have h2 := fcells_two F k hlt'
        have h3 := fcells_0 F k hlt'
        have hm9 := List.getElem_mem hlt'
        obtain ⟨n, v, hf⟩ : ∃ n v, F[k] = (n, v) := ⟨_, _, rfl⟩
        rw [hf] at hsn h2 hm9 h3
        have badf : fldOK (n, v) = false → pageOK st tag F Q = false := fun h => by unfold pageOK; rw [all_bad hm9 h]; simp
        (conv => whnf); repeat ((first | refine tk1 ?_ | refine tk2 ?_ | refine tk3 ?_ | refine tk12 (fun _ => ?_) | refine tk4 ?_ | refine tk5 ?_ | refine tk6 ?_ | refine tk7 ?_ | refine tk8 ?_ | refine tk9 ?_ | refine tk10 (fun _ _ => ?_) | refine tk11 (fun _ => ?_) | refine tk13 ?_ | refine tk14 ?_); (conv => whnf))
        refine IdxA.tc (by rw [fcells_length]; omega) (by omega) (by omega) ?_
        (conv => whnf); repeat ((first | refine tk1 ?_ | refine tk2 ?_ | refine tk3 ?_ | refine tk12 (fun _ => ?_) | refine tk4 ?_ | refine tk5 ?_ | refine tk6 ?_ | refine tk7 ?_ | refine tk8 ?_ | refine tk9 ?_ | refine tk10 (fun _ _ => ?_) | refine tk11 (fun _ => ?_) | refine tk13 ?_ | refine tk14 ?_); (conv => whnf))
        refine Ld.taN h2 rfl ?_
        (conv => whnf); repeat ((first | refine tk1 ?_ | refine tk2 ?_ | refine tk3 ?_ | refine tk12 (fun _ => ?_) | refine tk4 ?_ | refine tk5 ?_ | refine tk6 ?_ | refine tk7 ?_ | refine tk8 ?_ | refine tk9 ?_ | refine tk10 (fun _ _ => ?_) | refine tk11 (fun _ => ?_) | refine tk13 ?_ | refine tk14 ?_); (conv => whnf))
        refine CallK.fn (May_r n v) ?_
        cases hfo : fieldOK n v
        · rw [badf (by unfold fldOK; rw [hfo]; rfl)]
          (conv => whnf); repeat ((first | refine tk1 ?_ | refine tk2 ?_ | refine tk3 ?_ | refine tk12 (fun _ => ?_) | refine tk4 ?_ | refine tk5 ?_ | refine tk6 ?_ | refine tk7 ?_ | refine tk8 ?_ | refine tk9 ?_ | refine tk10 (fun _ _ => ?_) | refine tk11 (fun _ => ?_) | refine tk13 ?_ | refine tk14 ?_); (conv => whnf))
          exact fun w' _ => rfl
        · (conv => whnf); repeat ((first | refine tk1 ?_ | refine tk2 ?_ | refine tk3 ?_ | refine tk12 (fun _ => ?_) | refine tk4 ?_ | refine tk5 ?_ | refine tk6 ?_ | refine tk7 ?_ | refine tk8 ?_ | refine tk9 ?_ | refine tk10 (fun _ _ => ?_) | refine tk11 (fun _ => ?_) | refine tk13 ?_ | refine tk14 ?_); (conv => whnf))
          refine IdxA.tc (by rw [fcells_length]; omega) (by omega) (by omega) ?_
          (conv => whnf); repeat ((first | refine tk1 ?_ | refine tk2 ?_ | refine tk3 ?_ | refine tk12 (fun _ => ?_) | refine tk4 ?_ | refine tk5 ?_ | refine tk6 ?_ | refine tk7 ?_ | refine tk8 ?_ | refine tk9 ?_ | refine tk10 (fun _ _ => ?_) | refine tk11 (fun _ => ?_) | refine tk13 ?_ | refine tk14 ?_); (conv => whnf))
          refine Ld.taF (v := str n) h3 ?_
          (conv => whnf); repeat ((first | refine tk1 ?_ | refine tk2 ?_ | refine tk3 ?_ | refine tk12 (fun _ => ?_) | refine tk4 ?_ | refine tk5 ?_ | refine tk6 ?_ | refine tk7 ?_ | refine tk8 ?_ | refine tk9 ?_ | refine tk10 (fun _ _ => ?_) | refine tk11 (fun _ => ?_) | refine tk13 ?_ | refine tk14 ?_); (conv => whnf))
          refine CallK.fn (Own_r n) ?_
          cases hc : ownL.contains n
          · rw [show fldOK (n, v) = true by unfold fldOK; rw [hfo, hc]; rfl] at hsn
            (conv => whnf); repeat ((first | refine tk1 ?_ | refine tk2 ?_ | refine tk3 ?_ | refine tk12 (fun _ => ?_) | refine tk4 ?_ | refine tk5 ?_ | refine tk6 ?_ | refine tk7 ?_ | refine tk8 ?_ | refine tk9 ?_ | refine tk10 (fun _ _ => ?_) | refine tk11 (fun _ => ?_) | refine tk13 ?_ | refine tk14 ?_); (conv => whnf))
            exact ⟨k + 1, ⟨by omega, hsn⟩, rfl, (by repeat' (first | exact List.Sublist.refl _ | exact List.nil_sublist _ | apply List.Sublist.cons_cons | apply List.Sublist.cons)), by dsimp only; omega⟩
          · rw [badf (by unfold fldOK; rw [hc]; simp)]
            (conv => whnf); repeat ((first | refine tk1 ?_ | refine tk2 ?_ | refine tk3 ?_ | refine tk12 (fun _ => ?_) | refine tk4 ?_ | refine tk5 ?_ | refine tk6 ?_ | refine tk7 ?_ | refine tk8 ?_ | refine tk9 ?_ | refine tk10 (fun _ _ => ?_) | refine tk11 (fun _ => ?_) | refine tk13 ?_ | refine tk14 ?_); (conv => whnf))
            exact fun w' _ => rfl
      have hFok : F.all fldOK = true := by rw [List.take_of_length_le (by omega)] at hI; exact hI
      clear hI hlt hk
      (conv => whnf); repeat ((first | refine tk1 ?_ | refine tk2 ?_ | refine tk3 ?_ | refine tk12 (fun _ => ?_) | refine tk4 ?_ | refine tk5 ?_ | refine tk6 ?_ | refine tk7 ?_ | refine tk8 ?_ | refine tk9 ?_ | refine tk10 (fun _ _ => ?_) | refine tk11 (fun _ => ?_) | refine tk13 ?_ | refine tk14 ?_); (conv => whnf))
      refine LoopS.lp tys_ok (fun (k : Nat) u => [u 0, .pointer (some ⟨b, 0, none⟩), u 2, u 3, .int .i64 (k : Nat), u 5, u 6, u 7, u 8, u 9, u 10, u 11, u 12, u 13, u 14, u 15, u 16, u 17, u 18, u 19, u 20, u 21, u 22, u 23, u 24, u 25, u 26, u 27, u 28, u 29, u 30, u 31, u 32, u 33, u 34, u 35, u 36, u 37, u 38, u 39, u 40, u 41, u 42, u 43, u 44, u 45, u 46, u 47, u 48, u 49, u 50, u 51, u 52, u 53, u 54, u 55, u 56, u 57, u 58, u 59, u 60, u 61, u 62, u 63, u 64, u 65, u 66, u 67, u 68, u 69, u 70, u 71, u 72, u 73, u 74, u 75, u 76, u 77, u 78, u 79, u 80]) (fun _ => [.box b [str m, str p, .int .i64 st, .slice FA F.length Fc, str tag, .bool press, .slice QA Q.length Qc] 25])
        (fun k => k ≤ Q.length ∧ (Q.take k).all pieceOK = true) (fun k => Q.length - k) 0 ⟨Nat.zero_le _, rfl⟩ rfl (by repeat' (first | exact List.Sublist.refl _ | exact List.nil_sublist _ | apply List.Sublist.cons_cons | apply List.Sublist.cons)) ?_
      rintro k u ⟨hk, hI⟩
      (conv => whnf); repeat ((first | refine tk1 ?_ | refine tk2 ?_ | refine tk3 ?_ | refine tk12 (fun _ => ?_) | refine tk4 ?_ | refine tk5 ?_ | refine tk6 ?_ | refine tk7 ?_ | refine tk8 ?_ | refine tk9 ?_ | refine tk10 (fun _ _ => ?_) | refine tk11 (fun _ => ?_) | refine tk13 ?_ | refine tk14 ?_); (conv => whnf))
      refine Cmp.cases (fun hlt => ?_) (fun hlt => ?_)
      · have hlt' : k < Q.length := by omega
        have hsn := all_snoc_take pieceOK Q k hlt' hI
        have h4 := (pccells_at Q k hlt').1
        have hm9 := List.getElem_mem hlt'
        obtain ⟨x, hx⟩ : ∃ x, Q[k] = x := ⟨_, rfl⟩
        rw [hx] at hsn h4 hm9
        (conv => whnf); repeat ((first | refine tk1 ?_ | refine tk2 ?_ | refine tk3 ?_ | refine tk12 (fun _ => ?_) | refine tk4 ?_ | refine tk5 ?_ | refine tk6 ?_ | refine tk7 ?_ | refine tk8 ?_ | refine tk9 ?_ | refine tk10 (fun _ _ => ?_) | refine tk11 (fun _ => ?_) | refine tk13 ?_ | refine tk14 ?_); (conv => whnf))
        refine IdxA.tc (by rw [pccells_length]; omega) (by omega) (by omega) ?_
        (conv => whnf); repeat ((first | refine tk1 ?_ | refine tk2 ?_ | refine tk3 ?_ | refine tk12 (fun _ => ?_) | refine tk4 ?_ | refine tk5 ?_ | refine tk6 ?_ | refine tk7 ?_ | refine tk8 ?_ | refine tk9 ?_ | refine tk10 (fun _ _ => ?_) | refine tk11 (fun _ => ?_) | refine tk13 ?_ | refine tk14 ?_); (conv => whnf))
        refine Ld.taN h4 rfl ?_
        (conv => whnf); repeat ((first | refine tk1 ?_ | refine tk2 ?_ | refine tk3 ?_ | refine tk12 (fun _ => ?_) | refine tk4 ?_ | refine tk5 ?_ | refine tk6 ?_ | refine tk7 ?_ | refine tk8 ?_ | refine tk9 ?_ | refine tk10 (fun _ _ => ?_) | refine tk11 (fun _ => ?_) | refine tk13 ?_ | refine tk14 ?_); (conv => whnf))
        refine CallK.fn (piece_r x) ?_
        cases hxo : pieceOK x
        · rw [show pageOK st tag F Q = false by unfold pageOK; rw [all_bad hm9 hxo]; simp]
          (conv => whnf); repeat ((first | refine tk1 ?_ | refine tk2 ?_ | refine tk3 ?_ | refine tk12 (fun _ => ?_) | refine tk4 ?_ | refine tk5 ?_ | refine tk6 ?_ | refine tk7 ?_ | refine tk8 ?_ | refine tk9 ?_ | refine tk10 (fun _ _ => ?_) | refine tk11 (fun _ => ?_) | refine tk13 ?_ | refine tk14 ?_); (conv => whnf))
          exact fun w' _ => rfl
        · rw [hxo] at hsn
          (conv => whnf); repeat ((first | refine tk1 ?_ | refine tk2 ?_ | refine tk3 ?_ | refine tk12 (fun _ => ?_) | refine tk4 ?_ | refine tk5 ?_ | refine tk6 ?_ | refine tk7 ?_ | refine tk8 ?_ | refine tk9 ?_ | refine tk10 (fun _ _ => ?_) | refine tk11 (fun _ => ?_) | refine tk13 ?_ | refine tk14 ?_); (conv => whnf))
          exact ⟨k + 1, ⟨by omega, hsn⟩, rfl, (by repeat' (first | exact List.Sublist.refl _ | exact List.nil_sublist _ | apply List.Sublist.cons_cons | apply List.Sublist.cons)), by dsimp only; omega⟩
      · have hQok : Q.all pieceOK = true := by rw [List.take_of_length_le (by omega)] at hI; exact hI
        have hrest : pageOK st tag F Q = statOK st Q.length := by unfold pageOK; rw [hFok, hto, hQok]; simp
        clear hI hlt hk
        rw [hrest]
        (conv => whnf); repeat ((first | refine tk1 ?_ | refine tk2 ?_ | refine tk3 ?_ | refine tk12 (fun _ => ?_) | refine tk4 ?_ | refine tk5 ?_ | refine tk6 ?_ | refine tk7 ?_ | refine tk8 ?_ | refine tk9 ?_ | refine tk10 (fun _ _ => ?_) | refine tk11 (fun _ => ?_) | refine tk13 ?_ | refine tk14 ?_); (conv => whnf))
        refine Cmp.cases (fun d1 => ?_) (fun d1 => ?_)
        · (conv => whnf); repeat ((first | refine tk1 ?_ | refine tk2 ?_ | refine tk3 ?_ | refine tk12 (fun _ => ?_) | refine tk4 ?_ | refine tk5 ?_ | refine tk6 ?_ | refine tk7 ?_ | refine tk8 ?_ | refine tk9 ?_ | refine tk10 (fun _ _ => ?_) | refine tk11 (fun _ => ?_) | refine tk13 ?_ | refine tk14 ?_); (conv => whnf))
          refine Cmp.cases (fun d2 => ?_) (fun d2 => ?_)
          · rw [stat_good (n := Q.length) c1 (by omega) c3 (by omega) (by omega)]
            (conv => whnf); repeat ((first | refine tk1 ?_ | refine tk2 ?_ | refine tk3 ?_ | refine tk12 (fun _ => ?_) | refine tk4 ?_ | refine tk5 ?_ | refine tk6 ?_ | refine tk7 ?_ | refine tk8 ?_ | refine tk9 ?_ | refine tk10 (fun _ _ => ?_) | refine tk11 (fun _ => ?_) | refine tk13 ?_ | refine tk14 ?_); (conv => whnf))
            exact fun w' _ => rfl
          · (conv => whnf); repeat ((first | refine tk1 ?_ | refine tk2 ?_ | refine tk3 ?_ | refine tk12 (fun _ => ?_) | refine tk4 ?_ | refine tk5 ?_ | refine tk6 ?_ | refine tk7 ?_ | refine tk8 ?_ | refine tk9 ?_ | refine tk10 (fun _ _ => ?_) | refine tk11 (fun _ => ?_) | refine tk13 ?_ | refine tk14 ?_); (conv => whnf))
            refine Cmp.cases (fun d3 => ?_) (fun d3 => ?_)
            · rw [stat_good (n := Q.length) c1 (by omega) c3 (by omega) (by omega)]
              (conv => whnf); repeat ((first | refine tk1 ?_ | refine tk2 ?_ | refine tk3 ?_ | refine tk12 (fun _ => ?_) | refine tk4 ?_ | refine tk5 ?_ | refine tk6 ?_ | refine tk7 ?_ | refine tk8 ?_ | refine tk9 ?_ | refine tk10 (fun _ _ => ?_) | refine tk11 (fun _ => ?_) | refine tk13 ?_ | refine tk14 ?_); (conv => whnf))
              exact fun w' _ => rfl
            · rw [stat_bad (by omega)]
              (conv => whnf); repeat ((first | refine tk1 ?_ | refine tk2 ?_ | refine tk3 ?_ | refine tk12 (fun _ => ?_) | refine tk4 ?_ | refine tk5 ?_ | refine tk6 ?_ | refine tk7 ?_ | refine tk8 ?_ | refine tk9 ?_ | refine tk10 (fun _ _ => ?_) | refine tk11 (fun _ => ?_) | refine tk13 ?_ | refine tk14 ?_); (conv => whnf))
              exact fun w' _ => rfl
        · rw [stat_bad (by omega)]
          (conv => whnf); repeat ((first | refine tk1 ?_ | refine tk2 ?_ | refine tk3 ?_ | refine tk12 (fun _ => ?_) | refine tk4 ?_ | refine tk5 ?_ | refine tk6 ?_ | refine tk7 ?_ | refine tk8 ?_ | refine tk9 ?_ | refine tk10 (fun _ _ => ?_) | refine tk11 (fun _ => ?_) | refine tk13 ?_ | refine tk14 ?_); (conv => whnf))
          exact fun w' _ => rfl
  · have hto : tagOK tag = true := by unfold tagOK; rw [decide_eq_true (Classical.not_not.1 c4)]; rfl
    clear c4
    (conv => whnf); repeat ((first | refine tk1 ?_ | refine tk2 ?_ | refine tk3 ?_ | refine tk12 (fun _ => ?_) | refine tk4 ?_ | refine tk5 ?_ | refine tk6 ?_ | refine tk7 ?_ | refine tk8 ?_ | refine tk9 ?_ | refine tk10 (fun _ _ => ?_) | refine tk11 (fun _ => ?_) | refine tk13 ?_ | refine tk14 ?_); (conv => whnf))
    refine LoopS.lp tys_ok (fun (k : Nat) u => [u 0, .pointer (some ⟨b, 0, none⟩), u 2, .int .i64 (k : Nat), u 4, u 5, u 6, u 7, u 8, u 9, u 10, u 11, u 12, u 13, u 14, u 15, u 16, u 17, u 18, u 19, u 20, u 21, u 22, u 23, u 24, u 25, u 26, u 27, u 28, u 29, u 30, u 31, u 32, u 33, u 34, u 35, u 36, u 37, u 38, u 39, u 40, u 41, u 42, u 43, u 44, u 45, u 46, u 47, u 48, u 49, u 50, u 51, u 52, u 53, u 54, u 55, u 56, u 57, u 58, u 59, u 60, u 61, u 62, u 63, u 64, u 65, u 66, u 67, u 68, u 69, u 70, u 71, u 72, u 73, u 74, u 75, u 76, u 77, u 78, u 79, u 80]) (fun _ => [.box b [str m, str p, .int .i64 st, .slice FA F.length Fc, str tag, .bool press, .slice QA Q.length Qc] 25])
      (fun k => k ≤ F.length ∧ (F.take k).all fldOK = true) (fun k => F.length - k) 0 ⟨Nat.zero_le _, rfl⟩ rfl (by repeat' (first | exact List.Sublist.refl _ | exact List.nil_sublist _ | apply List.Sublist.cons_cons | apply List.Sublist.cons)) ?_
    rintro k u ⟨hk, hI⟩
    (conv => whnf); repeat ((first | refine tk1 ?_ | refine tk2 ?_ | refine tk3 ?_ | refine tk12 (fun _ => ?_) | refine tk4 ?_ | refine tk5 ?_ | refine tk6 ?_ | refine tk7 ?_ | refine tk8 ?_ | refine tk9 ?_ | refine tk10 (fun _ _ => ?_) | refine tk11 (fun _ => ?_) | refine tk13 ?_ | refine tk14 ?_); (conv => whnf))
    refine Cmp.cases (fun hlt => ?_) (fun hlt => ?_)
    · have hlt' : k < F.length := by omega
      have hsn := all_snoc_take fldOK F k hlt' hI
      have h2 := fcells_two F k hlt'
      have h3 := fcells_0 F k hlt'
      have hm9 := List.getElem_mem hlt'
      obtain ⟨n, v, hf⟩ : ∃ n v, F[k] = (n, v) := ⟨_, _, rfl⟩
      rw [hf] at hsn h2 hm9 h3
      have badf : fldOK (n, v) = false → pageOK st tag F Q = false := fun h => by unfold pageOK; rw [all_bad hm9 h]; simp
      (conv => whnf); repeat ((first | refine tk1 ?_ | refine tk2 ?_ | refine tk3 ?_ | refine tk12 (fun _ => ?_) | refine tk4 ?_ | refine tk5 ?_ | refine tk6 ?_ | refine tk7 ?_ | refine tk8 ?_ | refine tk9 ?_ | refine tk10 (fun _ _ => ?_) | refine tk11 (fun _ => ?_) | refine tk13 ?_ | refine tk14 ?_); (conv => whnf))
      refine IdxA.tc (by rw [fcells_length]; omega) (by omega) (by omega) ?_
      (conv => whnf); repeat ((first | refine tk1 ?_ | refine tk2 ?_ | refine tk3 ?_ | refine tk12 (fun _ => ?_) | refine tk4 ?_ | refine tk5 ?_ | refine tk6 ?_ | refine tk7 ?_ | refine tk8 ?_ | refine tk9 ?_ | refine tk10 (fun _ _ => ?_) | refine tk11 (fun _ => ?_) | refine tk13 ?_ | refine tk14 ?_); (conv => whnf))
      refine Ld.taN h2 rfl ?_
      (conv => whnf); repeat ((first | refine tk1 ?_ | refine tk2 ?_ | refine tk3 ?_ | refine tk12 (fun _ => ?_) | refine tk4 ?_ | refine tk5 ?_ | refine tk6 ?_ | refine tk7 ?_ | refine tk8 ?_ | refine tk9 ?_ | refine tk10 (fun _ _ => ?_) | refine tk11 (fun _ => ?_) | refine tk13 ?_ | refine tk14 ?_); (conv => whnf))
      refine CallK.fn (May_r n v) ?_
      cases hfo : fieldOK n v
      · rw [badf (by unfold fldOK; rw [hfo]; rfl)]
        (conv => whnf); repeat ((first | refine tk1 ?_ | refine tk2 ?_ | refine tk3 ?_ | refine tk12 (fun _ => ?_) | refine tk4 ?_ | refine tk5 ?_ | refine tk6 ?_ | refine tk7 ?_ | refine tk8 ?_ | refine tk9 ?_ | refine tk10 (fun _ _ => ?_) | refine tk11 (fun _ => ?_) | refine tk13 ?_ | refine tk14 ?_); (conv => whnf))
        exact fun w' _ => rfl
      · (conv => whnf); repeat ((first | refine tk1 ?_ | refine tk2 ?_ | refine tk3 ?_ | refine tk12 (fun _ => ?_) | refine tk4 ?_ | refine tk5 ?_ | refine tk6 ?_ | refine tk7 ?_ | refine tk8 ?_ | refine tk9 ?_ | refine tk10 (fun _ _ => ?_) | refine tk11 (fun _ => ?_) | refine tk13 ?_ | refine tk14 ?_); (conv => whnf))
        refine IdxA.tc (by rw [fcells_length]; omega) (by omega) (by omega) ?_
        (conv => whnf); repeat ((first | refine tk1 ?_ | refine tk2 ?_ | refine tk3 ?_ | refine tk12 (fun _ => ?_) | refine tk4 ?_ | refine tk5 ?_ | refine tk6 ?_ | refine tk7 ?_ | refine tk8 ?_ | refine tk9 ?_ | refine tk10 (fun _ _ => ?_) | refine tk11 (fun _ => ?_) | refine tk13 ?_ | refine tk14 ?_); (conv => whnf))
        refine Ld.taF (v := str n) h3 ?_
        (conv => whnf); repeat ((first | refine tk1 ?_ | refine tk2 ?_ | refine tk3 ?_ | refine tk12 (fun _ => ?_) | refine tk4 ?_ | refine tk5 ?_ | refine tk6 ?_ | refine tk7 ?_ | refine tk8 ?_ | refine tk9 ?_ | refine tk10 (fun _ _ => ?_) | refine tk11 (fun _ => ?_) | refine tk13 ?_ | refine tk14 ?_); (conv => whnf))
        refine CallK.fn (Own_r n) ?_
        cases hc : ownL.contains n
        · rw [show fldOK (n, v) = true by unfold fldOK; rw [hfo, hc]; rfl] at hsn
          (conv => whnf); repeat ((first | refine tk1 ?_ | refine tk2 ?_ | refine tk3 ?_ | refine tk12 (fun _ => ?_) | refine tk4 ?_ | refine tk5 ?_ | refine tk6 ?_ | refine tk7 ?_ | refine tk8 ?_ | refine tk9 ?_ | refine tk10 (fun _ _ => ?_) | refine tk11 (fun _ => ?_) | refine tk13 ?_ | refine tk14 ?_); (conv => whnf))
          exact ⟨k + 1, ⟨by omega, hsn⟩, rfl, (by repeat' (first | exact List.Sublist.refl _ | exact List.nil_sublist _ | apply List.Sublist.cons_cons | apply List.Sublist.cons)), by dsimp only; omega⟩
        · rw [badf (by unfold fldOK; rw [hc]; simp)]
          (conv => whnf); repeat ((first | refine tk1 ?_ | refine tk2 ?_ | refine tk3 ?_ | refine tk12 (fun _ => ?_) | refine tk4 ?_ | refine tk5 ?_ | refine tk6 ?_ | refine tk7 ?_ | refine tk8 ?_ | refine tk9 ?_ | refine tk10 (fun _ _ => ?_) | refine tk11 (fun _ => ?_) | refine tk13 ?_ | refine tk14 ?_); (conv => whnf))
          exact fun w' _ => rfl
    have hFok : F.all fldOK = true := by rw [List.take_of_length_le (by omega)] at hI; exact hI
    clear hI hlt hk
    (conv => whnf); repeat ((first | refine tk1 ?_ | refine tk2 ?_ | refine tk3 ?_ | refine tk12 (fun _ => ?_) | refine tk4 ?_ | refine tk5 ?_ | refine tk6 ?_ | refine tk7 ?_ | refine tk8 ?_ | refine tk9 ?_ | refine tk10 (fun _ _ => ?_) | refine tk11 (fun _ => ?_) | refine tk13 ?_ | refine tk14 ?_); (conv => whnf))
    refine LoopS.lp tys_ok (fun (k : Nat) u => [u 0, .pointer (some ⟨b, 0, none⟩), u 2, u 3, .int .i64 (k : Nat), u 5, u 6, u 7, u 8, u 9, u 10, u 11, u 12, u 13, u 14, u 15, u 16, u 17, u 18, u 19, u 20, u 21, u 22, u 23, u 24, u 25, u 26, u 27, u 28, u 29, u 30, u 31, u 32, u 33, u 34, u 35, u 36, u 37, u 38, u 39, u 40, u 41, u 42, u 43, u 44, u 45, u 46, u 47, u 48, u 49, u 50, u 51, u 52, u 53, u 54, u 55, u 56, u 57, u 58, u 59, u 60, u 61, u 62, u 63, u 64, u 65, u 66, u 67, u 68, u 69, u 70, u 71, u 72, u 73, u 74, u 75, u 76, u 77, u 78, u 79, u 80]) (fun _ => [.box b [str m, str p, .int .i64 st, .slice FA F.length Fc, str tag, .bool press, .slice QA Q.length Qc] 25])
      (fun k => k ≤ Q.length ∧ (Q.take k).all pieceOK = true) (fun k => Q.length - k) 0 ⟨Nat.zero_le _, rfl⟩ rfl (by repeat' (first | exact List.Sublist.refl _ | exact List.nil_sublist _ | apply List.Sublist.cons_cons | apply List.Sublist.cons)) ?_
    rintro k u ⟨hk, hI⟩
    (conv => whnf); repeat ((first | refine tk1 ?_ | refine tk2 ?_ | refine tk3 ?_ | refine tk12 (fun _ => ?_) | refine tk4 ?_ | refine tk5 ?_ | refine tk6 ?_ | refine tk7 ?_ | refine tk8 ?_ | refine tk9 ?_ | refine tk10 (fun _ _ => ?_) | refine tk11 (fun _ => ?_) | refine tk13 ?_ | refine tk14 ?_); (conv => whnf))
    refine Cmp.cases (fun hlt => ?_) (fun hlt => ?_)
    · have hlt' : k < Q.length := by omega
      have hsn := all_snoc_take pieceOK Q k hlt' hI
      have h4 := (pccells_at Q k hlt').1
      have hm9 := List.getElem_mem hlt'
      obtain ⟨x, hx⟩ : ∃ x, Q[k] = x := ⟨_, rfl⟩
      rw [hx] at hsn h4 hm9
      (conv => whnf); repeat ((first | refine tk1 ?_ | refine tk2 ?_ | refine tk3 ?_ | refine tk12 (fun _ => ?_) | refine tk4 ?_ | refine tk5 ?_ | refine tk6 ?_ | refine tk7 ?_ | refine tk8 ?_ | refine tk9 ?_ | refine tk10 (fun _ _ => ?_) | refine tk11 (fun _ => ?_) | refine tk13 ?_ | refine tk14 ?_); (conv => whnf))
      refine IdxA.tc (by rw [pccells_length]; omega) (by omega) (by omega) ?_
      (conv => whnf); repeat ((first | refine tk1 ?_ | refine tk2 ?_ | refine tk3 ?_ | refine tk12 (fun _ => ?_) | refine tk4 ?_ | refine tk5 ?_ | refine tk6 ?_ | refine tk7 ?_ | refine tk8 ?_ | refine tk9 ?_ | refine tk10 (fun _ _ => ?_) | refine tk11 (fun _ => ?_) | refine tk13 ?_ | refine tk14 ?_); (conv => whnf))
      refine Ld.taN h4 rfl ?_
      (conv => whnf); repeat ((first | refine tk1 ?_ | refine tk2 ?_ | refine tk3 ?_ | refine tk12 (fun _ => ?_) | refine tk4 ?_ | refine tk5 ?_ | refine tk6 ?_ | refine tk7 ?_ | refine tk8 ?_ | refine tk9 ?_ | refine tk10 (fun _ _ => ?_) | refine tk11 (fun _ => ?_) | refine tk13 ?_ | refine tk14 ?_); (conv => whnf))
      refine CallK.fn (piece_r x) ?_
      cases hxo : pieceOK x
      · rw [show pageOK st tag F Q = false by unfold pageOK; rw [all_bad hm9 hxo]; simp]
        (conv => whnf); repeat ((first | refine tk1 ?_ | refine tk2 ?_ | refine tk3 ?_ | refine tk12 (fun _ => ?_) | refine tk4 ?_ | refine tk5 ?_ | refine tk6 ?_ | refine tk7 ?_ | refine tk8 ?_ | refine tk9 ?_ | refine tk10 (fun _ _ => ?_) | refine tk11 (fun _ => ?_) | refine tk13 ?_ | refine tk14 ?_); (conv => whnf))
        exact fun w' _ => rfl
      · rw [hxo] at hsn
        (conv => whnf); repeat ((first | refine tk1 ?_ | refine tk2 ?_ | refine tk3 ?_ | refine tk12 (fun _ => ?_) | refine tk4 ?_ | refine tk5 ?_ | refine tk6 ?_ | refine tk7 ?_ | refine tk8 ?_ | refine tk9 ?_ | refine tk10 (fun _ _ => ?_) | refine tk11 (fun _ => ?_) | refine tk13 ?_ | refine tk14 ?_); (conv => whnf))
        exact ⟨k + 1, ⟨by omega, hsn⟩, rfl, (by repeat' (first | exact List.Sublist.refl _ | exact List.nil_sublist _ | apply List.Sublist.cons_cons | apply List.Sublist.cons)), by dsimp only; omega⟩
    · have hQok : Q.all pieceOK = true := by rw [List.take_of_length_le (by omega)] at hI; exact hI
      have hrest : pageOK st tag F Q = statOK st Q.length := by unfold pageOK; rw [hFok, hto, hQok]; simp
      clear hI hlt hk
      rw [hrest]
      (conv => whnf); repeat ((first | refine tk1 ?_ | refine tk2 ?_ | refine tk3 ?_ | refine tk12 (fun _ => ?_) | refine tk4 ?_ | refine tk5 ?_ | refine tk6 ?_ | refine tk7 ?_ | refine tk8 ?_ | refine tk9 ?_ | refine tk10 (fun _ _ => ?_) | refine tk11 (fun _ => ?_) | refine tk13 ?_ | refine tk14 ?_); (conv => whnf))
      refine Cmp.cases (fun d1 => ?_) (fun d1 => ?_)
      · (conv => whnf); repeat ((first | refine tk1 ?_ | refine tk2 ?_ | refine tk3 ?_ | refine tk12 (fun _ => ?_) | refine tk4 ?_ | refine tk5 ?_ | refine tk6 ?_ | refine tk7 ?_ | refine tk8 ?_ | refine tk9 ?_ | refine tk10 (fun _ _ => ?_) | refine tk11 (fun _ => ?_) | refine tk13 ?_ | refine tk14 ?_); (conv => whnf))
        refine Cmp.cases (fun d2 => ?_) (fun d2 => ?_)
        · rw [stat_good (n := Q.length) c1 (by omega) c3 (by omega) (by omega)]
          (conv => whnf); repeat ((first | refine tk1 ?_ | refine tk2 ?_ | refine tk3 ?_ | refine tk12 (fun _ => ?_) | refine tk4 ?_ | refine tk5 ?_ | refine tk6 ?_ | refine tk7 ?_ | refine tk8 ?_ | refine tk9 ?_ | refine tk10 (fun _ _ => ?_) | refine tk11 (fun _ => ?_) | refine tk13 ?_ | refine tk14 ?_); (conv => whnf))
          exact fun w' _ => rfl
        · (conv => whnf); repeat ((first | refine tk1 ?_ | refine tk2 ?_ | refine tk3 ?_ | refine tk12 (fun _ => ?_) | refine tk4 ?_ | refine tk5 ?_ | refine tk6 ?_ | refine tk7 ?_ | refine tk8 ?_ | refine tk9 ?_ | refine tk10 (fun _ _ => ?_) | refine tk11 (fun _ => ?_) | refine tk13 ?_ | refine tk14 ?_); (conv => whnf))
          refine Cmp.cases (fun d3 => ?_) (fun d3 => ?_)
          · rw [stat_good (n := Q.length) c1 (by omega) c3 (by omega) (by omega)]
            (conv => whnf); repeat ((first | refine tk1 ?_ | refine tk2 ?_ | refine tk3 ?_ | refine tk12 (fun _ => ?_) | refine tk4 ?_ | refine tk5 ?_ | refine tk6 ?_ | refine tk7 ?_ | refine tk8 ?_ | refine tk9 ?_ | refine tk10 (fun _ _ => ?_) | refine tk11 (fun _ => ?_) | refine tk13 ?_ | refine tk14 ?_); (conv => whnf))
            exact fun w' _ => rfl
          · rw [stat_bad (by omega)]
            (conv => whnf); repeat ((first | refine tk1 ?_ | refine tk2 ?_ | refine tk3 ?_ | refine tk12 (fun _ => ?_) | refine tk4 ?_ | refine tk5 ?_ | refine tk6 ?_ | refine tk7 ?_ | refine tk8 ?_ | refine tk9 ?_ | refine tk10 (fun _ _ => ?_) | refine tk11 (fun _ => ?_) | refine tk13 ?_ | refine tk14 ?_); (conv => whnf))
            exact fun w' _ => rfl
      · rw [stat_bad (by omega)]
        (conv => whnf); repeat ((first | refine tk1 ?_ | refine tk2 ?_ | refine tk3 ?_ | refine tk12 (fun _ => ?_) | refine tk4 ?_ | refine tk5 ?_ | refine tk6 ?_ | refine tk7 ?_ | refine tk8 ?_ | refine tk9 ?_ | refine tk10 (fun _ _ => ?_) | refine tk11 (fun _ => ?_) | refine tk13 ?_ | refine tk14 ?_); (conv => whnf))
        exact fun w' _ => rfl
theorem Check27_r (m p : List UInt8) (st : Int) (FA : Option Addr) (Fc : Nat) (F : List Fld) (tag : List UInt8) (press : Bool) (QA : Option Addr) (Qc : Nat) (Q : List Pce) (hF : fsum F ≤ 1048576) (hQ : Q.length ≤ 1048576) (ht : tag.length ≤ 1048576) :
    FnR Tryz.prog gI 15 [.agg ⟨[str m, str p, .int .i64 st, .slice FA F.length Fc, str tag, .bool press, .slice QA Q.length Qc]⟩] [(FA, fcells F), (QA, pccells Q)] (.int .i64 (pageE st tag F Q)) := by
  refine FnE.of tys_ok Tryz.func15 rfl (by kernel_rfl) rfl rfl ?_; intro w hG hP
  have hRF : ∀ H, RdA (mkC Tryz.prog gI w hG) H FA (fcells F) := fun H => ⟨hP.1.now⟩
  have hRQ : ∀ H, RdA (mkC Tryz.prog gI w hG) H QA (pccells Q) := fun H => ⟨hP.2.1.now⟩
  (conv => whnf); repeat ((first | refine tk1 ?_ | refine tk2 ?_ | refine tk3 ?_ | refine tk12 (fun _ => ?_) | refine tk4 ?_ | refine tk5 ?_ | refine tk6 ?_ | refine tk7 ?_ | refine tk8 ?_ | refine tk9 ?_ | refine tk10 (fun _ _ => ?_) | refine tk11 (fun _ => ?_) | refine tk13 ?_ | refine tk14 ?_); (conv => whnf))
  refine CallK.fnR (May27_r m p st FA Fc F tag press QA Qc Q hF hQ ht) ⟨(hRF _).ok, (hRQ _).ok, trivial⟩ ?_
  unfold pageE
  cases pageOK st tag F Q
  · (conv => whnf); repeat ((first | refine tk1 ?_ | refine tk2 ?_ | refine tk3 ?_ | refine tk12 (fun _ => ?_) | refine tk4 ?_ | refine tk5 ?_ | refine tk6 ?_ | refine tk7 ?_ | refine tk8 ?_ | refine tk9 ?_ | refine tk10 (fun _ _ => ?_) | refine tk11 (fun _ => ?_) | refine tk13 ?_ | refine tk14 ?_); (conv => whnf))
    exact fun w' _ => rfl
  · (conv => whnf); repeat ((first | refine tk1 ?_ | refine tk2 ?_ | refine tk3 ?_ | refine tk12 (fun _ => ?_) | refine tk4 ?_ | refine tk5 ?_ | refine tk6 ?_ | refine tk7 ?_ | refine tk8 ?_ | refine tk9 ?_ | refine tk10 (fun _ _ => ?_) | refine tk11 (fun _ => ?_) | refine tk13 ?_ | refine tk14 ?_); (conv => whnf))
    exact fun w' _ => rfl
theorem byte_one (l : List UInt8) : ∀ u ∈ l.map byteV, u.oneCell' = true := fun u hu => by
  obtain ⟨y, _, rfl⟩ := List.mem_map.1 hu
  rfl
theorem Bytes_r (rm rp rq : List UInt8) (rv : Int) (rf : Value) (BA : Option Addr) (B : List UInt8) (Bc : Nat) (PA : Option Addr) (pm : List Fld) (Pc : Nat) (x : Pce) (hx : pieceOK x = true) (hp : fsum pm ≤ 1048576) (hB : B.length ≤ 1048576) (hq : rq.length ≤ 1048576) :
    FnS Tryz.prog gI 38 [.agg ⟨[.int .u8 x.k.toNat, str x.t, .int .i64 x.m, .bool x.f]⟩, .agg ⟨[str rm, str rp, str rq, .int .i64 rv, rf, .slice BA B.length Bc]⟩, .slice PA pm.length Pc] [(PA, fcells pm), (BA, B.map byteV)] 5 1 (tells x B rq pm).length ((tells x B rq pm).map byteV) := by
  have hk := pieceOK_kind hx
  have hpl := fsum_length pm
  refine FnE.of tys_ok Tryz.func38 rfl (by kernel_rfl) rfl rfl ?_; intro w hG hP
  have hRP : ∀ H, RdA (mkC Tryz.prog gI w hG) H PA (fcells pm) := fun H => ⟨hP.1.now⟩
  have hRB : ∀ H, RdA (mkC Tryz.prog gI w hG) H BA (B.map byteV) := fun H => ⟨hP.2.1.now⟩
  rcases hk with e | e | e | e
  · rw [show tells x B rq pm = times x.m.toNat x.t by unfold tells; rw [if_pos e]]
    simp only [e]
    unfold pieceOK at hx
    simp only [e, if_true, Bool.and_eq_true, decide_eq_true_eq] at hx
    obtain ⟨hx1, hx2, hx3⟩ := hx
    (conv => whnf); repeat ((first | refine tk1 ?_ | refine tk2 ?_ | refine tk3 ?_ | refine tk12 (fun _ => ?_) | refine tk4 ?_ | refine tk5 ?_ | refine tk6 ?_ | refine tk7 ?_ | refine tk8 ?_ | refine tk9 ?_ | refine tk10 (fun _ _ => ?_) | refine tk11 (fun _ => ?_) | refine tk13 ?_ | refine tk14 ?_); (conv => whnf))
    rename_i b3 b4
    refine LoopS.nilRow 5 1 ?_
    refine LoopS.lp tys_ok (fun (y : Nat × Option Addr × Nat) u => [u 0, u 1, u 2, .pointer (some ⟨b3, 0, none⟩), u 4, u 5, u 6, .slice y.2.1 (times y.1 x.t).length y.2.2, .int .i64 (y.1 : Nat), u 9, u 10, u 11, u 12, u 13, u 14, u 15, u 16, u 17, u 18, u 19, u 20, u 21, u 22, u 23, u 24, u 25, u 26, u 27, u 28, u 29, u 30, u 31, u 32, u 33, u 34, u 35, u 36, u 37, u 38, u 39, u 40, u 41, u 42, u 43, u 44, u 45, u 46, u 47, u 48, u 49, u 50, u 51, u 52, u 53, u 54, u 55, u 56])
      (fun y => [.row (.slice y.2.1 (times y.1 x.t).length y.2.2) 5 1 (times y.1 x.t).length ((times y.1 x.t).map byteV), .box b3 [.int .u8 1, str x.t, .int .i64 x.m, .bool x.f] 73])
      (fun y => y.1 ≤ x.m.toNat) (fun y => x.m.toNat - y.1) (0, none, 0) (Nat.zero_le _) rfl (by repeat' (first | exact List.Sublist.refl _ | exact List.nil_sublist _ | apply List.Sublist.cons_cons | apply List.Sublist.cons)) ?_
    rintro ⟨i, A, cp⟩ u hi
    dsimp only at hi ⊢
    have hl := times_length x.t i
    have hl2 : i * x.t.length ≤ 100 * 1000 := Nat.mul_le_mul (by omega) hx1
    (conv => whnf); repeat ((first | refine tk1 ?_ | refine tk2 ?_ | refine tk3 ?_ | refine tk12 (fun _ => ?_) | refine tk4 ?_ | refine tk5 ?_ | refine tk6 ?_ | refine tk7 ?_ | refine tk8 ?_ | refine tk9 ?_ | refine tk10 (fun _ _ => ?_) | refine tk11 (fun _ => ?_) | refine tk13 ?_ | refine tk14 ?_); (conv => whnf))
    refine Cmp.cases (fun hlt => ?_) (fun hlt => ?_)
    · (conv => whnf); repeat ((first | refine tk1 ?_ | refine tk2 ?_ | refine tk3 ?_ | refine tk12 (fun _ => ?_) | refine tk4 ?_ | refine tk5 ?_ | refine tk6 ?_ | refine tk7 ?_ | refine tk8 ?_ | refine tk9 ?_ | refine tk10 (fun _ _ => ?_) | refine tk11 (fun _ => ?_) | refine tk13 ?_ | refine tk14 ?_); (conv => whnf))
      refine AppS.tc (m := x.t.length) (news := x.t.map byteV) (SrcK.str x.t) (by simp) (byte_one _) (by decide) (by omega) (by omega) (zs := (times (i + 1) x.t).map byteV) (by rw [times, List.map_append]) (fun A' cp' => ?_)
      rw [show (times i x.t).length + x.t.length = (times (i + 1) x.t).length by rw [times, List.length_append]]
      (conv => whnf); repeat ((first | refine tk1 ?_ | refine tk2 ?_ | refine tk3 ?_ | refine tk12 (fun _ => ?_) | refine tk4 ?_ | refine tk5 ?_ | refine tk6 ?_ | refine tk7 ?_ | refine tk8 ?_ | refine tk9 ?_ | refine tk10 (fun _ _ => ?_) | refine tk11 (fun _ => ?_) | refine tk13 ?_ | refine tk14 ?_); (conv => whnf))
      exact ⟨(i + 1, A', cp'), by dsimp only; omega, rfl, (by repeat' (first | exact List.Sublist.refl _ | exact List.nil_sublist _ | apply List.Sublist.cons_cons | apply List.Sublist.cons)), by dsimp only; omega⟩
    · rw [show i = x.m.toNat by omega]
      (conv => whnf); repeat ((first | refine tk1 ?_ | refine tk2 ?_ | refine tk3 ?_ | refine tk12 (fun _ => ?_) | refine tk4 ?_ | refine tk5 ?_ | refine tk6 ?_ | refine tk7 ?_ | refine tk8 ?_ | refine tk9 ?_ | refine tk10 (fun _ _ => ?_) | refine tk11 (fun _ => ?_) | refine tk13 ?_ | refine tk14 ?_); (conv => whnf))
      exact rowPost.of (List.mem_cons_self ..)
  · rw [show tells x B rq pm = valueAt x.t pm by unfold tells; rw [if_neg (by omega), if_pos e]]
    simp only [e]
    (conv => whnf); repeat ((first | refine tk1 ?_ | refine tk2 ?_ | refine tk3 ?_ | refine tk12 (fun _ => ?_) | refine tk4 ?_ | refine tk5 ?_ | refine tk6 ?_ | refine tk7 ?_ | refine tk8 ?_ | refine tk9 ?_ | refine tk10 (fun _ _ => ?_) | refine tk11 (fun _ => ?_) | refine tk13 ?_ | refine tk14 ?_); (conv => whnf))
    rename_i b3 b4
    refine LoopS.lp tys_ok (fun (k : Nat) u => [u 0, u 1, .slice PA pm.length Pc, .pointer (some ⟨b3, 0, none⟩), u 4, u 5, u 6, u 7, u 8, .int .i64 (k : Nat), u 10, u 11, u 12, u 13, u 14, u 15, u 16, u 17, u 18, u 19, u 20, u 21, u 22, u 23, u 24, u 25, u 26, u 27, u 28, u 29, u 30, u 31, u 32, u 33, u 34, u 35, u 36, u 37, u 38, u 39, u 40, u 41, u 42, u 43, u 44, u 45, u 46, u 47, u 48, u 49, u 50, u 51, u 52, u 53, u 54, u 55, u 56]) (fun _ => [.box b3 [.int .u8 2, str x.t, .int .i64 x.m, .bool x.f] 73])
      (fun k => k ≤ pm.length ∧ valueAt x.t pm = valueAt x.t (pm.drop k)) (fun k => pm.length - k) 0 ⟨Nat.zero_le _, rfl⟩ rfl (by repeat' (first | exact List.Sublist.refl _ | exact List.nil_sublist _ | apply List.Sublist.cons_cons | apply List.Sublist.cons)) ?_
    rintro k u ⟨hk, hI⟩
    (conv => whnf); repeat ((first | refine tk1 ?_ | refine tk2 ?_ | refine tk3 ?_ | refine tk12 (fun _ => ?_) | refine tk4 ?_ | refine tk5 ?_ | refine tk6 ?_ | refine tk7 ?_ | refine tk8 ?_ | refine tk9 ?_ | refine tk10 (fun _ _ => ?_) | refine tk11 (fun _ => ?_) | refine tk13 ?_ | refine tk14 ?_); (conv => whnf))
    refine Cmp.cases (fun hlt => ?_) (fun hlt => ?_)
    · have hlt' : k < pm.length := by omega
      have hfm := fsum_mem (List.getElem_mem hlt')
      have f1 := fcells_0 pm k hlt'
      have f2 := fcells_1 pm k hlt'
      rw [List.drop_eq_getElem_cons hlt', valueAt] at hI
      (conv => whnf); repeat ((first | refine tk1 ?_ | refine tk2 ?_ | refine tk3 ?_ | refine tk12 (fun _ => ?_) | refine tk4 ?_ | refine tk5 ?_ | refine tk6 ?_ | refine tk7 ?_ | refine tk8 ?_ | refine tk9 ?_ | refine tk10 (fun _ _ => ?_) | refine tk11 (fun _ => ?_) | refine tk13 ?_ | refine tk14 ?_); (conv => whnf))
      refine DrawS.go (qs 8) tys_ok mixed (by kernel_rfl) ?_
      (conv => whnf); repeat ((first | refine tk1 ?_ | refine tk2 ?_ | refine tk3 ?_ | refine tk12 (fun _ => ?_) | refine tk4 ?_ | refine tk5 ?_ | refine tk6 ?_ | refine tk7 ?_ | refine tk8 ?_ | refine tk9 ?_ | refine tk10 (fun _ _ => ?_) | refine tk11 (fun _ => ?_) | refine tk13 ?_ | refine tk14 ?_); (conv => whnf))
      refine IdxA.tc (by rw [fcells_length]; omega) (by omega) (by omega) ?_
      (conv => whnf); repeat ((first | refine tk1 ?_ | refine tk2 ?_ | refine tk3 ?_ | refine tk12 (fun _ => ?_) | refine tk4 ?_ | refine tk5 ?_ | refine tk6 ?_ | refine tk7 ?_ | refine tk8 ?_ | refine tk9 ?_ | refine tk10 (fun _ _ => ?_) | refine tk11 (fun _ => ?_) | refine tk13 ?_ | refine tk14 ?_); (conv => whnf))
      refine Ld.taF (v := str pm[k].1) f1 ?_
      (conv => whnf); repeat ((first | refine tk1 ?_ | refine tk2 ?_ | refine tk3 ?_ | refine tk12 (fun _ => ?_) | refine tk4 ?_ | refine tk5 ?_ | refine tk6 ?_ | refine tk7 ?_ | refine tk8 ?_ | refine tk9 ?_ | refine tk10 (fun _ _ => ?_) | refine tk11 (fun _ => ?_) | refine tk13 ?_ | refine tk14 ?_); (conv => whnf))
      refine Cmp.cases (fun h1 => ?_) (fun h1 => ?_)
      · rw [if_pos h1] at hI
        rw [hI]
        (conv => whnf); repeat ((first | refine tk1 ?_ | refine tk2 ?_ | refine tk3 ?_ | refine tk12 (fun _ => ?_) | refine tk4 ?_ | refine tk5 ?_ | refine tk6 ?_ | refine tk7 ?_ | refine tk8 ?_ | refine tk9 ?_ | refine tk10 (fun _ _ => ?_) | refine tk11 (fun _ => ?_) | refine tk13 ?_ | refine tk14 ?_); (conv => whnf))
        refine IdxA.tc (by rw [fcells_length]; omega) (by omega) (by omega) ?_
        (conv => whnf); repeat ((first | refine tk1 ?_ | refine tk2 ?_ | refine tk3 ?_ | refine tk12 (fun _ => ?_) | refine tk4 ?_ | refine tk5 ?_ | refine tk6 ?_ | refine tk7 ?_ | refine tk8 ?_ | refine tk9 ?_ | refine tk10 (fun _ _ => ?_) | refine tk11 (fun _ => ?_) | refine tk13 ?_ | refine tk14 ?_); (conv => whnf))
        refine Ld.taF (v := str pm[k].2) f2 ?_
        (conv => whnf); repeat ((first | refine tk1 ?_ | refine tk2 ?_ | refine tk3 ?_ | refine tk12 (fun _ => ?_) | refine tk4 ?_ | refine tk5 ?_ | refine tk6 ?_ | refine tk7 ?_ | refine tk8 ?_ | refine tk9 ?_ | refine tk10 (fun _ _ => ?_) | refine tk11 (fun _ => ?_) | refine tk13 ?_ | refine tk14 ?_); (conv => whnf))
        exact rowPost.of (List.mem_cons_self ..)
      · rw [if_neg h1] at hI
        (conv => whnf); repeat ((first | refine tk1 ?_ | refine tk2 ?_ | refine tk3 ?_ | refine tk12 (fun _ => ?_) | refine tk4 ?_ | refine tk5 ?_ | refine tk6 ?_ | refine tk7 ?_ | refine tk8 ?_ | refine tk9 ?_ | refine tk10 (fun _ _ => ?_) | refine tk11 (fun _ => ?_) | refine tk13 ?_ | refine tk14 ?_); (conv => whnf))
        exact ⟨k + 1, ⟨by omega, hI⟩, rfl, (by repeat' (first | exact List.Sublist.refl _ | exact List.nil_sublist _ | apply List.Sublist.cons_cons | apply List.Sublist.cons)), by dsimp only; omega⟩
    · rw [List.drop_eq_nil_of_le (by omega)] at hI
      rw [hI]
      (conv => whnf); repeat ((first | refine tk1 ?_ | refine tk2 ?_ | refine tk3 ?_ | refine tk12 (fun _ => ?_) | refine tk4 ?_ | refine tk5 ?_ | refine tk6 ?_ | refine tk7 ?_ | refine tk8 ?_ | refine tk9 ?_ | refine tk10 (fun _ _ => ?_) | refine tk11 (fun _ => ?_) | refine tk13 ?_ | refine tk14 ?_); (conv => whnf))
      exact rowPost.nil _ _
  · rw [show tells x B rq pm = B by unfold tells; rw [if_neg (by omega), if_neg (by omega), if_pos e]]
    simp only [e]
    (conv => whnf); repeat ((first | refine tk1 ?_ | refine tk2 ?_ | refine tk3 ?_ | refine tk12 (fun _ => ?_) | refine tk4 ?_ | refine tk5 ?_ | refine tk6 ?_ | refine tk7 ?_ | refine tk8 ?_ | refine tk9 ?_ | refine tk10 (fun _ _ => ?_) | refine tk11 (fun _ => ?_) | refine tk13 ?_ | refine tk14 ?_); (conv => whnf))
    refine AppS.t0 (m := B.length) (news := B.map byteV) SrcK.tc (by simp) (byte_one _) (by decide) (by omega) (by omega) (fun A cp => ?_)
    (conv => whnf); repeat ((first | refine tk1 ?_ | refine tk2 ?_ | refine tk3 ?_ | refine tk12 (fun _ => ?_) | refine tk4 ?_ | refine tk5 ?_ | refine tk6 ?_ | refine tk7 ?_ | refine tk8 ?_ | refine tk9 ?_ | refine tk10 (fun _ _ => ?_) | refine tk11 (fun _ => ?_) | refine tk13 ?_ | refine tk14 ?_); (conv => whnf))
    exact rowPost.of (List.mem_cons_self ..)
  · rw [show tells x B rq pm = rq by unfold tells; rw [if_neg (by omega), if_neg (by omega), if_neg (by omega)]]
    simp only [e]
    (conv => whnf); repeat ((first | refine tk1 ?_ | refine tk2 ?_ | refine tk3 ?_ | refine tk12 (fun _ => ?_) | refine tk4 ?_ | refine tk5 ?_ | refine tk6 ?_ | refine tk7 ?_ | refine tk8 ?_ | refine tk9 ?_ | refine tk10 (fun _ _ => ?_) | refine tk11 (fun _ => ?_) | refine tk13 ?_ | refine tk14 ?_); (conv => whnf))
    exact rowPost.of (List.mem_cons_self ..)
end Go.Proofs.YtmdmmncoigeijaaGreatDoor.Vex
/- The document's own answer for pages, reckoned, third part: Parts, Told, Answer. -/
namespace Go.Proofs.YtmdmmncoigeijaaGreatDoor.Vex
open Go Go.RowKit
set_option maxRecDepth 100000
set_option linter.unusedSectionVars false
variable {gI : GI} [HasMax gI]

/-- The memory of parts. -/
structure PrV where
  A : Option Addr
  cp : Nat
  ps : List Prt
def PrV.val (x : PrV) : Value := .slice x.A x.ps.length x.cp
def PrV.hd (x : PrV) : Hp := [.row (.slice x.A x.ps.length x.cp) 45 2 x.ps.length (pcells x.ps)]
def PrV.tl (x : PrV) : Hp := rowsP 5 x.ps
theorem partsG_of (l : Prs) (o : List UInt8) (d : Prs) (h : (o, d) = stG l) (ho : o = []) : d = partsG l := by
  unfold partsG close1
  rw [← h, if_pos ho]
set_option maxHeartbeats 4000000 in
theorem Parts_r (m p : List UInt8) (st : Int) (FA : Option Addr) (Fc : Nat) (F : List Fld) (tag : List UInt8) (press : Bool) (QA : Option Addr) (Qc : Nat) (Q : List Pce)
    (rm rp rq : List UInt8) (rv : Int) (rf : Value) (BA : Option Addr) (B : List UInt8) (Bc : Nat) (PA : Option Addr) (pm : List Fld) (Pc : Nat)
    (hQ : Q.length ≤ 1048576) (hp : fsum pm ≤ 1048576) (hB : B.length ≤ 1048576) (hq : rq.length ≤ 1048576) (hall : ∀ x ∈ Q, pieceOK x = true) (htt : total (told B rq pm Q) ≤ 131072) :
    FnT Tryz.prog gI 76 [.agg ⟨[str m, str p, .int .i64 st, .slice FA F.length Fc, str tag, .bool press, .slice QA Q.length Qc]⟩, .agg ⟨[str rm, str rp, str rq, .int .i64 rv, rf, .slice BA B.length Bc]⟩, .slice PA pm.length Pc]
      (fun w => RdL w [(QA, pccells Q), (PA, fcells pm), (BA, B.map byteV)]) PrV.val (fun x => x.ps.map pure1 = partsG (told B rq pm Q)) PrV.hd PrV.tl := by
  obtain ⟨tl, htl⟩ : ∃ tl, tl = told B rq pm Q := ⟨_, rfl⟩
  have htll : tl.length = Q.length := by rw [htl]; unfold told; rw [List.length_map]
  have htg : ∀ (k : Nat) (h1 : k < tl.length) (h2 : k < Q.length), tl[k] = (tells Q[k] B rq pm, Q[k].f) := fun k h1 h2 => by
    simp only [htl]; unfold told; rw [List.getElem_map]
  rw [← htl] at htt ⊢
  refine FnE.of tys_ok Tryz.func76 rfl (by kernel_rfl) rfl rfl ?_; intro w hG hP
  have hRQ : ∀ H, RdA (mkC Tryz.prog gI w hG) H QA (pccells Q) := fun H => ⟨hP.1.now⟩
  have hRP : ∀ H, RdA (mkC Tryz.prog gI w hG) H PA (fcells pm) := fun H => ⟨hP.2.1.now⟩
  have hRB : ∀ H, RdA (mkC Tryz.prog gI w hG) H BA (B.map byteV) := fun H => ⟨hP.2.2.1.now⟩
  (conv => whnf); repeat ((first | refine tk1 ?_ | refine tk2 ?_ | refine tk3 ?_ | refine tk12 (fun _ => ?_) | refine tk4 ?_ | refine tk5 ?_ | refine tk6 ?_ | refine tk7 ?_ | refine tk8 ?_ | refine tk9 ?_ | refine tk10 (fun _ _ => ?_) | refine tk11 (fun _ => ?_) | refine tk13 ?_ | refine tk14 ?_); (conv => whnf))
  rename_i b3 b4
  refine LoopS.lpT tys_ok (fun (x : AL) u => [u 0, u 1, .slice PA pm.length Pc, .pointer (some ⟨b3, 0, none⟩), .pointer (some ⟨b4, 0, none⟩), u 5, u 6, .slice x.dA x.ps.length x.dc, .slice x.oA x.o.length x.oc, .int .i64 (x.k : Nat), u 10, u 11, u 12, u 13, u 14, u 15, u 16, u 17, u 18, u 19, u 20, u 21, u 22, u 23, u 24, u 25, u 26, u 27, u 28, u 29, u 30, u 31, u 32, u 33, u 34, u 35, u 36, u 37, u 38, u 39, u 40, u 41, u 42, u 43, u 44, u 45, u 46, u 47, u 48, u 49, u 50, u 51, u 52, u 53, u 54, u 55])
    (fun x => .row (.slice x.oA x.o.length x.oc) 5 1 x.o.length (x.o.map byteV) :: .row (.slice x.dA x.ps.length x.dc) 45 2 x.ps.length (pcells x.ps) ::
      .box b4 [str rm, str rp, str rq, .int .i64 rv, rf, .slice BA B.length Bc] 28 :: .box b3 [str m, str p, .int .i64 st, .slice FA F.length Fc, str tag, .bool press, .slice QA Q.length Qc] 25 :: rowsP 5 x.ps)
    (fun x => x.k ≤ Q.length ∧ (x.k < Q.length → (x.o, x.ps.map pure1) = stG (tl.take x.k)) ∧ (x.k = Q.length → x.ps.map pure1 = partsG tl)) (fun x => Q.length - x.k) ⟨0, none, 0, [], none, 0, []⟩ ⟨Nat.zero_le _, fun _ => rfl, fun h => by
      have h : 0 = Q.length := h
      rw [List.eq_nil_of_length_eq_zero (show tl.length = 0 by omega)]; rfl⟩ rfl ?_ ?_
  · exact Into.trans (Into.nilRow (e := 5) (sz := 1) (Into.nilRow (e := 45) (sz := 2) Into.refl)) (Cv.into (by (try dsimp only); repeat' (first | with_reducible exact Cv.refl | with_reducible exact Cv.left | with_reducible exact Cv.right | with_reducible exact Cv.nil | (with_reducible apply Cv.cons; focus ((repeat (first | with_reducible exact Pick.here | with_reducible apply Pick.skip)); done)) | (apply Cv.cons; focus ((repeat (first | exact Pick.here | apply Pick.skip)); done)) | exact Cv.nil | exact Cv.refl | exact Cv.left | exact Cv.right | refine Cv.skip ?_)))
  rintro ⟨k, oA, oc, o, dA, dc, ps⟩ u ⟨hk, hst, hend⟩
  dsimp only at hk hst hend ⊢
  (conv => whnf); repeat ((first | refine tk1 ?_ | refine tk2 ?_ | refine tk3 ?_ | refine tk12 (fun _ => ?_) | refine tk4 ?_ | refine tk5 ?_ | refine tk6 ?_ | refine tk7 ?_ | refine tk8 ?_ | refine tk9 ?_ | refine tk10 (fun _ _ => ?_) | refine tk11 (fun _ => ?_) | refine tk13 ?_ | refine tk14 ?_); (conv => whnf))
  refine Cmp.cases (fun hlt => ?_) (fun hlt => ?_)
  · have hlt' : k < Q.length := by omega
    have hkt : k < tl.length := by omega
    have hst := hst hlt'
    clear hend
    have hso : o = (stG (tl.take k)).1 := (Prod.mk.inj hst).1
    have hsd : ps.map pure1 = (stG (tl.take k)).2 := (Prod.mk.inj hst).2
    have hol : o.length ≤ 131072 := by
      have := total_stG (tl.take k)
      have := total_take tl k
      rw [hso]; omega
    have hdl : ps.length ≤ 1048576 := by
      have := stG_length (tl.take k)
      rw [← hsd, List.length_map, List.length_take] at this
      omega
    have hx := hall _ (List.getElem_mem hlt')
    have hg := htg k hkt hlt'
    have g4 := pccells_at Q k hlt'
    obtain ⟨x, hxe⟩ : ∃ x, Q[k] = x := ⟨_, rfl⟩
    rw [hxe] at hx hg g4
    obtain ⟨s, hs⟩ : ∃ s, tells x B rq pm = s := ⟨_, rfl⟩
    have hcall := Bytes_r (gI := gI) rm rp rq rv rf BA B Bc PA pm Pc x hx hp hB hq
    rw [hs] at hcall hg
    have ht1 := total_take_succ tl k hkt
    have ht0 := total_take tl (k + 1)
    rw [hg] at ht1
    dsimp only at ht1
    have ht2 := stG_take tl k hkt
    rw [hg, ← hst] at ht2
    (conv => whnf); repeat ((first | refine tk1 ?_ | refine tk2 ?_ | refine tk3 ?_ | refine tk12 (fun _ => ?_) | refine tk4 ?_ | refine tk5 ?_ | refine tk6 ?_ | refine tk7 ?_ | refine tk8 ?_ | refine tk9 ?_ | refine tk10 (fun _ _ => ?_) | refine tk11 (fun _ => ?_) | refine tk13 ?_ | refine tk14 ?_); (conv => whnf))
    refine DrawS.go [(0, true), (1, true), (2, true), (3, true), (4, true), (5, true), (6, true), (7, true), (8, false), (9, false), (10, true)] tys_ok mixed (by kernel_rfl) ?_
    (conv => whnf); repeat ((first | refine tk1 ?_ | refine tk2 ?_ | refine tk3 ?_ | refine tk12 (fun _ => ?_) | refine tk4 ?_ | refine tk5 ?_ | refine tk6 ?_ | refine tk7 ?_ | refine tk8 ?_ | refine tk9 ?_ | refine tk10 (fun _ _ => ?_) | refine tk11 (fun _ => ?_) | refine tk13 ?_ | refine tk14 ?_); (conv => whnf))
    refine IdxA.tc (by rw [pccells_length]; omega) (by omega) (by omega) ?_
    (conv => whnf); repeat ((first | refine tk1 ?_ | refine tk2 ?_ | refine tk3 ?_ | refine tk12 (fun _ => ?_) | refine tk4 ?_ | refine tk5 ?_ | refine tk6 ?_ | refine tk7 ?_ | refine tk8 ?_ | refine tk9 ?_ | refine tk10 (fun _ _ => ?_) | refine tk11 (fun _ => ?_) | refine tk13 ?_ | refine tk14 ?_); (conv => whnf))
    refine Ld.taN g4.1 rfl ?_
    (conv => whnf); repeat ((first | refine tk1 ?_ | refine tk2 ?_ | refine tk3 ?_ | refine tk12 (fun _ => ?_) | refine tk4 ?_ | refine tk5 ?_ | refine tk6 ?_ | refine tk7 ?_ | refine tk8 ?_ | refine tk9 ?_ | refine tk10 (fun _ _ => ?_) | refine tk11 (fun _ => ?_) | refine tk13 ?_ | refine tk14 ?_); (conv => whnf))
    refine CallK.fnS hcall ⟨(hRP _).ok, (hRB _).ok, trivial⟩ (fun sA sc => ?_)
    (conv => whnf); repeat ((first | refine tk1 ?_ | refine tk2 ?_ | refine tk3 ?_ | refine tk12 (fun _ => ?_) | refine tk4 ?_ | refine tk5 ?_ | refine tk6 ?_ | refine tk7 ?_ | refine tk8 ?_ | refine tk9 ?_ | refine tk10 (fun _ _ => ?_) | refine tk11 (fun _ => ?_) | refine tk13 ?_ | refine tk14 ?_); (conv => whnf))
    refine AppS.tc (m := s.length) (news := s.map byteV) SrcK.tc (by simp) (byte_one _) (by decide) (by omega) (by omega) (zs := (o ++ s).map byteV) (by rw [List.map_append]) (fun oA' oc' => ?_)
    rw [show o.length + s.length = (o ++ s).length by simp]
    have hol2 : (o ++ s).length ≤ 131072 := by
      have h1 := total_stG (tl.take k)
      rw [List.length_append, hso]
      omega
    (conv => whnf); repeat ((first | refine tk1 ?_ | refine tk2 ?_ | refine tk3 ?_ | refine tk12 (fun _ => ?_) | refine tk4 ?_ | refine tk5 ?_ | refine tk6 ?_ | refine tk7 ?_ | refine tk8 ?_ | refine tk9 ?_ | refine tk10 (fun _ _ => ?_) | refine tk11 (fun _ => ?_) | refine tk13 ?_ | refine tk14 ?_); (conv => whnf))
    refine IdxA.tc (by rw [pccells_length]; omega) (by omega) (by omega) ?_
    (conv => whnf); repeat ((first | refine tk1 ?_ | refine tk2 ?_ | refine tk3 ?_ | refine tk12 (fun _ => ?_) | refine tk4 ?_ | refine tk5 ?_ | refine tk6 ?_ | refine tk7 ?_ | refine tk8 ?_ | refine tk9 ?_ | refine tk10 (fun _ _ => ?_) | refine tk11 (fun _ => ?_) | refine tk13 ?_ | refine tk14 ?_); (conv => whnf))
    refine Ld.taF (v := .bool x.f) g4.2.2.2.2 ?_
    cases hfx : x.f
    · have e1 : stepG (o, ps.map pure1) (s, x.f) = (o ++ s, ps.map pure1) := by unfold stepG; rw [hfx]; rfl
      rw [e1] at ht2
      (conv => whnf); repeat ((first | refine tk1 ?_ | refine tk2 ?_ | refine tk3 ?_ | refine tk12 (fun _ => ?_) | refine tk4 ?_ | refine tk5 ?_ | refine tk6 ?_ | refine tk7 ?_ | refine tk8 ?_ | refine tk9 ?_ | refine tk10 (fun _ _ => ?_) | refine tk11 (fun _ => ?_) | refine tk13 ?_ | refine tk14 ?_); (conv => whnf))
      refine Cmp.cases (fun hl => ?_) (fun hl => ?_)
      · have hkn : tl.take (k + 1) = tl := List.take_of_length_le (by omega)
        rw [hkn] at ht2
        have hpg : partsG tl = close1 (o ++ s) false (ps.map pure1) := by unfold partsG; rw [ht2]
        (conv => whnf); repeat ((first | refine tk1 ?_ | refine tk2 ?_ | refine tk3 ?_ | refine tk12 (fun _ => ?_) | refine tk4 ?_ | refine tk5 ?_ | refine tk6 ?_ | refine tk7 ?_ | refine tk8 ?_ | refine tk9 ?_ | refine tk10 (fun _ _ => ?_) | refine tk11 (fun _ => ?_) | refine tk13 ?_ | refine tk14 ?_); (conv => whnf))
        refine Cmp.cases (fun hne => ?_) (fun hne => ?_)
        · have hne' : o ++ s ≠ [] := fun h => by rw [h] at hne; simp at hne
          rw [show close1 (o ++ s) false (ps.map pure1) = (ps ++ [(⟨oA', oc', o ++ s, false⟩ : Prt)]).map pure1 by unfold close1; rw [if_neg hne', List.map_append]; rfl] at hpg
          (conv => whnf); repeat ((first | refine tk1 ?_ | refine tk2 ?_ | refine tk3 ?_ | refine tk12 (fun _ => ?_) | refine tk4 ?_ | refine tk5 ?_ | refine tk6 ?_ | refine tk7 ?_ | refine tk8 ?_ | refine tk9 ?_ | refine tk10 (fun _ _ => ?_) | refine tk11 (fun _ => ?_) | refine tk13 ?_ | refine tk14 ?_); (conv => whnf))
          refine IdxA.tc (by rw [pccells_length]; omega) (by omega) (by omega) ?_
          (conv => whnf); repeat ((first | refine tk1 ?_ | refine tk2 ?_ | refine tk3 ?_ | refine tk12 (fun _ => ?_) | refine tk4 ?_ | refine tk5 ?_ | refine tk6 ?_ | refine tk7 ?_ | refine tk8 ?_ | refine tk9 ?_ | refine tk10 (fun _ _ => ?_) | refine tk11 (fun _ => ?_) | refine tk13 ?_ | refine tk14 ?_); (conv => whnf))
          refine Ld.taF (v := .bool x.f) g4.2.2.2.2 ?_
          rw [hfx]
          (conv => whnf); repeat ((first | refine tk1 ?_ | refine tk2 ?_ | refine tk3 ?_ | refine tk12 (fun _ => ?_) | refine tk4 ?_ | refine tk5 ?_ | refine tk6 ?_ | refine tk7 ?_ | refine tk8 ?_ | refine tk9 ?_ | refine tk10 (fun _ _ => ?_) | refine tk11 (fun _ => ?_) | refine tk13 ?_ | refine tk14 ?_); (conv => whnf))
          refine AppS.tc (m := 1) (news := [.slice oA' (o ++ s).length oc', .bool false]) SrcK.tc rfl (by simp [Value.oneCell']) (by decide) (by omega) (by omega) (zs := pcells (ps ++ [⟨oA', oc', o ++ s, false⟩])) (by rw [pcells_append]; rfl) (fun dA' dc' => ?_)
          rw [show ps.length + 1 = (ps ++ [(⟨oA', oc', o ++ s, false⟩ : Prt)]).length by simp]
          (conv => whnf); repeat ((first | refine tk1 ?_ | refine tk2 ?_ | refine tk3 ?_ | refine tk12 (fun _ => ?_) | refine tk4 ?_ | refine tk5 ?_ | refine tk6 ?_ | refine tk7 ?_ | refine tk8 ?_ | refine tk9 ?_ | refine tk10 (fun _ _ => ?_) | refine tk11 (fun _ => ?_) | refine tk13 ?_ | refine tk14 ?_); (conv => whnf))
          exact ⟨⟨k + 1, none, 0, [], dA', dc', ps ++ [⟨oA', oc', o ++ s, false⟩]⟩, ⟨by dsimp only; omega, fun h => absurd h (by dsimp only; omega), fun _ => hpg.symm⟩, rfl, Into.nilRow (Cv.into (by (try dsimp only); repeat' (first | with_reducible exact Cv.refl | refine Cv.snoc (q := ⟨oA', oc', o ++ s, false⟩) ?_ | (with_reducible apply Cv.cons; focus ((repeat (first | with_reducible exact Pick.here | with_reducible apply Pick.skip)); done)) | (apply Cv.cons; focus ((repeat (first | exact Pick.here | apply Pick.skip)); done)) | exact Cv.nil | exact Cv.refl | refine Cv.skip ?_))), by dsimp only; omega⟩
        · have he : o ++ s = [] := List.eq_nil_of_length_eq_zero (by omega)
          rw [show close1 (o ++ s) false (ps.map pure1) = ps.map pure1 by unfold close1; rw [if_pos he]] at hpg
          (conv => whnf); repeat ((first | refine tk1 ?_ | refine tk2 ?_ | refine tk3 ?_ | refine tk12 (fun _ => ?_) | refine tk4 ?_ | refine tk5 ?_ | refine tk6 ?_ | refine tk7 ?_ | refine tk8 ?_ | refine tk9 ?_ | refine tk10 (fun _ _ => ?_) | refine tk11 (fun _ => ?_) | refine tk13 ?_ | refine tk14 ?_); (conv => whnf))
          exact ⟨⟨k + 1, none, 0, [], dA, dc, ps⟩, ⟨by dsimp only; omega, fun h => absurd h (by dsimp only; omega), fun _ => hpg.symm⟩, rfl, Into.nilRow (Cv.into (by (try dsimp only); repeat' (first | with_reducible exact Cv.refl | with_reducible exact Cv.left | with_reducible exact Cv.right | with_reducible exact Cv.nil | (with_reducible apply Cv.cons; focus ((repeat (first | with_reducible exact Pick.here | with_reducible apply Pick.skip)); done)) | (apply Cv.cons; focus ((repeat (first | exact Pick.here | apply Pick.skip)); done)) | exact Cv.nil | exact Cv.refl | exact Cv.left | exact Cv.right | refine Cv.skip ?_))), by dsimp only; omega⟩
      · (conv => whnf); repeat ((first | refine tk1 ?_ | refine tk2 ?_ | refine tk3 ?_ | refine tk12 (fun _ => ?_) | refine tk4 ?_ | refine tk5 ?_ | refine tk6 ?_ | refine tk7 ?_ | refine tk8 ?_ | refine tk9 ?_ | refine tk10 (fun _ _ => ?_) | refine tk11 (fun _ => ?_) | refine tk13 ?_ | refine tk14 ?_); (conv => whnf))
        exact ⟨⟨k + 1, oA', oc', o ++ s, dA, dc, ps⟩, ⟨by dsimp only; omega, fun _ => ht2.symm, fun h => absurd h (by dsimp only; omega)⟩, rfl, Cv.into (by (try dsimp only); repeat' (first | with_reducible exact Cv.refl | with_reducible exact Cv.left | with_reducible exact Cv.right | with_reducible exact Cv.nil | (with_reducible apply Cv.cons; focus ((repeat (first | with_reducible exact Pick.here | with_reducible apply Pick.skip)); done)) | (apply Cv.cons; focus ((repeat (first | exact Pick.here | apply Pick.skip)); done)) | exact Cv.nil | exact Cv.refl | exact Cv.left | exact Cv.right | refine Cv.skip ?_)), by dsimp only; omega⟩
    · have e1 : stepG (o, ps.map pure1) (s, x.f) = ([], close1 (o ++ s) true (ps.map pure1)) := by unfold stepG; rw [hfx]; rfl
      rw [e1] at ht2
      have hlast : k + 1 = Q.length → (stG (tl.take (k + 1))).2 = partsG tl := fun h => by
        have h9 : tl.take (k + 1) = tl := List.take_of_length_le (by omega)
        rw [h9] at ht2 ⊢
        exact partsG_of tl [] _ (by rw [ht2]) rfl
      rw [ht2] at hlast
      dsimp only at hlast
      (conv => whnf); repeat ((first | refine tk1 ?_ | refine tk2 ?_ | refine tk3 ?_ | refine tk12 (fun _ => ?_) | refine tk4 ?_ | refine tk5 ?_ | refine tk6 ?_ | refine tk7 ?_ | refine tk8 ?_ | refine tk9 ?_ | refine tk10 (fun _ _ => ?_) | refine tk11 (fun _ => ?_) | refine tk13 ?_ | refine tk14 ?_); (conv => whnf))
      refine Cmp.cases (fun hne => ?_) (fun hne => ?_)
      · have hne' : o ++ s ≠ [] := fun h => by rw [h] at hne; simp at hne
        rw [show close1 (o ++ s) true (ps.map pure1) = (ps ++ [(⟨oA', oc', o ++ s, true⟩ : Prt)]).map pure1 by unfold close1; rw [if_neg hne', List.map_append]; rfl] at ht2 hlast
        (conv => whnf); repeat ((first | refine tk1 ?_ | refine tk2 ?_ | refine tk3 ?_ | refine tk12 (fun _ => ?_) | refine tk4 ?_ | refine tk5 ?_ | refine tk6 ?_ | refine tk7 ?_ | refine tk8 ?_ | refine tk9 ?_ | refine tk10 (fun _ _ => ?_) | refine tk11 (fun _ => ?_) | refine tk13 ?_ | refine tk14 ?_); (conv => whnf))
        refine IdxA.tc (by rw [pccells_length]; omega) (by omega) (by omega) ?_
        (conv => whnf); repeat ((first | refine tk1 ?_ | refine tk2 ?_ | refine tk3 ?_ | refine tk12 (fun _ => ?_) | refine tk4 ?_ | refine tk5 ?_ | refine tk6 ?_ | refine tk7 ?_ | refine tk8 ?_ | refine tk9 ?_ | refine tk10 (fun _ _ => ?_) | refine tk11 (fun _ => ?_) | refine tk13 ?_ | refine tk14 ?_); (conv => whnf))
        refine Ld.taF (v := .bool x.f) g4.2.2.2.2 ?_
        rw [hfx]
        (conv => whnf); repeat ((first | refine tk1 ?_ | refine tk2 ?_ | refine tk3 ?_ | refine tk12 (fun _ => ?_) | refine tk4 ?_ | refine tk5 ?_ | refine tk6 ?_ | refine tk7 ?_ | refine tk8 ?_ | refine tk9 ?_ | refine tk10 (fun _ _ => ?_) | refine tk11 (fun _ => ?_) | refine tk13 ?_ | refine tk14 ?_); (conv => whnf))
        refine AppS.tc (m := 1) (news := [.slice oA' (o ++ s).length oc', .bool true]) SrcK.tc rfl (by simp [Value.oneCell']) (by decide) (by omega) (by omega) (zs := pcells (ps ++ [⟨oA', oc', o ++ s, true⟩])) (by rw [pcells_append]; rfl) (fun dA' dc' => ?_)
        rw [show ps.length + 1 = (ps ++ [(⟨oA', oc', o ++ s, true⟩ : Prt)]).length by simp]
        (conv => whnf); repeat ((first | refine tk1 ?_ | refine tk2 ?_ | refine tk3 ?_ | refine tk12 (fun _ => ?_) | refine tk4 ?_ | refine tk5 ?_ | refine tk6 ?_ | refine tk7 ?_ | refine tk8 ?_ | refine tk9 ?_ | refine tk10 (fun _ _ => ?_) | refine tk11 (fun _ => ?_) | refine tk13 ?_ | refine tk14 ?_); (conv => whnf))
        exact ⟨⟨k + 1, none, 0, [], dA', dc', ps ++ [⟨oA', oc', o ++ s, true⟩]⟩, ⟨by dsimp only; omega, fun _ => ht2.symm, hlast⟩, rfl, Into.nilRow (Cv.into (by (try dsimp only); repeat' (first | with_reducible exact Cv.refl | refine Cv.snoc (q := ⟨oA', oc', o ++ s, true⟩) ?_ | (with_reducible apply Cv.cons; focus ((repeat (first | with_reducible exact Pick.here | with_reducible apply Pick.skip)); done)) | (apply Cv.cons; focus ((repeat (first | exact Pick.here | apply Pick.skip)); done)) | exact Cv.nil | exact Cv.refl | refine Cv.skip ?_))), by dsimp only; omega⟩
      · have he : o ++ s = [] := List.eq_nil_of_length_eq_zero (by omega)
        rw [show close1 (o ++ s) true (ps.map pure1) = ps.map pure1 by unfold close1; rw [if_pos he]] at ht2 hlast
        (conv => whnf); repeat ((first | refine tk1 ?_ | refine tk2 ?_ | refine tk3 ?_ | refine tk12 (fun _ => ?_) | refine tk4 ?_ | refine tk5 ?_ | refine tk6 ?_ | refine tk7 ?_ | refine tk8 ?_ | refine tk9 ?_ | refine tk10 (fun _ _ => ?_) | refine tk11 (fun _ => ?_) | refine tk13 ?_ | refine tk14 ?_); (conv => whnf))
        exact ⟨⟨k + 1, none, 0, [], dA, dc, ps⟩, ⟨by dsimp only; omega, fun _ => ht2.symm, hlast⟩, rfl, Into.nilRow (Cv.into (by (try dsimp only); repeat' (first | with_reducible exact Cv.refl | with_reducible exact Cv.left | with_reducible exact Cv.right | with_reducible exact Cv.nil | (with_reducible apply Cv.cons; focus ((repeat (first | with_reducible exact Pick.here | with_reducible apply Pick.skip)); done)) | (apply Cv.cons; focus ((repeat (first | exact Pick.here | apply Pick.skip)); done)) | exact Cv.nil | exact Cv.refl | exact Cv.left | exact Cv.right | refine Cv.skip ?_))), by dsimp only; omega⟩
  · (conv => whnf); repeat ((first | refine tk1 ?_ | refine tk2 ?_ | refine tk3 ?_ | refine tk12 (fun _ => ?_) | refine tk4 ?_ | refine tk5 ?_ | refine tk6 ?_ | refine tk7 ?_ | refine tk8 ?_ | refine tk9 ?_ | refine tk10 (fun _ _ => ?_) | refine tk11 (fun _ => ?_) | refine tk13 ?_ | refine tk14 ?_); (conv => whnf))
    exact fun w' hw' => ⟨⟨dA, dc, ps⟩, rfl, hend (by omega), newH.into hw' (Cv.into (by (try dsimp only); repeat' (first | with_reducible exact Cv.refl | with_reducible exact Cv.left | with_reducible exact Cv.right | with_reducible exact Cv.nil | (with_reducible apply Cv.cons; focus ((repeat (first | with_reducible exact Pick.here | with_reducible apply Pick.skip)); done)) | (apply Cv.cons; focus ((repeat (first | exact Pick.here | apply Pick.skip)); done)) | exact Cv.nil | exact Cv.refl | exact Cv.left | exact Cv.right | refine Cv.skip ?_)))⟩
end Go.Proofs.YtmdmmncoigeijaaGreatDoor.Vex
/- The document's own answer for pages, reckoned, fourth part: Told, Answer. -/
namespace Go.Proofs.YtmdmmncoigeijaaGreatDoor.Vex
open Go Go.RowKit
set_option maxRecDepth 100000
set_option linter.unusedSectionVars false
variable {gI : GI} [HasMax gI]

set_option maxHeartbeats 4000000 in
theorem Told_r (m p : List UInt8) (st : Int) (FA : Option Addr) (Fc : Nat) (F : List Fld) (tag : List UInt8) (press : Bool) (QA : Option Addr) (Qc : Nat) (Q : List Pce)
    (rm rp rq : List UInt8) (rv : Int) (rf : Value) (BA : Option Addr) (B : List UInt8) (Bc : Nat) (PA : Option Addr) (pm : List Fld) (Pc : Nat)
    (hF : fsum F ≤ 1048576) (hQ : Q.length ≤ 1048576) (hp : fsum pm ≤ 1048576) (hB : B.length ≤ 1048576) (hq : rq.length ≤ 1048576) (htz : tag.length ≤ 1048576) (hall : ∀ x ∈ Q, pieceOK x = true) (htt : total (told B rq pm Q) ≤ 131072) :
    FnT Tryz.prog gI 39 [.agg ⟨[str m, str p, .int .i64 st, .slice FA F.length Fc, str tag, .bool press, .slice QA Q.length Qc]⟩, .agg ⟨[str rm, str rp, str rq, .int .i64 rv, rf, .slice BA B.length Bc]⟩, .slice PA pm.length Pc]
      (fun w => RdL w [(FA, fcells F), (QA, pccells Q), (PA, fcells pm), (BA, B.map byteV)]) (AnsV.val (ansOf st F tag press (told B rq pm Q))) (AnsV.is (ansOf st F tag press (told B rq pm Q))) (AnsV.hd (ansOf st F tag press (told B rq pm Q))) AnsV.tl := by
  have hFl := fsum_length F
  have hPr := Parts_r (gI := gI) m p st FA Fc F tag press QA Qc Q rm rp rq rv rf BA B Bc PA pm Pc hQ hp hB hq hall htt
  obtain ⟨tl, htl⟩ : ∃ tl, tl = told B rq pm Q := ⟨_, rfl⟩
  rw [← htl] at hPr ⊢
  clear htl htt
  refine FnE.of tys_ok Tryz.func39 rfl (by kernel_rfl) rfl rfl ?_; intro w hG hP
  have hRF : ∀ H, RdA (mkC Tryz.prog gI w hG) H FA (fcells F) := fun H => ⟨hP.1.now⟩
  have hRQ : ∀ H, RdA (mkC Tryz.prog gI w hG) H QA (pccells Q) := fun H => ⟨hP.2.1.now⟩
  have hRP : ∀ H, RdA (mkC Tryz.prog gI w hG) H PA (fcells pm) := fun H => ⟨hP.2.2.1.now⟩
  have hRB : ∀ H, RdA (mkC Tryz.prog gI w hG) H BA (B.map byteV) := fun H => ⟨hP.2.2.2.1.now⟩
  (conv => whnf); repeat ((first | refine tk1 ?_ | refine tk2 ?_ | refine tk3 ?_ | refine tk12 (fun _ => ?_) | refine tk4 ?_ | refine tk5 ?_ | refine tk6 ?_ | refine tk7 ?_ | refine tk8 ?_ | refine tk9 ?_ | refine tk10 (fun _ _ => ?_) | refine tk11 (fun _ => ?_) | refine tk13 ?_ | refine tk14 ?_); (conv => whnf))
  rename_i b3 b4 b6
  cases press
  · (conv => whnf); repeat ((first | refine tk1 ?_ | refine tk2 ?_ | refine tk3 ?_ | refine tk12 (fun _ => ?_) | refine tk4 ?_ | refine tk5 ?_ | refine tk6 ?_ | refine tk7 ?_ | refine tk8 ?_ | refine tk9 ?_ | refine tk10 (fun _ _ => ?_) | refine tk11 (fun _ => ?_) | refine tk13 ?_ | refine tk14 ?_); (conv => whnf))
    refine DrawS.joinI (fun (y : { y : PrV // y.ps.map pure1 = partsG tl } × Nat) u => [u 0, u 1, u 2, .pointer (some ⟨b3, 0, none⟩), u 4, u 5, .pointer (some ⟨b6, 0, none⟩), .pointer (some ⟨y.2, 0, none⟩), u 8, u 9, u 10, u 11, u 12, u 13, u 14, u 15, u 16, u 17, u 18, u 19, u 20, u 21, u 22, u 23, u 24, u 25, u 26, u 27, u 28, u 29, u 30, u 31, u 32, u 33, u 34, u 35, u 36, u 37, u 38, u 39, u 40, u 41, u 42])
      (fun y => .box y.2 [.int .i64 st, .slice none 0 0, .slice y.1.1.A y.1.1.ps.length y.1.1.cp, .int .u8 0, str tag, .bool (false)] 32 :: .row (.slice y.1.1.A y.1.1.ps.length y.1.1.cp) 45 2 y.1.1.ps.length (pcells y.1.1.ps) ::
        .box b3 [str m, str p, .int .i64 st, .slice FA F.length Fc, str tag, .bool false, .slice QA Q.length Qc] 25 :: .box b6 [.int .i64 0, .slice none 0 0, .slice none 0 0, .int .u8 0, str [], .bool false] 32 :: rowsP 5 y.1.1.ps)
      [] (.q 0 (.q 1 (.q 2 (.q 3 (.q 4 (.q 6 (.q 7 (.q 8 (.q 9 (.ch 5 (.q 10 (.q 11 (.q 12 (.q 13 (.q 14 (.q 15 (.a 16 (.a 17 (.nil))))))))) (.ch 16 (.a 5 (.q 10 (.q 11 (.q 12 (.q 13 (.q 14 (.q 15 (.a 17 (.nil))))))))) (.stop)))))))))))) tys_ok mixed (by kernel_rfl) ?_ ?_
    · (repeat' ((conv => whnf); first | (first | refine tk1 ?_ | refine tk2 ?_ | refine tk3 ?_ | refine tk12 (fun _ => ?_) | refine tk4 ?_ | refine tk5 ?_ | refine tk6 ?_ | refine tk7 ?_ | refine tk8 ?_ | refine tk9 ?_ | refine tk10 (fun _ _ => ?_) | refine tk11 (fun _ => ?_) | refine tk13 ?_ | refine tk14 ?_) | refine And.intro ?_ ?_ | exact trivial | exact ⟨(⟨_, hy⟩, _), rfl, Cv.into (by (try dsimp only); repeat' (first | with_reducible exact Cv.refl | with_reducible exact Cv.left | with_reducible exact Cv.right | with_reducible exact Cv.nil | (with_reducible apply Cv.cons; focus ((repeat (first | with_reducible exact Pick.here | with_reducible apply Pick.skip)); done)) | (apply Cv.cons; focus ((repeat (first | exact Pick.here | apply Pick.skip)); done)) | exact Cv.nil | exact Cv.refl | exact Cv.left | exact Cv.right | refine Cv.skip ?_))⟩ | (refine CallK.fnT hPr (fun w1 hw1 => ⟨(hRQ _).ok w1 hw1, (hRP _).ok w1 hw1, (hRB _).ok w1 hw1, trivial⟩) ?_; intro y hy; dsimp only [PrV.val, PrV.hd, PrV.tl, List.cons_append, List.nil_append]) | (refine Cmp.of (!decide (st = 204)) (by simp) ?_)))
    rintro ⟨⟨⟨rA, rc, ps⟩, hy⟩, b7⟩ u
    dsimp only at hy ⊢
    (conv => whnf); repeat ((first | refine tk1 ?_ | refine tk2 ?_ | refine tk3 ?_ | refine tk12 (fun _ => ?_) | refine tk4 ?_ | refine tk5 ?_ | refine tk6 ?_ | refine tk7 ?_ | refine tk8 ?_ | refine tk9 ?_ | refine tk10 (fun _ _ => ?_) | refine tk11 (fun _ => ?_) | refine tk13 ?_ | refine tk14 ?_); (conv => whnf))
    refine AppS.t0 (m := F.length) (news := fcells F) SrcK.tc (by rw [fcells_length]; omega) (fcells_one F) (by decide) (by omega) (by omega) (fun fA fc => ?_)
    (conv => whnf); repeat ((first | refine tk1 ?_ | refine tk2 ?_ | refine tk3 ?_ | refine tk12 (fun _ => ?_) | refine tk4 ?_ | refine tk5 ?_ | refine tk6 ?_ | refine tk7 ?_ | refine tk8 ?_ | refine tk9 ?_ | refine tk10 (fun _ _ => ?_) | refine tk11 (fun _ => ?_) | refine tk13 ?_ | refine tk14 ?_); (conv => whnf))
    refine Cmp.cases (fun ht => ?_) (fun ht => ?_)
    · have hfs : ansF tag F = F ++ [(etN, [34] ++ tag ++ [34])] := by unfold ansF; rw [if_neg ht]
      have h9 : ansOf st F tag false tl = ⟨st, F ++ [(etN, [34] ++ tag ++ [34])], partsG tl, tag, false && !decide (st = 204)⟩ := by unfold ansOf; rw [hfs]
      rw [h9]
      (conv => whnf); repeat ((first | refine tk1 ?_ | refine tk2 ?_ | refine tk3 ?_ | refine tk12 (fun _ => ?_) | refine tk4 ?_ | refine tk5 ?_ | refine tk6 ?_ | refine tk7 ?_ | refine tk8 ?_ | refine tk9 ?_ | refine tk10 (fun _ _ => ?_) | refine tk11 (fun _ => ?_) | refine tk13 ?_ | refine tk14 ?_); (conv => whnf))
      refine DrawS.go [(0, true), (1, true), (2, true), (3, true), (4, true), (5, true), (6, false), (7, false), (8, true), (9, false)] tys_ok mixed (by kernel_rfl) ?_
      (conv => whnf); repeat ((first | refine tk1 ?_ | refine tk2 ?_ | refine tk3 ?_ | refine tk12 (fun _ => ?_) | refine tk4 ?_ | refine tk5 ?_ | refine tk6 ?_ | refine tk7 ?_ | refine tk8 ?_ | refine tk9 ?_ | refine tk10 (fun _ _ => ?_) | refine tk11 (fun _ => ?_) | refine tk13 ?_ | refine tk14 ?_); (conv => whnf))
      refine CallQ.fn (Marked_r tag (by omega)) ?_
      (conv => whnf); repeat ((first | refine tk1 ?_ | refine tk2 ?_ | refine tk3 ?_ | refine tk12 (fun _ => ?_) | refine tk4 ?_ | refine tk5 ?_ | refine tk6 ?_ | refine tk7 ?_ | refine tk8 ?_ | refine tk9 ?_ | refine tk10 (fun _ _ => ?_) | refine tk11 (fun _ => ?_) | refine tk13 ?_ | refine tk14 ?_); (conv => whnf))
      refine AppS.tc (m := 1) (news := [str etN, str ([34] ++ tag ++ [34])]) SrcK.tc rfl (by simp [Value.oneCell']) (by decide) (by omega) (by omega) (zs := fcells (F ++ [(etN, [34] ++ tag ++ [34])])) (by rw [fcells_app]; rfl) (fun fA' fc' => ?_)
      rw [show F.length + 1 = (F ++ [(etN, [34] ++ tag ++ [34])]).length by simp]
      (conv => whnf); repeat ((first | refine tk1 ?_ | refine tk2 ?_ | refine tk3 ?_ | refine tk12 (fun _ => ?_) | refine tk4 ?_ | refine tk5 ?_ | refine tk6 ?_ | refine tk7 ?_ | refine tk8 ?_ | refine tk9 ?_ | refine tk10 (fun _ _ => ?_) | refine tk11 (fun _ => ?_) | refine tk13 ?_ | refine tk14 ?_); (conv => whnf))
      exact fun w' hw' => ⟨⟨fA', fc', rA, rc, ps⟩, rfl, hy, newH.into hw' (Cv.into (by (try dsimp only); repeat' (first | with_reducible exact Cv.refl | with_reducible exact Cv.left | with_reducible exact Cv.right | with_reducible exact Cv.nil | (with_reducible apply Cv.cons; focus ((repeat (first | with_reducible exact Pick.here | with_reducible apply Pick.skip)); done)) | (apply Cv.cons; focus ((repeat (first | exact Pick.here | apply Pick.skip)); done)) | exact Cv.nil | exact Cv.refl | exact Cv.left | exact Cv.right | refine Cv.skip ?_)))⟩
    · have hfs : ansF tag F = F := by unfold ansF; rw [if_pos (Classical.not_not.1 ht)]
      have h9 : ansOf st F tag false tl = ⟨st, F, partsG tl, tag, false && !decide (st = 204)⟩ := by unfold ansOf; rw [hfs]
      rw [h9]
      (conv => whnf); repeat ((first | refine tk1 ?_ | refine tk2 ?_ | refine tk3 ?_ | refine tk12 (fun _ => ?_) | refine tk4 ?_ | refine tk5 ?_ | refine tk6 ?_ | refine tk7 ?_ | refine tk8 ?_ | refine tk9 ?_ | refine tk10 (fun _ _ => ?_) | refine tk11 (fun _ => ?_) | refine tk13 ?_ | refine tk14 ?_); (conv => whnf))
      exact fun w' hw' => ⟨⟨fA, fc, rA, rc, ps⟩, rfl, hy, newH.into hw' (Cv.into (by (try dsimp only); repeat' (first | with_reducible exact Cv.refl | with_reducible exact Cv.left | with_reducible exact Cv.right | with_reducible exact Cv.nil | (with_reducible apply Cv.cons; focus ((repeat (first | with_reducible exact Pick.here | with_reducible apply Pick.skip)); done)) | (apply Cv.cons; focus ((repeat (first | exact Pick.here | apply Pick.skip)); done)) | exact Cv.nil | exact Cv.refl | exact Cv.left | exact Cv.right | refine Cv.skip ?_)))⟩
  · (conv => whnf); repeat ((first | refine tk1 ?_ | refine tk2 ?_ | refine tk3 ?_ | refine tk12 (fun _ => ?_) | refine tk4 ?_ | refine tk5 ?_ | refine tk6 ?_ | refine tk7 ?_ | refine tk8 ?_ | refine tk9 ?_ | refine tk10 (fun _ _ => ?_) | refine tk11 (fun _ => ?_) | refine tk13 ?_ | refine tk14 ?_); (conv => whnf))
    refine DrawS.joinI (fun (y : { y : PrV // y.ps.map pure1 = partsG tl } × Nat) u => [u 0, u 1, u 2, .pointer (some ⟨b3, 0, none⟩), u 4, u 5, .pointer (some ⟨b6, 0, none⟩), .pointer (some ⟨y.2, 0, none⟩), u 8, u 9, u 10, u 11, u 12, u 13, u 14, u 15, u 16, u 17, u 18, u 19, u 20, u 21, u 22, u 23, u 24, u 25, u 26, u 27, u 28, u 29, u 30, u 31, u 32, u 33, u 34, u 35, u 36, u 37, u 38, u 39, u 40, u 41, u 42])
      (fun y => .box y.2 [.int .i64 st, .slice none 0 0, .slice y.1.1.A y.1.1.ps.length y.1.1.cp, .int .u8 0, str tag, .bool (!decide (st = 204))] 32 :: .row (.slice y.1.1.A y.1.1.ps.length y.1.1.cp) 45 2 y.1.1.ps.length (pcells y.1.1.ps) ::
        .box b3 [str m, str p, .int .i64 st, .slice FA F.length Fc, str tag, .bool true, .slice QA Q.length Qc] 25 :: .box b6 [.int .i64 0, .slice none 0 0, .slice none 0 0, .int .u8 0, str [], .bool false] 32 :: rowsP 5 y.1.1.ps)
      [] (.q 0 (.q 1 (.q 2 (.q 3 (.q 4 (.q 6 (.q 7 (.q 8 (.q 9 (.ch 5 (.q 10 (.q 11 (.q 12 (.q 13 (.q 14 (.q 15 (.a 16 (.a 17 (.nil))))))))) (.ch 16 (.a 5 (.q 10 (.q 11 (.q 12 (.q 13 (.q 14 (.q 15 (.a 17 (.nil))))))))) (.stop)))))))))))) tys_ok mixed (by kernel_rfl) ?_ ?_
    · (repeat' ((conv => whnf); first | (first | refine tk1 ?_ | refine tk2 ?_ | refine tk3 ?_ | refine tk12 (fun _ => ?_) | refine tk4 ?_ | refine tk5 ?_ | refine tk6 ?_ | refine tk7 ?_ | refine tk8 ?_ | refine tk9 ?_ | refine tk10 (fun _ _ => ?_) | refine tk11 (fun _ => ?_) | refine tk13 ?_ | refine tk14 ?_) | refine And.intro ?_ ?_ | exact trivial | exact ⟨(⟨_, hy⟩, _), rfl, Cv.into (by (try dsimp only); repeat' (first | with_reducible exact Cv.refl | with_reducible exact Cv.left | with_reducible exact Cv.right | with_reducible exact Cv.nil | (with_reducible apply Cv.cons; focus ((repeat (first | with_reducible exact Pick.here | with_reducible apply Pick.skip)); done)) | (apply Cv.cons; focus ((repeat (first | exact Pick.here | apply Pick.skip)); done)) | exact Cv.nil | exact Cv.refl | exact Cv.left | exact Cv.right | refine Cv.skip ?_))⟩ | (refine CallK.fnT hPr (fun w1 hw1 => ⟨(hRQ _).ok w1 hw1, (hRP _).ok w1 hw1, (hRB _).ok w1 hw1, trivial⟩) ?_; intro y hy; dsimp only [PrV.val, PrV.hd, PrV.tl, List.cons_append, List.nil_append]) | (refine Cmp.of (!decide (st = 204)) (by simp) ?_)))
    rintro ⟨⟨⟨rA, rc, ps⟩, hy⟩, b7⟩ u
    dsimp only at hy ⊢
    (conv => whnf); repeat ((first | refine tk1 ?_ | refine tk2 ?_ | refine tk3 ?_ | refine tk12 (fun _ => ?_) | refine tk4 ?_ | refine tk5 ?_ | refine tk6 ?_ | refine tk7 ?_ | refine tk8 ?_ | refine tk9 ?_ | refine tk10 (fun _ _ => ?_) | refine tk11 (fun _ => ?_) | refine tk13 ?_ | refine tk14 ?_); (conv => whnf))
    refine AppS.t0 (m := F.length) (news := fcells F) SrcK.tc (by rw [fcells_length]; omega) (fcells_one F) (by decide) (by omega) (by omega) (fun fA fc => ?_)
    (conv => whnf); repeat ((first | refine tk1 ?_ | refine tk2 ?_ | refine tk3 ?_ | refine tk12 (fun _ => ?_) | refine tk4 ?_ | refine tk5 ?_ | refine tk6 ?_ | refine tk7 ?_ | refine tk8 ?_ | refine tk9 ?_ | refine tk10 (fun _ _ => ?_) | refine tk11 (fun _ => ?_) | refine tk13 ?_ | refine tk14 ?_); (conv => whnf))
    refine Cmp.cases (fun ht => ?_) (fun ht => ?_)
    · have hfs : ansF tag F = F ++ [(etN, [34] ++ tag ++ [34])] := by unfold ansF; rw [if_neg ht]
      have h9 : ansOf st F tag true tl = ⟨st, F ++ [(etN, [34] ++ tag ++ [34])], partsG tl, tag, true && !decide (st = 204)⟩ := by unfold ansOf; rw [hfs]
      rw [h9]
      (conv => whnf); repeat ((first | refine tk1 ?_ | refine tk2 ?_ | refine tk3 ?_ | refine tk12 (fun _ => ?_) | refine tk4 ?_ | refine tk5 ?_ | refine tk6 ?_ | refine tk7 ?_ | refine tk8 ?_ | refine tk9 ?_ | refine tk10 (fun _ _ => ?_) | refine tk11 (fun _ => ?_) | refine tk13 ?_ | refine tk14 ?_); (conv => whnf))
      refine DrawS.go [(0, true), (1, true), (2, true), (3, true), (4, true), (5, true), (6, false), (7, false), (8, true), (9, false)] tys_ok mixed (by kernel_rfl) ?_
      (conv => whnf); repeat ((first | refine tk1 ?_ | refine tk2 ?_ | refine tk3 ?_ | refine tk12 (fun _ => ?_) | refine tk4 ?_ | refine tk5 ?_ | refine tk6 ?_ | refine tk7 ?_ | refine tk8 ?_ | refine tk9 ?_ | refine tk10 (fun _ _ => ?_) | refine tk11 (fun _ => ?_) | refine tk13 ?_ | refine tk14 ?_); (conv => whnf))
      refine CallQ.fn (Marked_r tag (by omega)) ?_
      (conv => whnf); repeat ((first | refine tk1 ?_ | refine tk2 ?_ | refine tk3 ?_ | refine tk12 (fun _ => ?_) | refine tk4 ?_ | refine tk5 ?_ | refine tk6 ?_ | refine tk7 ?_ | refine tk8 ?_ | refine tk9 ?_ | refine tk10 (fun _ _ => ?_) | refine tk11 (fun _ => ?_) | refine tk13 ?_ | refine tk14 ?_); (conv => whnf))
      refine AppS.tc (m := 1) (news := [str etN, str ([34] ++ tag ++ [34])]) SrcK.tc rfl (by simp [Value.oneCell']) (by decide) (by omega) (by omega) (zs := fcells (F ++ [(etN, [34] ++ tag ++ [34])])) (by rw [fcells_app]; rfl) (fun fA' fc' => ?_)
      rw [show F.length + 1 = (F ++ [(etN, [34] ++ tag ++ [34])]).length by simp]
      (conv => whnf); repeat ((first | refine tk1 ?_ | refine tk2 ?_ | refine tk3 ?_ | refine tk12 (fun _ => ?_) | refine tk4 ?_ | refine tk5 ?_ | refine tk6 ?_ | refine tk7 ?_ | refine tk8 ?_ | refine tk9 ?_ | refine tk10 (fun _ _ => ?_) | refine tk11 (fun _ => ?_) | refine tk13 ?_ | refine tk14 ?_); (conv => whnf))
      exact fun w' hw' => ⟨⟨fA', fc', rA, rc, ps⟩, rfl, hy, newH.into hw' (Cv.into (by (try dsimp only); repeat' (first | with_reducible exact Cv.refl | with_reducible exact Cv.left | with_reducible exact Cv.right | with_reducible exact Cv.nil | (with_reducible apply Cv.cons; focus ((repeat (first | with_reducible exact Pick.here | with_reducible apply Pick.skip)); done)) | (apply Cv.cons; focus ((repeat (first | exact Pick.here | apply Pick.skip)); done)) | exact Cv.nil | exact Cv.refl | exact Cv.left | exact Cv.right | refine Cv.skip ?_)))⟩
    · have hfs : ansF tag F = F := by unfold ansF; rw [if_pos (Classical.not_not.1 ht)]
      have h9 : ansOf st F tag true tl = ⟨st, F, partsG tl, tag, true && !decide (st = 204)⟩ := by unfold ansOf; rw [hfs]
      rw [h9]
      (conv => whnf); repeat ((first | refine tk1 ?_ | refine tk2 ?_ | refine tk3 ?_ | refine tk12 (fun _ => ?_) | refine tk4 ?_ | refine tk5 ?_ | refine tk6 ?_ | refine tk7 ?_ | refine tk8 ?_ | refine tk9 ?_ | refine tk10 (fun _ _ => ?_) | refine tk11 (fun _ => ?_) | refine tk13 ?_ | refine tk14 ?_); (conv => whnf))
      exact fun w' hw' => ⟨⟨fA, fc, rA, rc, ps⟩, rfl, hy, newH.into hw' (Cv.into (by (try dsimp only); repeat' (first | with_reducible exact Cv.refl | with_reducible exact Cv.left | with_reducible exact Cv.right | with_reducible exact Cv.nil | (with_reducible apply Cv.cons; focus ((repeat (first | with_reducible exact Pick.here | with_reducible apply Pick.skip)); done)) | (apply Cv.cons; focus ((repeat (first | exact Pick.here | apply Pick.skip)); done)) | exact Cv.nil | exact Cv.refl | exact Cv.left | exact Cv.right | refine Cv.skip ?_)))⟩
set_option maxHeartbeats 4000000 in
theorem Answer_r (m p : List UInt8) (st : Int) (FA : Option Addr) (Fc : Nat) (F : List Fld) (tag : List UInt8) (press : Bool) (QA : Option Addr) (Qc : Nat) (Q : List Pce)
    (rm rp rq : List UInt8) (rv : Int) (rf : Value) (BA : Option Addr) (B : List UInt8) (Bc : Nat) (PA : Option Addr) (pm : List Fld) (Pc : Nat) (a : Ans) (e : Int)
    (hF : fsum F ≤ 1048576) (hQ : Q.length ≤ 1048576) (hp : fsum pm ≤ 1048576) (hB : B.length ≤ 1048576) (hq : rq.length ≤ 1048576) (htz : tag.length ≤ 1048576) (h : answerOf st F tag press Q B rq pm = (a, e)) :
    FnT Tryz.prog gI 10 [.agg ⟨[str m, str p, .int .i64 st, .slice FA F.length Fc, str tag, .bool press, .slice QA Q.length Qc]⟩, .agg ⟨[str rm, str rp, str rq, .int .i64 rv, rf, .slice BA B.length Bc]⟩, .slice PA pm.length Pc]
      (fun w => RdL w [(FA, fcells F), (QA, pccells Q), (PA, fcells pm), (BA, B.map byteV)]) (fun x => .tuple #[AnsV.val a x, .int .i64 e]) (AnsV.is a) (AnsV.hd a) AnsV.tl := by
  have hfail : ∀ (z : Int), (a, e) = (ans0, z) → ∀ (w w' : World) (hG : gI.G w), St (mkC Tryz.prog gI w hG) [] w' → ∃ x, Value.tuple #[.agg ⟨[.int .i64 0, .slice none 0 0, .slice none 0 0, .int .u8 0, str [], .bool false]⟩, .int .i64 z] = .tuple #[AnsV.val a x, .int .i64 e] ∧ AnsV.is a x ∧ newH w w' (AnsV.hd a x ++ AnsV.tl x) := fun z hz w w' hG hw' => by
    obtain ⟨rfl, rfl⟩ := Prod.mk.inj hz
    exact ⟨.nil, rfl, rfl, newH.of (((hw'.nilRow 45 2).nilRow 47 2))⟩
  unfold answerOf at h
  refine FnE.of tys_ok Tryz.func10 rfl (by kernel_rfl) rfl rfl ?_; intro w hG hP
  have hRF : ∀ H, RdA (mkC Tryz.prog gI w hG) H FA (fcells F) := fun H => ⟨hP.1.now⟩
  have hRQ : ∀ H, RdA (mkC Tryz.prog gI w hG) H QA (pccells Q) := fun H => ⟨hP.2.1.now⟩
  have hRP : ∀ H, RdA (mkC Tryz.prog gI w hG) H PA (fcells pm) := fun H => ⟨hP.2.2.1.now⟩
  have hRB : ∀ H, RdA (mkC Tryz.prog gI w hG) H BA (B.map byteV) := fun H => ⟨hP.2.2.2.1.now⟩
  (conv => whnf); repeat ((first | refine tk1 ?_ | refine tk2 ?_ | refine tk3 ?_ | refine tk12 (fun _ => ?_) | refine tk4 ?_ | refine tk5 ?_ | refine tk6 ?_ | refine tk7 ?_ | refine tk8 ?_ | refine tk9 ?_ | refine tk10 (fun _ _ => ?_) | refine tk11 (fun _ => ?_) | refine tk13 ?_ | refine tk14 ?_); (conv => whnf))
  rename_i b3 b4 b6
  refine CallK.fnR (May27_r m p st FA Fc F tag press QA Qc Q hF hQ htz) ⟨(hRF _).ok, (hRQ _).ok, trivial⟩ ?_
  cases hok : pageOK st tag F Q
  · rw [hok, if_neg Bool.false_ne_true] at h
    (conv => whnf); repeat ((first | refine tk1 ?_ | refine tk2 ?_ | refine tk3 ?_ | refine tk12 (fun _ => ?_) | refine tk4 ?_ | refine tk5 ?_ | refine tk6 ?_ | refine tk7 ?_ | refine tk8 ?_ | refine tk9 ?_ | refine tk10 (fun _ _ => ?_) | refine tk11 (fun _ => ?_) | refine tk13 ?_ | refine tk14 ?_); (conv => whnf))
    exact fun w' hw' => hfail 8 h.symm w w' hG (hw'.sub (List.nil_sublist _))
  rw [hok, if_pos rfl] at h
  have hall : ∀ x ∈ Q, pieceOK x = true := by
    unfold pageOK at hok
    simp only [Bool.and_eq_true] at hok
    exact List.all_eq_true.1 hok.2.2.2
  have hTold := Told_r (gI := gI) m p st FA Fc F tag press QA Qc Q rm rp rq rv rf BA B Bc PA pm Pc hF hQ hp hB hq htz hall
  obtain ⟨tl, htl⟩ : ∃ tl, tl = told B rq pm Q := ⟨_, rfl⟩
  have htll : tl.length = Q.length := by rw [htl]; unfold told; rw [List.length_map]
  have htg : ∀ (k : Nat) (h1 : k < tl.length) (h2 : k < Q.length), tl[k] = (tells Q[k] B rq pm, Q[k].f) := fun k h1 h2 => by
    simp only [htl]; unfold told; rw [List.getElem_map]
  rw [← htl] at h hTold
  clear hok
  (conv => whnf); repeat ((first | refine tk1 ?_ | refine tk2 ?_ | refine tk3 ?_ | refine tk12 (fun _ => ?_) | refine tk4 ?_ | refine tk5 ?_ | refine tk6 ?_ | refine tk7 ?_ | refine tk8 ?_ | refine tk9 ?_ | refine tk10 (fun _ _ => ?_) | refine tk11 (fun _ => ?_) | refine tk13 ?_ | refine tk14 ?_); (conv => whnf))
  refine LoopS.lp tys_ok (fun (k : Nat) u => [u 0, u 1, .slice PA pm.length Pc, .pointer (some ⟨b3, 0, none⟩), .pointer (some ⟨b4, 0, none⟩), u 5, .pointer (some ⟨b6, 0, none⟩), u 7, .int .i64 (total (tl.take k) : Nat), .int .i64 (k : Nat), u 10, u 11, u 12, u 13, u 14, u 15, u 16, u 17, u 18, u 19, u 20, u 21, u 22, u 23, u 24, u 25, u 26, u 27, u 28, u 29, u 30, u 31, u 32, u 33, u 34, u 35, u 36, u 37, u 38])
    (fun _ => [.box b6 [.int .i64 0, .slice none 0 0, .slice none 0 0, .int .u8 0, str [], .bool false] 32, .box b4 [str rm, str rp, str rq, .int .i64 rv, rf, .slice BA B.length Bc] 28, .box b3 [str m, str p, .int .i64 st, .slice FA F.length Fc, str tag, .bool press, .slice QA Q.length Qc] 25])
    (fun k => k ≤ Q.length ∧ total (tl.take k) ≤ 131072) (fun k => Q.length - k) 0 ⟨Nat.zero_le _, Nat.zero_le _⟩ rfl (by repeat' (first | exact List.Sublist.refl _ | exact List.nil_sublist _ | apply List.Sublist.cons_cons | apply List.Sublist.cons)) ?_
  rintro k u ⟨hk, hkt9⟩
  (conv => whnf); repeat ((first | refine tk1 ?_ | refine tk2 ?_ | refine tk3 ?_ | refine tk12 (fun _ => ?_) | refine tk4 ?_ | refine tk5 ?_ | refine tk6 ?_ | refine tk7 ?_ | refine tk8 ?_ | refine tk9 ?_ | refine tk10 (fun _ _ => ?_) | refine tk11 (fun _ => ?_) | refine tk13 ?_ | refine tk14 ?_); (conv => whnf))
  refine Cmp.cases (fun hlt => ?_) (fun hlt => ?_)
  · have hlt' : k < Q.length := by omega
    have hkt : k < tl.length := by omega
    have hx := hall _ (List.getElem_mem hlt')
    have hg := htg k hkt hlt'
    have g4 := (pccells_at Q k hlt').1
    obtain ⟨x, hxe⟩ : ∃ x, Q[k] = x := ⟨_, rfl⟩
    rw [hxe] at hx hg g4
    have hcall := Bytes_r (gI := gI) rm rp rq rv rf BA B Bc PA pm Pc x hx hp hB hq
    have hsl := tells_le x B rq pm hx 1048576 hB hq (fun y hy => by have := fsum_mem hy; omega) (by decide)
    obtain ⟨s, hs⟩ : ∃ s, tells x B rq pm = s := ⟨_, rfl⟩
    rw [hs] at hcall hg hsl
    have ht1 := total_take_succ tl k hkt
    rw [hg] at ht1
    dsimp only at ht1
    (conv => whnf); repeat ((first | refine tk1 ?_ | refine tk2 ?_ | refine tk3 ?_ | refine tk12 (fun _ => ?_) | refine tk4 ?_ | refine tk5 ?_ | refine tk6 ?_ | refine tk7 ?_ | refine tk8 ?_ | refine tk9 ?_ | refine tk10 (fun _ _ => ?_) | refine tk11 (fun _ => ?_) | refine tk13 ?_ | refine tk14 ?_); (conv => whnf))
    refine DrawS.go [(0, true), (1, true), (2, true), (3, true), (4, true), (5, true), (6, true), (7, true), (8, false), (9, true), (10, true), (11, true)] tys_ok mixed (by kernel_rfl) ?_
    (conv => whnf); repeat ((first | refine tk1 ?_ | refine tk2 ?_ | refine tk3 ?_ | refine tk12 (fun _ => ?_) | refine tk4 ?_ | refine tk5 ?_ | refine tk6 ?_ | refine tk7 ?_ | refine tk8 ?_ | refine tk9 ?_ | refine tk10 (fun _ _ => ?_) | refine tk11 (fun _ => ?_) | refine tk13 ?_ | refine tk14 ?_); (conv => whnf))
    refine IdxA.tc (by rw [pccells_length]; omega) (by omega) (by omega) ?_
    (conv => whnf); repeat ((first | refine tk1 ?_ | refine tk2 ?_ | refine tk3 ?_ | refine tk12 (fun _ => ?_) | refine tk4 ?_ | refine tk5 ?_ | refine tk6 ?_ | refine tk7 ?_ | refine tk8 ?_ | refine tk9 ?_ | refine tk10 (fun _ _ => ?_) | refine tk11 (fun _ => ?_) | refine tk13 ?_ | refine tk14 ?_); (conv => whnf))
    refine Ld.taN g4 rfl ?_
    (conv => whnf); repeat ((first | refine tk1 ?_ | refine tk2 ?_ | refine tk3 ?_ | refine tk12 (fun _ => ?_) | refine tk4 ?_ | refine tk5 ?_ | refine tk6 ?_ | refine tk7 ?_ | refine tk8 ?_ | refine tk9 ?_ | refine tk10 (fun _ _ => ?_) | refine tk11 (fun _ => ?_) | refine tk13 ?_ | refine tk14 ?_); (conv => whnf))
    refine CallK.fnS hcall ⟨(hRP _).ok, (hRB _).ok, trivial⟩ (fun sA sc => ?_)
    (conv => whnf); repeat ((first | refine tk1 ?_ | refine tk2 ?_ | refine tk3 ?_ | refine tk12 (fun _ => ?_) | refine tk4 ?_ | refine tk5 ?_ | refine tk6 ?_ | refine tk7 ?_ | refine tk8 ?_ | refine tk9 ?_ | refine tk10 (fun _ _ => ?_) | refine tk11 (fun _ => ?_) | refine tk13 ?_ | refine tk14 ?_); (conv => whnf))
    refine Cmp.cases (fun hb => ?_) (fun hb => ?_)
    · rw [if_neg (by have := total_take tl (k + 1); omega)] at h
      (conv => whnf); repeat ((first | refine tk1 ?_ | refine tk2 ?_ | refine tk3 ?_ | refine tk12 (fun _ => ?_) | refine tk4 ?_ | refine tk5 ?_ | refine tk6 ?_ | refine tk7 ?_ | refine tk8 ?_ | refine tk9 ?_ | refine tk10 (fun _ _ => ?_) | refine tk11 (fun _ => ?_) | refine tk13 ?_ | refine tk14 ?_); (conv => whnf))
      exact fun w' hw' => hfail 9 h.symm w w' hG (hw'.sub (List.nil_sublist _))
    · (conv => whnf); repeat ((first | refine tk1 ?_ | refine tk2 ?_ | refine tk3 ?_ | refine tk12 (fun _ => ?_) | refine tk4 ?_ | refine tk5 ?_ | refine tk6 ?_ | refine tk7 ?_ | refine tk8 ?_ | refine tk9 ?_ | refine tk10 (fun _ _ => ?_) | refine tk11 (fun _ => ?_) | refine tk13 ?_ | refine tk14 ?_); (conv => whnf))
      exact ⟨k + 1, ⟨by omega, by omega⟩, by dsimp only; rw [ht1]; rfl, (by repeat' (first | exact List.Sublist.refl _ | exact List.nil_sublist _ | apply List.Sublist.cons_cons | apply List.Sublist.cons)), by dsimp only; omega⟩
  · have htk : tl.take k = tl := List.take_of_length_le (by omega)
    rw [htk] at hkt9
    rw [if_pos hkt9] at h
    obtain ⟨rfl, rfl⟩ := Prod.mk.inj h
    (conv => whnf); repeat ((first | refine tk1 ?_ | refine tk2 ?_ | refine tk3 ?_ | refine tk12 (fun _ => ?_) | refine tk4 ?_ | refine tk5 ?_ | refine tk6 ?_ | refine tk7 ?_ | refine tk8 ?_ | refine tk9 ?_ | refine tk10 (fun _ _ => ?_) | refine tk11 (fun _ => ?_) | refine tk13 ?_ | refine tk14 ?_); (conv => whnf))
    refine CallK.fnT (hTold hkt9) (fun w1 hw1 => ⟨(hRF _).ok w1 hw1, (hRQ _).ok w1 hw1, (hRP _).ok w1 hw1, (hRB _).ok w1 hw1, trivial⟩) ?_
    intro y hy
    dsimp only [AnsV.tl, List.cons_append, List.nil_append]
    unfold AnsV.hd
    dsimp only [List.cons_append, List.nil_append]
    (conv => whnf); repeat ((first | refine tk1 ?_ | refine tk2 ?_ | refine tk3 ?_ | refine tk12 (fun _ => ?_) | refine tk4 ?_ | refine tk5 ?_ | refine tk6 ?_ | refine tk7 ?_ | refine tk8 ?_ | refine tk9 ?_ | refine tk10 (fun _ _ => ?_) | refine tk11 (fun _ => ?_) | refine tk13 ?_ | refine tk14 ?_); (conv => whnf))
    exact fun w' hw' => ⟨y, rfl, hy, newH.into hw' (Cv.into (by (try dsimp only); repeat' (first | with_reducible exact Cv.refl | with_reducible exact Cv.left | with_reducible exact Cv.right | with_reducible exact Cv.nil | (with_reducible apply Cv.cons; focus ((repeat (first | with_reducible exact Pick.here | with_reducible apply Pick.skip)); done)) | (apply Cv.cons; focus ((repeat (first | exact Pick.here | apply Pick.skip)); done)) | exact Cv.nil | exact Cv.refl | exact Cv.left | exact Cv.right | refine Cv.skip ?_)))⟩
end Go.Proofs.YtmdmmncoigeijaaGreatDoor.Vex
/- An error's answer, and the statement PageNames, reckoned. -/
namespace Go.Proofs.YtmdmmncoigeijaaGreatDoor.Vex
open Go Go.RowKit
set_option maxRecDepth 100000
set_option linter.unusedSectionVars false
variable {gI : GI} [HasMax gI] [HasPow gI]

theorem Itoa_f (n : Int) (h0 : -9223372036854775808 ≤ n) (h1 : n ≤ 9223372036854775807) : Fn Tryz.prog gI 40 [.int .i64 n] (str (Lib.itoa n)) :=
  ⟨callable Tryz.func40 rfl (by kernel_rfl), fun w hG => (Tryz.strconv_Itoa n h0 h1 w (HasPow.ok w hG)).mono fun _ _ ⟨he, k, os, hw⟩ => ⟨he, by
    rw [hw]
    exact ⟨rfl, rfl, rfl, by simp [«Sort».grow, World.drewN], fun i hi => by
      show (w.heap ++ os)[i]? = w.heap[i]?
      exact Array.getElem?_append_left hi⟩⟩⟩
def errorOf (st : Int) : Ans × Int := if st < 400 ∨ 599 < st then (ans0, 8) else (⟨st, [], [(Lib.itoa st ++ [10], false)], [], false⟩, 0)
theorem PError_f (st : Int) (a : Ans) (e : Int) (h : errorOf st = (a, e)) : FnT Tryz.prog gI 11 [.int .i64 st] (fun _ => True) (fun x => .tuple #[AnsV.val a x, .int .i64 e]) (AnsV.is a) (AnsV.hd a) AnsV.tl := by
  unfold errorOf at h
  refine FnE.of tys_ok Tryz.func11 rfl (by kernel_rfl) rfl rfl ?_; intro w hG hP
  (conv => whnf); repeat ((first | refine tk1 ?_ | refine tk2 ?_ | refine tk3 ?_ | refine tk12 (fun _ => ?_) | refine tk4 ?_ | refine tk5 ?_ | refine tk6 ?_ | refine tk7 ?_ | refine tk8 ?_ | refine tk9 ?_ | refine tk10 (fun _ _ => ?_) | refine tk11 (fun _ => ?_) | refine tk13 ?_ | refine tk14 ?_); (conv => whnf))
  rename_i b2
  have bad : (st < 400 ∨ 599 < st) → a = ans0 ∧ e = 8 := fun hh => by
    rw [if_pos hh] at h
    exact ⟨(Prod.mk.inj h).1.symm, (Prod.mk.inj h).2.symm⟩
  refine Cmp.cases (fun c1 => ?_) (fun c1 => ?_)
  · obtain ⟨rfl, rfl⟩ := bad (by omega)
    (conv => whnf); repeat ((first | refine tk1 ?_ | refine tk2 ?_ | refine tk3 ?_ | refine tk12 (fun _ => ?_) | refine tk4 ?_ | refine tk5 ?_ | refine tk6 ?_ | refine tk7 ?_ | refine tk8 ?_ | refine tk9 ?_ | refine tk10 (fun _ _ => ?_) | refine tk11 (fun _ => ?_) | refine tk13 ?_ | refine tk14 ?_); (conv => whnf))
    exact fun w' hw' => ⟨.nil, rfl, rfl, newH.into hw' (Into.nilRow (Into.nilRow Into.nil))⟩
  (conv => whnf); repeat ((first | refine tk1 ?_ | refine tk2 ?_ | refine tk3 ?_ | refine tk12 (fun _ => ?_) | refine tk4 ?_ | refine tk5 ?_ | refine tk6 ?_ | refine tk7 ?_ | refine tk8 ?_ | refine tk9 ?_ | refine tk10 (fun _ _ => ?_) | refine tk11 (fun _ => ?_) | refine tk13 ?_ | refine tk14 ?_); (conv => whnf))
  refine Cmp.cases (fun c2 => ?_) (fun c2 => ?_)
  · obtain ⟨rfl, rfl⟩ := bad (by omega)
    (conv => whnf); repeat ((first | refine tk1 ?_ | refine tk2 ?_ | refine tk3 ?_ | refine tk12 (fun _ => ?_) | refine tk4 ?_ | refine tk5 ?_ | refine tk6 ?_ | refine tk7 ?_ | refine tk8 ?_ | refine tk9 ?_ | refine tk10 (fun _ _ => ?_) | refine tk11 (fun _ => ?_) | refine tk13 ?_ | refine tk14 ?_); (conv => whnf))
    exact fun w' hw' => ⟨.nil, rfl, rfl, newH.into hw' (Into.nilRow (Into.nilRow Into.nil))⟩
  rw [if_neg (by omega)] at h
  obtain ⟨rfl, rfl⟩ := Prod.mk.inj h
  have hil := Lib.itoa_length_le st (by omega) (by omega)
  (conv => whnf); repeat ((first | refine tk1 ?_ | refine tk2 ?_ | refine tk3 ?_ | refine tk12 (fun _ => ?_) | refine tk4 ?_ | refine tk5 ?_ | refine tk6 ?_ | refine tk7 ?_ | refine tk8 ?_ | refine tk9 ?_ | refine tk10 (fun _ _ => ?_) | refine tk11 (fun _ => ?_) | refine tk13 ?_ | refine tk14 ?_); (conv => whnf))
  refine CallK.fn (Itoa_f st (by omega) (by omega)) ?_
  (conv => whnf); repeat ((first | refine tk1 ?_ | refine tk2 ?_ | refine tk3 ?_ | refine tk12 (fun _ => ?_) | refine tk4 ?_ | refine tk5 ?_ | refine tk6 ?_ | refine tk7 ?_ | refine tk8 ?_ | refine tk9 ?_ | refine tk10 (fun _ _ => ?_) | refine tk11 (fun _ => ?_) | refine tk13 ?_ | refine tk14 ?_); (conv => whnf))
  refine CatS.at (by simp only [List.length_cons, List.length_nil]; omega) ?_
  have hl2 : (Lib.itoa st ++ [10]).length ≤ 1000 := by rw [List.length_append]; simp only [List.length_cons, List.length_nil]; omega
  (conv => whnf); repeat ((first | refine tk1 ?_ | refine tk2 ?_ | refine tk3 ?_ | refine tk12 (fun _ => ?_) | refine tk4 ?_ | refine tk5 ?_ | refine tk6 ?_ | refine tk7 ?_ | refine tk8 ?_ | refine tk9 ?_ | refine tk10 (fun _ _ => ?_) | refine tk11 (fun _ => ?_) | refine tk13 ?_ | refine tk14 ?_); (conv => whnf))
  rename_i bb cc b17
  exact fun w' hw' => ⟨⟨none, 0, some ⟨b17, 0, none⟩, 1, [⟨some ⟨bb, 0, none⟩, cc, Lib.itoa st ++ [10], false⟩]⟩, rfl, rfl, newH.into hw' (Into.nilRow (Cv.into (by repeat' (first | exact Cv.nil | exact Cv.refl | refine Cv.cons (by first | exact Pick.here | exact Pick.here.skip | exact Pick.here.skip.skip | exact Pick.here.skip.skip.skip | exact Pick.here.skip.skip.skip.skip | exact Pick.here.skip.skip.skip.skip.skip | exact Pick.here.skip.skip.skip.skip.skip.skip | exact Pick.here.skip.skip.skip.skip.skip.skip.skip | exact Pick.here.skip.skip.skip.skip.skip.skip.skip.skip | exact Pick.here.skip.skip.skip.skip.skip.skip.skip.skip.skip | exact Pick.here.skip.skip.skip.skip.skip.skip.skip.skip.skip.skip | exact Pick.here.skip.skip.skip.skip.skip.skip.skip.skip.skip.skip.skip) ?_ | refine Cv.skip ?_))))⟩
end Go.Proofs.YtmdmmncoigeijaaGreatDoor.Vex
/- An error's answer, as the document has it; Body and Same, reckoned. -/
namespace Go.Proofs.YtmdmmncoigeijaaGreatDoor.Vex
open Go Go.RowKit
set_option maxRecDepth 100000
set_option linter.unusedSectionVars false
variable {gI : GI} [HasMax gI] [HasPow gI]

theorem Body_r (A : Option Addr) (cp : Nat) (ps : List Prt) (hn : ps.length ≤ 4000000) (ht : total (ps.map pure1) ≤ 4000000) :
    FnE Tryz.prog gI 17 [.slice A ps.length cp] (fun w => PrtsOk w A ps) fun w v w' => ∃ u, v = u ∧ rowPost 5 1 (bodyOf (ps.map pure1)).length ((bodyOf (ps.map pure1)).map byteV) w u w' := by
  refine FnE.of tys_ok Tryz.func17 rfl (by kernel_rfl) rfl rfl ?_; intro w hG hP
  have hR : ∀ H, RdA (mkC Tryz.prog gI w hG) H A (pcells ps) := fun H => ⟨hP.1.now⟩
  (conv => whnf); repeat ((first | refine tk1 ?_ | refine tk2 ?_ | refine tk3 ?_ | refine tk12 (fun _ => ?_) | refine tk4 ?_ | refine tk5 ?_ | refine tk6 ?_ | refine tk7 ?_ | refine tk8 ?_ | refine tk9 ?_ | refine tk10 (fun _ _ => ?_) | refine tk11 (fun _ => ?_) | refine tk13 ?_ | refine tk14 ?_); (conv => whnf))
  refine LoopS.nilRow 5 1 ?_
  refine LoopS.lp tys_ok (fun (x : Nat × Option Addr × Nat) u => [.slice A ps.length cp, u 1, u 2, .slice x.2.1 (bodyOf ((ps.map pure1).take x.1)).length x.2.2, .int .i64 (x.1 : Nat), u 5, u 6, u 7, u 8, u 9, u 10, u 11, u 12, u 13, u 14, u 15, u 16, u 17, u 18])
    (fun x => [.row (.slice x.2.1 (bodyOf ((ps.map pure1).take x.1)).length x.2.2) 5 1 (bodyOf ((ps.map pure1).take x.1)).length ((bodyOf ((ps.map pure1).take x.1)).map byteV)])
    (fun x => x.1 ≤ ps.length) (fun x => ps.length - x.1) (0, none, 0) (Nat.zero_le _) rfl (by repeat' (first | exact List.Sublist.refl _ | exact List.nil_sublist _ | apply List.Sublist.cons_cons | apply List.Sublist.cons)) ?_
  rintro ⟨k, B, cq⟩ u hk
  dsimp only at hk ⊢
  (conv => whnf); repeat ((first | refine tk1 ?_ | refine tk2 ?_ | refine tk3 ?_ | refine tk12 (fun _ => ?_) | refine tk4 ?_ | refine tk5 ?_ | refine tk6 ?_ | refine tk7 ?_ | refine tk8 ?_ | refine tk9 ?_ | refine tk10 (fun _ _ => ?_) | refine tk11 (fun _ => ?_) | refine tk13 ?_ | refine tk14 ?_); (conv => whnf))
  refine Cmp.cases (fun hlt => ?_) (fun hlt => ?_)
  · have hlt' : k < ps.length := by omega
    have hkp : k < (ps.map pure1).length := by rw [List.length_map]; exact hlt'
    have ga := pcells_at ps k hlt'
    have eg : (ps.map pure1)[k] = pure1 ps[k] := List.getElem_map ..
    obtain ⟨q, hq⟩ : ∃ q, ps[k] = q := ⟨_, rfl⟩
    have hqm : q ∈ ps := hq ▸ List.getElem_mem hlt'
    have hRq : ∀ H, RdA (mkC Tryz.prog gI w hG) H q.A (q.l.map byteV) := fun H => ⟨(hP.2 q hqm).now⟩
    have e1 : bodyOf ((ps.map pure1).take (k + 1)) = bodyOf ((ps.map pure1).take k) ++ q.l := by
      rw [List.take_succ_eq_append_getElem hkp, bodyOf_snoc, eg, hq]; rfl
    have e2 := total_take (ps.map pure1) (k + 1)
    rw [← total_bodyOf, e1, List.length_append] at e2
    rw [hq] at ga
    (conv => whnf); repeat ((first | refine tk1 ?_ | refine tk2 ?_ | refine tk3 ?_ | refine tk12 (fun _ => ?_) | refine tk4 ?_ | refine tk5 ?_ | refine tk6 ?_ | refine tk7 ?_ | refine tk8 ?_ | refine tk9 ?_ | refine tk10 (fun _ _ => ?_) | refine tk11 (fun _ => ?_) | refine tk13 ?_ | refine tk14 ?_); (conv => whnf))
    refine IdxA.tc (by rw [pcells_length]; omega) (by omega) (by omega) ?_
    (conv => whnf); repeat ((first | refine tk1 ?_ | refine tk2 ?_ | refine tk3 ?_ | refine tk12 (fun _ => ?_) | refine tk4 ?_ | refine tk5 ?_ | refine tk6 ?_ | refine tk7 ?_ | refine tk8 ?_ | refine tk9 ?_ | refine tk10 (fun _ _ => ?_) | refine tk11 (fun _ => ?_) | refine tk13 ?_ | refine tk14 ?_); (conv => whnf))
    refine Ld.taF (v := .slice q.A q.l.length q.cp) ga.1 ?_
    (conv => whnf); repeat ((first | refine tk1 ?_ | refine tk2 ?_ | refine tk3 ?_ | refine tk12 (fun _ => ?_) | refine tk4 ?_ | refine tk5 ?_ | refine tk6 ?_ | refine tk7 ?_ | refine tk8 ?_ | refine tk9 ?_ | refine tk10 (fun _ _ => ?_) | refine tk11 (fun _ => ?_) | refine tk13 ?_ | refine tk14 ?_); (conv => whnf))
    refine AppS.tc (m := q.l.length) (news := q.l.map byteV) SrcK.tc (by simp) (byte_one _) (by decide) (by omega) (by omega) (zs := (bodyOf ((ps.map pure1).take (k + 1))).map byteV) (by rw [e1, List.map_append]) (fun B' cq' => ?_)
    rw [show (bodyOf ((ps.map pure1).take k)).length + q.l.length = (bodyOf ((ps.map pure1).take (k + 1))).length by rw [e1, List.length_append]]
    (conv => whnf); repeat ((first | refine tk1 ?_ | refine tk2 ?_ | refine tk3 ?_ | refine tk12 (fun _ => ?_) | refine tk4 ?_ | refine tk5 ?_ | refine tk6 ?_ | refine tk7 ?_ | refine tk8 ?_ | refine tk9 ?_ | refine tk10 (fun _ _ => ?_) | refine tk11 (fun _ => ?_) | refine tk13 ?_ | refine tk14 ?_); (conv => whnf))
    exact ⟨(k + 1, B', cq'), by dsimp only; omega, rfl, (by repeat' (first | exact List.Sublist.refl _ | exact List.nil_sublist _ | apply List.Sublist.cons_cons | apply List.Sublist.cons)), by dsimp only; omega⟩
  · rw [List.take_of_length_le (show (ps.map pure1).length ≤ k by rw [List.length_map]; omega)]
    (conv => whnf); repeat ((first | refine tk1 ?_ | refine tk2 ?_ | refine tk3 ?_ | refine tk12 (fun _ => ?_) | refine tk4 ?_ | refine tk5 ?_ | refine tk6 ?_ | refine tk7 ?_ | refine tk8 ?_ | refine tk9 ?_ | refine tk10 (fun _ _ => ?_) | refine tk11 (fun _ => ?_) | refine tk13 ?_ | refine tk14 ?_); (conv => whnf))
    exact fun w' hw' => ⟨_, rfl, rowPost.of (List.mem_cons_self ..) w' hw'⟩
theorem DivS.rem10 {x : Nat} {K : Value → Prop} (k : K (.int .i64 ((x % 10 : Nat) : Int))) : DivS .rem .i64 (x : Nat) 10 K := ⟨by decide, .inr ⟨rfl, _, (Int.ofNat_tmod x 10), k⟩⟩
theorem DivS.quo10 {x : Nat} {K : Value → Prop} (h : x ≤ 9223372036854775807) (k : K (.int .i64 ((x / 10 : Nat) : Int))) : DivS .quo .i64 (x : Nat) 10 K := ⟨by decide, .inl ⟨rfl, _, by
  have e : ((x : Int).tdiv 10) = ((x / 10 : Nat) : Int) := (Int.ofNat_tdiv x 10).symm
  rw [e, IntKind.wrap]
  simp [IntKind.bits, IntKind.signed]
  omega, k⟩⟩
theorem DivS.quo100 {x : Nat} {K : Value → Prop} (h : x ≤ 9223372036854775807) (k : K (.int .i64 ((x / 100 : Nat) : Int))) : DivS .quo .i64 (x : Nat) 100 K := ⟨by decide, .inl ⟨rfl, _, by
  have e : ((x : Int).tdiv 100) = ((x / 100 : Nat) : Int) := (Int.ofNat_tdiv x 100).symm
  rw [e, IntKind.wrap]
  simp [IntKind.bits, IntKind.signed]
  omega, k⟩⟩
theorem itoa_three (n : Nat) (h0 : 400 ≤ n) (h1 : n ≤ 599) : ∃ c1 c2 c3 : UInt8, Lib.itoa (n : Int) = [c1, c2, c3] ∧ c1.toNat = 48 + n / 100 ∧ c2.toNat = 48 + n / 10 % 10 ∧ c3.toNat = 48 + n % 10 := by
  have key : ∀ n : Fin 200, Lib.itoa ((400 + n.val : Nat) : Int) = [UInt8.ofNat (48 + (400 + n.val) / 100), UInt8.ofNat (48 + (400 + n.val) / 10 % 10), UInt8.ofNat (48 + (400 + n.val) % 10)] := by decide +kernel
  have h := key ⟨n - 400, by omega⟩
  dsimp only at h
  rw [show 400 + (n - 400) = n by omega] at h
  exact ⟨_, _, _, h, UInt8.toNat_ofNat_of_lt' (by show _ < 256; omega), UInt8.toNat_ofNat_of_lt' (by show _ < 256; omega), UInt8.toNat_ofNat_of_lt' (by show _ < 256; omega)⟩
theorem Failed_r (n : Nat) (h0 : 400 ≤ n) (h1 : n ≤ 599) : FnT Tryz.prog gI 41 [.int .i64 (n : Nat)] (fun _ => True) (AnsV.val ⟨n, [], [(Lib.itoa n ++ [10], false)], [], false⟩) (AnsV.is ⟨n, [], [(Lib.itoa n ++ [10], false)], [], false⟩) (AnsV.hd ⟨n, [], [(Lib.itoa n ++ [10], false)], [], false⟩) AnsV.tl := by
  obtain ⟨c1, c2, c3, hi, e1, e2, e3⟩ := itoa_three n h0 h1
  rw [hi]
  refine FnE.of tys_ok Tryz.func41 rfl (by kernel_rfl) rfl rfl ?_; intro w hG hP
  (conv => whnf); repeat ((first | refine tk1 ?_ | refine tk2 ?_ | refine tk3 ?_ | refine tk12 (fun _ => ?_) | refine tk4 ?_ | refine tk5 ?_ | refine tk6 ?_ | refine tk7 ?_ | refine tk8 ?_ | refine tk9 ?_ | refine tk10 (fun _ _ => ?_) | refine tk11 (fun _ => ?_) | refine tk13 ?_ | refine tk14 ?_); (conv => whnf))
  refine DivS.quo100 (by omega) ?_
  (conv => whnf); repeat ((first | refine tk1 ?_ | refine tk2 ?_ | refine tk3 ?_ | refine tk12 (fun _ => ?_) | refine tk4 ?_ | refine tk5 ?_ | refine tk6 ?_ | refine tk7 ?_ | refine tk8 ?_ | refine tk9 ?_ | refine tk10 (fun _ _ => ?_) | refine tk11 (fun _ => ?_) | refine tk13 ?_ | refine tk14 ?_); (conv => whnf))
  refine Ar.in8 (by omega) (by omega) ?_
  rw [show ((48 : Int) + ((n / 100 : Nat) : Int)) = (c1.toNat : Int) by omega]
  (conv => whnf); repeat ((first | refine tk1 ?_ | refine tk2 ?_ | refine tk3 ?_ | refine tk12 (fun _ => ?_) | refine tk4 ?_ | refine tk5 ?_ | refine tk6 ?_ | refine tk7 ?_ | refine tk8 ?_ | refine tk9 ?_ | refine tk10 (fun _ _ => ?_) | refine tk11 (fun _ => ?_) | refine tk13 ?_ | refine tk14 ?_); (conv => whnf))
  refine DivS.quo10 (by omega) ?_
  (conv => whnf); repeat ((first | refine tk1 ?_ | refine tk2 ?_ | refine tk3 ?_ | refine tk12 (fun _ => ?_) | refine tk4 ?_ | refine tk5 ?_ | refine tk6 ?_ | refine tk7 ?_ | refine tk8 ?_ | refine tk9 ?_ | refine tk10 (fun _ _ => ?_) | refine tk11 (fun _ => ?_) | refine tk13 ?_ | refine tk14 ?_); (conv => whnf))
  refine DivS.rem10 ?_
  (conv => whnf); repeat ((first | refine tk1 ?_ | refine tk2 ?_ | refine tk3 ?_ | refine tk12 (fun _ => ?_) | refine tk4 ?_ | refine tk5 ?_ | refine tk6 ?_ | refine tk7 ?_ | refine tk8 ?_ | refine tk9 ?_ | refine tk10 (fun _ _ => ?_) | refine tk11 (fun _ => ?_) | refine tk13 ?_ | refine tk14 ?_); (conv => whnf))
  refine Ar.in8 (by omega) (by omega) ?_
  rw [show ((48 : Int) + ((n / 10 % 10 : Nat) : Int)) = (c2.toNat : Int) by omega]
  (conv => whnf); repeat ((first | refine tk1 ?_ | refine tk2 ?_ | refine tk3 ?_ | refine tk12 (fun _ => ?_) | refine tk4 ?_ | refine tk5 ?_ | refine tk6 ?_ | refine tk7 ?_ | refine tk8 ?_ | refine tk9 ?_ | refine tk10 (fun _ _ => ?_) | refine tk11 (fun _ => ?_) | refine tk13 ?_ | refine tk14 ?_); (conv => whnf))
  refine DivS.rem10 ?_
  (conv => whnf); repeat ((first | refine tk1 ?_ | refine tk2 ?_ | refine tk3 ?_ | refine tk12 (fun _ => ?_) | refine tk4 ?_ | refine tk5 ?_ | refine tk6 ?_ | refine tk7 ?_ | refine tk8 ?_ | refine tk9 ?_ | refine tk10 (fun _ _ => ?_) | refine tk11 (fun _ => ?_) | refine tk13 ?_ | refine tk14 ?_); (conv => whnf))
  refine Ar.in8 (by omega) (by omega) ?_
  rw [show ((48 : Int) + ((n % 10 : Nat) : Int)) = (c3.toNat : Int) by omega]
  (conv => whnf); repeat ((first | refine tk1 ?_ | refine tk2 ?_ | refine tk3 ?_ | refine tk12 (fun _ => ?_) | refine tk4 ?_ | refine tk5 ?_ | refine tk6 ?_ | refine tk7 ?_ | refine tk8 ?_ | refine tk9 ?_ | refine tk10 (fun _ _ => ?_) | refine tk11 (fun _ => ?_) | refine tk13 ?_ | refine tk14 ?_); (conv => whnf))
  rename_i b2 b17 b21
  exact fun w' hw' => ⟨⟨none, 0, some ⟨b21, 0, none⟩, 1, [⟨some ⟨b17, 0, none⟩, 4, [c1, c2, c3, 10], false⟩]⟩, rfl, rfl, newH.into hw' (Into.nilRow (Cv.into (by (try dsimp only); repeat' (first | with_reducible exact Cv.refl | with_reducible exact Cv.left | with_reducible exact Cv.right | with_reducible exact Cv.nil | (with_reducible apply Cv.cons; focus ((repeat (first | with_reducible exact Pick.here | with_reducible apply Pick.skip)); done)) | (apply Cv.cons; focus ((repeat (first | exact Pick.here | apply Pick.skip)); done)) | exact Cv.nil | exact Cv.refl | exact Cv.left | exact Cv.right | refine Cv.skip ?_))))⟩
theorem Error_r (st : Int) (a : Ans) (e : Int) (h : errorOf st = (a, e)) : FnT Tryz.prog gI 12 [.int .i64 st] (fun _ => True) (fun x => .tuple #[AnsV.val a x, .int .i64 e]) (AnsV.is a) (AnsV.hd a) AnsV.tl := by
  unfold errorOf at h
  refine FnE.of tys_ok Tryz.func12 rfl (by kernel_rfl) rfl rfl ?_; intro w hG hP
  (conv => whnf); repeat ((first | refine tk1 ?_ | refine tk2 ?_ | refine tk3 ?_ | refine tk12 (fun _ => ?_) | refine tk4 ?_ | refine tk5 ?_ | refine tk6 ?_ | refine tk7 ?_ | refine tk8 ?_ | refine tk9 ?_ | refine tk10 (fun _ _ => ?_) | refine tk11 (fun _ => ?_) | refine tk13 ?_ | refine tk14 ?_); (conv => whnf))
  have bad : (st < 400 ∨ 599 < st) → a = ans0 ∧ e = 8 := fun hh => by
    rw [if_pos hh] at h
    exact ⟨(Prod.mk.inj h).1.symm, (Prod.mk.inj h).2.symm⟩
  refine Cmp.cases (fun c1 => ?_) (fun c1 => ?_)
  · obtain ⟨rfl, rfl⟩ := bad (by omega)
    (conv => whnf); repeat ((first | refine tk1 ?_ | refine tk2 ?_ | refine tk3 ?_ | refine tk12 (fun _ => ?_) | refine tk4 ?_ | refine tk5 ?_ | refine tk6 ?_ | refine tk7 ?_ | refine tk8 ?_ | refine tk9 ?_ | refine tk10 (fun _ _ => ?_) | refine tk11 (fun _ => ?_) | refine tk13 ?_ | refine tk14 ?_); (conv => whnf))
    exact fun w' hw' => ⟨.nil, rfl, rfl, newH.into hw' (Into.nilRow (Into.nilRow Into.nil))⟩
  (conv => whnf); repeat ((first | refine tk1 ?_ | refine tk2 ?_ | refine tk3 ?_ | refine tk12 (fun _ => ?_) | refine tk4 ?_ | refine tk5 ?_ | refine tk6 ?_ | refine tk7 ?_ | refine tk8 ?_ | refine tk9 ?_ | refine tk10 (fun _ _ => ?_) | refine tk11 (fun _ => ?_) | refine tk13 ?_ | refine tk14 ?_); (conv => whnf))
  refine Cmp.cases (fun c2 => ?_) (fun c2 => ?_)
  · obtain ⟨rfl, rfl⟩ := bad (by omega)
    (conv => whnf); repeat ((first | refine tk1 ?_ | refine tk2 ?_ | refine tk3 ?_ | refine tk12 (fun _ => ?_) | refine tk4 ?_ | refine tk5 ?_ | refine tk6 ?_ | refine tk7 ?_ | refine tk8 ?_ | refine tk9 ?_ | refine tk10 (fun _ _ => ?_) | refine tk11 (fun _ => ?_) | refine tk13 ?_ | refine tk14 ?_); (conv => whnf))
    exact fun w' hw' => ⟨.nil, rfl, rfl, newH.into hw' (Into.nilRow (Into.nilRow Into.nil))⟩
  rw [if_neg (by omega)] at h
  obtain ⟨rfl, rfl⟩ := Prod.mk.inj h
  obtain ⟨n, rfl⟩ : ∃ n : Nat, st = n := ⟨st.toNat, by omega⟩
  (conv => whnf); repeat ((first | refine tk1 ?_ | refine tk2 ?_ | refine tk3 ?_ | refine tk12 (fun _ => ?_) | refine tk4 ?_ | refine tk5 ?_ | refine tk6 ?_ | refine tk7 ?_ | refine tk8 ?_ | refine tk9 ?_ | refine tk10 (fun _ _ => ?_) | refine tk11 (fun _ => ?_) | refine tk13 ?_ | refine tk14 ?_); (conv => whnf))
  refine CallK.fnT (Failed_r n (by omega) (by omega)) (fun _ _ => trivial) ?_
  intro y hy
  dsimp only [AnsV.hd, AnsV.tl, List.cons_append, List.nil_append]
  (conv => whnf); repeat ((first | refine tk1 ?_ | refine tk2 ?_ | refine tk3 ?_ | refine tk12 (fun _ => ?_) | refine tk4 ?_ | refine tk5 ?_ | refine tk6 ?_ | refine tk7 ?_ | refine tk8 ?_ | refine tk9 ?_ | refine tk10 (fun _ _ => ?_) | refine tk11 (fun _ => ?_) | refine tk13 ?_ | refine tk14 ?_); (conv => whnf))
  exact fun w' hw' => ⟨y, rfl, hy, newH.into hw' (Cv.into (by (try dsimp only); repeat' (first | with_reducible exact Cv.refl | with_reducible exact Cv.left | with_reducible exact Cv.right | with_reducible exact Cv.nil | (with_reducible apply Cv.cons; focus ((repeat (first | with_reducible exact Pick.here | with_reducible apply Pick.skip)); done)) | (apply Cv.cons; focus ((repeat (first | exact Pick.here | apply Pick.skip)); done)) | exact Cv.nil | exact Cv.refl | exact Cv.left | exact Cv.right | refine Cv.skip ?_)))⟩
/-- Two answers with one content are the same. -/
theorem Same_t (a : Ans) (x y : AnsV) (hx : AnsV.is a x) (hy : AnsV.is a y) (hf : a.fs.length ≤ 1048576) (hp : a.ps.length ≤ 1048576) :
    FnE Tryz.prog gI 13 [AnsV.val a x, AnsV.val a y] (fun w => (Rdw w x.fA (fcells a.fs) ∧ Rdw w y.fA (fcells a.fs)) ∧ PrtsOk w x.pA x.ps ∧ PrtsOk w y.pA y.ps) fun _ v _ => v = .bool true := by
  obtain ⟨st, fs, ps, tag, press⟩ := a
  unfold AnsV.is at hx hy
  dsimp only at hx hy hf hp
  have hxl : x.ps.length ≤ 1048576 := by rw [← List.length_map (f := pure1), hx]; exact hp
  have hyl : y.ps.length ≤ 1048576 := by rw [← List.length_map (f := pure1), hy]; exact hp
  unfold AnsV.val
  dsimp only
  refine FnE.of tys_ok Tryz.func13 rfl (by kernel_rfl) rfl rfl ?_; intro w hG hP
  (conv => whnf); repeat ((first | refine tk1 ?_ | refine tk2 ?_ | refine tk3 ?_ | refine tk12 (fun _ => ?_) | refine tk4 ?_ | refine tk5 ?_ | refine tk6 ?_ | refine tk7 ?_ | refine tk8 ?_ | refine tk9 ?_ | refine tk10 (fun _ _ => ?_) | refine tk11 (fun _ => ?_) | refine tk13 ?_ | refine tk14 ?_); (conv => whnf))
  refine CallK.fnR (SameFields_r x.fA y.fA x.fc y.fc fs fs (by omega) (by omega)) ⟨hP.1.1.now, hP.1.2.now, trivial⟩ ?_
  rw [show decide (fs = fs) = true from decide_eq_true rfl]
  (conv => whnf); repeat ((first | refine tk1 ?_ | refine tk2 ?_ | refine tk3 ?_ | refine tk12 (fun _ => ?_) | refine tk4 ?_ | refine tk5 ?_ | refine tk6 ?_ | refine tk7 ?_ | refine tk8 ?_ | refine tk9 ?_ | refine tk10 (fun _ _ => ?_) | refine tk11 (fun _ => ?_) | refine tk13 ?_ | refine tk14 ?_); (conv => whnf))
  refine CallK.fnEV (SameParts_r x.pA y.pA x.pc y.pc x.ps y.ps (by omega) (by omega)) (fun w1 hw1 => ⟨prtsOk_st hP.2.1.1.now (fun q hq => (hP.2.1.2 q hq).now) w1 hw1, prtsOk_st hP.2.2.1.now (fun q hq => (hP.2.2.2 q hq).now) w1 hw1⟩) ?_
  rw [hx, hy, show decide (ps = ps) = true from decide_eq_true rfl]
  (conv => whnf); repeat ((first | refine tk1 ?_ | refine tk2 ?_ | refine tk3 ?_ | refine tk12 (fun _ => ?_) | refine tk4 ?_ | refine tk5 ?_ | refine tk6 ?_ | refine tk7 ?_ | refine tk8 ?_ | refine tk9 ?_ | refine tk10 (fun _ _ => ?_) | refine tk11 (fun _ => ?_) | refine tk13 ?_ | refine tk14 ?_); (conv => whnf))
  refine Cmp.t rfl ?_
  (conv => whnf); repeat ((first | refine tk1 ?_ | refine tk2 ?_ | refine tk3 ?_ | refine tk12 (fun _ => ?_) | refine tk4 ?_ | refine tk5 ?_ | refine tk6 ?_ | refine tk7 ?_ | refine tk8 ?_ | refine tk9 ?_ | refine tk10 (fun _ _ => ?_) | refine tk11 (fun _ => ?_) | refine tk13 ?_ | refine tk14 ?_); (conv => whnf))
  refine Cmp.t rfl ?_
  (conv => whnf); repeat ((first | refine tk1 ?_ | refine tk2 ?_ | refine tk3 ?_ | refine tk12 (fun _ => ?_) | refine tk4 ?_ | refine tk5 ?_ | refine tk6 ?_ | refine tk7 ?_ | refine tk8 ?_ | refine tk9 ?_ | refine tk10 (fun _ _ => ?_) | refine tk11 (fun _ => ?_) | refine tk13 ?_ | refine tk14 ?_); (conv => whnf))
  exact fun w' _ => rfl
end Go.Proofs.YtmdmmncoigeijaaGreatDoor.Vex
/- The statement PageTells, reckoned. -/
namespace Go.Proofs.YtmdmmncoigeijaaGreatDoor.Vex
open Go Go.RowKit
set_option maxRecDepth 100000
set_option linter.unusedSectionVars false
variable {gI : GI} [HasMax gI]

theorem answer_cases {st : Int} {fs : List Fld} {tag : List UInt8} {press : Bool} {Q : List Pce} {B q : List UInt8} {pm : List Fld} {a : Ans} {e : Int} (h : answerOf st fs tag press Q B q pm = (a, e)) :
    (e = 0 ∧ pageOK st tag fs Q = true ∧ total (told B q pm Q) ≤ 131072 ∧ a = ansOf st fs tag press (told B q pm Q)) ∨ (e = 9 ∧ a = ans0) ∨ (e = 8 ∧ pageE st tag fs Q = 8 ∧ a = ans0) := by
  unfold answerOf at h
  cases hp : pageOK st tag fs Q with
  | true =>
    rw [hp, if_pos rfl] at h
    split at h
    · rename_i ht
      obtain ⟨rfl, rfl⟩ := Prod.mk.inj h
      exact .inl ⟨rfl, rfl, ht, rfl⟩
    · obtain ⟨rfl, rfl⟩ := Prod.mk.inj h
      exact .inr (.inl ⟨rfl, rfl⟩)
  | false =>
    rw [hp, if_neg Bool.false_ne_true] at h
    obtain ⟨rfl, rfl⟩ := Prod.mk.inj h
    exact .inr (.inr ⟨rfl, by unfold pageE; rw [hp]; rfl, rfl⟩)
theorem ansF_at (tag : List UInt8) (F : List Fld) : F.length ≤ (ansF tag F).length ∧ ∀ (k : Nat) (h : k < F.length) (h' : k < (ansF tag F).length), (ansF tag F)[k] = F[k] := by
  unfold ansF
  by_cases ht : tag = []
  · simp only [if_pos ht]
    exact ⟨Nat.le_refl _, fun _ _ _ => trivial⟩
  · simp only [if_neg ht]
    exact ⟨by simp, fun k h h' => List.getElem_append_left h⟩
/-- What the walk of a statement on pages needs. -/
abbrev PgL (x : Pg) (r : Req) (P : Sl Fld) : List (Option Addr × List Value) := [(x.F.A, fcells x.F.l), (x.Ps.A, pccells x.Ps.l), (P.A, fcells P.l), (r.B.A, r.B.l.map byteV)]
end Go.Proofs.YtmdmmncoigeijaaGreatDoor.Vex
/- The statement PageAnswers, reckoned. -/
namespace Go.Proofs.YtmdmmncoigeijaaGreatDoor.Vex
open Go Go.RowKit
set_option maxRecDepth 100000
set_option linter.unusedSectionVars false
variable {gI : GI} [HasMax gI] [HasPow gI]

theorem CallQ.fnEV {c : Ctx} {H : Hp} {f : Nat} {args : List Value} {pre : World → Prop} {v : Value} {K : Value → Prop} (h : FnE c.P c.g f args pre fun _ u _ => u = v) (hp : ∀ w, St c H w → pre w) (k : K v) : CallQ c f args H K :=
  ⟨h.can, v, k, fun w hw => (h.ok w hw.glob (hp w hw)).mono fun _ _ ⟨_, he, hv, hr⟩ => ⟨by rw [he, hv], hr⟩⟩
/-- A part's row, its bytes turned. -/
def rowM (e : Nat) (z : Prt × List UInt8) : Ent := .row (.slice z.1.A z.1.l.length z.1.cp) e 1 z.1.l.length (z.2.map byteV)
def rowsM (e : Nat) (zs : List (Prt × List UInt8)) : Hp := zs.map (rowM e)
def asIs (ps : List Prt) : List (Prt × List UInt8) := ps.map fun q => (q, q.l)
theorem rowsM_asIs (e : Nat) (ps : List Prt) : rowsM e (asIs ps) = rowsP e ps := by
  unfold rowsM asIs rowsP
  rw [List.map_map]
  rfl
theorem out_perm {α : Type} {l : List α} {i : Nat} (h : i < l.length) : l.Perm (l[i] :: (l.take i ++ l.drop (i + 1))) := by
  have e : l = l.take i ++ (l[i] :: l.drop (i + 1)) := by rw [← List.drop_eq_getElem_cons h, List.take_append_drop]
  exact (List.Perm.of_eq e).trans List.perm_middle
theorem in_perm {α : Type} {l : List α} {i : Nat} (h : i < l.length) (x : α) : (x :: (l.take i ++ l.drop (i + 1))).Perm (l.set i x) := by
  rw [List.set_eq_take_append_cons_drop, if_pos h]
  exact List.perm_middle.symm
theorem rowsM_out {e : Nat} {zs : List (Prt × List UInt8)} {i : Nat} (h : i < zs.length) (T : Hp) : Cv (rowsM e zs ++ T) (rowM e zs[i] :: (rowsM e (zs.take i ++ zs.drop (i + 1)) ++ T)) := by
  refine .of ?_
  unfold rowsM
  rw [← List.cons_append, ← List.map_cons (f := rowM e)]
  exact List.Perm.append_right T (List.Perm.map _ (out_perm h))
theorem rowsM_in {e : Nat} {zs : List (Prt × List UInt8)} {i : Nat} (h : i < zs.length) (z : Prt × List UInt8) (T : Hp) : Cv (rowM e z :: (rowsM e (zs.take i ++ zs.drop (i + 1)) ++ T)) (rowsM e (zs.set i z) ++ T) := by
  refine .of ?_
  unfold rowsM
  rw [← List.cons_append, ← List.map_cons (f := rowM e)]
  exact List.Perm.append_right T (List.Perm.map _ (in_perm h z))
theorem total_mem {p : List UInt8 × Bool} : ∀ {l : Prs}, p ∈ l → p.1.length ≤ total l
  | q :: r, h => by
    rw [total]
    rcases List.mem_cons.1 h with rfl | h
    · omega
    · have := total_mem h; omega
theorem Cv.left2 {G A B : Hp} : Cv ((G ++ A) ++ B) G := Cv.left.trans Cv.left
theorem Cv.left3 {G A B D : Hp} : Cv (((G ++ A) ++ B) ++ D) G := Cv.left.trans Cv.left2
theorem Cv.bub {x z : Ent} {H G : Hp} (h : Cv H (z :: G)) : Cv (x :: H) (z :: x :: G) := by
  obtain ⟨R, hR⟩ := h
  exact ⟨R, (hR.cons x).trans (List.Perm.swap z x (G ++ R))⟩
theorem Cv.sink {x z : Ent} {H G : Hp} (h : Cv (z :: H) G) : Cv (z :: x :: H) (x :: G) := by
  obtain ⟨R, hR⟩ := h
  exact ⟨R, (List.Perm.swap x z H).trans (hR.cons x)⟩
theorem fcells_set : ∀ (l : List Fld) (k : Nat) (s : List UInt8) (h : k < l.length), (fcells l).set (k * 2 + 0) (str s) = fcells (l.set k (s, l[k].2))
  | p :: r, 0, s, _ => rfl
  | p :: r, k + 1, s, h => by
    have ih := fcells_set r k s (by simpa using h)
    rw [show (k + 1) * 2 + 0 = k * 2 + 0 + 1 + 1 by omega]
    exact congrArg (fun t => str p.1 :: str p.2 :: t) ih
theorem wrap_byte (z : Int) : ∃ y : UInt8, IntKind.u8.wrap z = (y.toNat : Int) := by
  have h : 0 ≤ IntKind.u8.wrap z ∧ IntKind.u8.wrap z < 256 := by rw [IntKind.wrap_u8]; omega
  refine ⟨UInt8.ofNat (IntKind.u8.wrap z).toNat, ?_⟩
  rw [UInt8.toNat_ofNat_of_lt' (by show _ < 256; omega)]
  omega
theorem errorOf_le {st : Int} {a : Ans} {e : Int} (h : errorOf st = (a, e)) : a.fs.length ≤ 1 ∧ a.ps.length ≤ 1 := by
  unfold errorOf at h
  split at h
  · obtain ⟨rfl, rfl⟩ := Prod.mk.inj h
    exact ⟨Nat.zero_le _, Nat.zero_le _⟩
  · obtain ⟨rfl, rfl⟩ := Prod.mk.inj h
    exact ⟨Nat.zero_le _, Nat.le_refl _⟩
set_option maxHeartbeats 8000000 in
theorem PageAnswers_v (x : Pg) (r : Req) (P : Sl Fld) (stt : Int) (hf : Fit x r P) : FnR Tryz.prog gI 3 [.agg ⟨x.cells⟩, .agg ⟨r.cells⟩, .slice P.A P.l.length P.cp, .int .i64 stt] (PgL x r P) (.bool true) := by
  obtain ⟨m, p, st, ⟨FA, Fc, F⟩, tag, press, ⟨QA, Qc, Q⟩⟩ := x
  obtain ⟨rm, rp, rq, rv, ⟨RA, Rc, R⟩, ⟨BA, Bc, B⟩⟩ := r
  obtain ⟨PA, Pc, pm⟩ := P
  obtain ⟨hst, htag, hF, hQ, hQt, hB, hq, hp⟩ := hf
  dsimp only at hst htag hF hQ hQt hB hq hp
  unfold PgL Pg.cells Req.cells
  dsimp only
  have hFl := fsum_length F
  obtain ⟨a, e, h⟩ : ∃ a e, answerOf st F tag press Q B rq pm = (a, e) := ⟨_, _, rfl⟩
  obtain ⟨a2, e2, h2⟩ : ∃ a e, errorOf stt = (a, e) := ⟨_, _, rfl⟩
  have hz := answers_ps_le h
  have hz2 := errorOf_le h2
  refine FnE.of tys_ok Tryz.func3 rfl (by kernel_rfl) rfl rfl ?_; intro w hG hP
  have hRF : ∀ H, RdA (mkC Tryz.prog gI w hG) H FA (fcells F) := fun H => ⟨hP.1.now⟩
  have hRQ : ∀ H, RdA (mkC Tryz.prog gI w hG) H QA (pccells Q) := fun H => ⟨hP.2.1.now⟩
  have hRP : ∀ H, RdA (mkC Tryz.prog gI w hG) H PA (fcells pm) := fun H => ⟨hP.2.2.1.now⟩
  have hRB : ∀ H, RdA (mkC Tryz.prog gI w hG) H BA (B.map byteV) := fun H => ⟨hP.2.2.2.1.now⟩
  (conv => whnf); repeat ((first | refine tk1 ?_ | refine tk2 ?_ | refine tk3 ?_ | refine tk12 (fun _ => ?_) | refine tk4 ?_ | refine tk5 ?_ | refine tk6 ?_ | refine tk7 ?_ | refine tk8 ?_ | refine tk9 ?_ | refine tk10 (fun _ _ => ?_) | refine tk11 (fun _ => ?_) | refine tk13 ?_ | refine tk14 ?_); (conv => whnf))
  rename_i b4 b5
  refine CallK.fnAny (Great27_b m p st FA Fc F tag press QA Qc Q rm rp rq rv _ BA B.length Bc PA pm Pc hQ hB hq htag) (fun w1 hw1 => ⟨(hRF _).ok w1 hw1, (hRQ _).ok w1 hw1, (hRP _).ok w1 hw1, trivial⟩) (fun b => ?_)
  cases b
  rotate_left
  · (conv => whnf); repeat ((first | refine tk1 ?_ | refine tk2 ?_ | refine tk3 ?_ | refine tk12 (fun _ => ?_) | refine tk4 ?_ | refine tk5 ?_ | refine tk6 ?_ | refine tk7 ?_ | refine tk8 ?_ | refine tk9 ?_ | refine tk10 (fun _ _ => ?_) | refine tk11 (fun _ => ?_) | refine tk13 ?_ | refine tk14 ?_); (conv => whnf))
    exact fun w' _ => rfl
  (conv => whnf); repeat ((first | refine tk1 ?_ | refine tk2 ?_ | refine tk3 ?_ | refine tk12 (fun _ => ?_) | refine tk4 ?_ | refine tk5 ?_ | refine tk6 ?_ | refine tk7 ?_ | refine tk8 ?_ | refine tk9 ?_ | refine tk10 (fun _ _ => ?_) | refine tk11 (fun _ => ?_) | refine tk13 ?_ | refine tk14 ?_); (conv => whnf))
  rename_i b9
  refine AppS.t0 (m := B.length) (news := B.map byteV) SrcK.tc (by simp) (byte_one _) (by decide) (by omega) (by omega) (fun oA oc => ?_)
  (conv => whnf); repeat ((first | refine tk1 ?_ | refine tk2 ?_ | refine tk3 ?_ | refine tk12 (fun _ => ?_) | refine tk4 ?_ | refine tk5 ?_ | refine tk6 ?_ | refine tk7 ?_ | refine tk8 ?_ | refine tk9 ?_ | refine tk10 (fun _ _ => ?_) | refine tk11 (fun _ => ?_) | refine tk13 ?_ | refine tk14 ?_); (conv => whnf))
  refine CallK.fnT (Answer_f m p st FA Fc F tag press QA Qc Q rm rp rq rv _ oA B oc PA pm Pc a e hF hQ hp hB hq h) (fun w1 hw1 => ⟨(hRF _).ok w1 hw1, (hRQ _).ok w1 hw1, (hRP _).ok w1 hw1, RdA.ok w1 hw1, trivial⟩) ?_
  intro x hx
  dsimp only [AnsV.hd, AnsV.tl, List.cons_append, List.nil_append]
  (conv => whnf); repeat ((first | refine tk1 ?_ | refine tk2 ?_ | refine tk3 ?_ | refine tk12 (fun _ => ?_) | refine tk4 ?_ | refine tk5 ?_ | refine tk6 ?_ | refine tk7 ?_ | refine tk8 ?_ | refine tk9 ?_ | refine tk10 (fun _ _ => ?_) | refine tk11 (fun _ => ?_) | refine tk13 ?_ | refine tk14 ?_); (conv => whnf))
  rename_i b10
  refine CallK.fnT (Answer_r m p st FA Fc F tag press QA Qc Q rm rp rq rv _ BA B Bc PA pm Pc a e hF hQ hp hB hq htag h) (fun w1 hw1 => ⟨(hRF _).ok w1 hw1, (hRQ _).ok w1 hw1, (hRP _).ok w1 hw1, (hRB _).ok w1 hw1, trivial⟩) ?_
  intro y hy
  dsimp only [AnsV.hd, AnsV.tl, List.cons_append, List.nil_append]
  (conv => whnf); repeat ((first | refine tk1 ?_ | refine tk2 ?_ | refine tk3 ?_ | refine tk12 (fun _ => ?_) | refine tk4 ?_ | refine tk5 ?_ | refine tk6 ?_ | refine tk7 ?_ | refine tk8 ?_ | refine tk9 ?_ | refine tk10 (fun _ _ => ?_) | refine tk11 (fun _ => ?_) | refine tk13 ?_ | refine tk14 ?_); (conv => whnf))
  rename_i b12
  refine CallK.fnT (PError_f stt a2 e2 h2) (fun _ _ => trivial) ?_
  intro x2 hx2
  dsimp only [AnsV.hd, AnsV.tl, List.cons_append, List.nil_append]
  (conv => whnf); repeat ((first | refine tk1 ?_ | refine tk2 ?_ | refine tk3 ?_ | refine tk12 (fun _ => ?_) | refine tk4 ?_ | refine tk5 ?_ | refine tk6 ?_ | refine tk7 ?_ | refine tk8 ?_ | refine tk9 ?_ | refine tk10 (fun _ _ => ?_) | refine tk11 (fun _ => ?_) | refine tk13 ?_ | refine tk14 ?_); (conv => whnf))
  rename_i b14
  refine CallK.fnT (Error_r stt a2 e2 h2) (fun _ _ => trivial) ?_
  intro y2 hy2
  dsimp only [AnsV.hd, AnsV.tl, List.cons_append, List.nil_append]
  (conv => whnf); repeat ((first | refine tk1 ?_ | refine tk2 ?_ | refine tk3 ?_ | refine tk12 (fun _ => ?_) | refine tk4 ?_ | refine tk5 ?_ | refine tk6 ?_ | refine tk7 ?_ | refine tk8 ?_ | refine tk9 ?_ | refine tk10 (fun _ _ => ?_) | refine tk11 (fun _ => ?_) | refine tk13 ?_ | refine tk14 ?_); (conv => whnf))
  rename_i b16
  refine DrawS.go ((List.range 30).map (fun i => (i, true)) ++ [(32, true), (33, true), (30, false), (31, true), (34, false), (35, true), (36, true), (37, true)]) tys_ok mixed (by kernel_rfl) ?_
  (conv => whnf); repeat ((first | refine tk1 ?_ | refine tk2 ?_ | refine tk3 ?_ | refine tk12 (fun _ => ?_) | refine tk4 ?_ | refine tk5 ?_ | refine tk6 ?_ | refine tk7 ?_ | refine tk8 ?_ | refine tk9 ?_ | refine tk10 (fun _ _ => ?_) | refine tk11 (fun _ => ?_) | refine tk13 ?_ | refine tk14 ?_); (conv => whnf))
  refine CallQ.fnEV (Same_t a x y hx hy (by omega) (by omega)) (fun w1 hw1 => ⟨⟨RdA.ok w1 hw1, RdA.ok w1 hw1⟩, (prtsOk_st RdA.ok (fun q hq => RdS.sub (Prt.rd (e := 5) hq) (by repeat' (first | exact List.Sublist.refl _ | exact List.sublist_append_right _ _ | exact List.sublist_append_left _ _ | refine List.Sublist.trans ?_ (List.sublist_append_left _ _) | apply List.Sublist.cons)))) w1 hw1, (prtsOk_st RdA.ok (fun q hq => RdS.sub (Prt.rd (e := 5) hq) (by repeat' (first | exact List.Sublist.refl _ | exact List.sublist_append_right _ _ | exact List.sublist_append_left _ _ | refine List.Sublist.trans ?_ (List.sublist_append_left _ _) | apply List.Sublist.cons)))) w1 hw1⟩) ?_
  (conv => whnf); repeat ((first | refine tk1 ?_ | refine tk2 ?_ | refine tk3 ?_ | refine tk12 (fun _ => ?_) | refine tk4 ?_ | refine tk5 ?_ | refine tk6 ?_ | refine tk7 ?_ | refine tk8 ?_ | refine tk9 ?_ | refine tk10 (fun _ _ => ?_) | refine tk11 (fun _ => ?_) | refine tk13 ?_ | refine tk14 ?_); (conv => whnf))
  refine CallQ.fnEV (Same_t a2 x2 y2 hx2 hy2 (by omega) (by omega)) (fun w1 hw1 => ⟨⟨RdA.ok w1 hw1, RdA.ok w1 hw1⟩, (prtsOk_st RdA.ok (fun q hq => RdS.sub (Prt.rd (e := 5) hq) (by repeat' (first | exact List.Sublist.refl _ | exact List.sublist_append_right _ _ | exact List.sublist_append_left _ _ | refine List.Sublist.trans ?_ (List.sublist_append_left _ _) | apply List.Sublist.cons)))) w1 hw1, (prtsOk_st RdA.ok (fun q hq => RdS.sub (Prt.rd (e := 5) hq) (by repeat' (first | exact List.Sublist.refl _ | exact List.sublist_append_right _ _ | exact List.sublist_append_left _ _ | refine List.Sublist.trans ?_ (List.sublist_append_left _ _) | apply List.Sublist.cons)))) w1 hw1⟩) ?_
  (conv => whnf); repeat ((first | refine tk1 ?_ | refine tk2 ?_ | refine tk3 ?_ | refine tk12 (fun _ => ?_) | refine tk4 ?_ | refine tk5 ?_ | refine tk6 ?_ | refine tk7 ?_ | refine tk8 ?_ | refine tk9 ?_ | refine tk10 (fun _ _ => ?_) | refine tk11 (fun _ => ?_) | refine tk13 ?_ | refine tk14 ?_); (conv => whnf))
  refine CallQ.fnR (Check27_f m p st FA Fc F tag press QA Qc Q hF hQ) ⟨(hRF _).ok, (hRQ _).ok, trivial⟩ ?_
  (conv => whnf); repeat ((first | refine tk1 ?_ | refine tk2 ?_ | refine tk3 ?_ | refine tk12 (fun _ => ?_) | refine tk4 ?_ | refine tk5 ?_ | refine tk6 ?_ | refine tk7 ?_ | refine tk8 ?_ | refine tk9 ?_ | refine tk10 (fun _ _ => ?_) | refine tk11 (fun _ => ?_) | refine tk13 ?_ | refine tk14 ?_); (conv => whnf))
  refine CallQ.fnR (Check27_r m p st FA Fc F tag press QA Qc Q hF hQ htag) ⟨(hRF _).ok, (hRQ _).ok, trivial⟩ ?_
  (conv => whnf); repeat ((first | refine tk1 ?_ | refine tk2 ?_ | refine tk3 ?_ | refine tk12 (fun _ => ?_) | refine tk4 ?_ | refine tk5 ?_ | refine tk6 ?_ | refine tk7 ?_ | refine tk8 ?_ | refine tk9 ?_ | refine tk10 (fun _ _ => ?_) | refine tk11 (fun _ => ?_) | refine tk13 ?_ | refine tk14 ?_); (conv => whnf))
  have hx' : x.ps.map pure1 = a.ps := hx
  have hy' : y.ps.map pure1 = a.ps := hy
  have hxl : x.ps.length = a.ps.length := by rw [← hx', List.length_map]
  have hyl : y.ps.length = a.ps.length := by rw [← hy', List.length_map]
  have htb := total_bodyOf a.ps
  refine CallK.fnG (G := id) (Body_f x.pA x.pc x.ps (by omega) (by rw [hx']; omega)) (fun w1 hw1 => (prtsOk_st RdA.ok (fun q hq => RdS.sub (Prt.rd (e := 5) hq) (by repeat' (first | exact List.Sublist.refl _ | exact List.sublist_append_right _ _ | exact List.sublist_append_left _ _ | refine List.Sublist.trans ?_ (List.sublist_append_left _ _) | apply List.Sublist.cons)))) w1 hw1) (fun dA dc hdc => ?_)
  rw [hx']
  (conv => whnf); repeat ((first | refine tk1 ?_ | refine tk2 ?_ | refine tk3 ?_ | refine tk12 (fun _ => ?_) | refine tk4 ?_ | refine tk5 ?_ | refine tk6 ?_ | refine tk7 ?_ | refine tk8 ?_ | refine tk9 ?_ | refine tk10 (fun _ _ => ?_) | refine tk11 (fun _ => ?_) | refine tk13 ?_ | refine tk14 ?_); (conv => whnf))
  refine B2S.tc (xs := (bodyOf a.ps).map byteV) (l := bodyOf a.ps) rfl rfl ?_
  (conv => whnf); repeat ((first | refine tk1 ?_ | refine tk2 ?_ | refine tk3 ?_ | refine tk12 (fun _ => ?_) | refine tk4 ?_ | refine tk5 ?_ | refine tk6 ?_ | refine tk7 ?_ | refine tk8 ?_ | refine tk9 ?_ | refine tk10 (fun _ _ => ?_) | refine tk11 (fun _ => ?_) | refine tk13 ?_ | refine tk14 ?_); (conv => whnf))
  refine CallK.fnG (G := id) (Body_r y.pA y.pc y.ps (by omega) (by rw [hy']; omega)) (fun w1 hw1 => (prtsOk_st RdA.ok (fun q hq => RdS.sub (Prt.rd (e := 5) hq) (by repeat' (first | exact List.Sublist.refl _ | exact List.sublist_append_right _ _ | exact List.sublist_append_left _ _ | refine List.Sublist.trans ?_ (List.sublist_append_left _ _) | apply List.Sublist.cons)))) w1 hw1) (fun eA ec hec => ?_)
  rw [hy']
  (conv => whnf); repeat ((first | refine tk1 ?_ | refine tk2 ?_ | refine tk3 ?_ | refine tk12 (fun _ => ?_) | refine tk4 ?_ | refine tk5 ?_ | refine tk6 ?_ | refine tk7 ?_ | refine tk8 ?_ | refine tk9 ?_ | refine tk10 (fun _ _ => ?_) | refine tk11 (fun _ => ?_) | refine tk13 ?_ | refine tk14 ?_); (conv => whnf))
  refine B2S.tc (xs := (bodyOf a.ps).map byteV) (l := bodyOf a.ps) rfl rfl ?_
  (conv => whnf); repeat ((first | refine tk1 ?_ | refine tk2 ?_ | refine tk3 ?_ | refine tk12 (fun _ => ?_) | refine tk4 ?_ | refine tk5 ?_ | refine tk6 ?_ | refine tk7 ?_ | refine tk8 ?_ | refine tk9 ?_ | refine tk10 (fun _ _ => ?_) | refine tk11 (fun _ => ?_) | refine tk13 ?_ | refine tk14 ?_); (conv => whnf))
  refine Cmp.f (fun h => h rfl) ?_
  (conv => whnf); repeat ((first | refine tk1 ?_ | refine tk2 ?_ | refine tk3 ?_ | refine tk12 (fun _ => ?_) | refine tk4 ?_ | refine tk5 ?_ | refine tk6 ?_ | refine tk7 ?_ | refine tk8 ?_ | refine tk9 ?_ | refine tk10 (fun _ _ => ?_) | refine tk11 (fun _ => ?_) | refine tk13 ?_ | refine tk14 ?_); (conv => whnf))
  refine LoopS.lpT tys_ok (fun (s : Nat × List (Prt × List UInt8)) u => [u 0, u 1, .slice PA pm.length Pc, u 3, .pointer (some ⟨b4, 0, none⟩), .pointer (some ⟨b5, 0, none⟩), u 6, u 7, u 8, .pointer (some ⟨b9, 0, none⟩), .pointer (some ⟨b10, 0, none⟩), u 11, .pointer (some ⟨b12, 0, none⟩), u 13, u 14, u 15, u 16, u 17, .int .i64 (s.1 : Nat), u 19, u 20, u 21, u 22, u 23, u 24, u 25, u 26, u 27, u 28, u 29, u 30, u 31, u 32, u 33, u 34, u 35, u 36, u 37, u 38, u 39, u 40, u 41, u 42, u 43, u 44, u 45, u 46, u 47, u 48, u 49, u 50, u 51, u 52, u 53, u 54, u 55, u 56, u 57, u 58, u 59, u 60, u 61, u 62, u 63, u 64, u 65, u 66, u 67, u 68, u 69, u 70, u 71, u 72, u 73, u 74, u 75, u 76, u 77, u 78, u 79, u 80, u 81, u 82, u 83, u 84, u 85, u 86, u 87, u 88, u 89, u 90, u 91, u 92, u 93, u 94, u 95, u 96, u 97, u 98, u 99, u 100, u 101, u 102, u 103, u 104, u 105, u 106, u 107, u 108, u 109, u 110, u 111, u 112, u 113, u 114, u 115, u 116, u 117, u 118, u 119, u 120, u 121, u 122, u 123, u 124, u 125, u 126, u 127, u 128, u 129, u 130, u 131, u 132, u 133, u 134, u 135, u 136, u 137, u 138, u 139, u 140, u 141, u 142, u 143, u 144, u 145, u 146, u 147, u 148, u 149, u 150, u 151, u 152, u 153, u 154, u 155, u 156, u 157, u 158, u 159, u 160])
    (fun s => .box b10 [.int .i64 a.st, .slice x.fA a.fs.length x.fc, .slice x.pA x.ps.length x.pc, .int .u8 0, str a.tag, .bool a.press] 32 :: .row (.slice x.pA x.ps.length x.pc) 45 2 x.ps.length (pcells x.ps) :: .row (.slice x.fA a.fs.length x.fc) 47 2 a.fs.length (fcells a.fs) :: .box b9 [str rm, str rp, str rq, .int .i64 rv, .slice RA R.length Rc, .slice oA B.length oc] 28 :: .row (.slice oA B.length oc) 5 1 B.length (B.map byteV) :: .box b4 [str m, str p, .int .i64 st, .slice FA F.length Fc, str tag, .bool press, .slice QA Q.length Qc] 25 :: .box b5 [str rm, str rp, str rq, .int .i64 rv, .slice RA R.length Rc, .slice BA B.length Bc] 28 :: .box b12 [.int .i64 a.st, .slice y.fA a.fs.length y.fc, .slice y.pA y.ps.length y.pc, .int .u8 0, str a.tag, .bool a.press] 32 :: .row (.slice y.fA a.fs.length y.fc) 47 2 a.fs.length (fcells a.fs) :: .row (.slice y.pA y.ps.length y.pc) 45 2 y.ps.length (pcells y.ps) :: (rowsM 5 s.2 ++ rowsP 5 y.ps)) (fun s => s.1 ≤ x.ps.length ∧ s.2.map Prod.fst = x.ps ∧ ∀ z ∈ s.2, z.2.length = z.1.l.length) (fun s => x.ps.length - s.1) (0, asIs x.ps) ⟨Nat.zero_le _, by unfold asIs; rw [List.map_map]; exact List.map_id _, fun z hz => by
      obtain ⟨q, _, rfl⟩ := List.mem_map.1 hz
      rfl⟩ rfl (by
        dsimp only
        rw [rowsM_asIs]
        exact Cv.into (by (try dsimp only); repeat' (first | with_reducible exact Cv.refl | with_reducible exact Cv.left | with_reducible exact Cv.left2 | with_reducible exact Cv.left3 | with_reducible exact Cv.right | with_reducible exact Cv.nil | (with_reducible apply Cv.cons; focus ((repeat (first | with_reducible exact Pick.here | with_reducible apply Pick.skip)); done)) | (apply Cv.cons; focus ((repeat (first | exact Pick.here | apply Pick.skip)); done)) | exact Cv.nil | exact Cv.refl | exact Cv.left | exact Cv.right | refine Cv.skip ?_))) ?_
  rintro ⟨i, zs⟩ u ⟨hi, hzs, hzl⟩
  dsimp only at hi hzs hzl ⊢
  have hzn : zs.length = x.ps.length := by rw [← hzs, List.length_map]
  (conv => whnf); repeat ((first | refine tk1 ?_ | refine tk2 ?_ | refine tk3 ?_ | refine tk12 (fun _ => ?_) | refine tk4 ?_ | refine tk5 ?_ | refine tk6 ?_ | refine tk7 ?_ | refine tk8 ?_ | refine tk9 ?_ | refine tk10 (fun _ _ => ?_) | refine tk11 (fun _ => ?_) | refine tk13 ?_ | refine tk14 ?_); (conv => whnf))
  refine Cmp.cases (fun hlt => ?_) (fun hlt => ?_)
  · have hi2 : i < zs.length := by omega
    have hi3 : i < x.ps.length := by omega
    have hq1 : zs[i].1 = x.ps[i] := by
      have : (zs.map Prod.fst)[i]'(by rw [List.length_map]; exact hi2) = zs[i].1 := List.getElem_map ..
      rw [← this]; simp only [hzs]
    have ga := pcells_at x.ps i hi3
    have hl9 := hzl _ (List.getElem_mem hi2)
    have hout := rowsM_out (e := 5) hi2 (rowsP 5 y.ps)
    have hin := fun l2 => rowsM_in (e := 5) hi2 (x.ps[i], l2) (rowsP 5 y.ps)
    obtain ⟨q, hqe⟩ : ∃ q, x.ps[i] = q := ⟨_, rfl⟩
    obtain ⟨l0, hl0⟩ : ∃ l0, zs[i].2 = l0 := ⟨_, rfl⟩
    have hze : zs[i] = (q, l0) := Prod.ext (by rw [hq1, hqe]) hl0
    rw [hqe] at ga hin
    rw [hze] at hl9 hout
    dsimp only at hl9
    obtain ⟨T9, hT9⟩ : ∃ T9, rowsM 5 (zs.take i ++ zs.drop (i + 1)) ++ rowsP 5 y.ps = T9 := ⟨_, rfl⟩
    rw [hT9] at hout
    simp only [hT9] at hin
    have hset : x.ps.set i q = x.ps := by rw [← hqe]; exact List.set_getElem_self hi3
    have hqz : q.l.length ≤ 131072 := by
      have hqm : q ∈ x.ps := hqe ▸ List.getElem_mem hi3
      have := total_mem (p := pure1 q) (l := a.ps) (by rw [← hx']; exact List.mem_map_of_mem hqm)
      exact Nat.le_trans this (by omega)
    (conv => whnf); repeat ((first | refine tk1 ?_ | refine tk2 ?_ | refine tk3 ?_ | refine tk12 (fun _ => ?_) | refine tk4 ?_ | refine tk5 ?_ | refine tk6 ?_ | refine tk7 ?_ | refine tk8 ?_ | refine tk9 ?_ | refine tk10 (fun _ _ => ?_) | refine tk11 (fun _ => ?_) | refine tk13 ?_ | refine tk14 ?_); (conv => whnf))
    refine LoopS.lpT tys_ok (fun (s : Nat × List UInt8) u => [u 0, u 1, .slice PA pm.length Pc, u 3, .pointer (some ⟨b4, 0, none⟩), .pointer (some ⟨b5, 0, none⟩), u 6, u 7, u 8, .pointer (some ⟨b9, 0, none⟩), .pointer (some ⟨b10, 0, none⟩), u 11, .pointer (some ⟨b12, 0, none⟩), u 13, u 14, u 15, u 16, u 17, .int .i64 (i : Nat), .int .i64 (s.1 : Nat), u 20, u 21, u 22, u 23, u 24, u 25, u 26, u 27, u 28, u 29, u 30, u 31, u 32, u 33, u 34, u 35, u 36, u 37, u 38, u 39, u 40, u 41, u 42, u 43, u 44, u 45, u 46, u 47, u 48, u 49, u 50, u 51, u 52, u 53, u 54, u 55, u 56, u 57, u 58, u 59, u 60, u 61, u 62, u 63, u 64, u 65, u 66, u 67, u 68, u 69, u 70, u 71, u 72, u 73, u 74, u 75, u 76, u 77, u 78, u 79, u 80, u 81, u 82, u 83, u 84, u 85, u 86, u 87, u 88, u 89, u 90, u 91, u 92, u 93, u 94, u 95, u 96, u 97, u 98, u 99, u 100, u 101, u 102, u 103, u 104, u 105, u 106, u 107, u 108, u 109, u 110, u 111, u 112, u 113, u 114, u 115, u 116, u 117, u 118, u 119, u 120, u 121, u 122, u 123, u 124, u 125, u 126, u 127, u 128, u 129, u 130, u 131, u 132, u 133, u 134, u 135, u 136, u 137, u 138, u 139, u 140, u 141, u 142, u 143, u 144, u 145, u 146, u 147, u 148, u 149, u 150, u 151, u 152, u 153, u 154, u 155, u 156, u 157, u 158, u 159, u 160])
      (fun s => .row (.slice q.A q.l.length q.cp) 5 1 q.l.length (s.2.map byteV) :: .box b10 [.int .i64 a.st, .slice x.fA a.fs.length x.fc, .slice x.pA x.ps.length x.pc, .int .u8 0, str a.tag, .bool a.press] 32 :: .row (.slice x.pA x.ps.length x.pc) 45 2 x.ps.length (pcells x.ps) :: .row (.slice x.fA a.fs.length x.fc) 47 2 a.fs.length (fcells a.fs) :: .box b9 [str rm, str rp, str rq, .int .i64 rv, .slice RA R.length Rc, .slice oA B.length oc] 28 :: .row (.slice oA B.length oc) 5 1 B.length (B.map byteV) :: .box b4 [str m, str p, .int .i64 st, .slice FA F.length Fc, str tag, .bool press, .slice QA Q.length Qc] 25 :: .box b5 [str rm, str rp, str rq, .int .i64 rv, .slice RA R.length Rc, .slice BA B.length Bc] 28 :: .box b12 [.int .i64 a.st, .slice y.fA a.fs.length y.fc, .slice y.pA y.ps.length y.pc, .int .u8 0, str a.tag, .bool a.press] 32 :: .row (.slice y.fA a.fs.length y.fc) 47 2 a.fs.length (fcells a.fs) :: .row (.slice y.pA y.ps.length y.pc) 45 2 y.ps.length (pcells y.ps) :: T9) (fun s => s.1 ≤ q.l.length ∧ s.2.length = q.l.length) (fun s => q.l.length - s.1) (0, l0) ⟨Nat.zero_le _, hl9⟩ rfl (Cv.into (by repeat (first | exact hout | refine Cv.bub ?_))) ?_
    rintro ⟨k, l1⟩ u ⟨hk, hl1⟩
    dsimp only at hk hl1 ⊢
    (conv => whnf); repeat ((first | refine tk1 ?_ | refine tk2 ?_ | refine tk3 ?_ | refine tk12 (fun _ => ?_) | refine tk4 ?_ | refine tk5 ?_ | refine tk6 ?_ | refine tk7 ?_ | refine tk8 ?_ | refine tk9 ?_ | refine tk10 (fun _ _ => ?_) | refine tk11 (fun _ => ?_) | refine tk13 ?_ | refine tk14 ?_); (conv => whnf))
    refine IdxA.tc (by rw [pcells_length]; omega) (by omega) (by omega) ?_
    (conv => whnf); repeat ((first | refine tk1 ?_ | refine tk2 ?_ | refine tk3 ?_ | refine tk12 (fun _ => ?_) | refine tk4 ?_ | refine tk5 ?_ | refine tk6 ?_ | refine tk7 ?_ | refine tk8 ?_ | refine tk9 ?_ | refine tk10 (fun _ _ => ?_) | refine tk11 (fun _ => ?_) | refine tk13 ?_ | refine tk14 ?_); (conv => whnf))
    refine Ld.taF (v := .slice q.A q.l.length q.cp) ga.1 ?_
    (conv => whnf); repeat ((first | refine tk1 ?_ | refine tk2 ?_ | refine tk3 ?_ | refine tk12 (fun _ => ?_) | refine tk4 ?_ | refine tk5 ?_ | refine tk6 ?_ | refine tk7 ?_ | refine tk8 ?_ | refine tk9 ?_ | refine tk10 (fun _ _ => ?_) | refine tk11 (fun _ => ?_) | refine tk13 ?_ | refine tk14 ?_); (conv => whnf))
    refine Cmp.cases (fun hlt2 => ?_) (fun hlt2 => ?_)
    · have hk2 : k < l1.length := by omega
      obtain ⟨x9, hx9⟩ : ∃ x9, l1[k] = x9 := ⟨_, rfl⟩
      have hxb : (l1.map byteV)[k]? = some (.int .u8 x9.toNat) := by rw [List.getElem?_map, List.getElem?_eq_getElem hk2, hx9]; rfl
      obtain ⟨y9, hy9⟩ := wrap_byte ((x9.toNat : Int) + 1)
      (conv => whnf); repeat ((first | refine tk1 ?_ | refine tk2 ?_ | refine tk3 ?_ | refine tk12 (fun _ => ?_) | refine tk4 ?_ | refine tk5 ?_ | refine tk6 ?_ | refine tk7 ?_ | refine tk8 ?_ | refine tk9 ?_ | refine tk10 (fun _ _ => ?_) | refine tk11 (fun _ => ?_) | refine tk13 ?_ | refine tk14 ?_); (conv => whnf))
      refine DrawS.go (qs 18 ++ [(18, false)]) tys_ok mixed (by kernel_rfl) ?_
      (conv => whnf); repeat ((first | refine tk1 ?_ | refine tk2 ?_ | refine tk3 ?_ | refine tk12 (fun _ => ?_) | refine tk4 ?_ | refine tk5 ?_ | refine tk6 ?_ | refine tk7 ?_ | refine tk8 ?_ | refine tk9 ?_ | refine tk10 (fun _ _ => ?_) | refine tk11 (fun _ => ?_) | refine tk13 ?_ | refine tk14 ?_); (conv => whnf))
      refine IdxA.tc (by rw [pcells_length]; omega) (by omega) (by omega) ?_
      (conv => whnf); repeat ((first | refine tk1 ?_ | refine tk2 ?_ | refine tk3 ?_ | refine tk12 (fun _ => ?_) | refine tk4 ?_ | refine tk5 ?_ | refine tk6 ?_ | refine tk7 ?_ | refine tk8 ?_ | refine tk9 ?_ | refine tk10 (fun _ _ => ?_) | refine tk11 (fun _ => ?_) | refine tk13 ?_ | refine tk14 ?_); (conv => whnf))
      refine Ld.taF (v := .slice q.A q.l.length q.cp) ga.1 ?_
      (conv => whnf); repeat ((first | refine tk1 ?_ | refine tk2 ?_ | refine tk3 ?_ | refine tk12 (fun _ => ?_) | refine tk4 ?_ | refine tk5 ?_ | refine tk6 ?_ | refine tk7 ?_ | refine tk8 ?_ | refine tk9 ?_ | refine tk10 (fun _ _ => ?_) | refine tk11 (fun _ => ?_) | refine tk13 ?_ | refine tk14 ?_); (conv => whnf))
      refine IdxA.tc (by rw [pcells_length]; omega) (by omega) (by omega) ?_
      (conv => whnf); repeat ((first | refine tk1 ?_ | refine tk2 ?_ | refine tk3 ?_ | refine tk12 (fun _ => ?_) | refine tk4 ?_ | refine tk5 ?_ | refine tk6 ?_ | refine tk7 ?_ | refine tk8 ?_ | refine tk9 ?_ | refine tk10 (fun _ _ => ?_) | refine tk11 (fun _ => ?_) | refine tk13 ?_ | refine tk14 ?_); (conv => whnf))
      refine Ld.taF (v := .slice q.A q.l.length q.cp) ga.1 ?_
      (conv => whnf); repeat ((first | refine tk1 ?_ | refine tk2 ?_ | refine tk3 ?_ | refine tk12 (fun _ => ?_) | refine tk4 ?_ | refine tk5 ?_ | refine tk6 ?_ | refine tk7 ?_ | refine tk8 ?_ | refine tk9 ?_ | refine tk10 (fun _ _ => ?_) | refine tk11 (fun _ => ?_) | refine tk13 ?_ | refine tk14 ?_); (conv => whnf))
      refine IdxA.tc (by rw [List.length_map]; omega) (by omega) (by omega) ?_
      (conv => whnf); repeat ((first | refine tk1 ?_ | refine tk2 ?_ | refine tk3 ?_ | refine tk12 (fun _ => ?_) | refine tk4 ?_ | refine tk5 ?_ | refine tk6 ?_ | refine tk7 ?_ | refine tk8 ?_ | refine tk9 ?_ | refine tk10 (fun _ _ => ?_) | refine tk11 (fun _ => ?_) | refine tk13 ?_ | refine tk14 ?_); (conv => whnf))
      refine Ld.ta (v := .int .u8 x9.toNat) (by rw [show ((k : Nat) : Int).toNat * 1 = k by omega]; exact hxb) ?_
      (conv => whnf); repeat ((first | refine tk1 ?_ | refine tk2 ?_ | refine tk3 ?_ | refine tk12 (fun _ => ?_) | refine tk4 ?_ | refine tk5 ?_ | refine tk6 ?_ | refine tk7 ?_ | refine tk8 ?_ | refine tk9 ?_ | refine tk10 (fun _ _ => ?_) | refine tk11 (fun _ => ?_) | refine tk13 ?_ | refine tk14 ?_); (conv => whnf))
      refine Ar.any ?_
      rw [hy9]
      (conv => whnf); repeat ((first | refine tk1 ?_ | refine tk2 ?_ | refine tk3 ?_ | refine tk12 (fun _ => ?_) | refine tk4 ?_ | refine tk5 ?_ | refine tk6 ?_ | refine tk7 ?_ | refine tk8 ?_ | refine tk9 ?_ | refine tk10 (fun _ _ => ?_) | refine tk11 (fun _ => ?_) | refine tk13 ?_ | refine tk14 ?_); (conv => whnf))
      refine IdxA.tc (by rw [List.length_map]; omega) (by omega) (by omega) ?_
      (conv => whnf); repeat ((first | refine tk1 ?_ | refine tk2 ?_ | refine tk3 ?_ | refine tk12 (fun _ => ?_) | refine tk4 ?_ | refine tk5 ?_ | refine tk6 ?_ | refine tk7 ?_ | refine tk8 ?_ | refine tk9 ?_ | refine tk10 (fun _ _ => ?_) | refine tk11 (fun _ => ?_) | refine tk13 ?_ | refine tk14 ?_); (conv => whnf))
      refine Sto.tr (xs' := (l1.set k y9).map byteV) (by rw [show ((k : Nat) : Int).toNat * 1 = k by omega, List.map_set]; rfl) (by rw [List.length_map]; omega) rfl ?_
      (conv => whnf); repeat ((first | refine tk1 ?_ | refine tk2 ?_ | refine tk3 ?_ | refine tk12 (fun _ => ?_) | refine tk4 ?_ | refine tk5 ?_ | refine tk6 ?_ | refine tk7 ?_ | refine tk8 ?_ | refine tk9 ?_ | refine tk10 (fun _ _ => ?_) | refine tk11 (fun _ => ?_) | refine tk13 ?_ | refine tk14 ?_); (conv => whnf))
      exact ⟨(k + 1, l1.set k y9), ⟨by dsimp only; omega, by dsimp only; rw [List.length_set]; exact hl1⟩, rfl, Into.refl, by dsimp only; omega⟩
    · (conv => whnf); repeat ((first | refine tk1 ?_ | refine tk2 ?_ | refine tk3 ?_ | refine tk12 (fun _ => ?_) | refine tk4 ?_ | refine tk5 ?_ | refine tk6 ?_ | refine tk7 ?_ | refine tk8 ?_ | refine tk9 ?_ | refine tk10 (fun _ _ => ?_) | refine tk11 (fun _ => ?_) | refine tk13 ?_ | refine tk14 ?_); (conv => whnf))
      exact ⟨(i + 1, zs.set i (q, l1)), ⟨by dsimp only; omega, by dsimp only; rw [List.map_set, hzs]; exact hset, fun z hz => by
        rcases List.mem_or_eq_of_mem_set hz with hz | rfl
        · exact hzl z hz
        · exact hl1⟩, rfl, Cv.into (by repeat (first | exact hin l1 | refine Cv.sink ?_)), by dsimp only; omega⟩
  (conv => whnf); repeat ((first | refine tk1 ?_ | refine tk2 ?_ | refine tk3 ?_ | refine tk12 (fun _ => ?_) | refine tk4 ?_ | refine tk5 ?_ | refine tk6 ?_ | refine tk7 ?_ | refine tk8 ?_ | refine tk9 ?_ | refine tk10 (fun _ _ => ?_) | refine tk11 (fun _ => ?_) | refine tk13 ?_ | refine tk14 ?_); (conv => whnf))
  refine LoopS.lpT tys_ok (fun (s : Nat × List Fld) u => [u 0, u 1, .slice PA pm.length Pc, u 3, .pointer (some ⟨b4, 0, none⟩), .pointer (some ⟨b5, 0, none⟩), u 6, u 7, u 8, .pointer (some ⟨b9, 0, none⟩), .pointer (some ⟨b10, 0, none⟩), u 11, .pointer (some ⟨b12, 0, none⟩), u 13, u 14, u 15, u 16, u 17, u 18, u 19, .int .i64 (s.1 : Nat), u 21, u 22, u 23, u 24, u 25, u 26, u 27, u 28, u 29, u 30, u 31, u 32, u 33, u 34, u 35, u 36, u 37, u 38, u 39, u 40, u 41, u 42, u 43, u 44, u 45, u 46, u 47, u 48, u 49, u 50, u 51, u 52, u 53, u 54, u 55, u 56, u 57, u 58, u 59, u 60, u 61, u 62, u 63, u 64, u 65, u 66, u 67, u 68, u 69, u 70, u 71, u 72, u 73, u 74, u 75, u 76, u 77, u 78, u 79, u 80, u 81, u 82, u 83, u 84, u 85, u 86, u 87, u 88, u 89, u 90, u 91, u 92, u 93, u 94, u 95, u 96, u 97, u 98, u 99, u 100, u 101, u 102, u 103, u 104, u 105, u 106, u 107, u 108, u 109, u 110, u 111, u 112, u 113, u 114, u 115, u 116, u 117, u 118, u 119, u 120, u 121, u 122, u 123, u 124, u 125, u 126, u 127, u 128, u 129, u 130, u 131, u 132, u 133, u 134, u 135, u 136, u 137, u 138, u 139, u 140, u 141, u 142, u 143, u 144, u 145, u 146, u 147, u 148, u 149, u 150, u 151, u 152, u 153, u 154, u 155, u 156, u 157, u 158, u 159, u 160])
    (fun s => .box b10 [.int .i64 a.st, .slice x.fA a.fs.length x.fc, .slice x.pA x.ps.length x.pc, .int .u8 0, str a.tag, .bool a.press] 32 :: .row (.slice x.fA a.fs.length x.fc) 47 2 a.fs.length (fcells s.2) :: .box b9 [str rm, str rp, str rq, .int .i64 rv, .slice RA R.length Rc, .slice oA B.length oc] 28 :: .row (.slice oA B.length oc) 5 1 B.length (B.map byteV) :: .box b4 [str m, str p, .int .i64 st, .slice FA F.length Fc, str tag, .bool press, .slice QA Q.length Qc] 25 :: .box b5 [str rm, str rp, str rq, .int .i64 rv, .slice RA R.length Rc, .slice BA B.length Bc] 28 :: .box b12 [.int .i64 a.st, .slice y.fA a.fs.length y.fc, .slice y.pA y.ps.length y.pc, .int .u8 0, str a.tag, .bool a.press] 32 :: .row (.slice y.fA a.fs.length y.fc) 47 2 a.fs.length (fcells a.fs) :: .row (.slice y.pA y.ps.length y.pc) 45 2 y.ps.length (pcells y.ps) :: rowsP 5 y.ps)
    (fun s => s.1 ≤ a.fs.length ∧ s.2.length = a.fs.length) (fun s => a.fs.length - s.1) (0, a.fs) ⟨Nat.zero_le _, rfl⟩ rfl (Cv.into (by (try dsimp only); repeat' (first | with_reducible exact Cv.refl | with_reducible exact Cv.left | with_reducible exact Cv.right | with_reducible exact Cv.nil | (with_reducible apply Cv.cons; focus ((repeat (first | with_reducible exact Pick.here | with_reducible apply Pick.skip)); done)) | (apply Cv.cons; focus ((repeat (first | exact Pick.here | apply Pick.skip)); done)) | exact Cv.nil | exact Cv.refl | exact Cv.left | exact Cv.right | refine Cv.skip ?_))) ?_
  rintro ⟨k, F1⟩ v ⟨hk, hF1⟩
  dsimp only at hk hF1 ⊢
  (conv => whnf); repeat ((first | refine tk1 ?_ | refine tk2 ?_ | refine tk3 ?_ | refine tk12 (fun _ => ?_) | refine tk4 ?_ | refine tk5 ?_ | refine tk6 ?_ | refine tk7 ?_ | refine tk8 ?_ | refine tk9 ?_ | refine tk10 (fun _ _ => ?_) | refine tk11 (fun _ => ?_) | refine tk13 ?_ | refine tk14 ?_); (conv => whnf))
  refine Cmp.cases (fun hlt3 => ?_) (fun hlt3 => ?_)
  · have hk2 : k < F1.length := by omega
    (conv => whnf); repeat ((first | refine tk1 ?_ | refine tk2 ?_ | refine tk3 ?_ | refine tk12 (fun _ => ?_) | refine tk4 ?_ | refine tk5 ?_ | refine tk6 ?_ | refine tk7 ?_ | refine tk8 ?_ | refine tk9 ?_ | refine tk10 (fun _ _ => ?_) | refine tk11 (fun _ => ?_) | refine tk13 ?_ | refine tk14 ?_); (conv => whnf))
    refine IdxA.tc (by rw [fcells_length]; omega) (by omega) (by omega) ?_
    (conv => whnf); repeat ((first | refine tk1 ?_ | refine tk2 ?_ | refine tk3 ?_ | refine tk12 (fun _ => ?_) | refine tk4 ?_ | refine tk5 ?_ | refine tk6 ?_ | refine tk7 ?_ | refine tk8 ?_ | refine tk9 ?_ | refine tk10 (fun _ _ => ?_) | refine tk11 (fun _ => ?_) | refine tk13 ?_ | refine tk14 ?_); (conv => whnf))
    refine Sto.trF (xs' := fcells (F1.set k ([122], F1[k].2))) (fcells_set F1 k [122] hk2) (by rw [fcells_length]; show (k * 2 + 0) < _; omega) rfl ?_
    (conv => whnf); repeat ((first | refine tk1 ?_ | refine tk2 ?_ | refine tk3 ?_ | refine tk12 (fun _ => ?_) | refine tk4 ?_ | refine tk5 ?_ | refine tk6 ?_ | refine tk7 ?_ | refine tk8 ?_ | refine tk9 ?_ | refine tk10 (fun _ _ => ?_) | refine tk11 (fun _ => ?_) | refine tk13 ?_ | refine tk14 ?_); (conv => whnf))
    exact ⟨(k + 1, F1.set k ([122], F1[k].2)), ⟨by dsimp only; omega, by dsimp only; rw [List.length_set]; exact hF1⟩, rfl, Into.refl, by dsimp only; omega⟩
  (conv => whnf); repeat ((first | refine tk1 ?_ | refine tk2 ?_ | refine tk3 ?_ | refine tk12 (fun _ => ?_) | refine tk4 ?_ | refine tk5 ?_ | refine tk6 ?_ | refine tk7 ?_ | refine tk8 ?_ | refine tk9 ?_ | refine tk10 (fun _ _ => ?_) | refine tk11 (fun _ => ?_) | refine tk13 ?_ | refine tk14 ?_); (conv => whnf))
  refine CallK.fnT (Answer_f m p st FA Fc F tag press QA Qc Q rm rp rq rv _ oA B oc PA pm Pc a e hF hQ hp hB hq h) (fun w1 hw1 => ⟨(hRF _).ok w1 hw1, (hRQ _).ok w1 hw1, (hRP _).ok w1 hw1, RdA.ok w1 hw1, trivial⟩) ?_
  intro z hz9
  dsimp only [AnsV.hd, AnsV.tl, List.cons_append, List.nil_append]
  (conv => whnf); repeat ((first | refine tk1 ?_ | refine tk2 ?_ | refine tk3 ?_ | refine tk12 (fun _ => ?_) | refine tk4 ?_ | refine tk5 ?_ | refine tk6 ?_ | refine tk7 ?_ | refine tk8 ?_ | refine tk9 ?_ | refine tk10 (fun _ _ => ?_) | refine tk11 (fun _ => ?_) | refine tk13 ?_ | refine tk14 ?_); (conv => whnf))
  refine CallK.fnEV (Same_t a z y hz9 hy (by omega) (by omega)) (fun w1 hw1 => ⟨⟨RdA.ok w1 hw1, RdA.ok w1 hw1⟩, (prtsOk_st RdA.ok (fun q hq => RdS.sub (Prt.rd (e := 5) hq) (by repeat' (first | exact List.Sublist.refl _ | exact List.sublist_append_right _ _ | exact List.sublist_append_left _ _ | refine List.Sublist.trans ?_ (List.sublist_append_left _ _) | apply List.Sublist.cons)))) w1 hw1, (prtsOk_st RdA.ok (fun q hq => RdS.sub (Prt.rd (e := 5) hq) (by repeat' (first | exact List.Sublist.refl _ | exact List.sublist_append_right _ _ | exact List.sublist_append_left _ _ | refine List.Sublist.trans ?_ (List.sublist_append_left _ _) | apply List.Sublist.cons)))) w1 hw1⟩) ?_
  (conv => whnf); repeat ((first | refine tk1 ?_ | refine tk2 ?_ | refine tk3 ?_ | refine tk12 (fun _ => ?_) | refine tk4 ?_ | refine tk5 ?_ | refine tk6 ?_ | refine tk7 ?_ | refine tk8 ?_ | refine tk9 ?_ | refine tk10 (fun _ _ => ?_) | refine tk11 (fun _ => ?_) | refine tk13 ?_ | refine tk14 ?_); (conv => whnf))
  refine B2S.tc (xs := B.map byteV) (l := B) rfl rfl ?_
  (conv => whnf); repeat ((first | refine tk1 ?_ | refine tk2 ?_ | refine tk3 ?_ | refine tk12 (fun _ => ?_) | refine tk4 ?_ | refine tk5 ?_ | refine tk6 ?_ | refine tk7 ?_ | refine tk8 ?_ | refine tk9 ?_ | refine tk10 (fun _ _ => ?_) | refine tk11 (fun _ => ?_) | refine tk13 ?_ | refine tk14 ?_); (conv => whnf))
  refine B2S.tc (xs := B.map byteV) (l := B) rfl rfl ?_
  (conv => whnf); repeat ((first | refine tk1 ?_ | refine tk2 ?_ | refine tk3 ?_ | refine tk12 (fun _ => ?_) | refine tk4 ?_ | refine tk5 ?_ | refine tk6 ?_ | refine tk7 ?_ | refine tk8 ?_ | refine tk9 ?_ | refine tk10 (fun _ _ => ?_) | refine tk11 (fun _ => ?_) | refine tk13 ?_ | refine tk14 ?_); (conv => whnf))
  refine Cmp.t rfl ?_
  (conv => whnf); repeat ((first | refine tk1 ?_ | refine tk2 ?_ | refine tk3 ?_ | refine tk12 (fun _ => ?_) | refine tk4 ?_ | refine tk5 ?_ | refine tk6 ?_ | refine tk7 ?_ | refine tk8 ?_ | refine tk9 ?_ | refine tk10 (fun _ _ => ?_) | refine tk11 (fun _ => ?_) | refine tk13 ?_ | refine tk14 ?_); (conv => whnf))
  exact fun w' _ => rfl
end Go.Proofs.YtmdmmncoigeijaaGreatDoor.Vex
namespace Go.Proofs.YtmdmmncoigeijaaGreatDoor.pageAnswers
open Go.ChangeShapes Go.WideShapes Go.ChangeAt Go.RowKit

set_option maxRecDepth 100000 in
theorem contract (H : Type) (enc : TypeId × Value → H) (W : World) (base : Nat) (args : Array Value) (ds gs : List (DataW H)) (before : List MemPlace)
    (hval : ∀ (j : Nat) t v, Tryz.f3.params[j]? = some t → args[j]? = some v → Value.okWide Tryz.prog W .any base t v)
    (hW : DataW.Whole enc Tryz.prog Tryz.f3.params.toList Rows.pageAnswersSpec.vars false W args.toList ds gs before) (hL : laidMetH Tryz.prog Rows.pageAnswersUptoRow.laid W) (hS : W.ShapedOpen Tryz.prog) (hK : Rows.uptoSmall H (ds ++ gs) = true) :
    Calls Tryz.prog 3 args W fun e W' => ∃ v, e = .returned v ∧ Rows.pageAnswersSpec.post enc Tryz.prog Tryz.f3 false true false false W args v W' := by
  have hW' := hW
  obtain ⟨p, q, hA, hV, rfl, hfz, hnd⟩ := hW
  rw [Tryz.params3] at hA hval
  obtain ⟨v0, vs0, d0, ds0, p0, q0, hargs, rfl, rfl, h0, r0⟩ := trodAll_cons hA
  obtain ⟨v1, vs1, d1, ds1, p1, q1, rfl, rfl, rfl, h1, r1⟩ := trodAll_cons r0
  obtain ⟨v2, vs2, d2, ds2, p2, q2, rfl, rfl, rfl, h2, r2⟩ := trodAll_cons r1
  obtain ⟨v3, vs3, d3, ds3, p3, q3, rfl, rfl, rfl, h3, r3⟩ := trodAll_cons r2
  obtain ⟨rfl, rfl, rfl⟩ := trodAll_nil r3
  obtain rfl : args = #[v0, v1, v2, v3] := by rw [← Array.toList_inj]; exact hargs
  obtain ⟨rfl, rfl⟩ := trodVars_none hV
  obtain ⟨x0, rfl, k0, z0⟩ := Vex.open_whole Vex.opens_page Tryz.underlying25 (hval 0 25 v0 rfl rfl) h0
  obtain ⟨x1, rfl, k1, z1⟩ := Vex.open_whole Vex.opens_request Tryz.underlying28 (hval 1 28 v1 rfl rfl) h1
  obtain ⟨x2, e2, k2, z2⟩ := Vex.open_cell Vex.opens_fields (by rw [Tryz.underlying22]) (hval 2 22 v2 rfl rfl) h2
  obtain rfl := (List.cons.inj e2).1
  obtain ⟨x3, e3, k3, z3⟩ := Vex.open_cell Vex.opens_i64 (by rw [Tryz.underlying3]) (hval 3 3 v3 rfl rfl) h3
  obtain rfl := (List.cons.inj e3).1
  have hB := Vex.bulk_of2 hK
  simp only [List.append_nil, Rows.uptoBulkAll, Nat.add_zero] at hB
  have hG := Vex.gQ_of hL hS (by kernel_rfl) (List.mem_of_getElem? (i := 2) rfl)
  refine (Vex.done_E (Vex.PageAnswers_v x0 x1 x2 x3 (Vex.fit_of k0 k1 k2 (n := 1) (Nat.le_trans (Nat.add_le_add z0 (Nat.add_le_add z1 (Nat.add_le_add z2 z3))) hB))) hG ⟨Vex.rd_fields k0.2.1, Vex.rd_pieces k0.2.2.1, Vex.rd_fields k2, Vex.rd_bytes k1.2.2.1, trivial⟩).mono fun e W' ⟨he, hb⟩ => ?_
  exact ⟨_, he, law_post laidOut rfl hW' (by kernel_rfl) (by kernel_rfl) Tryz.underlying4 (by kernel_rfl) hb⟩

abbrev start : Array Value := #[.agg #[.string ⟨#[]⟩, .string ⟨#[]⟩, .int .i64 0, .slice none 0 0, .string ⟨#[]⟩, .bool false, .slice none 0 0], .agg #[.string ⟨#[]⟩, .string ⟨#[]⟩, .string ⟨#[]⟩, .int .i64 0, .slice none 0 0, .slice none 0 0], .slice none 0 0, .int .i64 0]
theorem laid_met (os : Os) : laidMet Tryz.prog Rows.pageAnswersUptoRow.laid ((laidWorld os start).forCall (fun _ _ => 0) ⟨#[], start, []⟩).memory :=
  laidMet_of_run' 8 (by kernel_rfl) (by kernel_rfl)
theorem reads (os : Os) {H : Type} (enc : TypeId × Value → H) : ∃ places, DataW.whole enc Tryz.prog ((laidWorld os start).forCall (fun _ _ => 0) ⟨#[], start, []⟩).memory Tryz.f3.params.toList Rows.pageAnswersSpec.vars false start.toList 8 = some ([.agg [.lit (.string []), .lit (.string []), .lit (.int .i64 0), .nil, .lit (.string []), .lit (.bool false), .nil], .agg [.lit (.string []), .lit (.string []), .lit (.string []), .lit (.int .i64 0), .nil, .nil], .nil, .lit (.int .i64 0)], [], places) :=
  ⟨[], by kernel_rfl⟩

set_option maxRecDepth 100000 in
theorem lifted (os : Os) (started : os.Started) (H : Type) (enc : TypeId × Value → H) (F : Stop.Interp) :
    ReturnsInHanded {} Tryz.checked os 3 .any ((Rows.OpenSpec.upto Rows.pageAnswersSpec).preRow enc Tryz.prog Tryz.f3 Rows.pageAnswersUptoRow.domain false Rows.pageAnswersUptoRow.laid) (((Rows.OpenSpec.upto Rows.pageAnswersSpec).at F).post enc Tryz.prog Tryz.f3 false true false false) := by
  obtain ⟨places, hx⟩ := reads os enc
  refine returnsInHanded_of_row (C := Tryz.checked) (s := Rows.OpenSpec.upto Rows.pageAnswersSpec) own started (by kernel_rfl) Tryz.func3
    (witness_row_atRef (enc := enc) (C := Tryz.checked) false (laidWorld os start) start rfl (by kernel_rfl) (by kernel_rfl) (by kernel_rfl)
      (OpenSpec.preRow_of_cond 8 hx (by kernel_rfl) (fun k hk => by cases hk; kernel_rfl) (by kernel_rfl) (laid_met os))) ?_
  intro W base args ds gs before hval hW _ hB _ hL hS _
  exact contract H enc W base args ds gs before hval hW hL hS (hB _ rfl)

theorem said : Rows.PageAnswersUptoSaid :=
  OpenClaim.holds_of_cond 3 Tryz.f3 rfl rfl rfl rfl rfl rfl rfl ⟨rfl, rfl, rfl, rfl, rfl⟩ rfl rfl rfl rfl rfl (by kernel_rfl) Tryz.func3 (by kernel_rfl)
    (of_decide_eq_true (by kernel_rfl)) (by unfold Func.isWrapper; first | (rw [if_pos (by decide +kernel)]; kernel_rfl) | (rw [if_neg (by decide +kernel)]; exact ⟨rfl, rfl⟩))
    (fun os started H enc _ F => by rw [OpenClaim.pre_eq_preRow]; exact lifted os started H enc F)

/-- No parameter wants a stand-in; the program's own looks. -/
theorem plain (f : FuncId) (fn : Func) (hf : Tryz.pinned.checked.prog.funcNamed "bellows/bellowslaw27.PageAnswers" = some f) (hfn : Tryz.pinned.checked.prog.funcs[f]? = some fn) :
    true = Tryz.pinned.checked.prog.looks [] ∧ ∀ (j : Nat) t, fn.params[j]? = some t → Tryz.pinned.checked.prog.wantsStandIn t = false := by
  obtain rfl : f = 3 := Option.some.inj ((show Tryz.prog.funcNamed "bellows/bellowslaw27.PageAnswers" = some 3 by kernel_rfl).symm.trans hf) |>.symm
  obtain rfl : fn = Tryz.f3 := (Option.some.inj (Tryz.func3.symm.trans hfn)).symm
  refine ⟨by kernel_rfl, fun j t ht => ?_⟩
  have hall : (Tryz.f3.params.toList.all fun t => !Tryz.prog.wantsStandIn t) = true := by kernel_rfl
  have := List.all_eq_true.1 hall t (Array.mem_toList_iff.2 (Array.mem_of_getElem? ht))
  exact (show Tryz.prog.wantsStandIn t = false by simpa using this)

theorem proved : Rows.PageAnswersUptoCardSaid :=
  Claim7.holds_tied_plain_at .later [] _ _ _ _ said (fun _ h => by cases h) (by kernel_rfl) (fun _ h => by cases h) pageAnswersUpto_row_tie rfl ⟨rfl, rfl⟩ (by kernel_rfl) rfl plain (by kernel_rfl)
end Go.Proofs.YtmdmmncoigeijaaGreatDoor.pageAnswers
