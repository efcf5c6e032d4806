/- chunk.Feed, reckoned. -/
import Derived.Test.YtnaeeklnlddcaaaGreatDoorMReplyNames4
import Derived.Lib.ItoaLen
import Derived.Lib.Repeat
import Derived.Shelf.Spec.SlicesGrow
namespace Go.Proofs.YtnaeeklnlddcaaaGreatDoor.Vex
open Go Go.RowKit
set_option maxRecDepth 100000
set_option linter.unusedSectionVars false
variable {gI : GI} [HasMax gI] [HasUtf gI] [HasErr gI]

theorem tk15 {c : Ctx} {H : Hp} {b n j : Nat} {vs L : List Value} {t : TypeId} {f : List Value → Hp} {K : Hp → Prop} [h : BoxAt b H vs t f] (k : K (f (L.take j))) (hn : (L.take j).length = n := by exact rfl) (hv : vs.length = n := by exact rfl) (h1 : ∀ x ∈ L, x.oneCell' = true := by simp [Value.oneCell']) :
    Sto c H (.pointer (some ⟨b, 0, none⟩)) (.agg ⟨L.take j⟩) n K := Sto.tv hn hv (fun x hx => h1 x (List.mem_of_mem_take hx)) k
def stepF (ph : Nat) : Nat := if ph = 0 then 52 else if ph = 2 then 53 else 54
theorem step_k {c : Ctx} (hc : Ours Tryz.prog gI c) {b : Nat} {s : CSt} {d : List UInt8} {y : CMem} {x : UInt8} {X : Hp} {K : Value → Hp → Prop} (hm : chMay s = true) (h1 : s.ph ≠ 1) (h4 : s.ph ≠ 4)
    (k : ∀ y', K (.int .i64 (oneG s x).2) (cHeap b (oneG s x).1 d y' X)) : CallK c false (stepF s.ph) [.pointer (some ⟨b, 0, none⟩), .int .u8 x.toNat] (cHeap b s d y X) K := by
  have hml := may_le hm
  rcases (show s.ph = 0 ∨ s.ph = 2 ∨ s.ph = 3 by omega) with h | h | h <;> rw [h]
  · exact size_k hc hm h k
  · exact end_k hc hm h k
  · exact trailer_k hc hm h k
def FeedV (r : CRes) (y : CMem) : Value := .tuple #[cV r.c y.lA y.lc, .slice y.dA r.data.length y.dc, .int .i64 (r.used : Nat), .int .i64 r.e]
def FeedH (r : CRes) (y : CMem) : Hp := [.row (.slice y.lA r.c.line.length y.lc) 5 1 r.c.line.length (r.c.line.map byteV), .row (.slice y.dA r.data.length y.dc) 5 1 r.data.length (r.data.map byteV)]
structure FL where
  k : Nat
  s : CSt
  d : List UInt8
  y : CMem
def phC : List Value := [.func (.func 52) ⟨[]⟩ ⟨[]⟩, .nilFunc, .func (.func 53) ⟨[]⟩ ⟨[]⟩, .func (.func 54) ⟨[]⟩ ⟨[]⟩]
instance RdA.ofBox {c : Ctx} {H : Hp} {b : Nat} {vs : List Value} {t : TypeId} {f : List Value → Hp} [h : BoxAt b H vs t f] : RdA c H (some ⟨b, 0, none⟩) vs := ⟨RdS.box⟩
set_option maxHeartbeats 8000000 in
theorem Feed_f (s0 : CSt) (A : Option Addr) (cp : Nat) (BA : Option Addr) (Bc : Nat) (b : List UInt8) (hl : s0.line.length ≤ 1000000000) (hb : b.length ≤ 1000000000) :
    FnT Tryz.prog gI 22 [cV s0 A cp, .slice BA b.length Bc] (fun w => RdL w [(A, s0.line.map byteV), (BA, b.map byteV)] ∧ s0.line.length ≤ cp ∧ b.length ≤ Bc) (FeedV (feedG s0 b)) (fun _ => True) (FeedH (feedG s0 b)) (fun _ => []) := by
  have hcheck := CCheck_f (gI := gI) s0 A cp hl
  have hcl := BClone_f (gI := gI) A cp s0.line hl
  unfold cV at hcheck ⊢
  refine FnE.of tys_ok Tryz.func22 rfl (by kernel_rfl) rfl rfl ?_; intro w hG hP
  have hA : ∀ H, RdS (mkC Tryz.prog gI w hG) H A (s0.line.map byteV) := fun H => hP.1.1.now
  have hRB : ∀ H, RdA (mkC Tryz.prog gI w hG) H BA (b.map byteV) := fun H => ⟨hP.1.2.1.now⟩
  have hcp := hP.2.1
  have hbc := hP.2.2
  have hfail : ∀ (e : Int) (r : CRes) (w w' : World) (hG : gI.G w), r = ⟨cst0, [], 0, e⟩ → St (mkC Tryz.prog gI w hG) [] w' → ∃ x, Value.tuple #[.agg ⟨[.int .u8 0, .int .i64 0, .slice none 0 0, .int .i64 0]⟩, .slice none 0 0, .int .i64 0, .int .i64 e] = FeedV r x ∧ True ∧ newH w w' (FeedH r x ++ []) := fun e r w w' hG hr hw' => by
    subst hr
    exact ⟨⟨none, 0, none, 0⟩, rfl, trivial, newH.of ((hw'.nilRow 5 1).nilRow 5 1)⟩
  have hou : Ours Tryz.prog gI (mkC Tryz.prog gI w hG) := ⟨rfl, rfl⟩
  (conv => whnf); repeat ((first | refine tk1 ?_ | refine tk2 ?_ | refine tk3 ?_ | refine tk12 (fun _ => ?_) | refine tk4 ?_ | refine tk5 ?_ | refine tk6 ?_ | refine tk7 ?_ | refine tk8 ?_ | refine tk9 ?_ | refine tk10 (fun _ _ => ?_) | refine tk11 (fun _ => ?_) | refine tk13 ?_ | refine tk14 ?_); (conv => whnf))
  rename_i b2 b4
  refine CallK.fnEV hcheck (fun w1 hw1 => ⟨⟨hA _ w1 hw1, trivial⟩, hcp⟩) ?_
  unfold chE feedG
  cases hm : chMay s0
  · simp only [Bool.false_eq_true, if_false]
    (conv => whnf); repeat ((first | refine tk1 ?_ | refine tk2 ?_ | refine tk3 ?_ | refine tk12 (fun _ => ?_) | refine tk4 ?_ | refine tk5 ?_ | refine tk6 ?_ | refine tk7 ?_ | refine tk8 ?_ | refine tk9 ?_ | refine tk10 (fun _ _ => ?_) | refine tk11 (fun _ => ?_) | refine tk13 ?_ | refine tk14 ?_); (conv => whnf))
    exact fun w' hw' => hfail 8 _ w w' hG rfl (hw'.sub (List.nil_sublist _))
  simp only [if_true]
  (conv => whnf); repeat ((first | refine tk1 ?_ | refine tk2 ?_ | refine tk3 ?_ | refine tk12 (fun _ => ?_) | refine tk4 ?_ | refine tk5 ?_ | refine tk6 ?_ | refine tk7 ?_ | refine tk8 ?_ | refine tk9 ?_ | refine tk10 (fun _ _ => ?_) | refine tk11 (fun _ => ?_) | refine tk13 ?_ | refine tk14 ?_); (conv => whnf))
  by_cases h4 : s0.ph = 4
  · rw [if_pos h4]
    (conv => whnf); repeat ((first | refine tk1 ?_ | refine tk2 ?_ | refine tk3 ?_ | refine tk12 (fun _ => ?_) | refine tk4 ?_ | refine tk5 ?_ | refine tk6 ?_ | refine tk7 ?_ | refine tk8 ?_ | refine tk9 ?_ | refine tk10 (fun _ _ => ?_) | refine tk11 (fun _ => ?_) | refine tk13 ?_ | refine tk14 ?_); (conv => whnf))
    exact fun w' hw' => hfail 6 _ w w' hG rfl (hw'.sub (List.nil_sublist _))
  rw [if_neg h4]
  by_cases h1 : b.length ≤ 131072
  rotate_left
  · rw [if_neg h1]
    (conv => whnf); repeat ((first | refine tk1 ?_ | refine tk2 ?_ | refine tk3 ?_ | refine tk12 (fun _ => ?_) | refine tk4 ?_ | refine tk5 ?_ | refine tk6 ?_ | refine tk7 ?_ | refine tk8 ?_ | refine tk9 ?_ | refine tk10 (fun _ _ => ?_) | refine tk11 (fun _ => ?_) | refine tk13 ?_ | refine tk14 ?_); (conv => whnf))
    exact fun w' hw' => hfail 4 _ w w' hG rfl (hw'.sub (List.nil_sublist _))
  rw [if_pos h1]
  (conv => whnf); repeat ((first | refine tk1 ?_ | refine tk2 ?_ | refine tk3 ?_ | refine tk12 (fun _ => ?_) | refine tk4 ?_ | refine tk5 ?_ | refine tk6 ?_ | refine tk7 ?_ | refine tk8 ?_ | refine tk9 ?_ | refine tk10 (fun _ _ => ?_) | refine tk11 (fun _ => ?_) | refine tk13 ?_ | refine tk14 ?_); (conv => whnf))
  refine CallK.fnS hcl ⟨hA _, trivial⟩ (fun LA lc => ?_)
  (conv => whnf); repeat ((first | refine tk1 ?_ | refine tk2 ?_ | refine tk3 ?_ | refine tk12 (fun _ => ?_) | refine tk4 ?_ | refine tk5 ?_ | refine tk6 ?_ | refine tk7 ?_ | refine tk8 ?_ | refine tk9 ?_ | refine tk10 (fun _ _ => ?_) | refine tk11 (fun _ => ?_) | refine tk13 ?_ | refine tk14 ?_); (conv => whnf))
  refine OthP.mkArr (cs := [.func (.func 52) ⟨[]⟩ ⟨[]⟩, .nilFunc, .func (.func 53) ⟨[]⟩ ⟨[]⟩, .func (.func 54) ⟨[]⟩ ⟨[]⟩]) tys_ok rfl (fun h => nomatch h) rfl rfl rfl ?_
  (conv => whnf); repeat ((first | refine tk1 ?_ | refine tk2 ?_ | refine tk3 ?_ | refine tk12 (fun _ => ?_) | refine tk4 ?_ | refine tk5 ?_ | refine tk6 ?_ | refine tk7 ?_ | refine tk8 ?_ | refine tk9 ?_ | refine tk10 (fun _ _ => ?_) | refine tk11 (fun _ => ?_) | refine tk13 ?_ | refine tk14 ?_); (conv => whnf))
  rename_i b9 b10
  refine LoopS.lpT tys_ok (fun (x : FL) u => [u 0, .slice BA b.length Bc, u 2, u 3, .pointer (some ⟨b4, 0, none⟩), u 5, .int .i64 (x.k : Nat), u 7, u 8, .pointer (some ⟨b9, 0, none⟩), .pointer (some ⟨b10, 0, none⟩), u 11, u 12, u 13, u 14, u 15, u 16, u 17, u 18, u 19, u 20, u 21, u 22, u 23, u 24, u 25, u 26, u 27, u 28, u 29, u 30, u 31, u 32, u 33, u 34, u 35, u 36, u 37, u 38, u 39, u 40, u 41, u 42, u 43, u 44, u 45, u 46, u 47, u 48, u 49, u 50, u 51, u 52, u 53, u 54, u 55, u 56, u 57, u 58, u 59, u 60, u 61, u 62, u 63, u 64, u 65, u 66, u 67, u 68, u 69, u 70, u 71, u 72, u 73, u 74, u 75, u 76, u 77, u 78, u 79, u 80, u 81, u 82, u 83, u 84, u 85, u 86, u 87, u 88, u 89, u 90, u 91, u 92, u 93, u 94, u 95, u 96, u 97, u 98, u 99, u 100, u 101, u 102, u 103, u 104, u 105, u 106, u 107, u 108, u 109, u 110, u 111, u 112, u 113, u 114, u 115, u 116, u 117, u 118, u 119, u 120, u 121, u 122, u 123, u 124, u 125, u 126, u 127, u 128, u 129, u 130, u 131, u 132, u 133])
    (fun x => cHeap b9 x.s x.d x.y [.box b4 [.int .u8 0, .int .i64 0, .slice none 0 0, .int .i64 0] 56, .box b10 phC 108])
    (fun x => x.k ≤ b.length ∧ chMay x.s = true ∧ fedG s0 [] 0 b = fedG x.s x.d x.k (b.drop x.k) ∧ x.d.length ≤ x.k) (fun x => b.length - x.k) ⟨0, s0, [], ⟨LA, lc, none, 0⟩⟩ ⟨Nat.zero_le _, hm, rfl, Nat.le_refl _⟩ rfl ?_ ?_
  · unfold cHeap
    exact Into.trans (Into.nilRow (e := 5) (sz := 1) Into.refl) (Cv.into (by (try dsimp only); repeat' (first | with_reducible exact Cv.refl | with_reducible exact Cv.left | with_reducible exact Cv.right | with_reducible exact Cv.nil | (with_reducible apply Cv.cons; focus ((repeat (first | with_reducible exact Pick.here | with_reducible apply Pick.skip)); done)) | (apply Cv.cons; focus ((repeat (first | exact Pick.here | apply Pick.skip)); done)) | exact Cv.nil | exact Cv.refl | exact Cv.left | exact Cv.right | refine Cv.skip ?_)))
  rintro ⟨k, s, d, y⟩ u ⟨hk, hm, hI, hd⟩
  dsimp only at hk hm hI hd ⊢
  have hml := may_le hm
  unfold cHeap
  by_cases hlt : k < b.length
  rotate_left
  · as_aux_lemma =>
    have hr : fedG s0 [] 0 b = ⟨s, d, k, 0⟩ := by rw [hI, List.drop_eq_nil_of_le (by omega)]; rfl
    rw [hr]
    (conv => whnf); repeat ((first | refine tk1 ?_ | refine tk2 ?_ | refine tk3 ?_ | refine tk12 (fun _ => ?_) | refine tk4 ?_ | refine tk5 ?_ | refine tk6 ?_ | refine tk7 ?_ | refine tk8 ?_ | refine tk9 ?_ | refine tk10 (fun _ _ => ?_) | refine tk11 (fun _ => ?_) | refine tk13 ?_ | refine tk14 ?_); (conv => whnf))
    refine DrawS.fork [] (.q 0 (.q 1 (.q 2 (.q 3 (.q 4 (.q 8 (.ch 5 (.ch 6 (.ch 7 (.a 9 (.q 10 (.q 11 (.q 12 (.nil))))) (.ch 9 (.q 7 (.q 10 (.q 11 (.q 12 (.nil))))) (.stop))) (.ch 9 (.q 6 (.q 7 (.q 10 (.q 11 (.q 12 (.nil)))))) (.stop))) (.ch 9 (.q 5 (.q 6 (.q 7 (.q 10 (.q 11 (.q 12 (.nil))))))) (.stop))))))))) tys_ok mixed (by kernel_rfl) ?_
    (repeat' ((conv => whnf); first | refine tk15 ?_ | (first | refine tk1 ?_ | refine tk2 ?_ | refine tk3 ?_ | refine tk12 (fun _ => ?_) | refine tk4 ?_ | refine tk5 ?_ | refine tk6 ?_ | refine tk7 ?_ | refine tk8 ?_ | refine tk9 ?_ | refine tk10 (fun _ _ => ?_) | refine tk11 (fun _ => ?_) | refine tk13 ?_ | refine tk14 ?_) | refine And.intro ?_ ?_ | exact trivial | exact fun w' hw' => ⟨y, rfl, trivial, newH.into hw' (Cv.into (by (try dsimp only); repeat' (first | with_reducible exact Cv.refl | with_reducible exact Cv.left | with_reducible exact Cv.right | with_reducible exact Cv.nil | (with_reducible apply Cv.cons; focus ((repeat (first | with_reducible exact Pick.here | with_reducible apply Pick.skip)); done)) | (apply Cv.cons; focus ((repeat (first | exact Pick.here | apply Pick.skip)); done)) | exact Cv.nil | exact Cv.refl | exact Cv.left | exact Cv.right | refine Cv.skip ?_)))⟩))
  by_cases hp4 : s.ph = 4
  · as_aux_lemma =>
    have hr : fedG s0 [] 0 b = ⟨s, d, k, 0⟩ := by rw [hI, fed_over _ _ _ _ hp4]
    rw [hr]
    (conv => whnf); repeat ((first | refine tk1 ?_ | refine tk2 ?_ | refine tk3 ?_ | refine tk12 (fun _ => ?_) | refine tk4 ?_ | refine tk5 ?_ | refine tk6 ?_ | refine tk7 ?_ | refine tk8 ?_ | refine tk9 ?_ | refine tk10 (fun _ _ => ?_) | refine tk11 (fun _ => ?_) | refine tk13 ?_ | refine tk14 ?_); (conv => whnf))
    refine DrawS.fork [] (.q 0 (.q 1 (.q 2 (.q 3 (.q 4 (.q 8 (.ch 5 (.ch 6 (.ch 7 (.a 9 (.q 10 (.q 11 (.q 12 (.nil))))) (.ch 9 (.q 7 (.q 10 (.q 11 (.q 12 (.nil))))) (.stop))) (.ch 9 (.q 6 (.q 7 (.q 10 (.q 11 (.q 12 (.nil)))))) (.stop))) (.ch 9 (.q 5 (.q 6 (.q 7 (.q 10 (.q 11 (.q 12 (.nil))))))) (.stop))))))))) tys_ok mixed (by kernel_rfl) ?_
    (repeat' ((conv => whnf); first | refine tk15 ?_ | (first | refine tk1 ?_ | refine tk2 ?_ | refine tk3 ?_ | refine tk12 (fun _ => ?_) | refine tk4 ?_ | refine tk5 ?_ | refine tk6 ?_ | refine tk7 ?_ | refine tk8 ?_ | refine tk9 ?_ | refine tk10 (fun _ _ => ?_) | refine tk11 (fun _ => ?_) | refine tk13 ?_ | refine tk14 ?_) | refine And.intro ?_ ?_ | exact trivial | exact fun w' hw' => ⟨y, rfl, trivial, newH.into hw' (Cv.into (by (try dsimp only); repeat' (first | with_reducible exact Cv.refl | with_reducible exact Cv.left | with_reducible exact Cv.right | with_reducible exact Cv.nil | (with_reducible apply Cv.cons; focus ((repeat (first | with_reducible exact Pick.here | with_reducible apply Pick.skip)); done)) | (apply Cv.cons; focus ((repeat (first | exact Pick.here | apply Pick.skip)); done)) | exact Cv.nil | exact Cv.refl | exact Cv.left | exact Cv.right | refine Cv.skip ?_)))⟩))
  by_cases hp1 : s.ph = 1
  rotate_left
  · as_aux_lemma =>
    have hph : s.ph = 0 ∨ s.ph = 2 ∨ s.ph = 3 := by omega
    have hxb : (b.map byteV)[k]? = some (.int .u8 b[k].toNat) := by rw [List.getElem?_map, List.getElem?_eq_getElem hlt]; rfl
    have hfn : phC[((s.ph : Nat) : Int).toNat]? = some (.func (.func (stepF s.ph)) ⟨[]⟩ ⟨[]⟩) := by rcases hph with h | h | h <;> rw [h] <;> rfl
    rw [List.drop_eq_getElem_cons hlt, fed_cons, if_neg hp4, if_neg hp1] at hI
    obtain ⟨x, hx⟩ : ∃ x, b[k] = x := ⟨_, rfl⟩
    rw [hx] at hI hxb
    (conv => whnf); repeat ((first | refine tk1 ?_ | refine tk2 ?_ | refine tk3 ?_ | refine tk12 (fun _ => ?_) | refine tk4 ?_ | refine tk5 ?_ | refine tk6 ?_ | refine tk7 ?_ | refine tk8 ?_ | refine tk9 ?_ | refine tk10 (fun _ _ => ?_) | refine tk11 (fun _ => ?_) | refine tk13 ?_ | refine tk14 ?_); (conv => whnf))
    refine DrawS.goW [12] [(0, true), (1, true), (2, true), (3, true), (4, true), (5, true), (6, true), (7, true), (8, true), (9, true), (10, true), (11, true), (12, false), (13, true)] tys_ok mixed (by kernel_rfl) ?_
    (conv => whnf); repeat ((first | refine tk1 ?_ | refine tk2 ?_ | refine tk3 ?_ | refine tk12 (fun _ => ?_) | refine tk4 ?_ | refine tk5 ?_ | refine tk6 ?_ | refine tk7 ?_ | refine tk8 ?_ | refine tk9 ?_ | refine tk10 (fun _ _ => ?_) | refine tk11 (fun _ => ?_) | refine tk13 ?_ | refine tk14 ?_); (conv => whnf))
    refine OthP.idxArr (b := b10) (k := .u8) (z := (s.ph : Nat)) tys_ok rfl (fun h => nomatch h) rfl rfl rfl (by omega) (by omega) ?_
    (conv => whnf); repeat ((first | refine tk1 ?_ | refine tk2 ?_ | refine tk3 ?_ | refine tk12 (fun _ => ?_) | refine tk4 ?_ | refine tk5 ?_ | refine tk6 ?_ | refine tk7 ?_ | refine tk8 ?_ | refine tk9 ?_ | refine tk10 (fun _ _ => ?_) | refine tk11 (fun _ => ?_) | refine tk13 ?_ | refine tk14 ?_); (conv => whnf))
    refine Ld.tc (vs := phC) hfn ?_
    (conv => whnf); repeat ((first | refine tk1 ?_ | refine tk2 ?_ | refine tk3 ?_ | refine tk12 (fun _ => ?_) | refine tk4 ?_ | refine tk5 ?_ | refine tk6 ?_ | refine tk7 ?_ | refine tk8 ?_ | refine tk9 ?_ | refine tk10 (fun _ _ => ?_) | refine tk11 (fun _ => ?_) | refine tk13 ?_ | refine tk14 ?_); (conv => whnf))
    refine IdxA.tc (by rw [List.length_map]; omega) (by omega) (by omega) ?_
    (conv => whnf); repeat ((first | refine tk1 ?_ | refine tk2 ?_ | refine tk3 ?_ | refine tk12 (fun _ => ?_) | refine tk4 ?_ | refine tk5 ?_ | refine tk6 ?_ | refine tk7 ?_ | refine tk8 ?_ | refine tk9 ?_ | refine tk10 (fun _ _ => ?_) | refine tk11 (fun _ => ?_) | refine tk13 ?_ | refine tk14 ?_); (conv => whnf))
    refine Ld.ta (v := .int .u8 x.toNat) (by rw [show ((k : Nat) : Int).toNat * 1 = k by omega]; exact hxb) ?_
    (conv => whnf); repeat ((first | refine tk1 ?_ | refine tk2 ?_ | refine tk3 ?_ | refine tk12 (fun _ => ?_) | refine tk4 ?_ | refine tk5 ?_ | refine tk6 ?_ | refine tk7 ?_ | refine tk8 ?_ | refine tk9 ?_ | refine tk10 (fun _ _ => ?_) | refine tk11 (fun _ => ?_) | refine tk13 ?_ | refine tk14 ?_); (conv => whnf))
    refine step_k hou (s := s) (d := d) (y := y) (x := x) (X := [.box b4 [.int .u8 0, .int .i64 0, .slice none 0 0, .int .i64 0] 56, .box b10 phC 108]) hm hp1 hp4 (fun y' => ?_)
    have hkeep := one_keeps (x := x) hm hp1 hp4
    rcases hst : oneG s x with ⟨s1, e⟩
    rw [hst] at hI hkeep
    dsimp only at hI hkeep ⊢
    unfold cHeap
    by_cases he : e = 0
    · rw [if_pos he] at hI
      rw [he]
      (conv => whnf); repeat ((first | refine tk1 ?_ | refine tk2 ?_ | refine tk3 ?_ | refine tk12 (fun _ => ?_) | refine tk4 ?_ | refine tk5 ?_ | refine tk6 ?_ | refine tk7 ?_ | refine tk8 ?_ | refine tk9 ?_ | refine tk10 (fun _ _ => ?_) | refine tk11 (fun _ => ?_) | refine tk13 ?_ | refine tk14 ?_); (conv => whnf))
      exact ⟨⟨k + 1, s1, d, y'⟩, ⟨by dsimp only; omega, hkeep he, hI, by dsimp only; omega⟩, rfl, Into.refl, by dsimp only; omega⟩
    · rw [if_neg he] at hI
      rw [hI]
      (conv => whnf); repeat ((first | refine tk1 ?_ | refine tk2 ?_ | refine tk3 ?_ | refine tk12 (fun _ => ?_) | refine tk4 ?_ | refine tk5 ?_ | refine tk6 ?_ | refine tk7 ?_ | refine tk8 ?_ | refine tk9 ?_ | refine tk10 (fun _ _ => ?_) | refine tk11 (fun _ => ?_) | refine tk13 ?_ | refine tk14 ?_); (conv => whnf))
      exact fun w' hw' => hfail e _ w w' hG rfl (hw'.sub (List.nil_sublist _))
  · as_aux_lemma =>
    have hcm := hm
    have hln : s.line = [] ∧ 1 ≤ s.left := by
      obtain ⟨ph, left, line, trail⟩ := s
      dsimp only at hp1
      subst hp1
      simp [chMay, lineMay, leftMay, trailMay] at hm
      exact ⟨hm.1, hm.2.1.1⟩
    obtain ⟨n, hn⟩ : ∃ n : Nat, min s.left ((b.length : Int) - (k : Int)) = n := ⟨(min s.left ((b.length : Int) - (k : Int))).toNat, by omega⟩
    have hn1 : 1 ≤ n := by omega
    have hn2 : n ≤ b.length - k := by omega
    have hn3 : (n : Int) ≤ s.left := by omega
    have hdr : (b.drop k).length = b.length - k := List.length_drop
    rw [fed_block n (b.drop k) s d k hp1 hn1 (by omega) hn3, List.drop_drop] at hI
    (conv => whnf); repeat ((first | refine tk1 ?_ | refine tk2 ?_ | refine tk3 ?_ | refine tk12 (fun _ => ?_) | refine tk4 ?_ | refine tk5 ?_ | refine tk6 ?_ | refine tk7 ?_ | refine tk8 ?_ | refine tk9 ?_ | refine tk10 (fun _ _ => ?_) | refine tk11 (fun _ => ?_) | refine tk13 ?_ | refine tk14 ?_); (conv => whnf))
    refine OthP.min2 (n : Int) rfl rfl hn ?_
    (conv => whnf); repeat ((first | refine tk1 ?_ | refine tk2 ?_ | refine tk3 ?_ | refine tk12 (fun _ => ?_) | refine tk4 ?_ | refine tk5 ?_ | refine tk6 ?_ | refine tk7 ?_ | refine tk8 ?_ | refine tk9 ?_ | refine tk10 (fun _ _ => ?_) | refine tk11 (fun _ => ?_) | refine tk13 ?_ | refine tk14 ?_); (conv => whnf))
    refine Oth.make (n := n) tys_ok rfl (fun h => nomatch h) rfl rfl rfl rfl rfl (by omega) (fun bm => ?_)
    (conv => whnf); repeat ((first | refine tk1 ?_ | refine tk2 ?_ | refine tk3 ?_ | refine tk12 (fun _ => ?_) | refine tk4 ?_ | refine tk5 ?_ | refine tk6 ?_ | refine tk7 ?_ | refine tk8 ?_ | refine tk9 ?_ | refine tk10 (fun _ _ => ?_) | refine tk11 (fun _ => ?_) | refine tk13 ?_ | refine tk14 ?_); (conv => whnf))
    refine SlcV.from (by omega) (by omega) ?_
    have hp := fun H => RdS.piece (cp := Bc) (sz := 1) (lo := (k : Int)) (hRB H).ok (by omega) (fun e => by omega)
    have hdm : (b.map byteV).drop ((k : Int).toNat * 1) = (b.drop k).map byteV := by rw [Int.toNat_natCast, Nat.mul_one, List.map_drop]
    rw [hdm] at hp
    rw [show b.length - (k : Int).toNat = (b.drop k).length by rw [List.length_drop]; omega]
    have hpt := fun H => RdS.take (hp H) n
    rw [← List.map_take] at hpt
    have hnl : (((b.drop k).take n).map byteV).length = n := by rw [List.length_map, List.length_take]; omega
    (conv => whnf); repeat ((first | refine tk1 ?_ | refine tk2 ?_ | refine tk3 ?_ | refine tk12 (fun _ => ?_) | refine tk4 ?_ | refine tk5 ?_ | refine tk6 ?_ | refine tk7 ?_ | refine tk8 ?_ | refine tk9 ?_ | refine tk10 (fun _ _ => ?_) | refine tk11 (fun _ => ?_) | refine tk13 ?_ | refine tk14 ?_); (conv => whnf))
    refine Oth.copy (news := ((b.drop k).take n).map byteV) tys_ok rfl (fun h => nomatch h) rfl rfl rfl (hpt _) (by simp) hnl (by omega) (by omega) (bytes_one _) ?_
    (conv => whnf); repeat ((first | refine tk1 ?_ | refine tk2 ?_ | refine tk3 ?_ | refine tk12 (fun _ => ?_) | refine tk4 ?_ | refine tk5 ?_ | refine tk6 ?_ | refine tk7 ?_ | refine tk8 ?_ | refine tk9 ?_ | refine tk10 (fun _ _ => ?_) | refine tk11 (fun _ => ?_) | refine tk13 ?_ | refine tk14 ?_); (conv => whnf))
    have hlen : d.length + n = (d ++ (b.drop k).take n).length := by rw [List.length_append, List.length_take]; omega
    refine DrawS.joinI (fun (x : Option Addr × Nat) u => [u 0, .slice BA b.length Bc, u 2, u 3, .pointer (some ⟨b4, 0, none⟩), u 5, .int .i64 ((k : Int) + (n : Int)), u 7, u 8, .pointer (some ⟨b9, 0, none⟩), .pointer (some ⟨b10, 0, none⟩), u 11, u 12, u 13, u 14, u 15, u 16, u 17, u 18, u 19, u 20, u 21, u 22, u 23, u 24, u 25, u 26, u 27, u 28, u 29, u 30, u 31, u 32, u 33, u 34, u 35, u 36, u 37, u 38, u 39, u 40, u 41, u 42, u 43, u 44, u 45, u 46, u 47, u 48, u 49, u 50, u 51, u 52, u 53, u 54, u 55, u 56, u 57, u 58, u 59, u 60, u 61, u 62, u 63, u 64, u 65, u 66, u 67, u 68, u 69, u 70, u 71, u 72, u 73, u 74, u 75, u 76, u 77, u 78, u 79, u 80, u 81, u 82, u 83, u 84, u 85, u 86, u 87, u 88, u 89, u 90, u 91, u 92, u 93, u 94, u 95, u 96, u 97, u 98, u 99, u 100, u 101, u 102, u 103, u 104, u 105, u 106, u 107, u 108, u 109, u 110, u 111, u 112, u 113, u 114, u 115, u 116, u 117, u 118, u 119, u 120, u 121, u 122, u 123, u 124, u 125, u 126, u 127, u 128, u 129, u 130, u 131, u 132, u 133])
      (fun x => [.box b9 [.int .u8 (s.ph : Nat), .int .i64 (s.left - (n : Int)), .slice y.lA s.line.length y.lc, .int .i64 s.trail, .slice x.1 (d.length + n) x.2] 105,
        .row (.slice y.lA s.line.length y.lc) 5 1 s.line.length (s.line.map byteV), .row (.slice x.1 (d.length + n) x.2) 5 1 (d.length + n) ((d ++ (b.drop k).take n).map byteV),
        .box b4 [.int .u8 0, .int .i64 0, .slice none 0 0, .int .i64 0] 56, .box b10 phC 108]) [] (.q 0 (.q 1 (.q 2 (.q 3 (.q 4 (.q 5 (.q 6 (.q 8 (.q 13 (.q 15 (.q 16 (.ch 7 (.q 9 (.q 10 (.q 11 (.q 12 (.q 18 (.q 19 (.ch 14 (.ch 17 (.a 20 (.q 21 (.q 22 (.q 23 (.a 24 (.q 25 (.nil))))))) (.ch 20 (.q 21 (.q 22 (.q 23 (.ch 17 (.a 24 (.q 25 (.nil))) (.ch 24 (.q 17 (.q 25 (.nil))) (.stop)))))) (.stop))) (.ch 17 (.ch 14 (.a 20 (.q 21 (.q 22 (.q 23 (.a 24 (.q 25 (.nil))))))) (.ch 20 (.q 14 (.q 21 (.q 22 (.q 23 (.a 24 (.q 25 (.nil))))))) (.stop))) (.ch 20 (.q 14 (.q 21 (.q 22 (.q 23 (.ch 17 (.a 24 (.q 25 (.nil))) (.ch 24 (.q 17 (.q 25 (.nil))) (.stop))))))) (.stop)))))))))) (.ch 9 (.ch 7 (.q 10 (.q 11 (.q 12 (.q 18 (.q 19 (.ch 14 (.ch 17 (.a 20 (.q 21 (.q 22 (.q 23 (.a 24 (.q 25 (.nil))))))) (.ch 20 (.q 21 (.q 22 (.q 23 (.ch 17 (.a 24 (.q 25 (.nil))) (.ch 24 (.q 17 (.q 25 (.nil))) (.stop)))))) (.stop))) (.ch 17 (.ch 14 (.a 20 (.q 21 (.q 22 (.q 23 (.a 24 (.q 25 (.nil))))))) (.ch 20 (.q 14 (.q 21 (.q 22 (.q 23 (.a 24 (.q 25 (.nil))))))) (.stop))) (.ch 20 (.q 14 (.q 21 (.q 22 (.q 23 (.ch 17 (.a 24 (.q 25 (.nil))) (.ch 24 (.q 17 (.q 25 (.nil))) (.stop))))))) (.stop))))))))) (.ch 10 (.ch 7 (.q 11 (.q 12 (.q 18 (.q 19 (.ch 14 (.ch 17 (.a 20 (.q 21 (.q 22 (.q 23 (.a 24 (.q 25 (.nil))))))) (.ch 20 (.q 21 (.q 22 (.q 23 (.ch 17 (.a 24 (.q 25 (.nil))) (.ch 24 (.q 17 (.q 25 (.nil))) (.stop)))))) (.stop))) (.ch 17 (.ch 14 (.a 20 (.q 21 (.q 22 (.q 23 (.a 24 (.q 25 (.nil))))))) (.ch 20 (.q 14 (.q 21 (.q 22 (.q 23 (.a 24 (.q 25 (.nil))))))) (.stop))) (.ch 20 (.q 14 (.q 21 (.q 22 (.q 23 (.ch 17 (.a 24 (.q 25 (.nil))) (.ch 24 (.q 17 (.q 25 (.nil))) (.stop))))))) (.stop)))))))) (.ch 11 (.ch 7 (.q 12 (.q 18 (.q 19 (.ch 14 (.ch 17 (.a 20 (.q 21 (.q 22 (.q 23 (.a 24 (.q 25 (.nil))))))) (.ch 20 (.q 21 (.q 22 (.q 23 (.ch 17 (.a 24 (.q 25 (.nil))) (.ch 24 (.q 17 (.q 25 (.nil))) (.stop)))))) (.stop))) (.ch 17 (.ch 14 (.a 20 (.q 21 (.q 22 (.q 23 (.a 24 (.q 25 (.nil))))))) (.ch 20 (.q 14 (.q 21 (.q 22 (.q 23 (.a 24 (.q 25 (.nil))))))) (.stop))) (.ch 20 (.q 14 (.q 21 (.q 22 (.q 23 (.ch 17 (.a 24 (.q 25 (.nil))) (.ch 24 (.q 17 (.q 25 (.nil))) (.stop))))))) (.stop))))))) (.ch 12 (.ch 7 (.q 18 (.q 19 (.ch 14 (.ch 17 (.a 20 (.q 21 (.q 22 (.q 23 (.a 24 (.q 25 (.nil))))))) (.ch 20 (.q 21 (.q 22 (.q 23 (.ch 17 (.a 24 (.q 25 (.nil))) (.ch 24 (.q 17 (.q 25 (.nil))) (.stop)))))) (.stop))) (.ch 17 (.ch 14 (.a 20 (.q 21 (.q 22 (.q 23 (.a 24 (.q 25 (.nil))))))) (.ch 20 (.q 14 (.q 21 (.q 22 (.q 23 (.a 24 (.q 25 (.nil))))))) (.stop))) (.ch 20 (.q 14 (.q 21 (.q 22 (.q 23 (.ch 17 (.a 24 (.q 25 (.nil))) (.ch 24 (.q 17 (.q 25 (.nil))) (.stop))))))) (.stop)))))) (.ch 14 (.ch 7 (.q 18 (.q 19 (.ch 17 (.a 20 (.q 21 (.q 22 (.q 23 (.a 24 (.q 25 (.nil))))))) (.ch 20 (.q 21 (.q 22 (.q 23 (.ch 17 (.a 24 (.q 25 (.nil))) (.ch 24 (.q 17 (.q 25 (.nil))) (.stop)))))) (.stop))))) (.ch 17 (.a 7 (.q 18 (.q 19 (.a 20 (.q 21 (.q 22 (.q 23 (.a 24 (.q 25 (.nil)))))))))) (.stop))) (.ch 17 (.ch 7 (.q 18 (.q 19 (.ch 14 (.a 20 (.q 21 (.q 22 (.q 23 (.a 24 (.q 25 (.nil))))))) (.ch 20 (.q 14 (.q 21 (.q 22 (.q 23 (.a 24 (.q 25 (.nil))))))) (.stop))))) (.ch 14 (.a 7 (.q 18 (.q 19 (.a 20 (.q 21 (.q 22 (.q 23 (.a 24 (.q 25 (.nil)))))))))) (.stop))) (.stop)))) (.ch 17 (.ch 7 (.q 12 (.q 18 (.q 19 (.ch 14 (.a 20 (.q 21 (.q 22 (.q 23 (.a 24 (.q 25 (.nil))))))) (.ch 20 (.q 14 (.q 21 (.q 22 (.q 23 (.a 24 (.q 25 (.nil))))))) (.stop)))))) (.ch 12 (.ch 7 (.q 18 (.q 19 (.ch 14 (.a 20 (.q 21 (.q 22 (.q 23 (.a 24 (.q 25 (.nil))))))) (.ch 20 (.q 14 (.q 21 (.q 22 (.q 23 (.a 24 (.q 25 (.nil))))))) (.stop))))) (.ch 14 (.a 7 (.q 18 (.q 19 (.a 20 (.q 21 (.q 22 (.q 23 (.a 24 (.q 25 (.nil)))))))))) (.stop))) (.stop))) (.stop)))) (.ch 17 (.ch 7 (.q 11 (.q 12 (.q 18 (.q 19 (.ch 14 (.a 20 (.q 21 (.q 22 (.q 23 (.a 24 (.q 25 (.nil))))))) (.ch 20 (.q 14 (.q 21 (.q 22 (.q 23 (.a 24 (.q 25 (.nil))))))) (.stop))))))) (.ch 11 (.ch 7 (.q 12 (.q 18 (.q 19 (.ch 14 (.a 20 (.q 21 (.q 22 (.q 23 (.a 24 (.q 25 (.nil))))))) (.ch 20 (.q 14 (.q 21 (.q 22 (.q 23 (.a 24 (.q 25 (.nil))))))) (.stop)))))) (.ch 12 (.ch 7 (.q 18 (.q 19 (.ch 14 (.a 20 (.q 21 (.q 22 (.q 23 (.a 24 (.q 25 (.nil))))))) (.ch 20 (.q 14 (.q 21 (.q 22 (.q 23 (.a 24 (.q 25 (.nil))))))) (.stop))))) (.ch 14 (.a 7 (.q 18 (.q 19 (.a 20 (.q 21 (.q 22 (.q 23 (.a 24 (.q 25 (.nil)))))))))) (.stop))) (.stop))) (.stop))) (.stop)))) (.ch 17 (.ch 7 (.q 10 (.q 11 (.q 12 (.q 18 (.q 19 (.ch 14 (.a 20 (.q 21 (.q 22 (.q 23 (.a 24 (.q 25 (.nil))))))) (.ch 20 (.q 14 (.q 21 (.q 22 (.q 23 (.a 24 (.q 25 (.nil))))))) (.stop)))))))) (.ch 10 (.ch 7 (.q 11 (.q 12 (.q 18 (.q 19 (.ch 14 (.a 20 (.q 21 (.q 22 (.q 23 (.a 24 (.q 25 (.nil))))))) (.ch 20 (.q 14 (.q 21 (.q 22 (.q 23 (.a 24 (.q 25 (.nil))))))) (.stop))))))) (.ch 11 (.ch 7 (.q 12 (.q 18 (.q 19 (.ch 14 (.a 20 (.q 21 (.q 22 (.q 23 (.a 24 (.q 25 (.nil))))))) (.ch 20 (.q 14 (.q 21 (.q 22 (.q 23 (.a 24 (.q 25 (.nil))))))) (.stop)))))) (.ch 12 (.ch 7 (.q 18 (.q 19 (.ch 14 (.a 20 (.q 21 (.q 22 (.q 23 (.a 24 (.q 25 (.nil))))))) (.ch 20 (.q 14 (.q 21 (.q 22 (.q 23 (.a 24 (.q 25 (.nil))))))) (.stop))))) (.ch 14 (.a 7 (.q 18 (.q 19 (.a 20 (.q 21 (.q 22 (.q 23 (.a 24 (.q 25 (.nil)))))))))) (.stop))) (.stop))) (.stop))) (.stop))) (.stop)))) (.ch 17 (.ch 7 (.q 9 (.q 10 (.q 11 (.q 12 (.q 18 (.q 19 (.ch 14 (.a 20 (.q 21 (.q 22 (.q 23 (.a 24 (.q 25 (.nil))))))) (.ch 20 (.q 14 (.q 21 (.q 22 (.q 23 (.a 24 (.q 25 (.nil))))))) (.stop))))))))) (.ch 9 (.ch 7 (.q 10 (.q 11 (.q 12 (.q 18 (.q 19 (.ch 14 (.a 20 (.q 21 (.q 22 (.q 23 (.a 24 (.q 25 (.nil))))))) (.ch 20 (.q 14 (.q 21 (.q 22 (.q 23 (.a 24 (.q 25 (.nil))))))) (.stop)))))))) (.ch 10 (.ch 7 (.q 11 (.q 12 (.q 18 (.q 19 (.ch 14 (.a 20 (.q 21 (.q 22 (.q 23 (.a 24 (.q 25 (.nil))))))) (.ch 20 (.q 14 (.q 21 (.q 22 (.q 23 (.a 24 (.q 25 (.nil))))))) (.stop))))))) (.ch 11 (.ch 7 (.q 12 (.q 18 (.q 19 (.ch 14 (.a 20 (.q 21 (.q 22 (.q 23 (.a 24 (.q 25 (.nil))))))) (.ch 20 (.q 14 (.q 21 (.q 22 (.q 23 (.a 24 (.q 25 (.nil))))))) (.stop)))))) (.ch 12 (.ch 7 (.q 18 (.q 19 (.ch 14 (.a 20 (.q 21 (.q 22 (.q 23 (.a 24 (.q 25 (.nil))))))) (.ch 20 (.q 14 (.q 21 (.q 22 (.q 23 (.a 24 (.q 25 (.nil))))))) (.stop))))) (.ch 14 (.a 7 (.q 18 (.q 19 (.a 20 (.q 21 (.q 22 (.q 23 (.a 24 (.q 25 (.nil)))))))))) (.stop))) (.stop))) (.stop))) (.stop))) (.stop))) (.stop))))))))))))))) tys_ok mixed (by as_aux_lemma => kernel_rfl) ?_ ?_
    · as_aux_lemma =>
      (repeat' ((conv => whnf); first | (first | refine tk1 ?_ | refine tk2 ?_ | refine tk3 ?_ | refine tk12 (fun _ => ?_) | refine tk4 ?_ | refine tk5 ?_ | refine tk6 ?_ | refine tk7 ?_ | refine tk8 ?_ | refine tk9 ?_ | refine tk10 (fun _ _ => ?_) | refine tk11 (fun _ => ?_) | refine tk13 ?_ | refine tk14 ?_) | refine And.intro ?_ ?_ | exact trivial | exact ⟨(_, _), rfl, Cv.into (by (try dsimp only); repeat' (first | with_reducible exact Cv.refl | with_reducible exact Cv.left | with_reducible exact Cv.right | with_reducible exact Cv.nil | (with_reducible apply Cv.cons; focus ((repeat (first | with_reducible exact Pick.here | with_reducible apply Pick.skip)); done)) | (apply Cv.cons; focus ((repeat (first | exact Pick.here | apply Pick.skip)); done)) | exact Cv.nil | exact Cv.refl | exact Cv.left | exact Cv.right | refine Cv.skip ?_))⟩ | (refine AppS.tc (m := n) (news := ((b.drop k).take n).map byteV) SrcK.tc (by omega) (bytes_one _) (by decide) (by omega) (by omega) (zs := (d ++ (b.drop k).take n).map byteV) (by rw [List.map_append]) (fun _ _ => ?_))))
    rintro ⟨dA, dc⟩ u
    as_aux_lemma =>
    dsimp only
    rw [hlen]
    have hd2 : (d ++ (b.drop k).take n).length ≤ k + n := by rw [← hlen]; omega
    have hk2 : chMay { s with left := s.left - n, ph := if s.left - n = 0 then 2 else 1 } = true := by
      obtain ⟨ph, left, line, trail⟩ := s
      dsimp only at hp1 hln hn3
      subst hp1
      obtain ⟨rfl, _⟩ := hln
      simp [chMay, lineMay, leftMay, trailMay] at hcm ⊢
      by_cases hz : left - (n : Int) = 0
      · simp [hz, noEnd, bare, crB, hcm]
      · simp [hz, hcm]
        omega
    by_cases hz : s.left - (n : Int) = 0
    · as_aux_lemma =>
      rw [if_pos hz] at hI hk2
      (conv => whnf); repeat ((first | refine tk1 ?_ | refine tk2 ?_ | refine tk3 ?_ | refine tk12 (fun _ => ?_) | refine tk4 ?_ | refine tk5 ?_ | refine tk6 ?_ | refine tk7 ?_ | refine tk8 ?_ | refine tk9 ?_ | refine tk10 (fun _ _ => ?_) | refine tk11 (fun _ => ?_) | refine tk13 ?_ | refine tk14 ?_); (conv => whnf))
      exact ⟨⟨k + n, ⟨2, s.left - n, s.line, s.trail⟩, d ++ (b.drop k).take n, ⟨y.lA, y.lc, dA, dc⟩⟩, ⟨by dsimp only; omega, hk2, hI, hd2⟩, rfl, Cv.into (by (try dsimp only); repeat' (first | with_reducible exact Cv.refl | with_reducible exact Cv.left | with_reducible exact Cv.right | with_reducible exact Cv.nil | (with_reducible apply Cv.cons; focus ((repeat (first | with_reducible exact Pick.here | with_reducible apply Pick.skip)); done)) | (apply Cv.cons; focus ((repeat (first | exact Pick.here | apply Pick.skip)); done)) | exact Cv.nil | exact Cv.refl | exact Cv.left | exact Cv.right | refine Cv.skip ?_)), by dsimp only; omega⟩
    · as_aux_lemma =>
      rw [if_neg hz] at hI hk2
      rw [hp1]
      (conv => whnf); repeat ((first | refine tk1 ?_ | refine tk2 ?_ | refine tk3 ?_ | refine tk12 (fun _ => ?_) | refine tk4 ?_ | refine tk5 ?_ | refine tk6 ?_ | refine tk7 ?_ | refine tk8 ?_ | refine tk9 ?_ | refine tk10 (fun _ _ => ?_) | refine tk11 (fun _ => ?_) | refine tk13 ?_ | refine tk14 ?_); (conv => whnf))
      exact ⟨⟨k + n, ⟨1, s.left - n, s.line, s.trail⟩, d ++ (b.drop k).take n, ⟨y.lA, y.lc, dA, dc⟩⟩, ⟨by dsimp only; omega, hk2, hI, hd2⟩, rfl, Cv.into (by (try dsimp only); repeat' (first | with_reducible exact Cv.refl | with_reducible exact Cv.left | with_reducible exact Cv.right | with_reducible exact Cv.nil | (with_reducible apply Cv.cons; focus ((repeat (first | with_reducible exact Pick.here | with_reducible apply Pick.skip)); done)) | (apply Cv.cons; focus ((repeat (first | exact Pick.here | apply Pick.skip)); done)) | exact Cv.nil | exact Cv.refl | exact Cv.left | exact Cv.right | refine Cv.skip ?_)), by dsimp only; omega⟩
end Go.Proofs.YtnaeeklnlddcaaaGreatDoor.Vex
/- The program's reader of replies, reckoned: so many bytes, chunks. -/
namespace Go.Proofs.YtnaeeklnlddcaaaGreatDoor.Vex
open Go Go.RowKit
set_option maxRecDepth 100000
set_option linter.unusedSectionVars false
variable {gI : GI} [HasMax gI] [HasUtf gI] [HasErr gI]

theorem fed_mono : ∀ (b : List UInt8) (c : CSt) (d : List UInt8) (i : Nat), (fedG c d i b).e = 0 → i ≤ (fedG c d i b).used
  | [], _, _, _, _ => Nat.le_refl _
  | x :: r, c, d, i, h => by
    rw [fed_cons] at h ⊢
    by_cases h4 : c.ph = 4
    · rw [if_pos h4]; exact Nat.le_refl _
    rw [if_neg h4] at h ⊢
    by_cases h1 : c.ph = 1
    · rw [if_pos h1] at h ⊢
      have := fed_mono r _ _ _ h
      omega
    rw [if_neg h1] at h ⊢
    by_cases h0 : (oneG c x).2 = 0
    · rw [if_pos h0] at h ⊢
      have := fed_mono r _ _ _ h
      omega
    · rw [if_neg h0] at h
      exact absurd h h0
theorem fed_pos (b : List UInt8) (c : CSt) (d : List UInt8) (i : Nat) (h4 : c.ph ≠ 4) (hb : b ≠ []) (h : (fedG c d i b).e = 0) : i + 1 ≤ (fedG c d i b).used := by
  cases b with
  | nil => exact absurd rfl hb
  | cons x r =>
    rw [fed_cons, if_neg h4] at h ⊢
    by_cases h1 : c.ph = 1
    · rw [if_pos h1] at h ⊢
      exact fed_mono r _ _ _ h
    rw [if_neg h1] at h ⊢
    by_cases h0 : (oneG c x).2 = 0
    · rw [if_pos h0] at h ⊢
      exact fed_mono r _ _ _ h
    · rw [if_neg h0] at h
      exact absurd h h0
/-- One more piece of a body in chunks. -/
theorem chunk_step (c : CSt) (l : List UInt8) (k : Nat) (b : List UInt8) (hm : chMay c = true) (h4 : c.ph ≠ 4) (hb : b ≠ []) :
    ((feedG c (b.take 131072)).e ≠ 0 → (fedG c l k b).e = (feedG c (b.take 131072)).e) ∧
    ((feedG c (b.take 131072)).e = 0 → chMay (feedG c (b.take 131072)).c = true ∧ 1 ≤ (feedG c (b.take 131072)).used ∧ (feedG c (b.take 131072)).used ≤ b.length ∧ (feedG c (b.take 131072)).data.length ≤ (feedG c (b.take 131072)).used ∧
      fedG c l k b = fedG (feedG c (b.take 131072)).c (l ++ (feedG c (b.take 131072)).data) (k + (feedG c (b.take 131072)).used) (b.drop (feedG c (b.take 131072)).used)) := by
  have hf : feedG c (b.take 131072) = fedG c [] 0 (b.take 131072) := by
    unfold feedG
    rw [if_pos hm, if_neg h4, if_pos (by rw [List.length_take]; omega)]
  rw [hf]
  have happ := fed_app (b.take 131072) c l k (b.drop 131072)
  rw [List.take_append_drop] at happ
  have hsh := fed_shift l k (b.take 131072) c [] 0
  rw [List.append_nil, Nat.add_zero] at hsh
  have hp0 : b.take 131072 ≠ [] := fun e => by
    cases b with
    | nil => exact hb rfl
    | cons x r => simp at e
  have hus := fed_used (b.take 131072) c [] 0 (Nat.le_refl _)
  have hkp := fed_keeps (b.take 131072) c [] 0 hm
  have hpos := fed_pos (b.take 131072) c [] 0 h4 hp0
  constructor
  · intro he
    rw [happ, if_neg (by rw [hsh.1]; exact he), hsh.1]
  · intro he
    rcases hus with ⟨_, h1, h2, h3⟩ | ⟨h1, _⟩
    rotate_left
    · exact absurd he h1
    rw [Nat.zero_add] at h2 h3
    have hpos := hpos he
    refine ⟨hkp he, by omega, Nat.le_trans h2 (by rw [List.length_take]; omega), h1, ?_⟩
    rw [happ, if_pos (by rw [hsh.1]; exact he), hsh.2 he]
    dsimp only
    rcases h3 with h3 | h3
    · rcases Nat.le_total b.length 131072 with hl | hl
      · rw [List.drop_eq_nil_of_le hl, List.drop_eq_nil_of_le (by rw [h3, List.length_take]; omega)]
      · rw [h3, List.length_take, Nat.min_eq_left hl]
    · rw [fed_over _ _ _ _ h3, fed_over _ _ _ _ h3]
theorem rtake_k {c : Ctx} (hc : Ours Tryz.prog gI c) {x : Nat} {BA : Option Addr} {Bc : Nat} {b : List UInt8} {s : RSt} {y : RMem} {X : Hp} {K : Value → Hp → Prop} (m : Nat) (hR : ∀ H, RdA c H BA (b.map byteV)) (hb : b.length ≤ 100000000) (hcp : b.length ≤ Bc)
    (hu : s.u ≤ b.length) (h0 : s.e = 0) (hm : m ≤ 10000000000)
    (k1 : b.length - s.u < m → ∀ v, K v (rHeap x BA b.length Bc { s with e := 10 } y X))
    (k2 : m ≤ b.length - s.u → ∀ v y', K v (rHeap x BA b.length Bc { s with l := (b.drop s.u).take m, u := s.u + m } y' X)) :
    CallK c false 93 [.pointer (some ⟨x, 0, none⟩), .int .i64 m] (rHeap x BA b.length Bc s y X) K := by
  obtain ⟨P, g, w0, M, hM, hG⟩ := c
  have hc' := hc
  obtain ⟨rfl, rfl⟩ := hc
  obtain ⟨st, fs, l, cl, u, e0⟩ := s
  obtain ⟨fA, fc, oA, oc⟩ := y
  dsimp only at h0 hu k1 k2
  subst h0
  have hfail : ∀ (e : Int) (K' : Value → Hp → Prop), (∀ v, K' v (rHeap x BA b.length Bc ⟨st, fs, l, cl, u, e⟩ ⟨fA, fc, oA, oc⟩ X)) → CallK (⟨Tryz.prog, g, w0, M, hM, hG⟩ : Ctx) false 88 [.pointer (some ⟨x, 0, none⟩), .int .i64 e]
      (rHeap x BA b.length Bc ⟨st, fs, l, cl, u, 0⟩ ⟨fA, fc, oA, oc⟩ X) K' := fun e K' hk => rfail_k hc' e rfl hk
  unfold rHeap at k1 k2 hfail ⊢
  dsimp only at k1 k2 hfail ⊢
  refine CallK.post ?_
  refine CallK.inl tys_ok Tryz.func93 rfl (by kernel_rfl) rfl rfl ?_
  (conv => whnf); repeat ((first | refine tk1 ?_ | refine tk2 ?_ | refine tk3 ?_ | refine tk12 (fun _ => ?_) | refine tk4 ?_ | refine tk5 ?_ | refine tk6 ?_ | refine tk7 ?_ | refine tk8 ?_ | refine tk9 ?_ | refine tk10 (fun _ _ => ?_) | refine tk11 (fun _ => ?_) | refine tk13 ?_ | refine tk14 ?_); (conv => whnf))
  refine DrawS.go (qs 12) tys_ok mixed (by kernel_rfl) ?_
  (conv => whnf); repeat ((first | refine tk1 ?_ | refine tk2 ?_ | refine tk3 ?_ | refine tk12 (fun _ => ?_) | refine tk4 ?_ | refine tk5 ?_ | refine tk6 ?_ | refine tk7 ?_ | refine tk8 ?_ | refine tk9 ?_ | refine tk10 (fun _ _ => ?_) | refine tk11 (fun _ => ?_) | refine tk13 ?_ | refine tk14 ?_); (conv => whnf))
  by_cases h : b.length - u < m
  · (conv => whnf); repeat ((first | refine tk1 ?_ | refine tk2 ?_ | refine tk3 ?_ | refine tk12 (fun _ => ?_) | refine tk4 ?_ | refine tk5 ?_ | refine tk6 ?_ | refine tk7 ?_ | refine tk8 ?_ | refine tk9 ?_ | refine tk10 (fun _ _ => ?_) | refine tk11 (fun _ => ?_) | refine tk13 ?_ | refine tk14 ?_); (conv => whnf))
    refine hfail 10 _ (fun v => ?_)
    (conv => whnf); repeat ((first | refine tk1 ?_ | refine tk2 ?_ | refine tk3 ?_ | refine tk12 (fun _ => ?_) | refine tk4 ?_ | refine tk5 ?_ | refine tk6 ?_ | refine tk7 ?_ | refine tk8 ?_ | refine tk9 ?_ | refine tk10 (fun _ _ => ?_) | refine tk11 (fun _ => ?_) | refine tk13 ?_ | refine tk14 ?_); (conv => whnf))
    exact ⟨_, Into.refl, k1 h _⟩
  (conv => whnf); repeat ((first | refine tk1 ?_ | refine tk2 ?_ | refine tk3 ?_ | refine tk12 (fun _ => ?_) | refine tk4 ?_ | refine tk5 ?_ | refine tk6 ?_ | refine tk7 ?_ | refine tk8 ?_ | refine tk9 ?_ | refine tk10 (fun _ _ => ?_) | refine tk11 (fun _ => ?_) | refine tk13 ?_ | refine tk14 ?_); (conv => whnf))
  refine DrawS.go [(0, true), (1, true), (2, true), (3, true), (4, true), (5, true), (6, true), (7, true), (8, true), (9, true), (10, true), (11, true), (12, true), (13, true), (14, true), (15, true), (16, false), (17, true), (18, true), (19, true), (20, false)] tys_ok mixed (by kernel_rfl) ?_
  (conv => whnf); repeat ((first | refine tk1 ?_ | refine tk2 ?_ | refine tk3 ?_ | refine tk12 (fun _ => ?_) | refine tk4 ?_ | refine tk5 ?_ | refine tk6 ?_ | refine tk7 ?_ | refine tk8 ?_ | refine tk9 ?_ | refine tk10 (fun _ _ => ?_) | refine tk11 (fun _ => ?_) | refine tk13 ?_ | refine tk14 ?_); (conv => whnf))
  refine SlcV.sub hR rfl hcp (by omega) (by omega) (by omega) (fun A2 c2 r hr hR2 hc2 => ?_)
  have hr : r = (b.drop u).take m := by
    rw [hr, show ((u : Int) + (m : Int)).toNat = u + m by omega, Int.toNat_natCast, List.drop_take, show u + m - u = m by omega]
  have hrl : r.length = m := by rw [hr, List.length_take, List.length_drop]; omega
  (conv => whnf); repeat ((first | refine tk1 ?_ | refine tk2 ?_ | refine tk3 ?_ | refine tk12 (fun _ => ?_) | refine tk4 ?_ | refine tk5 ?_ | refine tk6 ?_ | refine tk7 ?_ | refine tk8 ?_ | refine tk9 ?_ | refine tk10 (fun _ _ => ?_) | refine tk11 (fun _ => ?_) | refine tk13 ?_ | refine tk14 ?_); (conv => whnf))
  refine CallK.fnS (BClone_f A2 c2 r (by omega)) ⟨(hR2 _).ok, trivial⟩ (fun CA cc => ?_)
  (conv => whnf); repeat ((first | refine tk1 ?_ | refine tk2 ?_ | refine tk3 ?_ | refine tk12 (fun _ => ?_) | refine tk4 ?_ | refine tk5 ?_ | refine tk6 ?_ | refine tk7 ?_ | refine tk8 ?_ | refine tk9 ?_ | refine tk10 (fun _ _ => ?_) | refine tk11 (fun _ => ?_) | refine tk13 ?_ | refine tk14 ?_); (conv => whnf))
  have k2 := fun v => k2 (by omega) v ⟨fA, fc, CA, cc⟩
  rw [← hr] at k2
  rw [show ((u + m : Nat) : Int) = (u : Int) + (m : Int) by omega] at k2
  dsimp only at k2
  exact ⟨_, Cv.into (by (try dsimp only); repeat' (first | with_reducible exact Cv.refl | with_reducible exact Cv.left | with_reducible exact Cv.right | with_reducible exact Cv.nil | (with_reducible apply Cv.cons; focus ((repeat (first | with_reducible exact Pick.here | with_reducible apply Pick.skip)); done)) | (apply Cv.cons; focus ((repeat (first | exact Pick.here | apply Pick.skip)); done)) | exact Cv.nil | exact Cv.refl | exact Cv.left | exact Cv.right | refine Cv.skip ?_)), k2 _⟩
structure CkS where
  c : CSt
  lA : Option Addr
  lc : Nat
  l : List UInt8
  u : Nat
  y : RMem
def ckH (q : Nat) (c : CSt) (lA : Option Addr) (lc : Nat) (H : Hp) : Hp :=
  .box q [.int .u8 (c.ph : Nat), .int .i64 c.left, .slice lA c.line.length lc, .int .i64 c.trail] 56 :: .row (.slice lA c.line.length lc) 5 1 c.line.length (c.line.map byteV) :: H
set_option maxHeartbeats 8000000 in
theorem rchunks_k {c : Ctx} (hc : Ours Tryz.prog gI c) {x : Nat} {BA : Option Addr} {Bc : Nat} {b : List UInt8} {s : RSt} {y : RMem} {X : Hp} {K : Value → Hp → Prop} (hR : ∀ H, RdA c H BA (b.map byteV)) (hb : b.length ≤ 100000000) (hcp : b.length ≤ Bc)
    (hu : s.u ≤ b.length) (h0 : s.e = 0) (hl0 : s.l = [])
    (k1 : (chunksP b s.u).e ≠ 0 → ∀ v l u y', K v (rHeap x BA b.length Bc { s with l := l, u := u, e := (chunksP b s.u).e } y' X))
    (k2 : (chunksP b s.u).e = 0 → ∀ v y', K v (rHeap x BA b.length Bc { s with l := (chunksP b s.u).l, u := (chunksP b s.u).u, e := 0 } y' X)) :
    CallK c false 92 [.pointer (some ⟨x, 0, none⟩)] (rHeap x BA b.length Bc s y X) K := by
  obtain ⟨P, g, w0, M, hM, hG⟩ := c
  have hc' := hc
  obtain ⟨rfl, rfl⟩ := hc
  obtain ⟨st, fs, l0, cl, u0, e0⟩ := s
  dsimp only at h0 hu k1 k2 hl0
  subst h0 hl0
  obtain ⟨T, hT⟩ : ∃ T, fedG cst0 [] 0 (b.drop u0) = T := ⟨_, rfl⟩
  unfold chunksP at k1 k2
  rw [hT] at k1 k2
  refine CallK.post ?_
  refine CallK.inl tys_ok Tryz.func92 rfl (by kernel_rfl) rfl rfl ?_
  unfold rHeap
  (conv => whnf); repeat ((first | refine tk1 ?_ | refine tk2 ?_ | refine tk3 ?_ | refine tk12 (fun _ => ?_) | refine tk4 ?_ | refine tk5 ?_ | refine tk6 ?_ | refine tk7 ?_ | refine tk8 ?_ | refine tk9 ?_ | refine tk10 (fun _ _ => ?_) | refine tk11 (fun _ => ?_) | refine tk13 ?_ | refine tk14 ?_); (conv => whnf))
  rename_i q
  refine LoopS.lpT tys_ok (fun (z : CkS) u => [.pointer (some ⟨x, 0, none⟩), u 1, .pointer (some ⟨q, 0, none⟩), u 3, u 4, u 5, u 6, u 7, u 8, u 9, u 10, u 11, u 12, u 13, u 14, u 15, u 16, u 17, u 18, u 19, u 20, u 21, u 22, u 23, u 24, u 25, u 26, u 27, u 28, u 29, u 30, u 31, u 32, u 33, u 34, u 35, u 36, u 37, u 38, u 39, u 40, u 41, u 42, u 43, u 44, u 45, u 46, u 47, u 48, u 49, u 50, u 51, u 52, u 53, u 54, u 55, u 56, u 57, u 58, u 59, u 60, u 61, u 62, u 63, u 64, u 65, u 66, u 67, u 68, u 69, u 70, u 71, u 72, u 73, u 74])
    (fun z => ckH q z.c z.lA z.lc (rHeap x BA b.length Bc ⟨st, fs, z.l, cl, z.u, 0⟩ z.y X))
    (fun z => z.u ≤ b.length ∧ u0 ≤ z.u ∧ z.l.length ≤ z.u ∧ chMay z.c = true ∧ fedG z.c z.l (z.u - u0) (b.drop z.u) = T) (fun z => b.length - z.u) ⟨cst0, none, 0, [], u0, y⟩ ⟨hu, Nat.le_refl _, Nat.zero_le _, (by decide : chMay cst0 = true), by show fedG cst0 [] (u0 - u0) _ = T; rw [Nat.sub_self]; exact hT⟩ rfl (by unfold rHeap ckH; exact Into.trans (Into.nilRow (e := 5) (sz := 1) Into.refl) (Cv.into (by (try dsimp only); repeat' (first | with_reducible exact Cv.refl | with_reducible exact Cv.left | with_reducible exact Cv.right | with_reducible exact Cv.nil | (with_reducible apply Cv.cons; focus ((repeat (first | with_reducible exact Pick.here | with_reducible apply Pick.skip)); done)) | (apply Cv.cons; focus ((repeat (first | exact Pick.here | apply Pick.skip)); done)) | exact Cv.nil | exact Cv.refl | exact Cv.left | exact Cv.right | refine Cv.skip ?_)))) ?_
  rintro ⟨⟨ph, left, line, trail⟩, lA, lc, l, u, fA, fc, oA, oc⟩ v ⟨hu, hu0, hll, hmay, hI⟩
  dsimp only at hu hu0 hll hmay hI ⊢
  have hml := may_le hmay
  by_cases h4 : ph = 4
  · subst h4
    rw [fed_over _ _ _ _ rfl] at hI
    subst hI
    dsimp only at k1 k2
    rw [if_neg (by simp), if_pos rfl] at k2
    unfold rHeap ckH at *
    (conv => whnf); repeat ((first | refine tk1 ?_ | refine tk2 ?_ | refine tk3 ?_ | refine tk12 (fun _ => ?_) | refine tk4 ?_ | refine tk5 ?_ | refine tk6 ?_ | refine tk7 ?_ | refine tk8 ?_ | refine tk9 ?_ | refine tk10 (fun _ _ => ?_) | refine tk11 (fun _ => ?_) | refine tk13 ?_ | refine tk14 ?_); (conv => whnf))
    have := k2 rfl undef ⟨fA, fc, oA, oc⟩
    rw [show u0 + (u - u0) = u by omega] at this
    exact ⟨_, Cv.into (by (try dsimp only); repeat' (first | with_reducible exact Cv.refl | with_reducible exact Cv.left | with_reducible exact Cv.right | with_reducible exact Cv.nil | (with_reducible apply Cv.cons; focus ((repeat (first | with_reducible exact Pick.here | with_reducible apply Pick.skip)); done)) | (apply Cv.cons; focus ((repeat (first | exact Pick.here | apply Pick.skip)); done)) | exact Cv.nil | exact Cv.refl | exact Cv.left | exact Cv.right | refine Cv.skip ?_)), this⟩
  dsimp only at hml
  unfold rHeap ckH at *
  dsimp only at *
  have hfail : ∀ (e : Int) (X : Hp) (K' : Value → Hp → Prop), (∀ v, K' v (rHeap x BA b.length Bc ⟨st, fs, l, cl, u, e⟩ ⟨fA, fc, oA, oc⟩ X)) → CallK (⟨Tryz.prog, g, w0, M, hM, hG⟩ : Ctx) false 88 [.pointer (some ⟨x, 0, none⟩), .int .i64 e]
      (rHeap x BA b.length Bc ⟨st, fs, l, cl, u, 0⟩ ⟨fA, fc, oA, oc⟩ X) K' := fun e X K' hk => rfail_k hc' e rfl hk
  unfold rHeap at hfail
  dsimp only at hfail
  by_cases hz : b.length = u
  · subst hz
    rw [List.drop_eq_nil_of_le (Nat.le_refl _)] at hI
    subst hI
    have hk := k1 (by show (if (0 : Int) ≠ 0 then _ else if ph = 4 then _ else (⟨[], 0, false, 10⟩ : BdR)).e ≠ 0; rw [if_neg (by simp), if_neg h4]; decide)
    rw [show (if (fedG (⟨ph, left, line, trail⟩ : CSt) l (b.length - u0) []).e ≠ 0 then (⟨[], 0, false, (fedG (⟨ph, left, line, trail⟩ : CSt) l (b.length - u0) []).e⟩ : BdR) else if (fedG (⟨ph, left, line, trail⟩ : CSt) l (b.length - u0) []).c.ph = 4 then ⟨(fedG (⟨ph, left, line, trail⟩ : CSt) l (b.length - u0) []).data, u0 + (fedG (⟨ph, left, line, trail⟩ : CSt) l (b.length - u0) []).used, false, 0⟩ else ⟨[], 0, false, 10⟩).e = 10 from by
      show (if (0 : Int) ≠ 0 then _ else if ph = 4 then _ else (⟨[], 0, false, 10⟩ : BdR)).e = 10
      rw [if_neg (by simp), if_neg h4]] at hk
    (conv => whnf); repeat ((first | refine tk1 ?_ | refine tk2 ?_ | refine tk3 ?_ | refine tk12 (fun _ => ?_) | refine tk4 ?_ | refine tk5 ?_ | refine tk6 ?_ | refine tk7 ?_ | refine tk8 ?_ | refine tk9 ?_ | refine tk10 (fun _ _ => ?_) | refine tk11 (fun _ => ?_) | refine tk13 ?_ | refine tk14 ?_); (conv => whnf))
    refine DrawS.go (qs 10) tys_ok mixed (by kernel_rfl) ?_
    (conv => whnf); repeat ((first | refine tk1 ?_ | refine tk2 ?_ | refine tk3 ?_ | refine tk12 (fun _ => ?_) | refine tk4 ?_ | refine tk5 ?_ | refine tk6 ?_ | refine tk7 ?_ | refine tk8 ?_ | refine tk9 ?_ | refine tk10 (fun _ _ => ?_) | refine tk11 (fun _ => ?_) | refine tk13 ?_ | refine tk14 ?_); (conv => whnf))
    refine CallK.into (G := .box x [.int .i64 st, .slice fA fs.length fc, .slice oA l.length oc, .bool cl, .slice BA b.length Bc, .int .i64 (b.length : Nat), .int .i64 0] 112 :: .row (.slice fA fs.length fc) 41 2 fs.length (fcells fs) :: .row (.slice oA l.length oc) 5 1 l.length (l.map byteV) :: X) (Cv.into (by (try dsimp only); repeat' (first | with_reducible exact Cv.refl | with_reducible exact Cv.left | with_reducible exact Cv.right | with_reducible exact Cv.nil | (with_reducible apply Cv.cons; focus ((repeat (first | with_reducible exact Pick.here | with_reducible apply Pick.skip)); done)) | (apply Cv.cons; focus ((repeat (first | exact Pick.here | apply Pick.skip)); done)) | exact Cv.nil | exact Cv.refl | exact Cv.left | exact Cv.right | refine Cv.skip ?_))) ?_
    refine hfail 10 _ _ (fun v => ?_)
    (conv => whnf); repeat ((first | refine tk1 ?_ | refine tk2 ?_ | refine tk3 ?_ | refine tk12 (fun _ => ?_) | refine tk4 ?_ | refine tk5 ?_ | refine tk6 ?_ | refine tk7 ?_ | refine tk8 ?_ | refine tk9 ?_ | refine tk10 (fun _ _ => ?_) | refine tk11 (fun _ => ?_) | refine tk13 ?_ | refine tk14 ?_); (conv => whnf))
    exact ⟨_, Into.refl, hk _ l b.length ⟨fA, fc, oA, oc⟩⟩
  have hbd : b.drop u ≠ [] := fun e => by
    have := congrArg List.length e
    rw [List.length_drop, List.length_nil] at this
    omega
  have hstep := chunk_step ⟨ph, left, line, trail⟩ l (u - u0) (b.drop u) hmay h4 hbd
  rw [hI] at hstep
  have hfd := fun (A2 : Option Addr) (c2 : Nat) => Feed_f (gI := g) ⟨ph, left, line, trail⟩ lA lc A2 c2 ((b.drop u).take 131072) (by dsimp only; omega) (by rw [List.length_take]; omega)
  have hpl : ((b.drop u).take 131072).length = min (b.length - u) 131072 := by rw [List.length_take, List.length_drop]; omega
  obtain ⟨p, hp⟩ : ∃ p, (b.drop u).take 131072 = p := ⟨_, rfl⟩
  have hpz : (b.take (min (b.length : Int) ((u : Int) + 131072)).toNat).drop ((u : Nat) : Int).toNat = p := by
    rw [Int.toNat_natCast, ← hp]
    rcases Nat.le_total b.length (u + 131072) with h | h
    · rw [show (min (b.length : Int) ((u : Int) + 131072)).toNat = b.length by omega, List.take_length, List.take_of_length_le (by rw [List.length_drop]; omega)]
    · rw [show (min (b.length : Int) ((u : Int) + 131072)).toNat = u + 131072 by omega, List.drop_take, show u + 131072 - u = 131072 by omega]
  rw [hp] at hstep hfd hpl
  obtain ⟨r, hr⟩ : ∃ r, feedG ⟨ph, left, line, trail⟩ p = r := ⟨_, rfl⟩
  rw [hr] at hstep hfd
  clear hr
  obtain ⟨⟨rp, rl, ri, rt⟩, rd, ru, re⟩ := r
  dsimp only at hstep hfd
  unfold cV at hfd
  dsimp only at hfd
  (conv => whnf); repeat ((first | refine tk1 ?_ | refine tk2 ?_ | refine tk3 ?_ | refine tk12 (fun _ => ?_) | refine tk4 ?_ | refine tk5 ?_ | refine tk6 ?_ | refine tk7 ?_ | refine tk8 ?_ | refine tk9 ?_ | refine tk10 (fun _ _ => ?_) | refine tk11 (fun _ => ?_) | refine tk13 ?_ | refine tk14 ?_); (conv => whnf))
  refine DrawS.go (qs 10) tys_ok mixed (by kernel_rfl) ?_
  (conv => whnf); repeat ((first | refine tk1 ?_ | refine tk2 ?_ | refine tk3 ?_ | refine tk12 (fun _ => ?_) | refine tk4 ?_ | refine tk5 ?_ | refine tk6 ?_ | refine tk7 ?_ | refine tk8 ?_ | refine tk9 ?_ | refine tk10 (fun _ _ => ?_) | refine tk11 (fun _ => ?_) | refine tk13 ?_ | refine tk14 ?_); (conv => whnf))
  refine DrawS.joinI (fun (z : CMem × Nat) u => [.pointer (some ⟨x, 0, none⟩), u 1, .pointer (some ⟨q, 0, none⟩), .pointer (some ⟨z.2, 0, none⟩), .slice z.1.dA rd.length z.1.dc, .int .i64 (ru : Nat), .int .i64 re, u 7, u 8, u 9, u 10, u 11, u 12, u 13, u 14, u 15, u 16, u 17, u 18, u 19, u 20, u 21, u 22, u 23, u 24, u 25, u 26, u 27, u 28, u 29, u 30, u 31, u 32, u 33, u 34, u 35, u 36, u 37, u 38, u 39, u 40, u 41, u 42, u 43, u 44, u 45, u 46, u 47, u 48, u 49, u 50, u 51, u 52, u 53, u 54, u 55, u 56, u 57, u 58, u 59, u 60, u 61, u 62, u 63, u 64, u 65, u 66, u 67, u 68, u 69, u 70, u 71, u 72, u 73, u 74])
    (fun z => .box z.2 [.int .u8 (rp : Nat), .int .i64 rl, .slice z.1.lA ri.length z.1.lc, .int .i64 rt] 56 :: .row (.slice z.1.lA ri.length z.1.lc) 5 1 ri.length (ri.map byteV) :: .row (.slice z.1.dA rd.length z.1.dc) 5 1 rd.length (rd.map byteV) ::
      .box q [.int .u8 (ph : Nat), .int .i64 left, .slice lA line.length lc, .int .i64 trail] 56 :: .row (.slice lA line.length lc) 5 1 line.length (line.map byteV) ::
      .box x [.int .i64 st, .slice fA fs.length fc, .slice oA l.length oc, .bool cl, .slice BA b.length Bc, .int .i64 (u : Nat), .int .i64 0] 112 :: .row (.slice fA fs.length fc) 41 2 fs.length (fcells fs) :: .row (.slice oA l.length oc) 5 1 l.length (l.map byteV) :: X)
    [] (.q 0 (.q 1 (.q 2 (.q 3 (.q 4 (.q 5 (.q 6 (.q 7 (.q 8 (.q 9 (.q 10 (.q 11 (.q 12 (.q 13 (.q 14 (.q 15 (.q 16 (.q 17 (.q 18 (.q 19 (.q 20 (.ch 21 (.q 22 (.q 23 (.q 24 (.q 25 (.q 26 (.a 27 (.a 28 (.q 29 (.q 30 (.q 31 (.nil))))))))))) (.ch 27 (.a 21 (.q 22 (.q 23 (.q 24 (.q 25 (.q 26 (.a 28 (.q 29 (.q 30 (.q 31 (.nil))))))))))) (.stop)))))))))))))))))))))))) tys_ok mixed (by as_aux_lemma => kernel_rfl) ?_ ?_
  · (repeat' ((conv => whnf); first | (first | refine tk1 ?_ | refine tk2 ?_ | refine tk3 ?_ | refine tk12 (fun _ => ?_) | refine tk4 ?_ | refine tk5 ?_ | refine tk6 ?_ | refine tk7 ?_ | refine tk8 ?_ | refine tk9 ?_ | refine tk10 (fun _ _ => ?_) | refine tk11 (fun _ => ?_) | refine tk13 ?_ | refine tk14 ?_) | refine And.intro ?_ ?_ | exact trivial | exact ⟨(_, _), rfl, Cv.into (by (try dsimp only); repeat' (first | with_reducible exact Cv.refl | with_reducible exact Cv.left | with_reducible exact Cv.right | with_reducible exact Cv.nil | (with_reducible apply Cv.cons; focus ((repeat (first | with_reducible exact Pick.here | with_reducible apply Pick.skip)); done)) | (apply Cv.cons; focus ((repeat (first | exact Pick.here | apply Pick.skip)); done)) | exact Cv.nil | exact Cv.refl | exact Cv.left | exact Cv.right | refine Cv.skip ?_))⟩ | (refine OthP.min2 (min (b.length : Int) ((u : Int) + 131072)) rfl rfl rfl ?_) | (refine SlcV.sub hR rfl hcp (by omega) (by omega) (by omega) (fun A2 c2 z hz hR2 hc2 => ?_); rw [hz.trans hpz] at hR2 hc2 ⊢; clear hz) | (refine CallK.fnT (hfd A2 c2) (fun w1 hw1 => ⟨⟨RdA.ok (xs := line.map byteV) w1 hw1, (hR2 _).ok w1 hw1, trivial⟩, row_cap (A := lA) (e := 5) (sz := 1) (n' := line.length) (xs := line.map byteV) hw1, hc2⟩) ?_; intro z _; dsimp only [FeedV, FeedH, cV, List.cons_append, List.nil_append, List.append_nil])))
  rintro ⟨⟨lA2, lc2, dA, dc⟩, qb⟩ w
  dsimp only
  by_cases he : re = 0
  rotate_left
  · have hTe := hstep.1 he
    have hk := k1 (by rw [if_pos (by rw [hTe]; exact he)]; dsimp only; rw [hTe]; exact he)
    rw [if_pos (by rw [hTe]; exact he)] at hk
    dsimp only at hk
    rw [hTe] at hk
    (conv => whnf); repeat ((first | refine tk1 ?_ | refine tk2 ?_ | refine tk3 ?_ | refine tk12 (fun _ => ?_) | refine tk4 ?_ | refine tk5 ?_ | refine tk6 ?_ | refine tk7 ?_ | refine tk8 ?_ | refine tk9 ?_ | refine tk10 (fun _ _ => ?_) | refine tk11 (fun _ => ?_) | refine tk13 ?_ | refine tk14 ?_); (conv => whnf))
    refine CallK.into (G := .box x [.int .i64 st, .slice fA fs.length fc, .slice oA l.length oc, .bool cl, .slice BA b.length Bc, .int .i64 (u : Nat), .int .i64 0] 112 :: .row (.slice fA fs.length fc) 41 2 fs.length (fcells fs) :: .row (.slice oA l.length oc) 5 1 l.length (l.map byteV) :: X) (Cv.into (by (try dsimp only); repeat' (first | with_reducible exact Cv.refl | with_reducible exact Cv.left | with_reducible exact Cv.right | with_reducible exact Cv.nil | (with_reducible apply Cv.cons; focus ((repeat (first | with_reducible exact Pick.here | with_reducible apply Pick.skip)); done)) | (apply Cv.cons; focus ((repeat (first | exact Pick.here | apply Pick.skip)); done)) | exact Cv.nil | exact Cv.refl | exact Cv.left | exact Cv.right | refine Cv.skip ?_))) ?_
    refine hfail re _ _ (fun v => ?_)
    (conv => whnf); repeat ((first | refine tk1 ?_ | refine tk2 ?_ | refine tk3 ?_ | refine tk12 (fun _ => ?_) | refine tk4 ?_ | refine tk5 ?_ | refine tk6 ?_ | refine tk7 ?_ | refine tk8 ?_ | refine tk9 ?_ | refine tk10 (fun _ _ => ?_) | refine tk11 (fun _ => ?_) | refine tk13 ?_ | refine tk14 ?_); (conv => whnf))
    exact ⟨_, Into.refl, hk _ l u ⟨fA, fc, oA, oc⟩⟩
  subst he
  obtain ⟨g1, g2, g3, g4, g5⟩ := hstep.2 rfl
  rw [List.length_drop] at g3
  rw [List.drop_drop] at g5
  have hll2 : (l ++ rd).length ≤ u + ru := by rw [List.length_append]; omega
  (conv => whnf); repeat ((first | refine tk1 ?_ | refine tk2 ?_ | refine tk3 ?_ | refine tk12 (fun _ => ?_) | refine tk4 ?_ | refine tk5 ?_ | refine tk6 ?_ | refine tk7 ?_ | refine tk8 ?_ | refine tk9 ?_ | refine tk10 (fun _ _ => ?_) | refine tk11 (fun _ => ?_) | refine tk13 ?_ | refine tk14 ?_); (conv => whnf))
  refine DrawS.joinI (fun (z : Option Addr × Nat) u => [.pointer (some ⟨x, 0, none⟩), u 1, .pointer (some ⟨q, 0, none⟩), u 3, u 4, u 5, u 6, u 7, u 8, u 9, u 10, u 11, u 12, u 13, u 14, u 15, u 16, u 17, u 18, u 19, u 20, u 21, u 22, u 23, u 24, u 25, u 26, u 27, u 28, u 29, u 30, u 31, u 32, u 33, u 34, u 35, u 36, u 37, u 38, u 39, u 40, u 41, u 42, u 43, u 44, u 45, u 46, u 47, u 48, u 49, u 50, u 51, u 52, u 53, u 54, u 55, u 56, u 57, u 58, u 59, u 60, u 61, u 62, u 63, u 64, u 65, u 66, u 67, u 68, u 69, u 70, u 71, u 72, u 73, u 74])
    (fun z => .box q [.int .u8 (rp : Nat), .int .i64 rl, .slice lA2 ri.length lc2, .int .i64 rt] 56 :: .row (.slice lA2 ri.length lc2) 5 1 ri.length (ri.map byteV) ::
      .box x [.int .i64 st, .slice fA fs.length fc, .slice z.1 (l ++ rd).length z.2, .bool cl, .slice BA b.length Bc, .int .i64 ((u : Int) + (ru : Int)), .int .i64 0] 112 :: .row (.slice fA fs.length fc) 41 2 fs.length (fcells fs) :: .row (.slice z.1 (l ++ rd).length z.2) 5 1 (l ++ rd).length ((l ++ rd).map byteV) :: X)
    [] (.q 0 (.q 1 (.q 3 (.q 4 (.q 5 (.q 6 (.q 7 (.q 8 (.q 10 (.q 14 (.ch 2 (.ch 9 (.q 11 (.q 12 (.q 13 (.ch 15 (.a 16 (.q 17 (.q 18 (.q 19 (.a 20 (.q 21 (.q 22 (.a 23 (.nil))))))))) (.ch 16 (.q 17 (.q 18 (.q 19 (.ch 15 (.a 20 (.q 21 (.q 22 (.a 23 (.nil))))) (.ch 20 (.q 15 (.q 21 (.q 22 (.a 23 (.nil))))) (.stop)))))) (.stop)))))) (.ch 11 (.ch 9 (.q 12 (.q 13 (.ch 15 (.a 16 (.q 17 (.q 18 (.q 19 (.a 20 (.q 21 (.q 22 (.a 23 (.nil))))))))) (.ch 16 (.q 17 (.q 18 (.q 19 (.ch 15 (.a 20 (.q 21 (.q 22 (.a 23 (.nil))))) (.ch 20 (.q 15 (.q 21 (.q 22 (.a 23 (.nil))))) (.stop)))))) (.stop))))) (.ch 12 (.ch 9 (.q 13 (.ch 15 (.a 16 (.q 17 (.q 18 (.q 19 (.a 20 (.q 21 (.q 22 (.a 23 (.nil))))))))) (.ch 16 (.q 17 (.q 18 (.q 19 (.ch 15 (.a 20 (.q 21 (.q 22 (.a 23 (.nil))))) (.ch 20 (.q 15 (.q 21 (.q 22 (.a 23 (.nil))))) (.stop)))))) (.stop)))) (.ch 13 (.ch 9 (.ch 15 (.a 16 (.q 17 (.q 18 (.q 19 (.a 20 (.q 21 (.q 22 (.a 23 (.nil))))))))) (.ch 16 (.q 17 (.q 18 (.q 19 (.ch 15 (.a 20 (.q 21 (.q 22 (.a 23 (.nil))))) (.ch 20 (.q 15 (.q 21 (.q 22 (.a 23 (.nil))))) (.stop)))))) (.stop))) (.ch 15 (.a 9 (.a 16 (.q 17 (.q 18 (.q 19 (.a 20 (.q 21 (.q 22 (.a 23 (.nil)))))))))) (.stop))) (.stop))) (.stop))) (.stop))) (.ch 9 (.q 2 (.q 11 (.q 12 (.q 13 (.ch 15 (.a 16 (.q 17 (.q 18 (.q 19 (.a 20 (.q 21 (.q 22 (.a 23 (.nil))))))))) (.ch 16 (.q 17 (.q 18 (.q 19 (.ch 15 (.a 20 (.q 21 (.q 22 (.a 23 (.nil))))) (.ch 20 (.q 15 (.q 21 (.q 22 (.a 23 (.nil))))) (.stop)))))) (.stop))))))) (.ch 11 (.ch 2 (.ch 9 (.q 12 (.q 13 (.ch 15 (.a 16 (.q 17 (.q 18 (.q 19 (.a 20 (.q 21 (.q 22 (.a 23 (.nil))))))))) (.ch 16 (.q 17 (.q 18 (.q 19 (.ch 15 (.a 20 (.q 21 (.q 22 (.a 23 (.nil))))) (.ch 20 (.q 15 (.q 21 (.q 22 (.a 23 (.nil))))) (.stop)))))) (.stop))))) (.ch 12 (.ch 9 (.q 13 (.ch 15 (.a 16 (.q 17 (.q 18 (.q 19 (.a 20 (.q 21 (.q 22 (.a 23 (.nil))))))))) (.ch 16 (.q 17 (.q 18 (.q 19 (.ch 15 (.a 20 (.q 21 (.q 22 (.a 23 (.nil))))) (.ch 20 (.q 15 (.q 21 (.q 22 (.a 23 (.nil))))) (.stop)))))) (.stop)))) (.ch 13 (.ch 9 (.ch 15 (.a 16 (.q 17 (.q 18 (.q 19 (.a 20 (.q 21 (.q 22 (.a 23 (.nil))))))))) (.ch 16 (.q 17 (.q 18 (.q 19 (.ch 15 (.a 20 (.q 21 (.q 22 (.a 23 (.nil))))) (.ch 20 (.q 15 (.q 21 (.q 22 (.a 23 (.nil))))) (.stop)))))) (.stop))) (.ch 15 (.a 9 (.a 16 (.q 17 (.q 18 (.q 19 (.a 20 (.q 21 (.q 22 (.a 23 (.nil)))))))))) (.stop))) (.stop))) (.stop))) (.ch 9 (.q 2 (.q 12 (.q 13 (.ch 15 (.a 16 (.q 17 (.q 18 (.q 19 (.a 20 (.q 21 (.q 22 (.a 23 (.nil))))))))) (.ch 16 (.q 17 (.q 18 (.q 19 (.ch 15 (.a 20 (.q 21 (.q 22 (.a 23 (.nil))))) (.ch 20 (.q 15 (.q 21 (.q 22 (.a 23 (.nil))))) (.stop)))))) (.stop)))))) (.ch 12 (.ch 2 (.ch 9 (.q 13 (.ch 15 (.a 16 (.q 17 (.q 18 (.q 19 (.a 20 (.q 21 (.q 22 (.a 23 (.nil))))))))) (.ch 16 (.q 17 (.q 18 (.q 19 (.ch 15 (.a 20 (.q 21 (.q 22 (.a 23 (.nil))))) (.ch 20 (.q 15 (.q 21 (.q 22 (.a 23 (.nil))))) (.stop)))))) (.stop)))) (.ch 13 (.ch 9 (.ch 15 (.a 16 (.q 17 (.q 18 (.q 19 (.a 20 (.q 21 (.q 22 (.a 23 (.nil))))))))) (.ch 16 (.q 17 (.q 18 (.q 19 (.ch 15 (.a 20 (.q 21 (.q 22 (.a 23 (.nil))))) (.ch 20 (.q 15 (.q 21 (.q 22 (.a 23 (.nil))))) (.stop)))))) (.stop))) (.ch 15 (.a 9 (.a 16 (.q 17 (.q 18 (.q 19 (.a 20 (.q 21 (.q 22 (.a 23 (.nil)))))))))) (.stop))) (.stop))) (.ch 9 (.q 2 (.q 13 (.ch 15 (.a 16 (.q 17 (.q 18 (.q 19 (.a 20 (.q 21 (.q 22 (.a 23 (.nil))))))))) (.ch 16 (.q 17 (.q 18 (.q 19 (.ch 15 (.a 20 (.q 21 (.q 22 (.a 23 (.nil))))) (.ch 20 (.q 15 (.q 21 (.q 22 (.a 23 (.nil))))) (.stop)))))) (.stop))))) (.ch 13 (.ch 2 (.ch 9 (.ch 15 (.a 16 (.q 17 (.q 18 (.q 19 (.a 20 (.q 21 (.q 22 (.a 23 (.nil))))))))) (.ch 16 (.q 17 (.q 18 (.q 19 (.ch 15 (.a 20 (.q 21 (.q 22 (.a 23 (.nil))))) (.ch 20 (.q 15 (.q 21 (.q 22 (.a 23 (.nil))))) (.stop)))))) (.stop))) (.ch 15 (.a 9 (.a 16 (.q 17 (.q 18 (.q 19 (.a 20 (.q 21 (.q 22 (.a 23 (.nil)))))))))) (.stop))) (.ch 9 (.q 2 (.ch 15 (.a 16 (.q 17 (.q 18 (.q 19 (.a 20 (.q 21 (.q 22 (.a 23 (.nil))))))))) (.ch 16 (.q 17 (.q 18 (.q 19 (.ch 15 (.a 20 (.q 21 (.q 22 (.a 23 (.nil))))) (.ch 20 (.q 15 (.q 21 (.q 22 (.a 23 (.nil))))) (.stop)))))) (.stop)))) (.ch 15 (.ch 2 (.a 9 (.a 16 (.q 17 (.q 18 (.q 19 (.a 20 (.q 21 (.q 22 (.a 23 (.nil)))))))))) (.ch 9 (.q 2 (.a 16 (.q 17 (.q 18 (.q 19 (.a 20 (.q 21 (.q 22 (.a 23 (.nil)))))))))) (.stop))) (.stop)))) (.stop)))) (.stop)))) (.stop)))))))))))))) tys_ok mixed (by as_aux_lemma => kernel_rfl) ?_ ?_
  · (repeat' ((conv => whnf); first | (first | refine tk1 ?_ | refine tk2 ?_ | refine tk3 ?_ | refine tk12 (fun _ => ?_) | refine tk4 ?_ | refine tk5 ?_ | refine tk6 ?_ | refine tk7 ?_ | refine tk8 ?_ | refine tk9 ?_ | refine tk10 (fun _ _ => ?_) | refine tk11 (fun _ => ?_) | refine tk13 ?_ | refine tk14 ?_) | refine And.intro ?_ ?_ | exact trivial | exact ⟨(_, _), rfl, Cv.into (by (try dsimp only); repeat' (first | with_reducible exact Cv.refl | with_reducible exact Cv.left | with_reducible exact Cv.right | with_reducible exact Cv.nil | (with_reducible apply Cv.cons; focus ((repeat (first | with_reducible exact Pick.here | with_reducible apply Pick.skip)); done)) | (apply Cv.cons; focus ((repeat (first | exact Pick.here | apply Pick.skip)); done)) | exact Cv.nil | exact Cv.refl | exact Cv.left | exact Cv.right | refine Cv.skip ?_))⟩ | (refine AppS.tc (m := rd.length) (news := rd.map byteV) SrcK.tc (by simp) (bytes_one _) (by decide) (by omega) (by omega) (zs := (l ++ rd).map byteV) List.map_append.symm (fun A' c' => ?_); rw [← List.length_append])))
  rintro ⟨A', c'⟩ w
  dsimp only
  (conv => whnf); repeat ((first | refine tk1 ?_ | refine tk2 ?_ | refine tk3 ?_ | refine tk12 (fun _ => ?_) | refine tk4 ?_ | refine tk5 ?_ | refine tk6 ?_ | refine tk7 ?_ | refine tk8 ?_ | refine tk9 ?_ | refine tk10 (fun _ _ => ?_) | refine tk11 (fun _ => ?_) | refine tk13 ?_ | refine tk14 ?_); (conv => whnf))
  refine ⟨⟨⟨rp, rl, ri, rt⟩, lA2, lc2, l ++ rd, u + ru, ⟨fA, fc, A', c'⟩⟩, ⟨by dsimp only; omega, by dsimp only; omega, hll2, g1, ?_⟩, rfl, ?_, by dsimp only; omega⟩
  · show fedG _ (l ++ rd) (u + ru - u0) (b.drop (u + ru)) = T
    rw [show u + ru - u0 = u - u0 + ru by omega]
    exact g5.symm
  · dsimp only
    rw [show ((u + ru : Nat) : Int) = (u : Int) + (ru : Int) by omega]
    exact Cv.into (by (try dsimp only); repeat' (first | with_reducible exact Cv.refl | with_reducible exact Cv.left | with_reducible exact Cv.right | with_reducible exact Cv.nil | (with_reducible apply Cv.cons; focus ((repeat (first | with_reducible exact Pick.here | with_reducible apply Pick.skip)); done)) | (apply Cv.cons; focus ((repeat (first | exact Pick.here | apply Pick.skip)); done)) | exact Cv.nil | exact Cv.refl | exact Cv.left | exact Cv.right | refine Cv.skip ?_))
end Go.Proofs.YtnaeeklnlddcaaaGreatDoor.Vex
/- The program's reader of replies, reckoned: the body. -/
namespace Go.Proofs.YtnaeeklnlddcaaaGreatDoor.Vex
open Go Go.RowKit
set_option maxRecDepth 100000
set_option linter.unusedSectionVars false
variable {gI : GI} [HasMax gI] [HasUtf gI] [HasErr gI]

theorem SEqual_f (A B : Option Addr) (cp cq : Nat) (a b : List (List UInt8)) (hb : b ≠ []) (ha : a.length ≤ 1000000000) (hbl : b.length ≤ 1000000000) :
    FnR Tryz.prog gI 91 [.slice A a.length cp, .slice B b.length cq] [(A, a.map str), (B, b.map str)] (.bool (decide (a = b))) :=
  ⟨callable Tryz.func91 rfl (by kernel_rfl), fun w _ ⟨hr, hs, _⟩ => by
    have hb0 := List.length_pos_iff.2 hb
    cases a with
    | nil => exact (Tryz.slices_Equal_string_empty A B cp b.length cq w (by omega)).mono fun e w' ⟨he, hw⟩ => ⟨_, he, by
        congr 1
        rw [decide_eq_decide]
        exact ⟨fun h => by omega, fun h => absurd h.symm hb⟩, by rw [hw]; exact R.refl _⟩
    | cons y r =>
      have hb1 : b.map str ≠ [] := by simpa using hb
      obtain ⟨b1, o1, rfl, hb1'⟩ := rdw_addr hr
      obtain ⟨z, t, rfl⟩ : ∃ z t, b = z :: t := by cases b with | nil => exact absurd rfl hb | cons z t => exact ⟨z, t, rfl⟩
      obtain ⟨b2, o2, rfl, hb2'⟩ := rdw_addr hs
      have h := Tryz.slices_Equal_string b1 o1 (y :: r).length cp b2 o2 (z :: t).length cq ((y :: r).map fun l => ⟨⟨l⟩⟩) ((z :: t).map fun l => ⟨⟨l⟩⟩) w (by rw [List.length_map]; exact Nat.le_refl _) (by rw [List.length_map]; exact Nat.le_refl _) (by omega) (by omega) (fun j hj => by
        rw [List.length_map] at hj
        obtain ⟨a, ha, hcell⟩ := hr j (str (y :: r)[j]) (by rw [List.getElem?_map, List.getElem?_eq_getElem hj]; rfl)
        cases ha
        rw [Addr.add_lit] at hcell
        rw [hcell, List.getD_eq_getElem?_getD, List.getElem?_map, List.getElem?_eq_getElem hj]
        rfl) (fun j hj => by
        rw [List.length_map] at hj
        obtain ⟨a, ha, hcell⟩ := hs j (str (z :: t)[j]) (by rw [List.getElem?_map, List.getElem?_eq_getElem hj]; rfl)
        cases ha
        rw [Addr.add_lit] at hcell
        rw [hcell, List.getD_eq_getElem?_getD, List.getElem?_map, List.getElem?_eq_getElem hj]
        rfl)
      refine h.mono fun e w' ⟨he, q, hw⟩ => ⟨_, he, ?_, by subst hw; exact ⟨rfl, rfl, rfl, Nat.le_refl _, fun _ _ => rfl⟩⟩
      congr 1
      rw [decide_eq_decide, List.take_of_length_le (by rw [List.length_map]; exact Nat.le_refl _), List.take_of_length_le (by rw [List.length_map]; exact Nat.le_refl _)]
      constructor
      · intro h
        rw [List.map_inj_right (fun p q hpq => by cases hpq; rfl)] at h
        exact h
      · intro h; rw [h]⟩
theorem longP_range : ∀ (l : List (List UInt8)) (n : Int), -1 ≤ n → n < 1000000000 → -1 ≤ longP l n ∧ longP l n < 1000000000
  | [], _, h, h2 => ⟨h, h2⟩
  | s :: r, n, h, h2 => by
    have hn := numN_range s
    unfold longP
    split
    · exact ⟨by omega, by omega⟩
    · exact longP_range r _ (by omega) hn.2
theorem rbody_k {c : Ctx} (hc : Ours Tryz.prog gI c) {x : Nat} {BA : Option Addr} {Bc : Nat} {b : List UInt8} {s : RSt} {y : RMem} {X : Hp} {K : Value → Hp → Prop} (head en : Bool) (hR : ∀ H, RdA c H BA (b.map byteV)) (hb : b.length ≤ 100000000) (hcp : b.length ≤ Bc)
    (hu : s.u ≤ b.length) (h0 : s.e = 0) (hl0 : s.l = []) (hf : fsum s.fs ≤ 10000000)
    (k1 : (bodyP s.st s.fs b s.u head en).e ≠ 0 → ∀ v l c u y', K v (rHeap x BA b.length Bc { s with l := l, c := c, u := u, e := (bodyP s.st s.fs b s.u head en).e } y' X))
    (k2 : (bodyP s.st s.fs b s.u head en).e = 0 → ∀ v y', K v (rHeap x BA b.length Bc { s with l := (bodyP s.st s.fs b s.u head en).l, c := (bodyP s.st s.fs b s.u head en).c || closeOf s.fs, u := (bodyP s.st s.fs b s.u head en).u, e := 0 } y' X)) :
    CallK c false 58 [.pointer (some ⟨x, 0, none⟩), .bool head, .bool en] (rHeap x BA b.length Bc s y X) K := by
  obtain ⟨P, g, w0, M, hM, hG⟩ := c
  have hc' := hc
  obtain ⟨rfl, rfl⟩ := hc
  obtain ⟨st, fs, l0, cl, u, e0⟩ := s
  obtain ⟨fA, fc, oA, oc⟩ := y
  dsimp only at h0 hu k1 k2 hl0 hf
  subst h0 hl0
  have hitems := fun (cl : Bool) (name : List UInt8) (hn : name.length ≤ 1000) (X : Hp) (K' : Value → Hp → Prop) => ritems_k (x := x) (BA := BA) (n := b.length) (Bc := Bc) (s := ⟨st, fs, [], cl, u, 0⟩) (y := ⟨fA, fc, oA, oc⟩) (X := X) (K := K') hc' name hn hf
  have hfail : ∀ (cl : Bool) (e : Int) (X : Hp) (K' : Value → Hp → Prop), (∀ v, K' v (rHeap x BA b.length Bc ⟨st, fs, [], cl, u, e⟩ ⟨fA, fc, oA, oc⟩ X)) → CallK (⟨Tryz.prog, g, w0, M, hM, hG⟩ : Ctx) false 88 [.pointer (some ⟨x, 0, none⟩), .int .i64 e]
      (rHeap x BA b.length Bc ⟨st, fs, [], cl, u, 0⟩ ⟨fA, fc, oA, oc⟩ X) K' := fun cl e X K' hk => rfail_k hc' e rfl hk
  have htake := fun (cl : Bool) (m : Nat) (hm : m ≤ 10000000000) (X : Hp) (K' : Value → Hp → Prop) => rtake_k (x := x) (BA := BA) (Bc := Bc) (b := b) (s := ⟨st, fs, [], cl, u, 0⟩) (y := ⟨fA, fc, oA, oc⟩) (X := X) (K := K') hc' m hR hb hcp hu rfl hm
  have hchunks := fun (cl : Bool) (X : Hp) (K' : Value → Hp → Prop) => rchunks_k (x := x) (BA := BA) (Bc := Bc) (b := b) (s := ⟨st, fs, [], cl, u, 0⟩) (y := ⟨fA, fc, oA, oc⟩) (X := X) (K := K') hc' hR hb hcp hu rfl rfl
  have hbare := bare_f (gI := g) st
  have hisz : ∀ name, (itemsR fs name).length ≤ 10000000 := fun name => by
    have h1 := itemsAll_sum (allOf fs name)
    have h2 := allOf_sum name fs
    unfold itemsR
    omega
  have hism : ∀ name t, t ∈ itemsR fs name → t.length ≤ 10000000 := fun name t ht => by
    unfold itemsR itemsAll at ht
    obtain ⟨v, hv, ht⟩ := List.mem_flatMap.1 ht
    obtain ⟨v0, hv0, rfl⟩ := List.mem_map.1 hv
    have h1 := (items_mem ht).2.2.2
    rw [smallOf_length] at h1
    unfold allOf at hv0
    obtain ⟨p, hp, rfl⟩ := List.mem_map.1 hv0
    have := fsum_mem (List.mem_filter.1 hp).1
    omega
  unfold rHeap at *
  dsimp only at *
  refine CallK.post ?_
  refine CallK.inl tys_ok Tryz.func58 rfl (by kernel_rfl) rfl rfl ?_
  (conv => whnf); repeat ((first | refine tk1 ?_ | refine tk2 ?_ | refine tk3 ?_ | refine tk12 (fun _ => ?_) | refine tk4 ?_ | refine tk5 ?_ | refine tk6 ?_ | refine tk7 ?_ | refine tk8 ?_ | refine tk9 ?_ | refine tk10 (fun _ _ => ?_) | refine tk11 (fun _ => ?_) | refine tk13 ?_ | refine tk14 ?_); (conv => whnf))
  refine hitems _ teN (by decide) _ _ (fun A1 c1 => ?_)
  (conv => whnf); repeat ((first | refine tk1 ?_ | refine tk2 ?_ | refine tk3 ?_ | refine tk12 (fun _ => ?_) | refine tk4 ?_ | refine tk5 ?_ | refine tk6 ?_ | refine tk7 ?_ | refine tk8 ?_ | refine tk9 ?_ | refine tk10 (fun _ _ => ?_) | refine tk11 (fun _ => ?_) | refine tk13 ?_ | refine tk14 ?_); (conv => whnf))
  refine hitems _ clN (by decide) _ _ (fun A2 c2 => ?_)
  (conv => whnf); repeat ((first | refine tk1 ?_ | refine tk2 ?_ | refine tk3 ?_ | refine tk12 (fun _ => ?_) | refine tk4 ?_ | refine tk5 ?_ | refine tk6 ?_ | refine tk7 ?_ | refine tk8 ?_ | refine tk9 ?_ | refine tk10 (fun _ _ => ?_) | refine tk11 (fun _ => ?_) | refine tk13 ?_ | refine tk14 ?_); (conv => whnf))
  refine hitems _ coN (by decide) _ _ (fun A3 c3 => ?_)
  (conv => whnf); repeat ((first | refine tk1 ?_ | refine tk2 ?_ | refine tk3 ?_ | refine tk12 (fun _ => ?_) | refine tk4 ?_ | refine tk5 ?_ | refine tk6 ?_ | refine tk7 ?_ | refine tk8 ?_ | refine tk9 ?_ | refine tk10 (fun _ _ => ?_) | refine tk11 (fun _ => ?_) | refine tk13 ?_ | refine tk14 ?_); (conv => whnf))
  refine CallK.fnR (Contains_f A3 c3 (itemsR fs coN) closeN (by have := hisz coN; omega)) ⟨RdA.ok, trivial⟩ ?_
  rw [show (itemsR fs coN).contains closeN = closeOf fs from rfl]
  obtain ⟨co, hco⟩ : ∃ co, closeOf fs = co := ⟨_, rfl⟩
  rw [hco] at k2 ⊢
  have hz1 := hisz teN
  have hz2 := hisz clN
  unfold bodyP at k1 k2
  cases head
  rotate_left
  · (conv => whnf); repeat ((first | refine tk1 ?_ | refine tk2 ?_ | refine tk3 ?_ | refine tk12 (fun _ => ?_) | refine tk4 ?_ | refine tk5 ?_ | refine tk6 ?_ | refine tk7 ?_ | refine tk8 ?_ | refine tk9 ?_ | refine tk10 (fun _ _ => ?_) | refine tk11 (fun _ => ?_) | refine tk13 ?_ | refine tk14 ?_); (conv => whnf))
    exact ⟨_, Cv.into (by (try dsimp only); repeat' (first | with_reducible exact Cv.refl | with_reducible exact Cv.left | with_reducible exact Cv.right | with_reducible exact Cv.nil | (with_reducible apply Cv.cons; focus ((repeat (first | with_reducible exact Pick.here | with_reducible apply Pick.skip)); done)) | (apply Cv.cons; focus ((repeat (first | exact Pick.here | apply Pick.skip)); done)) | exact Cv.nil | exact Cv.refl | exact Cv.left | exact Cv.right | refine Cv.skip ?_)), k2 rfl _ ⟨fA, fc, oA, oc⟩⟩
  cases hbr : bareB st
  rotate_left
  · rw [hbr] at k2 hbare
    (conv => whnf); repeat ((first | refine tk1 ?_ | refine tk2 ?_ | refine tk3 ?_ | refine tk12 (fun _ => ?_) | refine tk4 ?_ | refine tk5 ?_ | refine tk6 ?_ | refine tk7 ?_ | refine tk8 ?_ | refine tk9 ?_ | refine tk10 (fun _ _ => ?_) | refine tk11 (fun _ => ?_) | refine tk13 ?_ | refine tk14 ?_); (conv => whnf))
    refine CallK.fn hbare ?_
    (conv => whnf); repeat ((first | refine tk1 ?_ | refine tk2 ?_ | refine tk3 ?_ | refine tk12 (fun _ => ?_) | refine tk4 ?_ | refine tk5 ?_ | refine tk6 ?_ | refine tk7 ?_ | refine tk8 ?_ | refine tk9 ?_ | refine tk10 (fun _ _ => ?_) | refine tk11 (fun _ => ?_) | refine tk13 ?_ | refine tk14 ?_); (conv => whnf))
    exact ⟨_, Cv.into (by (try dsimp only); repeat' (first | with_reducible exact Cv.refl | with_reducible exact Cv.left | with_reducible exact Cv.right | with_reducible exact Cv.nil | (with_reducible apply Cv.cons; focus ((repeat (first | with_reducible exact Pick.here | with_reducible apply Pick.skip)); done)) | (apply Cv.cons; focus ((repeat (first | exact Pick.here | apply Pick.skip)); done)) | exact Cv.nil | exact Cv.refl | exact Cv.left | exact Cv.right | refine Cv.skip ?_)), k2 rfl _ ⟨fA, fc, oA, oc⟩⟩
  rw [hbr] at k1 k2 hbare
  simp only [Bool.or_self, Bool.false_eq_true, if_false] at k1 k2
  (conv => whnf); repeat ((first | refine tk1 ?_ | refine tk2 ?_ | refine tk3 ?_ | refine tk12 (fun _ => ?_) | refine tk4 ?_ | refine tk5 ?_ | refine tk6 ?_ | refine tk7 ?_ | refine tk8 ?_ | refine tk9 ?_ | refine tk10 (fun _ _ => ?_) | refine tk11 (fun _ => ?_) | refine tk13 ?_ | refine tk14 ?_); (conv => whnf))
  refine CallK.fn hbare ?_
  by_cases hcd : allOf fs teN ≠ []
  · rw [if_pos hcd] at k1 k2
    rw [decide_eq_true hcd]
    by_cases hlg : allOf fs clN ≠ []
    · rw [if_pos (.inl hlg)] at k1
      rw [decide_eq_true hlg]
      (conv => whnf); repeat ((first | refine tk1 ?_ | refine tk2 ?_ | refine tk3 ?_ | refine tk12 (fun _ => ?_) | refine tk4 ?_ | refine tk5 ?_ | refine tk6 ?_ | refine tk7 ?_ | refine tk8 ?_ | refine tk9 ?_ | refine tk10 (fun _ _ => ?_) | refine tk11 (fun _ => ?_) | refine tk13 ?_ | refine tk14 ?_); (conv => whnf))
      refine hfail co 3 _ _ (fun v => ?_)
      (conv => whnf); repeat ((first | refine tk1 ?_ | refine tk2 ?_ | refine tk3 ?_ | refine tk12 (fun _ => ?_) | refine tk4 ?_ | refine tk5 ?_ | refine tk6 ?_ | refine tk7 ?_ | refine tk8 ?_ | refine tk9 ?_ | refine tk10 (fun _ _ => ?_) | refine tk11 (fun _ => ?_) | refine tk13 ?_ | refine tk14 ?_); (conv => whnf))
      exact ⟨_, Cv.into (by (try dsimp only); repeat' (first | with_reducible exact Cv.refl | with_reducible exact Cv.left | with_reducible exact Cv.right | with_reducible exact Cv.nil | (with_reducible apply Cv.cons; focus ((repeat (first | with_reducible exact Pick.here | with_reducible apply Pick.skip)); done)) | (apply Cv.cons; focus ((repeat (first | exact Pick.here | apply Pick.skip)); done)) | exact Cv.nil | exact Cv.refl | exact Cv.left | exact Cv.right | refine Cv.skip ?_)), k1 (by simp) _ [] co u ⟨fA, fc, oA, oc⟩⟩
    rw [decide_eq_false hlg]
    (conv => whnf); repeat ((first | refine tk1 ?_ | refine tk2 ?_ | refine tk3 ?_ | refine tk12 (fun _ => ?_) | refine tk4 ?_ | refine tk5 ?_ | refine tk6 ?_ | refine tk7 ?_ | refine tk8 ?_ | refine tk9 ?_ | refine tk10 (fun _ _ => ?_) | refine tk11 (fun _ => ?_) | refine tk13 ?_ | refine tk14 ?_); (conv => whnf))
    refine CallK.fnR (SEqual_f A1 _ c1 _ (itemsR fs teN) [chunkedN] (by simp) (by omega) (by simp)) ⟨RdA.ok, RdA.ok, trivial⟩ ?_
    by_cases hch : itemsR fs teN = [chunkedN]
    rotate_left
    · rw [if_pos (.inr hch)] at k1
      rw [decide_eq_false hch]
      (conv => whnf); repeat ((first | refine tk1 ?_ | refine tk2 ?_ | refine tk3 ?_ | refine tk12 (fun _ => ?_) | refine tk4 ?_ | refine tk5 ?_ | refine tk6 ?_ | refine tk7 ?_ | refine tk8 ?_ | refine tk9 ?_ | refine tk10 (fun _ _ => ?_) | refine tk11 (fun _ => ?_) | refine tk13 ?_ | refine tk14 ?_); (conv => whnf))
      refine CallK.into (G := .box x [.int .i64 st, .slice fA fs.length fc, .slice oA ([] : List UInt8).length oc, .bool co, .slice BA b.length Bc, .int .i64 (u : Nat), .int .i64 0] 112 :: .row (.slice fA fs.length fc) 41 2 fs.length (fcells fs) :: .row (.slice oA ([] : List UInt8).length oc) 5 1 ([] : List UInt8).length (([] : List UInt8).map byteV) :: X) (Cv.into (by (try dsimp only); repeat' (first | with_reducible exact Cv.refl | with_reducible exact Cv.left | with_reducible exact Cv.right | with_reducible exact Cv.nil | (with_reducible apply Cv.cons; focus ((repeat (first | with_reducible exact Pick.here | with_reducible apply Pick.skip)); done)) | (apply Cv.cons; focus ((repeat (first | exact Pick.here | apply Pick.skip)); done)) | exact Cv.nil | exact Cv.refl | exact Cv.left | exact Cv.right | refine Cv.skip ?_))) ?_
      refine hfail co 3 _ _ (fun v => ?_)
      (conv => whnf); repeat ((first | refine tk1 ?_ | refine tk2 ?_ | refine tk3 ?_ | refine tk12 (fun _ => ?_) | refine tk4 ?_ | refine tk5 ?_ | refine tk6 ?_ | refine tk7 ?_ | refine tk8 ?_ | refine tk9 ?_ | refine tk10 (fun _ _ => ?_) | refine tk11 (fun _ => ?_) | refine tk13 ?_ | refine tk14 ?_); (conv => whnf))
      exact ⟨_, Cv.into (by (try dsimp only); repeat' (first | with_reducible exact Cv.refl | with_reducible exact Cv.left | with_reducible exact Cv.right | with_reducible exact Cv.nil | (with_reducible apply Cv.cons; focus ((repeat (first | with_reducible exact Pick.here | with_reducible apply Pick.skip)); done)) | (apply Cv.cons; focus ((repeat (first | exact Pick.here | apply Pick.skip)); done)) | exact Cv.nil | exact Cv.refl | exact Cv.left | exact Cv.right | refine Cv.skip ?_)), k1 (by simp) _ [] co u ⟨fA, fc, oA, oc⟩⟩
    rw [if_neg (fun h => h.elim hlg (fun h => h hch))] at k1 k2
    rw [decide_eq_true hch]
    (conv => whnf); repeat ((first | refine tk1 ?_ | refine tk2 ?_ | refine tk3 ?_ | refine tk12 (fun _ => ?_) | refine tk4 ?_ | refine tk5 ?_ | refine tk6 ?_ | refine tk7 ?_ | refine tk8 ?_ | refine tk9 ?_ | refine tk10 (fun _ _ => ?_) | refine tk11 (fun _ => ?_) | refine tk13 ?_ | refine tk14 ?_); (conv => whnf))
    refine CallK.into (G := .box x [.int .i64 st, .slice fA fs.length fc, .slice oA ([] : List UInt8).length oc, .bool co, .slice BA b.length Bc, .int .i64 (u : Nat), .int .i64 0] 112 :: .row (.slice fA fs.length fc) 41 2 fs.length (fcells fs) :: .row (.slice oA ([] : List UInt8).length oc) 5 1 ([] : List UInt8).length (([] : List UInt8).map byteV) :: X) (Cv.into (by (try dsimp only); repeat' (first | with_reducible exact Cv.refl | with_reducible exact Cv.left | with_reducible exact Cv.right | with_reducible exact Cv.nil | (with_reducible apply Cv.cons; focus ((repeat (first | with_reducible exact Pick.here | with_reducible apply Pick.skip)); done)) | (apply Cv.cons; focus ((repeat (first | exact Pick.here | apply Pick.skip)); done)) | exact Cv.nil | exact Cv.refl | exact Cv.left | exact Cv.right | refine Cv.skip ?_))) ?_
    refine hchunks co _ _ (fun he v l u y' => ?_) (fun he v y' => ?_)
    · (conv => whnf); repeat ((first | refine tk1 ?_ | refine tk2 ?_ | refine tk3 ?_ | refine tk12 (fun _ => ?_) | refine tk4 ?_ | refine tk5 ?_ | refine tk6 ?_ | refine tk7 ?_ | refine tk8 ?_ | refine tk9 ?_ | refine tk10 (fun _ _ => ?_) | refine tk11 (fun _ => ?_) | refine tk13 ?_ | refine tk14 ?_); (conv => whnf))
      exact ⟨_, Into.refl, k1 he _ l co u y'⟩
    · (conv => whnf); repeat ((first | refine tk1 ?_ | refine tk2 ?_ | refine tk3 ?_ | refine tk12 (fun _ => ?_) | refine tk4 ?_ | refine tk5 ?_ | refine tk6 ?_ | refine tk7 ?_ | refine tk8 ?_ | refine tk9 ?_ | refine tk10 (fun _ _ => ?_) | refine tk11 (fun _ => ?_) | refine tk13 ?_ | refine tk14 ?_); (conv => whnf))
      have k2 := k2 he undef y'
      rw [show (chunksP b u).c = false by unfold chunksP; dsimp only; split; rfl; split <;> rfl, Bool.false_or] at k2
      exact ⟨_, Into.refl, k2⟩
  rw [if_neg hcd] at k1 k2
  rw [decide_eq_false hcd]
  by_cases hlg : allOf fs clN ≠ []
  · rw [if_pos hlg] at k1 k2
    rw [decide_eq_true hlg]
    have hLm := hism clN
    obtain ⟨L, hL⟩ : ∃ L, itemsR fs clN = L := ⟨_, rfl⟩
    rw [hL] at k1 k2 hz2 hLm ⊢
    obtain ⟨T, hT⟩ : ∃ T, longP L (-1) = T := ⟨_, rfl⟩
    have hTr := longP_range L (-1) (by omega) (by omega)
    rw [hT] at k1 k2 hTr
    (conv => whnf); repeat ((first | refine tk1 ?_ | refine tk2 ?_ | refine tk3 ?_ | refine tk12 (fun _ => ?_) | refine tk4 ?_ | refine tk5 ?_ | refine tk6 ?_ | refine tk7 ?_ | refine tk8 ?_ | refine tk9 ?_ | refine tk10 (fun _ _ => ?_) | refine tk11 (fun _ => ?_) | refine tk13 ?_ | refine tk14 ?_); (conv => whnf))
    refine LoopS.lpT tys_ok (fun (z : Nat × Int) u => [.pointer (some ⟨x, 0, none⟩), u 1, u 2, u 3, u 4, u 5, u 6, u 7, u 8, u 9, u 10, u 11, .int .i64 z.2, u 13, u 14, u 15, u 16, u 17, u 18, u 19, u 20, u 21, u 22, u 23, u 24, u 25, u 26, u 27, u 28, u 29, u 30, u 31, u 32, u 33, u 34, u 35, u 36, u 37, u 38, u 39, u 40, u 41, u 42, u 43, u 44, u 45, u 46, u 47, u 48, u 49, u 50, u 51, u 52, u 53, u 54, u 55, u 56, u 57, u 58, u 59, u 60, u 61, u 62, u 63, u 64, u 65, u 66, u 67, u 68, u 69, u 70, u 71, u 72, u 73, u 74, u 75, u 76, u 77, u 78, .slice A2 L.length c2, .int .i64 L.length, .int .i64 (z.1 : Nat), u 82, u 83, u 84, u 85, u 86, u 87, u 88, u 89, u 90, u 91, u 92, u 93, u 94, u 95, u 96, u 97, u 98, u 99, u 100, u 101, u 102, u 103, u 104, u 105, u 106, u 107, u 108, u 109, u 110, u 111, u 112, u 113, u 114])
      (fun _ => .row (.slice A2 L.length c2) 9 1 L.length (L.map str) :: .box x [.int .i64 st, .slice fA fs.length fc, .slice oA ([] : List UInt8).length oc, .bool co, .slice BA b.length Bc, .int .i64 (u : Nat), .int .i64 0] 112 :: .row (.slice fA fs.length fc) 41 2 fs.length (fcells fs) :: .row (.slice oA ([] : List UInt8).length oc) 5 1 ([] : List UInt8).length (([] : List UInt8).map byteV) :: X)
      (fun z => z.1 ≤ L.length ∧ longP (L.drop z.1) z.2 = T ∧ -1 ≤ z.2 ∧ z.2 < 1000000000) (fun z => L.length - z.1) (0, -1) ⟨Nat.zero_le _, hT, by dsimp only; omega, by dsimp only; omega⟩ rfl (Cv.into (by (try dsimp only); repeat' (first | with_reducible exact Cv.refl | with_reducible exact Cv.left | with_reducible exact Cv.right | with_reducible exact Cv.nil | (with_reducible apply Cv.cons; focus ((repeat (first | with_reducible exact Pick.here | with_reducible apply Pick.skip)); done)) | (apply Cv.cons; focus ((repeat (first | exact Pick.here | apply Pick.skip)); done)) | exact Cv.nil | exact Cv.refl | exact Cv.left | exact Cv.right | refine Cv.skip ?_))) ?_
    rintro ⟨i, n⟩ w ⟨hi, hI, hn1, hn2⟩
    dsimp only at hi hI hn1 hn2 ⊢
    by_cases hlt : i < L.length
    · have hx : (L.map str)[((i : Nat) : Int).toNat * 1]? = some (str L[i]) := by rw [Int.toNat_natCast, Nat.mul_one, List.getElem?_map, List.getElem?_eq_getElem hlt]; rfl
      have htl := hLm L[i] (List.getElem_mem hlt)
      rw [List.drop_eq_getElem_cons hlt] at hI
      generalize L[i] = t at *
      unfold longP at hI
      have hnr := numN_range t
      by_cases hbad : numOK t = false ∨ (0 ≤ n ∧ n ≠ numN t)
      · rw [if_pos hbad] at hI
        subst hI
        rw [if_pos (by omega)] at k1
        rcases (show numOK t = false ∨ (numOK t = true ∧ 0 ≤ n ∧ n ≠ numN t) by cases h : numOK t; exact .inl rfl; rw [h] at hbad; exact .inr ⟨rfl, hbad.resolve_left (by simp)⟩) with h | ⟨h, h1, h2⟩
        all_goals
          (conv => whnf); repeat ((first | refine tk1 ?_ | refine tk2 ?_ | refine tk3 ?_ | refine tk12 (fun _ => ?_) | refine tk4 ?_ | refine tk5 ?_ | refine tk6 ?_ | refine tk7 ?_ | refine tk8 ?_ | refine tk9 ?_ | refine tk10 (fun _ _ => ?_) | refine tk11 (fun _ => ?_) | refine tk13 ?_ | refine tk14 ?_); (conv => whnf))
          refine IdxA.tc (xs := L.map str) (by rw [List.length_map]; omega) (by omega) (by omega) ?_
          (conv => whnf); repeat ((first | refine tk1 ?_ | refine tk2 ?_ | refine tk3 ?_ | refine tk12 (fun _ => ?_) | refine tk4 ?_ | refine tk5 ?_ | refine tk6 ?_ | refine tk7 ?_ | refine tk8 ?_ | refine tk9 ?_ | refine tk10 (fun _ _ => ?_) | refine tk11 (fun _ => ?_) | refine tk13 ?_ | refine tk14 ?_); (conv => whnf))
          refine Ld.ta (xs := L.map str) hx ?_
          (conv => whnf); repeat ((first | refine tk1 ?_ | refine tk2 ?_ | refine tk3 ?_ | refine tk12 (fun _ => ?_) | refine tk4 ?_ | refine tk5 ?_ | refine tk6 ?_ | refine tk7 ?_ | refine tk8 ?_ | refine tk9 ?_ | refine tk10 (fun _ _ => ?_) | refine tk11 (fun _ => ?_) | refine tk13 ?_ | refine tk14 ?_); (conv => whnf))
          refine CallK.fn (Number_f t (by omega)) ?_
          rw [h]
          (conv => whnf); repeat ((first | refine tk1 ?_ | refine tk2 ?_ | refine tk3 ?_ | refine tk12 (fun _ => ?_) | refine tk4 ?_ | refine tk5 ?_ | refine tk6 ?_ | refine tk7 ?_ | refine tk8 ?_ | refine tk9 ?_ | refine tk10 (fun _ _ => ?_) | refine tk11 (fun _ => ?_) | refine tk13 ?_ | refine tk14 ?_); (conv => whnf))
          refine CallK.into (G := .box x [.int .i64 st, .slice fA fs.length fc, .slice oA ([] : List UInt8).length oc, .bool co, .slice BA b.length Bc, .int .i64 (u : Nat), .int .i64 0] 112 :: .row (.slice fA fs.length fc) 41 2 fs.length (fcells fs) :: .row (.slice oA ([] : List UInt8).length oc) 5 1 ([] : List UInt8).length (([] : List UInt8).map byteV) :: X) (Cv.into (by (try dsimp only); repeat' (first | with_reducible exact Cv.refl | with_reducible exact Cv.left | with_reducible exact Cv.right | with_reducible exact Cv.nil | (with_reducible apply Cv.cons; focus ((repeat (first | with_reducible exact Pick.here | with_reducible apply Pick.skip)); done)) | (apply Cv.cons; focus ((repeat (first | exact Pick.here | apply Pick.skip)); done)) | exact Cv.nil | exact Cv.refl | exact Cv.left | exact Cv.right | refine Cv.skip ?_))) ?_
          refine hfail co 3 _ _ (fun v => ?_)
          (conv => whnf); repeat ((first | refine tk1 ?_ | refine tk2 ?_ | refine tk3 ?_ | refine tk12 (fun _ => ?_) | refine tk4 ?_ | refine tk5 ?_ | refine tk6 ?_ | refine tk7 ?_ | refine tk8 ?_ | refine tk9 ?_ | refine tk10 (fun _ _ => ?_) | refine tk11 (fun _ => ?_) | refine tk13 ?_ | refine tk14 ?_); (conv => whnf))
          exact ⟨_, Cv.into (by (try dsimp only); repeat' (first | with_reducible exact Cv.refl | with_reducible exact Cv.left | with_reducible exact Cv.right | with_reducible exact Cv.nil | (with_reducible apply Cv.cons; focus ((repeat (first | with_reducible exact Pick.here | with_reducible apply Pick.skip)); done)) | (apply Cv.cons; focus ((repeat (first | exact Pick.here | apply Pick.skip)); done)) | exact Cv.nil | exact Cv.refl | exact Cv.left | exact Cv.right | refine Cv.skip ?_)), k1 (by simp) _ [] co u ⟨fA, fc, oA, oc⟩⟩
      · rw [if_neg hbad] at hI
        rw [not_or] at hbad
        have hok : numOK t = true := by simpa using hbad.1
        rcases (show n < 0 ∨ (0 ≤ n ∧ n = numN t) by omega) with h | ⟨h, h2⟩
        all_goals
          (conv => whnf); repeat ((first | refine tk1 ?_ | refine tk2 ?_ | refine tk3 ?_ | refine tk12 (fun _ => ?_) | refine tk4 ?_ | refine tk5 ?_ | refine tk6 ?_ | refine tk7 ?_ | refine tk8 ?_ | refine tk9 ?_ | refine tk10 (fun _ _ => ?_) | refine tk11 (fun _ => ?_) | refine tk13 ?_ | refine tk14 ?_); (conv => whnf))
          refine IdxA.tc (xs := L.map str) (by rw [List.length_map]; omega) (by omega) (by omega) ?_
          (conv => whnf); repeat ((first | refine tk1 ?_ | refine tk2 ?_ | refine tk3 ?_ | refine tk12 (fun _ => ?_) | refine tk4 ?_ | refine tk5 ?_ | refine tk6 ?_ | refine tk7 ?_ | refine tk8 ?_ | refine tk9 ?_ | refine tk10 (fun _ _ => ?_) | refine tk11 (fun _ => ?_) | refine tk13 ?_ | refine tk14 ?_); (conv => whnf))
          refine Ld.ta (xs := L.map str) hx ?_
          (conv => whnf); repeat ((first | refine tk1 ?_ | refine tk2 ?_ | refine tk3 ?_ | refine tk12 (fun _ => ?_) | refine tk4 ?_ | refine tk5 ?_ | refine tk6 ?_ | refine tk7 ?_ | refine tk8 ?_ | refine tk9 ?_ | refine tk10 (fun _ _ => ?_) | refine tk11 (fun _ => ?_) | refine tk13 ?_ | refine tk14 ?_); (conv => whnf))
          refine CallK.fn (Number_f t (by omega)) ?_
          rw [hok]
          (conv => whnf); repeat ((first | refine tk1 ?_ | refine tk2 ?_ | refine tk3 ?_ | refine tk12 (fun _ => ?_) | refine tk4 ?_ | refine tk5 ?_ | refine tk6 ?_ | refine tk7 ?_ | refine tk8 ?_ | refine tk9 ?_ | refine tk10 (fun _ _ => ?_) | refine tk11 (fun _ => ?_) | refine tk13 ?_ | refine tk14 ?_); (conv => whnf))
          exact ⟨(i + 1, numN t), ⟨by dsimp only; omega, hI, by dsimp only; omega, by dsimp only; omega⟩, rfl, Cv.into (by (try dsimp only); repeat' (first | with_reducible exact Cv.refl | with_reducible exact Cv.left | with_reducible exact Cv.right | with_reducible exact Cv.nil | (with_reducible apply Cv.cons; focus ((repeat (first | with_reducible exact Pick.here | with_reducible apply Pick.skip)); done)) | (apply Cv.cons; focus ((repeat (first | exact Pick.here | apply Pick.skip)); done)) | exact Cv.nil | exact Cv.refl | exact Cv.left | exact Cv.right | refine Cv.skip ?_)), by dsimp only; omega⟩
    · obtain rfl : i = L.length := by omega
      rw [List.drop_length] at hI
      have hI : n = T := hI
      subst hI
      by_cases hneg : n < 0
      · rw [if_pos hneg] at k1
        (conv => whnf); repeat ((first | refine tk1 ?_ | refine tk2 ?_ | refine tk3 ?_ | refine tk12 (fun _ => ?_) | refine tk4 ?_ | refine tk5 ?_ | refine tk6 ?_ | refine tk7 ?_ | refine tk8 ?_ | refine tk9 ?_ | refine tk10 (fun _ _ => ?_) | refine tk11 (fun _ => ?_) | refine tk13 ?_ | refine tk14 ?_); (conv => whnf))
        refine CallK.into (G := .box x [.int .i64 st, .slice fA fs.length fc, .slice oA ([] : List UInt8).length oc, .bool co, .slice BA b.length Bc, .int .i64 (u : Nat), .int .i64 0] 112 :: .row (.slice fA fs.length fc) 41 2 fs.length (fcells fs) :: .row (.slice oA ([] : List UInt8).length oc) 5 1 ([] : List UInt8).length (([] : List UInt8).map byteV) :: X) (Cv.into (by (try dsimp only); repeat' (first | with_reducible exact Cv.refl | with_reducible exact Cv.left | with_reducible exact Cv.right | with_reducible exact Cv.nil | (with_reducible apply Cv.cons; focus ((repeat (first | with_reducible exact Pick.here | with_reducible apply Pick.skip)); done)) | (apply Cv.cons; focus ((repeat (first | exact Pick.here | apply Pick.skip)); done)) | exact Cv.nil | exact Cv.refl | exact Cv.left | exact Cv.right | refine Cv.skip ?_))) ?_
        refine hfail co 3 _ _ (fun v => ?_)
        (conv => whnf); repeat ((first | refine tk1 ?_ | refine tk2 ?_ | refine tk3 ?_ | refine tk12 (fun _ => ?_) | refine tk4 ?_ | refine tk5 ?_ | refine tk6 ?_ | refine tk7 ?_ | refine tk8 ?_ | refine tk9 ?_ | refine tk10 (fun _ _ => ?_) | refine tk11 (fun _ => ?_) | refine tk13 ?_ | refine tk14 ?_); (conv => whnf))
        exact ⟨_, Cv.into (by (try dsimp only); repeat' (first | with_reducible exact Cv.refl | with_reducible exact Cv.left | with_reducible exact Cv.right | with_reducible exact Cv.nil | (with_reducible apply Cv.cons; focus ((repeat (first | with_reducible exact Pick.here | with_reducible apply Pick.skip)); done)) | (apply Cv.cons; focus ((repeat (first | exact Pick.here | apply Pick.skip)); done)) | exact Cv.nil | exact Cv.refl | exact Cv.left | exact Cv.right | refine Cv.skip ?_)), k1 (by simp) _ [] co u ⟨fA, fc, oA, oc⟩⟩
      rw [if_neg hneg] at k1 k2
      obtain ⟨m, rfl⟩ : ∃ m : Nat, n = m := ⟨n.toNat, by omega⟩
      rw [Int.toNat_natCast] at k1 k2
      (conv => whnf); repeat ((first | refine tk1 ?_ | refine tk2 ?_ | refine tk3 ?_ | refine tk12 (fun _ => ?_) | refine tk4 ?_ | refine tk5 ?_ | refine tk6 ?_ | refine tk7 ?_ | refine tk8 ?_ | refine tk9 ?_ | refine tk10 (fun _ _ => ?_) | refine tk11 (fun _ => ?_) | refine tk13 ?_ | refine tk14 ?_); (conv => whnf))
      refine CallK.into (G := .box x [.int .i64 st, .slice fA fs.length fc, .slice oA ([] : List UInt8).length oc, .bool co, .slice BA b.length Bc, .int .i64 (u : Nat), .int .i64 0] 112 :: .row (.slice fA fs.length fc) 41 2 fs.length (fcells fs) :: .row (.slice oA ([] : List UInt8).length oc) 5 1 ([] : List UInt8).length (([] : List UInt8).map byteV) :: X) (Cv.into (by (try dsimp only); repeat' (first | with_reducible exact Cv.refl | with_reducible exact Cv.left | with_reducible exact Cv.right | with_reducible exact Cv.nil | (with_reducible apply Cv.cons; focus ((repeat (first | with_reducible exact Pick.here | with_reducible apply Pick.skip)); done)) | (apply Cv.cons; focus ((repeat (first | exact Pick.here | apply Pick.skip)); done)) | exact Cv.nil | exact Cv.refl | exact Cv.left | exact Cv.right | refine Cv.skip ?_))) ?_
      refine htake co m (by omega) _ _ (fun h v => ?_) (fun h v y' => ?_)
      · rw [if_pos (by omega)] at k1
        (conv => whnf); repeat ((first | refine tk1 ?_ | refine tk2 ?_ | refine tk3 ?_ | refine tk12 (fun _ => ?_) | refine tk4 ?_ | refine tk5 ?_ | refine tk6 ?_ | refine tk7 ?_ | refine tk8 ?_ | refine tk9 ?_ | refine tk10 (fun _ _ => ?_) | refine tk11 (fun _ => ?_) | refine tk13 ?_ | refine tk14 ?_); (conv => whnf))
        exact ⟨_, Into.refl, k1 (by simp) _ [] co u ⟨fA, fc, oA, oc⟩⟩
      · rw [if_neg (by omega)] at k2
        (conv => whnf); repeat ((first | refine tk1 ?_ | refine tk2 ?_ | refine tk3 ?_ | refine tk12 (fun _ => ?_) | refine tk4 ?_ | refine tk5 ?_ | refine tk6 ?_ | refine tk7 ?_ | refine tk8 ?_ | refine tk9 ?_ | refine tk10 (fun _ _ => ?_) | refine tk11 (fun _ => ?_) | refine tk13 ?_ | refine tk14 ?_); (conv => whnf))
        exact ⟨_, Into.refl, k2 rfl _ y'⟩
  rw [if_neg hlg] at k1 k2
  rw [decide_eq_false hlg]
  cases en
  · simp only [Bool.false_eq_true, if_false] at k1
    (conv => whnf); repeat ((first | refine tk1 ?_ | refine tk2 ?_ | refine tk3 ?_ | refine tk12 (fun _ => ?_) | refine tk4 ?_ | refine tk5 ?_ | refine tk6 ?_ | refine tk7 ?_ | refine tk8 ?_ | refine tk9 ?_ | refine tk10 (fun _ _ => ?_) | refine tk11 (fun _ => ?_) | refine tk13 ?_ | refine tk14 ?_); (conv => whnf))
    refine CallK.into (G := .box x [.int .i64 st, .slice fA fs.length fc, .slice oA ([] : List UInt8).length oc, .bool co, .slice BA b.length Bc, .int .i64 (u : Nat), .int .i64 0] 112 :: .row (.slice fA fs.length fc) 41 2 fs.length (fcells fs) :: .row (.slice oA ([] : List UInt8).length oc) 5 1 ([] : List UInt8).length (([] : List UInt8).map byteV) :: X) (Cv.into (by (try dsimp only); repeat' (first | with_reducible exact Cv.refl | with_reducible exact Cv.left | with_reducible exact Cv.right | with_reducible exact Cv.nil | (with_reducible apply Cv.cons; focus ((repeat (first | with_reducible exact Pick.here | with_reducible apply Pick.skip)); done)) | (apply Cv.cons; focus ((repeat (first | exact Pick.here | apply Pick.skip)); done)) | exact Cv.nil | exact Cv.refl | exact Cv.left | exact Cv.right | refine Cv.skip ?_))) ?_
    refine hfail co 10 _ _ (fun v => ?_)
    (conv => whnf); repeat ((first | refine tk1 ?_ | refine tk2 ?_ | refine tk3 ?_ | refine tk12 (fun _ => ?_) | refine tk4 ?_ | refine tk5 ?_ | refine tk6 ?_ | refine tk7 ?_ | refine tk8 ?_ | refine tk9 ?_ | refine tk10 (fun _ _ => ?_) | refine tk11 (fun _ => ?_) | refine tk13 ?_ | refine tk14 ?_); (conv => whnf))
    exact ⟨_, Into.refl, k1 (by decide) _ [] co u ⟨fA, fc, oA, oc⟩⟩
  simp only [if_true] at k2
  (conv => whnf); repeat ((first | refine tk1 ?_ | refine tk2 ?_ | refine tk3 ?_ | refine tk12 (fun _ => ?_) | refine tk4 ?_ | refine tk5 ?_ | refine tk6 ?_ | refine tk7 ?_ | refine tk8 ?_ | refine tk9 ?_ | refine tk10 (fun _ _ => ?_) | refine tk11 (fun _ => ?_) | refine tk13 ?_ | refine tk14 ?_); (conv => whnf))
  refine DrawS.goW [11] [(0, true), (1, true), (2, true), (3, true), (4, true), (5, true), (6, true), (7, true), (8, true), (9, true), (10, true), (11, false)] tys_ok mixed (by kernel_rfl) ?_
  (conv => whnf); repeat ((first | refine tk1 ?_ | refine tk2 ?_ | refine tk3 ?_ | refine tk12 (fun _ => ?_) | refine tk4 ?_ | refine tk5 ?_ | refine tk6 ?_ | refine tk7 ?_ | refine tk8 ?_ | refine tk9 ?_ | refine tk10 (fun _ _ => ?_) | refine tk11 (fun _ => ?_) | refine tk13 ?_ | refine tk14 ?_); (conv => whnf))
  rw [show (b.length : Int) - (u : Int) = ((b.length - u : Nat) : Int) by omega]
  refine CallK.into (G := .box x [.int .i64 st, .slice fA fs.length fc, .slice oA ([] : List UInt8).length oc, .bool co, .slice BA b.length Bc, .int .i64 (u : Nat), .int .i64 0] 112 :: .row (.slice fA fs.length fc) 41 2 fs.length (fcells fs) :: .row (.slice oA ([] : List UInt8).length oc) 5 1 ([] : List UInt8).length (([] : List UInt8).map byteV) :: X) (Cv.into (by (try dsimp only); repeat' (first | with_reducible exact Cv.refl | with_reducible exact Cv.left | with_reducible exact Cv.right | with_reducible exact Cv.nil | (with_reducible apply Cv.cons; focus ((repeat (first | with_reducible exact Pick.here | with_reducible apply Pick.skip)); done)) | (apply Cv.cons; focus ((repeat (first | exact Pick.here | apply Pick.skip)); done)) | exact Cv.nil | exact Cv.refl | exact Cv.left | exact Cv.right | refine Cv.skip ?_))) ?_
  refine htake co (b.length - u) (by omega) _ _ (fun h v => absurd h (Nat.lt_irrefl _)) (fun h v y' => ?_)
  rw [List.take_of_length_le (by rw [List.length_drop]; exact Nat.le_refl _), show u + (b.length - u) = b.length by omega]
  (conv => whnf); repeat ((first | refine tk1 ?_ | refine tk2 ?_ | refine tk3 ?_ | refine tk12 (fun _ => ?_) | refine tk4 ?_ | refine tk5 ?_ | refine tk6 ?_ | refine tk7 ?_ | refine tk8 ?_ | refine tk9 ?_ | refine tk10 (fun _ _ => ?_) | refine tk11 (fun _ => ?_) | refine tk13 ?_ | refine tk14 ?_); (conv => whnf))
  exact ⟨_, Into.refl, k2 trivial _ y'⟩
end Go.Proofs.YtnaeeklnlddcaaaGreatDoor.Vex
/- The program's reader of replies, reckoned: Parse. -/
namespace Go.Proofs.YtnaeeklnlddcaaaGreatDoor.Vex
open Go Go.RowKit
set_option maxRecDepth 100000
set_option linter.unusedSectionVars false
variable {gI : GI} [HasMax gI] [HasUtf gI] [HasErr gI]

def repC (r : PRes) (y : RMem) : List Value := [.int .i64 r.st, .slice y.fA r.fs.length y.fc, .slice y.oA r.l.length y.oc, .bool r.c]
def ParV (r : PRes) (y : RMem) : Value := .tuple #[.agg ⟨repC r y⟩, .int .i64 (r.u : Nat), .int .i64 r.e]
def ParH (r : PRes) (y : RMem) : Hp := [.row (.slice y.fA r.fs.length y.fc) 41 2 r.fs.length (fcells r.fs), .row (.slice y.oA r.l.length y.oc) 5 1 r.l.length (r.l.map byteV)]
set_option maxHeartbeats 8000000 in
theorem RParse_f (BA : Option Addr) (Bc : Nat) (b : List UInt8) (head en : Bool) (hb : b.length ≤ 100000000) :
    FnT Tryz.prog gI 25 [.slice BA b.length Bc, .bool head, .bool en] (fun w => Rdw w BA (b.map byteV) ∧ b.length ≤ Bc) (ParV (parseR b head en)) (fun _ => True) (ParH (parseR b head en)) (fun _ => []) := by
  refine FnE.of tys_ok Tryz.func25 rfl (by kernel_rfl) rfl rfl ?_; intro w hG hP
  have hR : ∀ H, RdA (mkC Tryz.prog gI w hG) H BA (b.map byteV) := fun H => ⟨hP.1.now⟩
  have hcp := hP.2
  have hou : Ours Tryz.prog gI (mkC Tryz.prog gI w hG) := ⟨rfl, rfl⟩
  have hfail : ∀ (e : Int) (r : PRes) (w w' : World) (hG : gI.G w), r = pfail e → St (mkC Tryz.prog gI w hG) [] w' → ∃ y, Value.tuple #[.agg ⟨[.int .i64 0, .slice none 0 0, .slice none 0 0, .bool false]⟩, .int .i64 0, .int .i64 e] = ParV r y ∧ True ∧ newH w w' (ParH r y ++ []) := fun e r w w' hG hr hw' => by
    subst hr
    exact ⟨⟨none, 0, none, 0⟩, rfl, trivial, newH.of ((hw'.nilRow 5 1).nilRow 41 2)⟩
  (conv => whnf); repeat ((first | refine tk1 ?_ | refine tk2 ?_ | refine tk3 ?_ | refine tk12 (fun _ => ?_) | refine tk4 ?_ | refine tk5 ?_ | refine tk6 ?_ | refine tk7 ?_ | refine tk8 ?_ | refine tk9 ?_ | refine tk10 (fun _ _ => ?_) | refine tk11 (fun _ => ?_) | refine tk13 ?_ | refine tk14 ?_); (conv => whnf))
  rename_i b6
  unfold parseR
  by_cases hbig : 1048576 < b.length
  · rw [if_pos hbig]
    (conv => whnf); repeat ((first | refine tk1 ?_ | refine tk2 ?_ | refine tk3 ?_ | refine tk12 (fun _ => ?_) | refine tk4 ?_ | refine tk5 ?_ | refine tk6 ?_ | refine tk7 ?_ | refine tk8 ?_ | refine tk9 ?_ | refine tk10 (fun _ _ => ?_) | refine tk11 (fun _ => ?_) | refine tk13 ?_ | refine tk14 ?_); (conv => whnf))
    exact fun w' hw' => hfail 4 _ w w' hG rfl (hw'.sub (List.nil_sublist _))
  rw [if_neg hbig]
  (conv => whnf); repeat ((first | refine tk1 ?_ | refine tk2 ?_ | refine tk3 ?_ | refine tk12 (fun _ => ?_) | refine tk4 ?_ | refine tk5 ?_ | refine tk6 ?_ | refine tk7 ?_ | refine tk8 ?_ | refine tk9 ?_ | refine tk10 (fun _ _ => ?_) | refine tk11 (fun _ => ?_) | refine tk13 ?_ | refine tk14 ?_); (conv => whnf))
  rename_i bx
  refine CallK.into (G := rHeap bx BA b.length Bc ⟨0, [], [], false, 0, 0⟩ ⟨none, 0, none, 0⟩ [.box b6 [.int .i64 0, .slice none 0 0, .slice none 0 0, .bool false] 64]) (by unfold rHeap; exact Into.trans (Into.nilRow (e := 41) (sz := 2) (Into.nilRow (e := 5) (sz := 1) Into.refl)) (Cv.into (by (try dsimp only); repeat' (first | with_reducible exact Cv.refl | with_reducible exact Cv.left | with_reducible exact Cv.right | with_reducible exact Cv.nil | (with_reducible apply Cv.cons; focus ((repeat (first | with_reducible exact Pick.here | with_reducible apply Pick.skip)); done)) | (apply Cv.cons; focus ((repeat (first | exact Pick.here | apply Pick.skip)); done)) | exact Cv.nil | exact Cv.refl | exact Cv.left | exact Cv.right | refine Cv.skip ?_)))) ?_
  refine rstatus_k hou (s := ⟨0, [], [], false, 0, 0⟩) (y := ⟨none, 0, none, 0⟩) (X := [.box b6 [.int .i64 0, .slice none 0 0, .slice none 0 0, .bool false] 64]) hR hb hcp (Nat.zero_le _) rfl (fun he v => ?_) (fun he hs v n => ?_) (fun he hs v => ?_)
  · dsimp only at he ⊢
    rw [List.drop_zero] at he ⊢
    rw [if_pos he]
    unfold rHeap
    dsimp only
    (conv => whnf); repeat ((first | refine tk1 ?_ | refine tk2 ?_ | refine tk3 ?_ | refine tk12 (fun _ => ?_) | refine tk4 ?_ | refine tk5 ?_ | refine tk6 ?_ | refine tk7 ?_ | refine tk8 ?_ | refine tk9 ?_ | refine tk10 (fun _ _ => ?_) | refine tk11 (fun _ => ?_) | refine tk13 ?_ | refine tk14 ?_); (conv => whnf))
    refine rnofields_k hou (x := bx) (BA := BA) (n := b.length) (Bc := Bc) (s := ⟨0, [], [], false, 0 + (lineP b).n, (lineP b).e⟩) (y := ⟨none, 0, none, 0⟩) (X := [.box b6 [.int .i64 0, .slice none 0 0, .slice none 0 0, .bool false] 64]) he (fun v => ?_)
    unfold rHeap
    dsimp only
    (conv => whnf); repeat ((first | refine tk1 ?_ | refine tk2 ?_ | refine tk3 ?_ | refine tk12 (fun _ => ?_) | refine tk4 ?_ | refine tk5 ?_ | refine tk6 ?_ | refine tk7 ?_ | refine tk8 ?_ | refine tk9 ?_ | refine tk10 (fun _ _ => ?_) | refine tk11 (fun _ => ?_) | refine tk13 ?_ | refine tk14 ?_); (conv => whnf))
    refine DrawS.joinI (fun (_ : Unit) u => [u 0, u 1, u 2, u 3, u 4, u 5, .pointer (some ⟨b6, 0, none⟩), .int .i64 0, .int .i64 ((lineP b).e), u 9, u 10, u 11, u 12, u 13, u 14, u 15, u 16, u 17, u 18, u 19, u 20, u 21, u 22, u 23, u 24, u 25, u 26, u 27, u 28, u 29, u 30, u 31, u 32, u 33, u 34, u 35, u 36, u 37, u 38, u 39, u 40, u 41, u 42, u 43, u 44, u 45, u 46, u 47]) (fun _ => [.box b6 [.int .i64 0, .slice none 0 0, .slice none 0 0, .bool false] 64]) [] (.q 0 (.q 1 (.ch 2 (.ch 3 (.ch 4 (.a 5 (.q 6 (.q 7 (.nil)))) (.ch 5 (.q 4 (.q 6 (.q 7 (.nil)))) (.stop))) (.ch 5 (.q 3 (.q 4 (.q 6 (.q 7 (.nil))))) (.stop))) (.ch 5 (.q 2 (.q 3 (.q 4 (.q 6 (.q 7 (.nil)))))) (.stop))))) tys_ok mixed (by as_aux_lemma => kernel_rfl) ?_ ?_
    · (repeat' ((conv => whnf); first | (first | refine tk1 ?_ | refine tk2 ?_ | refine tk3 ?_ | refine tk12 (fun _ => ?_) | refine tk4 ?_ | refine tk5 ?_ | refine tk6 ?_ | refine tk7 ?_ | refine tk8 ?_ | refine tk9 ?_ | refine tk10 (fun _ _ => ?_) | refine tk11 (fun _ => ?_) | refine tk13 ?_ | refine tk14 ?_) | refine And.intro ?_ ?_ | exact trivial | exact ⟨(), rfl, Cv.into (by (try dsimp only); repeat' (first | with_reducible exact Cv.refl | with_reducible exact Cv.left | with_reducible exact Cv.right | with_reducible exact Cv.nil | (with_reducible apply Cv.cons; focus ((repeat (first | with_reducible exact Pick.here | with_reducible apply Pick.skip)); done)) | (apply Cv.cons; focus ((repeat (first | exact Pick.here | apply Pick.skip)); done)) | exact Cv.nil | exact Cv.refl | exact Cv.left | exact Cv.right | refine Cv.skip ?_))⟩ | fail))
    intro _ w1
    (conv => whnf); repeat ((first | refine tk1 ?_ | refine tk2 ?_ | refine tk3 ?_ | refine tk12 (fun _ => ?_) | refine tk4 ?_ | refine tk5 ?_ | refine tk6 ?_ | refine tk7 ?_ | refine tk8 ?_ | refine tk9 ?_ | refine tk10 (fun _ _ => ?_) | refine tk11 (fun _ => ?_) | refine tk13 ?_ | refine tk14 ?_); (conv => whnf))
    exact fun w' hw' => hfail ((lineP b).e) _ w w' hG rfl (hw'.sub (List.nil_sublist _))
  · dsimp only at he hs ⊢
    rw [List.drop_zero] at he hs ⊢
    rw [if_neg (fun h => h he), if_pos hs]
    unfold rHeap
    dsimp only
    (conv => whnf); repeat ((first | refine tk1 ?_ | refine tk2 ?_ | refine tk3 ?_ | refine tk12 (fun _ => ?_) | refine tk4 ?_ | refine tk5 ?_ | refine tk6 ?_ | refine tk7 ?_ | refine tk8 ?_ | refine tk9 ?_ | refine tk10 (fun _ _ => ?_) | refine tk11 (fun _ => ?_) | refine tk13 ?_ | refine tk14 ?_); (conv => whnf))
    refine rnofields_k hou (x := bx) (BA := BA) (n := b.length) (Bc := Bc) (s := ⟨n, [], [], false, 0 + (lineP b).n, 3⟩) (y := ⟨none, 0, none, 0⟩) (X := [.box b6 [.int .i64 0, .slice none 0 0, .slice none 0 0, .bool false] 64]) (show (3 : Int) ≠ 0 by decide) (fun v => ?_)
    unfold rHeap
    dsimp only
    (conv => whnf); repeat ((first | refine tk1 ?_ | refine tk2 ?_ | refine tk3 ?_ | refine tk12 (fun _ => ?_) | refine tk4 ?_ | refine tk5 ?_ | refine tk6 ?_ | refine tk7 ?_ | refine tk8 ?_ | refine tk9 ?_ | refine tk10 (fun _ _ => ?_) | refine tk11 (fun _ => ?_) | refine tk13 ?_ | refine tk14 ?_); (conv => whnf))
    refine DrawS.joinI (fun (_ : Unit) u => [u 0, u 1, u 2, u 3, u 4, u 5, .pointer (some ⟨b6, 0, none⟩), .int .i64 0, .int .i64 (3), u 9, u 10, u 11, u 12, u 13, u 14, u 15, u 16, u 17, u 18, u 19, u 20, u 21, u 22, u 23, u 24, u 25, u 26, u 27, u 28, u 29, u 30, u 31, u 32, u 33, u 34, u 35, u 36, u 37, u 38, u 39, u 40, u 41, u 42, u 43, u 44, u 45, u 46, u 47]) (fun _ => [.box b6 [.int .i64 0, .slice none 0 0, .slice none 0 0, .bool false] 64]) [] (.q 0 (.q 1 (.ch 2 (.ch 3 (.ch 4 (.a 5 (.q 6 (.q 7 (.nil)))) (.ch 5 (.q 4 (.q 6 (.q 7 (.nil)))) (.stop))) (.ch 5 (.q 3 (.q 4 (.q 6 (.q 7 (.nil))))) (.stop))) (.ch 5 (.q 2 (.q 3 (.q 4 (.q 6 (.q 7 (.nil)))))) (.stop))))) tys_ok mixed (by as_aux_lemma => kernel_rfl) ?_ ?_
    · (repeat' ((conv => whnf); first | (first | refine tk1 ?_ | refine tk2 ?_ | refine tk3 ?_ | refine tk12 (fun _ => ?_) | refine tk4 ?_ | refine tk5 ?_ | refine tk6 ?_ | refine tk7 ?_ | refine tk8 ?_ | refine tk9 ?_ | refine tk10 (fun _ _ => ?_) | refine tk11 (fun _ => ?_) | refine tk13 ?_ | refine tk14 ?_) | refine And.intro ?_ ?_ | exact trivial | exact ⟨(), rfl, Cv.into (by (try dsimp only); repeat' (first | with_reducible exact Cv.refl | with_reducible exact Cv.left | with_reducible exact Cv.right | with_reducible exact Cv.nil | (with_reducible apply Cv.cons; focus ((repeat (first | with_reducible exact Pick.here | with_reducible apply Pick.skip)); done)) | (apply Cv.cons; focus ((repeat (first | exact Pick.here | apply Pick.skip)); done)) | exact Cv.nil | exact Cv.refl | exact Cv.left | exact Cv.right | refine Cv.skip ?_))⟩ | fail))
    intro _ w1
    (conv => whnf); repeat ((first | refine tk1 ?_ | refine tk2 ?_ | refine tk3 ?_ | refine tk12 (fun _ => ?_) | refine tk4 ?_ | refine tk5 ?_ | refine tk6 ?_ | refine tk7 ?_ | refine tk8 ?_ | refine tk9 ?_ | refine tk10 (fun _ _ => ?_) | refine tk11 (fun _ => ?_) | refine tk13 ?_ | refine tk14 ?_); (conv => whnf))
    exact fun w' hw' => hfail (3) _ w w' hG rfl (hw'.sub (List.nil_sublist _))
  dsimp only at he hs ⊢
  rw [List.drop_zero] at he hs ⊢
  rw [if_neg (fun h => h he), if_neg (fun h => h hs)]
  have hle := (lineP_le b).2.1
  unfold rHeap
  dsimp only
  (conv => whnf); repeat ((first | refine tk1 ?_ | refine tk2 ?_ | refine tk3 ?_ | refine tk12 (fun _ => ?_) | refine tk4 ?_ | refine tk5 ?_ | refine tk6 ?_ | refine tk7 ?_ | refine tk8 ?_ | refine tk9 ?_ | refine tk10 (fun _ _ => ?_) | refine tk11 (fun _ => ?_) | refine tk13 ?_ | refine tk14 ?_); (conv => whnf))
  refine rfields_k hou (x := bx) (BA := BA) (Bc := Bc) (b := b) (s := ⟨stNum (lineP b).s, [], [], false, 0 + (lineP b).n, 0⟩) (y := ⟨none, 0, none, 0⟩) (X := [.box b6 [.int .i64 0, .slice none 0 0, .slice none 0 0, .bool false] 64]) hR hb hcp (by dsimp only; omega) rfl rfl (fun he2 v fs u y' => ?_) (fun he2 v y' => ?_)
  · dsimp only at he2 ⊢
    rw [Nat.zero_add] at he2 ⊢
    unfold parseB
    rw [if_pos he2]
    unfold rHeap
    dsimp only
    (conv => whnf); repeat ((first | refine tk1 ?_ | refine tk2 ?_ | refine tk3 ?_ | refine tk12 (fun _ => ?_) | refine tk4 ?_ | refine tk5 ?_ | refine tk6 ?_ | refine tk7 ?_ | refine tk8 ?_ | refine tk9 ?_ | refine tk10 (fun _ _ => ?_) | refine tk11 (fun _ => ?_) | refine tk13 ?_ | refine tk14 ?_); (conv => whnf))
    refine DrawS.joinI (fun (_ : Unit) u => [u 0, u 1, u 2, u 3, u 4, u 5, .pointer (some ⟨b6, 0, none⟩), .int .i64 0, .int .i64 ((fldsP (b.length + 1) b (lineP b).n []).e), u 9, u 10, u 11, u 12, u 13, u 14, u 15, u 16, u 17, u 18, u 19, u 20, u 21, u 22, u 23, u 24, u 25, u 26, u 27, u 28, u 29, u 30, u 31, u 32, u 33, u 34, u 35, u 36, u 37, u 38, u 39, u 40, u 41, u 42, u 43, u 44, u 45, u 46, u 47]) (fun _ => [.box b6 [.int .i64 0, .slice none 0 0, .slice none 0 0, .bool false] 64]) [] (.q 0 (.q 1 (.ch 2 (.ch 3 (.ch 4 (.a 5 (.q 6 (.q 7 (.nil)))) (.ch 5 (.q 4 (.q 6 (.q 7 (.nil)))) (.stop))) (.ch 5 (.q 3 (.q 4 (.q 6 (.q 7 (.nil))))) (.stop))) (.ch 5 (.q 2 (.q 3 (.q 4 (.q 6 (.q 7 (.nil)))))) (.stop))))) tys_ok mixed (by as_aux_lemma => kernel_rfl) ?_ ?_
    · (repeat' ((conv => whnf); first | (first | refine tk1 ?_ | refine tk2 ?_ | refine tk3 ?_ | refine tk12 (fun _ => ?_) | refine tk4 ?_ | refine tk5 ?_ | refine tk6 ?_ | refine tk7 ?_ | refine tk8 ?_ | refine tk9 ?_ | refine tk10 (fun _ _ => ?_) | refine tk11 (fun _ => ?_) | refine tk13 ?_ | refine tk14 ?_) | refine And.intro ?_ ?_ | exact trivial | exact ⟨(), rfl, Cv.into (by (try dsimp only); repeat' (first | with_reducible exact Cv.refl | with_reducible exact Cv.left | with_reducible exact Cv.right | with_reducible exact Cv.nil | (with_reducible apply Cv.cons; focus ((repeat (first | with_reducible exact Pick.here | with_reducible apply Pick.skip)); done)) | (apply Cv.cons; focus ((repeat (first | exact Pick.here | apply Pick.skip)); done)) | exact Cv.nil | exact Cv.refl | exact Cv.left | exact Cv.right | refine Cv.skip ?_))⟩ | fail))
    intro _ w1
    (conv => whnf); repeat ((first | refine tk1 ?_ | refine tk2 ?_ | refine tk3 ?_ | refine tk12 (fun _ => ?_) | refine tk4 ?_ | refine tk5 ?_ | refine tk6 ?_ | refine tk7 ?_ | refine tk8 ?_ | refine tk9 ?_ | refine tk10 (fun _ _ => ?_) | refine tk11 (fun _ => ?_) | refine tk13 ?_ | refine tk14 ?_); (conv => whnf))
    exact fun w' hw' => hfail ((fldsP (b.length + 1) b (lineP b).n []).e) _ w w' hG rfl (hw'.sub (List.nil_sublist _))
  dsimp only at he2 ⊢
  rw [Nat.zero_add] at he2 ⊢
  unfold parseB
  rw [if_neg (fun h => h he2)]
  have hok := fldsP_ok (b.length + 1) b (lineP b).n [] (Nat.zero_le _) (fun f hf => by cases hf) hle
  have hfs := fsum_ok _ hok.2.1
  obtain ⟨FF, hFF⟩ : ∃ FF, fldsP (b.length + 1) b (lineP b).n [] = FF := ⟨_, rfl⟩
  rw [hFF] at hok hfs ⊢
  obtain ⟨ffs, fu, fe⟩ := FF
  dsimp only at hok hfs ⊢
  clear hFF he2
  unfold rHeap
  dsimp only
  (conv => whnf); repeat ((first | refine tk1 ?_ | refine tk2 ?_ | refine tk3 ?_ | refine tk12 (fun _ => ?_) | refine tk4 ?_ | refine tk5 ?_ | refine tk6 ?_ | refine tk7 ?_ | refine tk8 ?_ | refine tk9 ?_ | refine tk10 (fun _ _ => ?_) | refine tk11 (fun _ => ?_) | refine tk13 ?_ | refine tk14 ?_); (conv => whnf))
  refine rbody_k hou (x := bx) (BA := BA) (Bc := Bc) (b := b) (s := ⟨stNum (lineP b).s, ffs, [], false, fu, 0⟩) (y := y') (X := [.box b6 [.int .i64 0, .slice none 0 0, .slice none 0 0, .bool false] 64]) head en hR hb hcp hok.2.2 rfl rfl (by dsimp only; omega) (fun he3 v l c u y3 => ?_) (fun he3 v y3 => ?_)
  · dsimp only at he3 ⊢
    rw [if_pos he3]
    unfold rHeap
    dsimp only
    (conv => whnf); repeat ((first | refine tk1 ?_ | refine tk2 ?_ | refine tk3 ?_ | refine tk12 (fun _ => ?_) | refine tk4 ?_ | refine tk5 ?_ | refine tk6 ?_ | refine tk7 ?_ | refine tk8 ?_ | refine tk9 ?_ | refine tk10 (fun _ _ => ?_) | refine tk11 (fun _ => ?_) | refine tk13 ?_ | refine tk14 ?_); (conv => whnf))
    refine DrawS.joinI (fun (_ : Unit) u => [u 0, u 1, u 2, u 3, u 4, u 5, .pointer (some ⟨b6, 0, none⟩), .int .i64 0, .int .i64 ((bodyP (stNum (lineP b).s) ffs b fu head en).e), u 9, u 10, u 11, u 12, u 13, u 14, u 15, u 16, u 17, u 18, u 19, u 20, u 21, u 22, u 23, u 24, u 25, u 26, u 27, u 28, u 29, u 30, u 31, u 32, u 33, u 34, u 35, u 36, u 37, u 38, u 39, u 40, u 41, u 42, u 43, u 44, u 45, u 46, u 47]) (fun _ => [.box b6 [.int .i64 0, .slice none 0 0, .slice none 0 0, .bool false] 64]) [] (.q 0 (.q 1 (.ch 2 (.ch 3 (.ch 4 (.a 5 (.q 6 (.q 7 (.nil)))) (.ch 5 (.q 4 (.q 6 (.q 7 (.nil)))) (.stop))) (.ch 5 (.q 3 (.q 4 (.q 6 (.q 7 (.nil))))) (.stop))) (.ch 5 (.q 2 (.q 3 (.q 4 (.q 6 (.q 7 (.nil)))))) (.stop))))) tys_ok mixed (by as_aux_lemma => kernel_rfl) ?_ ?_
    · (repeat' ((conv => whnf); first | (first | refine tk1 ?_ | refine tk2 ?_ | refine tk3 ?_ | refine tk12 (fun _ => ?_) | refine tk4 ?_ | refine tk5 ?_ | refine tk6 ?_ | refine tk7 ?_ | refine tk8 ?_ | refine tk9 ?_ | refine tk10 (fun _ _ => ?_) | refine tk11 (fun _ => ?_) | refine tk13 ?_ | refine tk14 ?_) | refine And.intro ?_ ?_ | exact trivial | exact ⟨(), rfl, Cv.into (by (try dsimp only); repeat' (first | with_reducible exact Cv.refl | with_reducible exact Cv.left | with_reducible exact Cv.right | with_reducible exact Cv.nil | (with_reducible apply Cv.cons; focus ((repeat (first | with_reducible exact Pick.here | with_reducible apply Pick.skip)); done)) | (apply Cv.cons; focus ((repeat (first | exact Pick.here | apply Pick.skip)); done)) | exact Cv.nil | exact Cv.refl | exact Cv.left | exact Cv.right | refine Cv.skip ?_))⟩ | fail))
    intro _ w1
    (conv => whnf); repeat ((first | refine tk1 ?_ | refine tk2 ?_ | refine tk3 ?_ | refine tk12 (fun _ => ?_) | refine tk4 ?_ | refine tk5 ?_ | refine tk6 ?_ | refine tk7 ?_ | refine tk8 ?_ | refine tk9 ?_ | refine tk10 (fun _ _ => ?_) | refine tk11 (fun _ => ?_) | refine tk13 ?_ | refine tk14 ?_); (conv => whnf))
    exact fun w' hw' => hfail ((bodyP (stNum (lineP b).s) ffs b fu head en).e) _ w w' hG rfl (hw'.sub (List.nil_sublist _))
  dsimp only at he3 ⊢
  rw [if_neg (fun h => h he3)]
  obtain ⟨BB, hBB⟩ : ∃ BB, bodyP (stNum (lineP b).s) ffs b fu head en = BB := ⟨_, rfl⟩
  rw [hBB] at he3 ⊢
  obtain ⟨bl, bu, bc, be⟩ := BB
  dsimp only at he3 ⊢
  obtain ⟨fA3, fc3, oA3, oc3⟩ := y3
  unfold rHeap
  dsimp only
  (conv => whnf); repeat ((first | refine tk1 ?_ | refine tk2 ?_ | refine tk3 ?_ | refine tk12 (fun _ => ?_) | refine tk4 ?_ | refine tk5 ?_ | refine tk6 ?_ | refine tk7 ?_ | refine tk8 ?_ | refine tk9 ?_ | refine tk10 (fun _ _ => ?_) | refine tk11 (fun _ => ?_) | refine tk13 ?_ | refine tk14 ?_); (conv => whnf))
  refine DrawS.joinI (fun (_ : Unit) u => [u 0, u 1, u 2, u 3, u 4, u 5, .pointer (some ⟨b6, 0, none⟩), .int .i64 (bu : Nat), .int .i64 0, u 9, u 10, u 11, u 12, u 13, u 14, u 15, u 16, u 17, u 18, u 19, u 20, u 21, u 22, u 23, u 24, u 25, u 26, u 27, u 28, u 29, u 30, u 31, u 32, u 33, u 34, u 35, u 36, u 37, u 38, u 39, u 40, u 41, u 42, u 43, u 44, u 45, u 46, u 47]) (fun _ => [.box b6 [.int .i64 (stNum (lineP b).s), .slice fA3 ffs.length fc3, .slice oA3 bl.length oc3, .bool (bc || closeOf ffs)] 64, .row (.slice fA3 ffs.length fc3) 41 2 ffs.length (fcells ffs), .row (.slice oA3 bl.length oc3) 5 1 bl.length (bl.map byteV)]) [] (.q 0 (.q 1 (.q 2 (.q 3 (.q 4 (.ch 5 (.ch 6 (.ch 7 (.a 8 (.q 9 (.q 10 (.nil)))) (.ch 8 (.q 7 (.q 9 (.q 10 (.nil)))) (.stop))) (.ch 8 (.q 6 (.q 7 (.q 9 (.q 10 (.nil))))) (.stop))) (.ch 8 (.q 5 (.q 6 (.q 7 (.q 9 (.q 10 (.nil)))))) (.stop)))))))) tys_ok mixed (by as_aux_lemma => kernel_rfl) ?_ ?_
  · (repeat' ((conv => whnf); first | refine tk15 ?_ | (first | refine tk1 ?_ | refine tk2 ?_ | refine tk3 ?_ | refine tk12 (fun _ => ?_) | refine tk4 ?_ | refine tk5 ?_ | refine tk6 ?_ | refine tk7 ?_ | refine tk8 ?_ | refine tk9 ?_ | refine tk10 (fun _ _ => ?_) | refine tk11 (fun _ => ?_) | refine tk13 ?_ | refine tk14 ?_) | refine And.intro ?_ ?_ | exact trivial | exact ⟨(), rfl, Cv.into (by (try dsimp only); repeat' (first | with_reducible exact Cv.refl | with_reducible exact Cv.left | with_reducible exact Cv.right | with_reducible exact Cv.nil | (with_reducible apply Cv.cons; focus ((repeat (first | with_reducible exact Pick.here | with_reducible apply Pick.skip)); done)) | (apply Cv.cons; focus ((repeat (first | exact Pick.here | apply Pick.skip)); done)) | exact Cv.nil | exact Cv.refl | exact Cv.left | exact Cv.right | refine Cv.skip ?_))⟩))
  intro _ w1
  (conv => whnf); repeat ((first | refine tk1 ?_ | refine tk2 ?_ | refine tk3 ?_ | refine tk12 (fun _ => ?_) | refine tk4 ?_ | refine tk5 ?_ | refine tk6 ?_ | refine tk7 ?_ | refine tk8 ?_ | refine tk9 ?_ | refine tk10 (fun _ _ => ?_) | refine tk11 (fun _ => ?_) | refine tk13 ?_ | refine tk14 ?_); (conv => whnf))
  exact fun w' hw' => ⟨⟨fA3, fc3, oA3, oc3⟩, rfl, trivial, newH.into hw' (Cv.into (by (try dsimp only); repeat' (first | with_reducible exact Cv.refl | with_reducible exact Cv.left | with_reducible exact Cv.right | with_reducible exact Cv.nil | (with_reducible apply Cv.cons; focus ((repeat (first | with_reducible exact Pick.here | with_reducible apply Pick.skip)); done)) | (apply Cv.cons; focus ((repeat (first | exact Pick.here | apply Pick.skip)); done)) | exact Cv.nil | exact Cv.refl | exact Cv.left | exact Cv.right | refine Cv.skip ?_)))⟩
end Go.Proofs.YtnaeeklnlddcaaaGreatDoor.Vex
/- Plain laws on replies: what is told is read. No program in sight. -/
namespace Go.Proofs.YtnaeeklnlddcaaaGreatDoor.Vex

/-! ## Decimal numbers -/
theorem dig_byte : ∀ k : Nat, k < 10 → digB (UInt8.ofNat (48 + k)) = true ∧ (UInt8.ofNat (48 + k)).toNat = 48 + k := by decide +kernel
theorem dec_all : ∀ (f u : Nat), u ≤ f → (Lib.decDigits u).all digB = true ∧ (∀ n, numF n (Lib.decDigits u) = n * 10 ^ (Lib.decDigits u).length + u) ∧ 1 ≤ (Lib.decDigits u).length
  | 0, u, h => by
    obtain rfl : u = 0 := by omega
    rw [Lib.decDigits, dif_pos (by omega)]
    exact ⟨by decide, fun n => by simp [numF, numStep]; omega, by simp⟩
  | f + 1, u, h => by
    rw [Lib.decDigits]
    split
    · rename_i h10
      have hd := dig_byte u h10
      generalize UInt8.ofNat (48 + u) = y at *
      exact ⟨by simp [hd.1], fun n => by simp [numF, numStep, hd.2]; omega, by simp⟩
    · rename_i h10
      have ih := dec_all f (u / 10) (by omega)
      have hd := dig_byte (u % 10) (by omega)
      generalize UInt8.ofNat (48 + u % 10) = y at *
      refine ⟨by rw [List.all_append, ih.1]; simp [hd.1], fun n => ?_, by simp⟩
      have e : numF n (Lib.decDigits (u / 10) ++ [y]) = 10 * numF n (Lib.decDigits (u / 10)) + u % 10 := by
        unfold numF
        rw [List.foldl_append]
        simp [numStep, hd.2]
      rw [e, ih.2.1, List.length_append, List.length_singleton, Nat.pow_succ]
      have : n * (10 ^ (Lib.decDigits (u / 10)).length * 10) = 10 * (n * 10 ^ (Lib.decDigits (u / 10)).length) := by rw [← Nat.mul_assoc, Nat.mul_comm]
      omega
theorem itoa_nat (u : Nat) : Lib.itoa (u : Nat) = Lib.decDigits u := by
  unfold Lib.itoa
  rw [if_neg (by omega), Int.toNat_natCast]
theorem itoa_num (u : Nat) (h : u < 1000000000) : numOK (Lib.itoa (u : Nat)) = true ∧ numN (Lib.itoa (u : Nat)) = u ∧ (Lib.itoa (u : Nat)).all digB = true := by
  rw [itoa_nat]
  obtain ⟨h1, h2, h3⟩ := dec_all u u (Nat.le_refl _)
  have hl : (Lib.decDigits u).length ≤ 9 := by
    rw [Lib.decDigits_length]
    by_cases h0 : u = 0
    · subst h0; rw [Lib.nDigits_small (by omega)]; omega
    · have key : ∀ k, u < 10 ^ (k + 1) → Lib.nDigits u ≤ k + 1 := by
        intro k
        induction k generalizing u with
        | zero => intro hk; rw [Lib.nDigits_small (by omega)]; omega
        | succ k ih =>
          intro hk
          by_cases h10 : u < 10
          · rw [Lib.nDigits_small h10]; omega
          · rw [Lib.nDigits_big h10]
            have hk' : u / 10 < 10 ^ (k + 1) := by rw [Nat.pow_succ] at hk; omega
            by_cases hz : u / 10 = 0
            · omega
            · have hd := dec_all (u / 10) (u / 10) (Nat.le_refl _)
              have := ih (u / 10) (by omega) hd.1 hd.2.1 hd.2.2 hz hk'
              omega
      exact key 8 (by omega)
  have ok : numOK (Lib.decDigits u) = true := by unfold numOK; rw [h1]; simp [h3, hl]
  refine ⟨ok, ?_, h1⟩
  unfold numN
  rw [if_pos ok]
  unfold numV
  rw [h2, Nat.zero_mul, Nat.zero_add]
theorem dig_facts (x : UInt8) (h : digB x = true) : valB x = true ∧ blankB x = false ∧ x ≠ 44 ∧ x ≠ 13 ∧ lowB x = x := by
  have : ∀ n : Fin 256, digB (UInt8.ofNat n.val) = true → valB (UInt8.ofNat n.val) = true ∧ blankB (UInt8.ofNat n.val) = false ∧ UInt8.ofNat n.val ≠ 44 ∧ UInt8.ofNat n.val ≠ 13 ∧ lowB (UInt8.ofNat n.val) = UInt8.ofNat n.val := by decide +kernel
  have h2 := this ⟨x.toNat, x.toNat_lt⟩
  simp only [UInt8.ofNat_toNat] at h2
  exact h2 h
/-- A value that is one word of plain bytes. -/
def wordB (x : UInt8) : Bool := valB x && (!blankB x && (decide (x ≠ 44) && decide (lowB x = x)))
def wordOf (l : List UInt8) : Bool := !l.isEmpty && l.all wordB
theorem dig_word {l : List UInt8} (h : l.all digB = true) (h0 : 1 ≤ l.length) : wordOf l = true := by
  unfold wordOf
  have : l.all wordB = true := List.all_eq_true.2 fun x hx => by
    have := dig_facts x (List.all_eq_true.1 h x hx)
    unfold wordB
    simp [this.1, this.2.1, this.2.2.1, this.2.2.2.2]
  rw [this]
  cases l with
  | nil => simp at h0
  | cons x r => rfl
theorem word_parts {l : List UInt8} (h : wordOf l = true) : l ≠ [] ∧ (∀ x ∈ l, valB x = true ∧ blankB x = false ∧ x ≠ 44 ∧ lowB x = x) := by
  unfold wordOf at h
  simp only [Bool.and_eq_true, Bool.not_eq_true', List.all_eq_true] at h
  refine ⟨fun e => by rw [e] at h; simp at h, fun x hx => ?_⟩
  have := h.2 x hx
  unfold wordB at this
  simp only [Bool.and_eq_true, Bool.not_eq_true', decide_eq_true_eq] at this
  exact ⟨this.1, this.2.1, this.2.2.1, this.2.2.2⟩
theorem word_value {l : List UInt8} (h : wordOf l = true) : valueOf l = true := by
  obtain ⟨h0, h1⟩ := word_parts h
  obtain ⟨x, r, rfl⟩ : ∃ x r, l = x :: r := by cases l with | nil => exact absurd rfl h0 | cons x r => exact ⟨x, r, rfl⟩
  obtain ⟨m, y, hm⟩ : ∃ m y, x :: r = m ++ [y] := by
    rcases List.eq_nil_or_concat (x :: r) with e | ⟨m, y, e⟩
    · cases e
    · exact ⟨m, y, by rw [e, List.concat_eq_append]⟩
  rw [valueOf_ends x r m y hm]
  have hy := h1 y (by rw [hm]; simp)
  have hx := h1 x (by simp)
  rw [List.all_eq_true.2 (fun z hz => (h1 z hz).1), hx.2.1, hy.2.1]
  rfl
theorem word_small {l : List UInt8} (h : wordOf l = true) : smallOf l = l := by
  unfold smallOf
  have h1 := (word_parts h).2
  clear h
  induction l with
  | nil => rfl
  | cons x r ih => rw [List.map_cons, (h1 x (by simp)).2.2.2, ih fun y hy => h1 y (List.mem_cons_of_mem _ hy)]
theorem word_items {l : List UInt8} (h : wordOf l = true) : itemsOf (smallOf l) = [l] := by
  rw [word_small h, items_none l (fun hm => ((word_parts h).2 _ hm).2.2.1 rfl)]
  unfold itemOf
  rw [value_trim (word_value h), if_neg (word_parts h).1]

/-! ## Lines -/
theorem cutR_app : ∀ (l t : List UInt8), 13 ∉ l → cutR (l ++ 13 :: 10 :: t) = some l
  | [], t, _ => by unfold cutR; simp
  | x :: r, t, h => by
    rw [List.mem_cons, not_or] at h
    rw [List.cons_append, cutR, if_neg (fun e => h.1 e.1.symm), cutR_app r t h.2]
    rfl
theorem lineP_at (l r : List UInt8) (h : 13 ∉ l) (hl : l.length ≤ 4096) : lineP (l ++ 13 :: 10 :: r) = ⟨l, l.length + 2, 0⟩ := by
  have e : (l ++ 13 :: 10 :: r).take 4098 = l ++ 13 :: 10 :: r.take (4096 - l.length) := by
    rw [List.take_append, List.take_of_length_le (by omega)]
    obtain ⟨k, hk⟩ : ∃ k, 4098 - l.length = k + 2 := ⟨4096 - l.length, by omega⟩
    rw [hk, List.take_succ_cons, List.take_succ_cons, show 4096 - l.length = k by omega]
  unfold lineP
  rw [e, cutR_app _ _ h]
theorem tok_no13 (x : UInt8) (h : tokB x = true) : x ≠ 13 := fun e => by subst e; exact absurd h (by decide)
theorem val_no13 (x : UInt8) (h : valB x = true) : x ≠ 13 := fun e => by subst e; exact absurd h (by decide)
theorem line_no13 {n v : List UInt8} (h : fieldOK n v = true) : 13 ∉ n ++ [58, 32] ++ v := by
  obtain ⟨_, _, h1, _, h2⟩ := fieldOK_parts h
  intro hm
  rw [List.mem_append, List.mem_append] at hm
  rcases hm with (hm | hm) | hm
  · exact tok_no13 _ (List.all_eq_true.1 (token_all h1) _ hm) rfl
  · revert hm; decide
  · unfold valueOf at h2
    rw [Bool.and_eq_true] at h2
    exact val_no13 _ (List.all_eq_true.1 h2.2 _ hm) rfl
def lnOK (f : Fld) : Prop := fieldOK f.1 f.2 = true ∧ f.1.length + f.2.length ≤ 4000
theorem fldsP_lines : ∀ (L : List Fld) (n : Nat) (p : List UInt8) (fs : List Fld) (t : List UInt8), (∀ f ∈ L, lnOK f) → fs.length + L.length ≤ 100 → L.length + 1 ≤ n →
    fldsP n (p ++ (linesR L ++ [13, 10] ++ t)) p.length fs = ⟨fs ++ L, p.length + (linesR L).length + 2, 0⟩
  | [], 0, _, _, _, _, _, h => absurd h (by simp)
  | [], n + 1, p, fs, t, _, _, _ => by
    have hl : lineP ([13, 10] ++ t) = ⟨[], 2, 0⟩ := lineP_at [] t (by simp) (by simp)
    rw [fldsP, List.drop_left, show linesR [] ++ [13, 10] ++ t = [13, 10] ++ t from rfl, hl]
    simp [linesR]
  | f :: r, 0, _, _, _, _, _, h => absurd h (by simp)
  | f :: r, n + 1, p, fs, t, hL, hn, hk => by
    obtain ⟨hf, hz⟩ := hL f (List.mem_cons_self ..)
    have e : linesR (f :: r) ++ [13, 10] ++ t = (f.1 ++ [58, 32] ++ f.2) ++ 13 :: 10 :: (linesR r ++ [13, 10] ++ t) := by
      unfold linesR
      rw [List.flatMap_cons]
      unfold lineR
      simp
    have hlen : (f.1 ++ [58, 32] ++ f.2).length ≤ 4096 := by simp; omega
    have hl := lineP_at (f.1 ++ [58, 32] ++ f.2) (linesR r ++ [13, 10] ++ t) (line_no13 hf) hlen
    have hp := parse_plain f.1 f.2 hf (by omega)
    have hline : lineOf f.1 f.2 = f.1 ++ [58, 32] ++ f.2 := by unfold lineOf; rw [if_pos hf]
    rw [hline] at hp
    have hE : parseE (f.1 ++ [58, 32] ++ f.2) = 0 := by unfold parseE; rw [if_pos hp.1]
    simp only [List.length_cons] at hn hk
    rw [fldsP, List.drop_left, e, hl]
    dsimp only
    rw [if_neg (by simp), if_neg (by simp), if_neg (by rw [hE]; intro h; rcases h with h | h; exact h rfl; omega), hp.2.1, hp.2.2]
    have ih := fldsP_lines r n (p ++ ((f.1 ++ [58, 32] ++ f.2) ++ [13, 10])) (fs ++ [f]) t (fun g hg => hL g (List.mem_cons_of_mem _ hg)) (by simp; omega) (by omega)
    have el : (p ++ ((f.1 ++ [58, 32] ++ f.2) ++ [13, 10])).length = p.length + ((f.1 ++ [58, 32] ++ f.2).length + 2) := by simp; omega
    rw [el] at ih
    have eb : p ++ ((f.1 ++ [58, 32] ++ f.2) ++ [13, 10]) ++ (linesR r ++ [13, 10] ++ t) = p ++ ((f.1 ++ [58, 32] ++ f.2) ++ 13 :: 10 :: (linesR r ++ [13, 10] ++ t)) := by simp
    rw [eb] at ih
    rw [ih]
    have ez : (linesR (f :: r)).length = (f.1 ++ [58, 32] ++ f.2).length + 2 + (linesR r).length := by
      unfold linesR
      rw [List.flatMap_cons]
      unfold lineR
      simp
      omega
    rw [ez]
    simp
    omega

/-! ## An answer's text -/
def lenF (st : Int) (ps : Prs) (cd : Nat) (ch : Bool) : List Fld := if bareB st then [] else if ch then [(teN, chunkedN)] else if streamB ps cd then [] else [(clN, Lib.itoa (total ps : Nat))]
/-- The fields that tell how a body comes. -/
def ownF (st : Int) (ps : Prs) (cd : Nat) (ch cl : Bool) : List Fld := (if cd = 0 then [] else [(ceN, codNm cd)]) ++ (lenF st ps cd ch ++ if cl then [(coN, closeN)] else [])
theorem headR_is (st : Int) (fs : List Fld) (ps : Prs) (cd : Nat) (ch cl : Bool) : headR st fs ps cd ch cl = (firstR ++ Lib.itoa st ++ [32]) ++ 13 :: 10 :: (linesR (fs ++ ownF st ps cd ch cl) ++ [13, 10]) := by
  have e : linesR (fs ++ ownF st ps cd ch cl) = linesR fs ++ ((if cd = 0 then [] else lineR ceN (codNm cd)) ++ (lengthR st ps cd ch ++ (if cl then lineR coN closeN else []))) := by
    unfold ownF linesR
    rw [List.flatMap_append, List.flatMap_append, List.flatMap_append]
    congr 1
    congr 1
    · split <;> simp
    congr 1
    · unfold lenF lengthR
      split
      · rfl
      split
      · simp
      split
      · rfl
      · simp
    · split <;> simp
  rw [e]
  unfold headR
  simp
theorem st_three : ∀ k : Fin 400, stE (firstR ++ [UInt8.ofNat (48 + (200 + k.val) / 100), UInt8.ofNat (48 + (200 + k.val) / 10 % 10), UInt8.ofNat (48 + (200 + k.val) % 10)] ++ [32]) = 0 ∧ stNum (firstR ++ [UInt8.ofNat (48 + (200 + k.val) / 100), UInt8.ofNat (48 + (200 + k.val) / 10 % 10), UInt8.ofNat (48 + (200 + k.val) % 10)] ++ [32]) = ((200 + k.val : Nat) : Int) ∧
    (13 : UInt8) ∉ [UInt8.ofNat (48 + (200 + k.val) / 100), UInt8.ofNat (48 + (200 + k.val) / 10 % 10), UInt8.ofNat (48 + (200 + k.val) % 10)] := by decide +kernel
theorem st_told (st : Int) (h1 : 200 ≤ st) (h2 : st ≤ 599) : stE (firstR ++ Lib.itoa st ++ [32]) = 0 ∧ stNum (firstR ++ Lib.itoa st ++ [32]) = st ∧ 13 ∉ firstR ++ Lib.itoa st ++ [32] ∧ (firstR ++ Lib.itoa st ++ [32]).length = 13 := by
  obtain ⟨k, hk, rfl⟩ : ∃ k : Nat, k < 400 ∧ st = ((200 + k : Nat) : Int) := ⟨(st - 200).toNat, by omega, by omega⟩
  have h := st_three ⟨k, hk⟩
  have e : Lib.itoa ((200 + k : Nat) : Int) = [UInt8.ofNat (48 + (200 + k) / 100), UInt8.ofNat (48 + (200 + k) / 10 % 10), UInt8.ofNat (48 + (200 + k) % 10)] := by
    rw [itoa_nat, Lib.decDigits, dif_neg (by omega), Lib.decDigits, dif_neg (by omega), Lib.decDigits, dif_pos (by omega), Nat.div_div_eq_div_mul]
    rfl
  rw [e]
  refine ⟨h.1, h.2.1, fun hm => ?_, rfl⟩
  rw [List.mem_append, List.mem_append] at hm
  rcases hm with (hm | hm) | hm
  · revert hm; decide
  · exact h.2.2 hm
  · revert hm; decide
theorem cod_words : ∀ cd : Nat, cd ≤ 2 → cd ≠ 0 → fieldOK ceN (codNm cd) = true ∧ (codNm cd).length ≤ 10 := by
  intro cd h h0
  rcases (show cd = 1 ∨ cd = 2 by omega) with rfl | rfl <;> exact ⟨by decide +kernel, by decide⟩
theorem own_ok (st : Int) (ps : Prs) (cd : Nat) (ch cl : Bool) (hc : cd ≤ 2) (ht : total ps ≤ 1000000) : (∀ f ∈ ownF st ps cd ch cl, lnOK f) ∧ (ownF st ps cd ch cl).length ≤ 3 := by
  have hi := itoa_num (total ps) (by omega)
  have hil := Lib.itoa_length_le (total ps : Nat) (by omega) (by omega)
  have hw := dig_word hi.2.2 (by have := hi.1; unfold numOK at this; simp only [Bool.and_eq_true, decide_eq_true_eq] at this; exact this.1)
  have hlf : fieldOK clN (Lib.itoa (total ps : Nat)) = true := by
    have hk : fieldOK clN [] = true := by decide +kernel
    have hp := fieldOK_parts hk
    unfold fieldOK
    rw [hp.2.2.1, word_value hw]
    simp only [Bool.and_true, Bool.true_and, Bool.and_eq_true, decide_eq_true_eq, beq_iff_eq]
    exact ⟨hp.1, by omega, hp.2.2.2.1⟩
  constructor
  · intro f hf
    unfold ownF lenF at hf
    simp only [List.mem_append] at hf
    rcases hf with hf | hf | hf
    · split at hf
      · cases hf
      · rename_i h0
        rw [List.mem_singleton.1 hf]
        have := cod_words cd hc h0
        exact ⟨this.1, by have := this.2; show ceN.length + (codNm cd).length ≤ _; have : ceN.length = 16 := rfl; omega⟩
    · split at hf
      · cases hf
      split at hf
      · rw [List.mem_singleton.1 hf]; exact ⟨by decide +kernel, by decide⟩
      split at hf
      · cases hf
      · rw [List.mem_singleton.1 hf]
        exact ⟨hlf, by show clN.length + (Lib.itoa (total ps : Nat)).length ≤ _; have : clN.length = 14 := rfl; omega⟩
    · split at hf
      · rw [List.mem_singleton.1 hf]; exact ⟨by decide +kernel, by decide⟩
      · cases hf
  · unfold ownF lenF
    simp only [List.length_append]
    have a1 : (if cd = 0 then ([] : List Fld) else [(ceN, codNm cd)]).length ≤ 1 := by split <;> simp
    have a3 : (if cl then [(coN, closeN)] else ([] : List Fld)).length ≤ 1 := by split <;> simp
    have a2 : (if bareB st then ([] : List Fld) else if ch then [(teN, chunkedN)] else if streamB ps cd then [] else [(clN, Lib.itoa (total ps : Nat))]).length ≤ 1 := by (repeat' split) <;> simp
    omega
/-- A name that an answer's own fields don't have. -/
theorem all_none {fs : List Fld} {name : List UInt8} (hn : smallOf name = name) (hm : ownR.contains name = true) (h : ∀ f ∈ fs, fldR f = true) : allOf fs name = [] := by
  unfold allOf
  rw [List.map_eq_nil_iff, List.filter_eq_nil_iff]
  intro f hf he
  have h1 := h f hf
  unfold fldR at h1
  simp only [Bool.and_eq_true, Bool.not_eq_true'] at h1
  have h2 := (fieldOK_parts h1.1).2.2.2.1
  rw [beq_iff_eq, h2, hn] at he
  rw [he, hm] at h1
  cases h1.2
theorem allOf_app (a b : List Fld) (name : List UInt8) : allOf (a ++ b) name = allOf a name ++ allOf b name := by unfold allOf; rw [List.filter_append, List.map_append]
theorem own_all (st : Int) (ps : Prs) (cd : Nat) (ch cl : Bool) :
    allOf (ownF st ps cd ch cl) teN = (if bareB st then [] else if ch then [chunkedN] else []) ∧
    allOf (ownF st ps cd ch cl) clN = (if bareB st then [] else if ch then [] else if streamB ps cd then [] else [Lib.itoa (total ps : Nat)]) ∧
    allOf (ownF st ps cd ch cl) coN = (if cl then [closeN] else []) := by
  have k : ∀ a b v, allOf [(a, v)] b = if smallOf a = smallOf b then [v] else [] := fun a b v => by
    unfold allOf
    rw [List.filter_cons]
    by_cases h : smallOf a = smallOf b <;> simp [h]
  have e1 : ¬ smallOf ceN = smallOf teN := by decide
  have e2 : ¬ smallOf ceN = smallOf clN := by decide
  have e3 : ¬ smallOf ceN = smallOf coN := by decide
  have e4 : ¬ smallOf coN = smallOf teN := by decide
  have e5 : ¬ smallOf coN = smallOf clN := by decide
  have e6 : ¬ smallOf clN = smallOf teN := by decide
  have e7 : ¬ smallOf teN = smallOf clN := by decide
  have e8 : ¬ smallOf teN = smallOf coN := by decide
  have e9 : ¬ smallOf clN = smallOf coN := by decide
  have e0 : ∀ n, allOf [] n = [] := fun n => rfl
  unfold ownF lenF
  simp only [allOf_app]
  by_cases h1 : cd = 0 <;> cases bareB st <;> cases ch <;> cases streamB ps cd <;> cases cl <;> simp [h1, k, e0, e1, e2, e3, e4, e5, e6, e7, e8, e9]
/-- What is told of an answer, as one text. -/
theorem body_pieces (st : Int) (fs : List Fld) (ps : Prs) (cd : Nat) (minor : Int) (head last : Bool) :
    bodyOf (piecesR st fs ps cd minor head last) = headR st fs ps cd (chunkB st ps cd minor) (last || decide (minor = 0)) ++ (if head then [] else if chunkB st ps cd minor then wrapL (ps.map (·.1)) ++ lastC else bodyOf ps) := by
  unfold piecesR bodyOf
  rw [List.flatMap_cons]
  congr 1
  cases head
  · simp only [Bool.false_eq_true, if_false]
    cases chunkB st ps cd minor
    · simp only [Bool.false_eq_true, if_false, List.append_nil]
      unfold bodyR
      simp only [Bool.false_eq_true, if_false]
      rw [List.flatMap_map]
    · simp only [if_true]
      rw [List.flatMap_append]
      congr 1
      · unfold bodyR wrapL
        simp only [if_true]
        rw [List.flatMap_map, List.map_map]
        rfl
  · rfl
theorem bodyOf_flat (ps : Prs) : bodyOf ps = (ps.map (·.1)).flatten := by unfold bodyOf; rw [List.flatMap_def]
theorem long_one (u : Nat) (h : u < 1000000000) : longP [Lib.itoa (u : Nat)] (-1) = u := by
  have := itoa_num u h
  unfold longP
  rw [if_neg (by rw [this.1]; intro hh; rcases hh with hh | hh; cases hh; omega), this.2.1]
  rfl
/-- THE LAW: what is told is read, and what stands behind it is left. -/
theorem back_law (st : Int) (F : List Fld) (ps : Prs) (cd : Nat) (minor : Int) (head last : Bool) (more : List UInt8) (hok : anOK st F ps cd = true) (hm : minor = 0 ∨ minor = 1)
    (hF : F.length ≤ 90) (hf : ∀ f ∈ F, f.1.length + f.2.length ≤ 4000) (ht : total ps ≤ 100000) (_hl : ps.length ≤ 1000) (hT : (bodyOf (piecesR st F ps cd minor head last) ++ (if last || decide (minor = 0) then [] else more)).length ≤ 1048576) :
    parseR (bodyOf (piecesR st F ps cd minor head last) ++ (if last || decide (minor = 0) then [] else more)) head (last || decide (minor = 0)) =
      ⟨st, F ++ ownF st ps cd (chunkB st ps cd minor) (last || decide (minor = 0)), if head then [] else bodyOf ps, last || decide (minor = 0), (bodyOf (piecesR st F ps cd minor head last)).length, 0⟩ := by
  unfold anOK anST at hok
  simp only [Bool.and_eq_true, decide_eq_true_eq] at hok
  obtain ⟨⟨h200, h599, hcd, hbare⟩, hfl, hpr⟩ := hok
  rw [List.all_eq_true] at hfl
  obtain ⟨ch, hch⟩ : ∃ ch, chunkB st ps cd minor = ch := ⟨_, rfl⟩
  obtain ⟨cl, hcl⟩ : ∃ cl, (last || decide (minor = 0)) = cl := ⟨_, rfl⟩
  have hb := body_pieces st F ps cd minor head last
  rw [hch, hcl] at hb
  rw [hch, hcl]
  rw [hcl] at hT
  obtain ⟨T, hTT⟩ : ∃ T, bodyOf (piecesR st F ps cd minor head last) = T := ⟨_, rfl⟩
  rw [hTT] at hb hT ⊢
  have hown := own_ok st ps cd ch cl hcd (by omega)
  have hall := own_all st ps cd ch cl
  have hst := st_told st h200 h599
  obtain ⟨O, hO⟩ : ∃ O, ownF st ps cd ch cl = O := ⟨_, rfl⟩
  rw [headR_is, hO] at hb
  rw [hO] at hown hall ⊢
  obtain ⟨B, hB⟩ : ∃ B, (if head then [] else if ch then wrapL (ps.map (·.1)) ++ lastC else bodyOf ps) = B := ⟨_, rfl⟩
  rw [hB] at hb
  obtain ⟨M, hM⟩ : ∃ M, (if cl then [] else more) = M := ⟨_, rfl⟩
  rw [hM] at hT ⊢
  obtain ⟨S, hS⟩ : ∃ S, firstR ++ Lib.itoa st ++ [32] = S := ⟨_, rfl⟩
  rw [hS] at hb hst
  have hTM : T ++ M = S ++ 13 :: 10 :: (linesR (F ++ O) ++ [13, 10] ++ (B ++ M)) := by rw [hb]; simp
  have hln : lineP (T ++ M) = ⟨S, S.length + 2, 0⟩ := by rw [hTM]; exact lineP_at S _ hst.2.2.1 (by omega)
  have hfs : fldsP ((T ++ M).length + 1) (T ++ M) (S.length + 2) [] = ⟨F ++ O, S.length + 2 + (linesR (F ++ O)).length + 2, 0⟩ := by
    have h := fldsP_lines (F ++ O) ((T ++ M).length + 1) (S ++ [13, 10]) [] (B ++ M) (fun f hf' => by
      rcases List.mem_append.1 hf' with hf' | hf'
      · have h1 := hfl f hf'
        unfold fldR at h1
        rw [Bool.and_eq_true] at h1
        exact ⟨h1.1, hf f hf'⟩
      · exact hown.1 f hf') (by have := hown.2; simp; omega) (by
      have hlen : ∀ L : List Fld, L.length ≤ (linesR L).length := fun L => by
        induction L with
        | nil => simp
        | cons f r ih =>
          unfold linesR at ih ⊢
          rw [List.flatMap_cons, List.length_append, List.length_cons]
          unfold lineR at ih ⊢
          simp at ih ⊢
          omega
      have h1 := hlen (F ++ O)
      rw [hTM]
      simp at h1 ⊢
      omega)
    have e : S ++ [13, 10] ++ (linesR (F ++ O) ++ [13, 10] ++ (B ++ M)) = T ++ M := by rw [hTM]; simp
    rw [e, List.nil_append] at h
    rw [show (S ++ ([13, 10] : List UInt8)).length = S.length + 2 by simp] at h
    exact h
  obtain ⟨U, hU⟩ : ∃ U, S.length + 2 + (linesR (F ++ O)).length + 2 = U := ⟨_, rfl⟩
  rw [hU] at hfs
  have hdrop : (T ++ M).drop U = B ++ M := by
    have e : T ++ M = (S ++ [13, 10] ++ linesR (F ++ O) ++ [13, 10]) ++ (B ++ M) := by rw [hTM]; simp
    rw [e]
    exact List.drop_left' (by rw [← hU]; simp; omega)
  have hTl : T.length = U + B.length := by rw [hb, ← hU]; simp; omega
  have a1 : allOf (F ++ O) teN = (if bareB st then [] else if ch then [chunkedN] else []) := by rw [allOf_app, all_none (by decide) (by decide) hfl, List.nil_append, hall.1]
  have a2 : allOf (F ++ O) clN = (if bareB st then [] else if ch then [] else if streamB ps cd then [] else [Lib.itoa (total ps : Nat)]) := by rw [allOf_app, all_none (by decide) (by decide) hfl, List.nil_append, hall.2.1]
  have a3 : allOf (F ++ O) coN = (if cl then [closeN] else []) := by rw [allOf_app, all_none (by decide) (by decide) hfl, List.nil_append, hall.2.2]
  have hclose : closeOf (F ++ O) = cl := by
    unfold closeOf itemsR
    rw [a3]
    cases cl
    · rfl
    · have hw : wordOf closeN = true := by decide +kernel
      simp only [if_true, List.map_cons, List.map_nil, itemsAll, List.flatMap_cons, List.flatMap_nil, List.append_nil, word_items hw]
      decide
  unfold parseR
  rw [if_neg (by omega), hln, if_neg (by simp), if_neg (by rw [hst.1]; simp)]
  dsimp only
  rw [hfs, hst.2.1]
  unfold parseB
  rw [if_neg (by simp)]
  dsimp only
  rw [hclose]
  have fin : ∀ c, bodyP st (F ++ O) (T ++ M) U head cl = ⟨if head then [] else bodyOf ps, T.length, c, 0⟩ → (c = true → cl = true) →
      (if (bodyP st (F ++ O) (T ++ M) U head cl).e ≠ 0 then pfail (bodyP st (F ++ O) (T ++ M) U head cl).e else
        ⟨st, F ++ O, (bodyP st (F ++ O) (T ++ M) U head cl).l, (bodyP st (F ++ O) (T ++ M) U head cl).c || cl, (bodyP st (F ++ O) (T ++ M) U head cl).u, 0⟩) = (⟨st, F ++ O, if head then [] else bodyOf ps, cl, T.length, 0⟩ : PRes) := by
    intro c h hc
    rw [h, if_neg (by simp)]
    dsimp only
    cases c
    · rfl
    · rw [hc rfl]; rfl
  cases head
  rotate_left
  · refine fin false ?_ (by simp)
    have hB0 : B = [] := hB.symm
    unfold bodyP
    rw [if_pos (by simp), hTl, hB0]
    rfl
  simp only [Bool.false_eq_true, if_false] at hB fin ⊢
  cases hbr : bareB st
  rotate_left
  · refine fin false ?_ (by simp)
    rw [hbr] at hbare
    have hp0 : ps = [] := by
      simp at hbare
      exact hbare.1
    have hc0 : ch = false := by rw [← hch]; unfold chunkB; rw [hbr]; simp
    rw [hc0, hp0] at hB
    have hB0 : B = [] := hB.symm
    unfold bodyP
    rw [if_pos (by rw [hbr]; rfl), hTl, hB0, hp0]
    rfl
  rw [hbr] at a1 a2
  simp only [Bool.false_eq_true, if_false] at a1 a2
  cases hc : ch
  rotate_left
  · rw [hc] at hB a1 a2
    simp only [if_true] at hB a1 a2
    refine fin false ?_ (by simp)
    have hw : wordOf chunkedN = true := by decide +kernel
    have hi : itemsR (F ++ O) teN = [chunkedN] := by
      unfold itemsR
      rw [a1]
      simp only [List.map_cons, List.map_nil, itemsAll, List.flatMap_cons, List.flatMap_nil, List.append_nil, word_items hw]
    unfold bodyP
    rw [hbr, if_neg (by simp), if_pos (by rw [a1]; simp), if_neg (by rw [a2, hi]; simp)]
    have hfed : fedG cst0 [] 0 (B ++ M) = ⟨⟨4, 0, [], 0⟩, bodyOf ps, (wrapL (ps.map (·.1))).length + 5, 0⟩ := by
      rw [← hB, List.append_assoc, fed_wraps _ _ _ _ (fun b hb => ?_), fed_last, List.nil_append, Nat.zero_add, bodyOf_flat]
      obtain ⟨p, hp, rfl⟩ := List.mem_map.1 hb
      have hmem : ∀ l : Prs, p ∈ l → p.1.length ≤ total l := fun l => by
        induction l with
        | nil => intro h; cases h
        | cons q r ih =>
          intro h
          rw [total]
          rcases List.mem_cons.1 h with rfl | h
          · omega
          · have := ih h; omega
      have := hmem ps hp
      omega
    unfold chunksP
    rw [hdrop, hfed]
    dsimp only
    rw [if_neg (by simp), if_pos rfl, hTl, ← hB]
    simp [lastC]
  rw [hc] at hB a1 a2
  simp only [Bool.false_eq_true, if_false] at hB a1 a2
  cases hs : streamB ps cd
  · rw [hs] at a2
    simp only [Bool.false_eq_true, if_false] at a2
    refine fin false ?_ (by simp)
    have hi := itoa_num (total ps) (by omega)
    have hw := dig_word hi.2.2 (by have := hi.1; unfold numOK at this; simp only [Bool.and_eq_true, decide_eq_true_eq] at this; exact this.1)
    have hit : itemsR (F ++ O) clN = [Lib.itoa (total ps : Nat)] := by
      unfold itemsR
      rw [a2]
      simp only [List.map_cons, List.map_nil, itemsAll, List.flatMap_cons, List.flatMap_nil, List.append_nil, word_items hw]
    have hlong := long_one (total ps) (by omega)
    have hbl : B.length = total ps := by rw [← hB, total_bodyOf]
    unfold bodyP
    rw [hbr, if_neg (by simp), if_neg (by rw [a1]; simp), if_pos (by rw [a2]; simp), hit, hlong, if_neg (by omega), if_neg (by rw [List.length_append]; omega), hdrop]
    rw [Int.toNat_natCast, ← hbl, List.take_left, hTl, hB]
  · rw [hs] at a2
    simp only [if_true] at a2
    have hmi : cl = true := by
      rw [hc] at hch
      unfold chunkB at hch
      rw [hs, hbr] at hch
      simp at hch
      rw [← hcl]
      rcases hm with hm | hm
      · simp [hm]
      · exact absurd hm hch
    refine fin true ?_ (fun _ => hmi)
    have hM0 : M = [] := by rw [← hM, hmi]; rfl
    unfold bodyP
    rw [hbr, if_neg (by simp), if_neg (by rw [a1]; simp), if_neg (by rw [a2]; simp), if_pos hmi, hdrop, hM0, List.append_nil, List.append_nil, hB]
end Go.Proofs.YtnaeeklnlddcaaaGreatDoor.Vex
/- The program's functions on pages, reckoned: tells, what pieces tell, close. -/
namespace Go.Proofs.YtnaeeklnlddcaaaGreatDoor.Vex
open Go Go.RowKit
set_option maxRecDepth 100000
set_option linter.unusedSectionVars false
variable {gI : GI} [HasMax gI]

abbrev u8V (n : Int) : Value := .int .u8 n
theorem pieceOK_kind {x : Pce} (h : pieceOK x = true) : x.k.toNat = 1 ∨ x.k.toNat = 2 ∨ x.k.toNat = 3 ∨ x.k.toNat = 4 := by
  unfold pieceOK at h
  split at h
  · exact .inl (by assumption)
  · split at h
    · exact .inr (.inl (by assumption))
    · simp only [Bool.and_eq_true, Bool.or_eq_true, decide_eq_true_eq] at h
      exact .inr (.inr h.1)
theorem times_rep (s : List UInt8) : ∀ n, times n s = Lib.repeatL s n
  | 0 => rfl
  | n + 1 => by rw [times, times_rep s n, Lib.repeatL_add, Lib.repeatL_one]
/-- What is told by one piece. -/
abbrev toldV (rm rp rq : List UInt8) (rv : Int) (rf : Value) (BA : Option Addr) (Bn Bc : Nat) (PA : Option Addr) (Pn Pc : Nat) : Value := .agg ⟨[str rm, str rp, str rq, .int .i64 rv, rf, .slice BA Bn Bc, .slice PA Pn Pc]⟩
end Go.Proofs.YtnaeeklnlddcaaaGreatDoor.Vex
/- The program's functions on pages, reckoned: Answer, Body. -/
namespace Go.Proofs.YtnaeeklnlddcaaaGreatDoor.Vex
open Go Go.RowKit
set_option maxRecDepth 100000
set_option linter.unusedSectionVars false
variable {gI : GI} [HasMax gI]

/-- The memory of an answer. -/
structure AnsV where
  fA : Option Addr
  fc : Nat
  pA : Option Addr
  pc : Nat
  ps : List Prt
def AnsV.val (a : Ans) (x : AnsV) : Value := .agg ⟨[.int .i64 a.st, .slice x.fA a.fs.length x.fc, .slice x.pA x.ps.length x.pc, .int .u8 0, str a.tag, .bool a.press]⟩
def AnsV.hd (a : Ans) (x : AnsV) : Hp := [.row (.slice x.fA a.fs.length x.fc) 41 2 a.fs.length (fcells a.fs), .row (.slice x.pA x.ps.length x.pc) 53 2 x.ps.length (pcells x.ps)]
def AnsV.is (a : Ans) (x : AnsV) : Prop := x.ps.map pure1 = a.ps
def AnsV.tl (x : AnsV) : Hp := rowsP 5 x.ps
/-- .. behind an error. -/
def AnsV.nil : AnsV := ⟨none, 0, none, 0, []⟩

structure AL where
  k : Nat
  oA : Option Addr
  oc : Nat
  o : List UInt8
  dA : Option Addr
  dc : Nat
  ps : List Prt
theorem stG_take (l : Prs) (k : Nat) (h : k < l.length) : stG (l.take (k + 1)) = stepG (stG (l.take k)) l[k] := by
  rw [List.take_succ_eq_append_getElem h, stG_snoc]
theorem total_take_succ (l : Prs) (k : Nat) (h : k < l.length) : total (l.take (k + 1)) = total (l.take k) + l[k].1.length := by
  rw [List.take_succ_eq_append_getElem h, total_snoc]

end Go.Proofs.YtnaeeklnlddcaaaGreatDoor.Vex
/- Body, SameParts and Great of layer 27, reckoned. -/
namespace Go.Proofs.YtnaeeklnlddcaaaGreatDoor.Vex
open Go Go.RowKit
set_option maxRecDepth 100000
set_option linter.unusedSectionVars false
variable {gI : GI} [HasMax gI]

/-- Parts that can be read. -/
def PrtsOk (w : World) (A : Option Addr) (ps : List Prt) : Prop := Rdw w A (pcells ps) ∧ ∀ q ∈ ps, Rdw w q.A (q.l.map byteV)
theorem Body_f (A : Option Addr) (cp : Nat) (ps : List Prt) (hn : ps.length ≤ 4000000) (ht : total (ps.map pure1) ≤ 1000000000) :
    FnE Tryz.prog gI 21 [.slice A ps.length cp] (fun w => PrtsOk w A ps) fun w v w' => ∃ u, v = u ∧ rowPost 5 1 (bodyOf (ps.map pure1)).length ((bodyOf (ps.map pure1)).map byteV) w u w' := by
  refine FnE.of tys_ok Tryz.func21 rfl (by kernel_rfl) rfl rfl ?_; intro w hG hP
  have hR : ∀ H, RdA (mkC Tryz.prog gI w hG) H A (pcells ps) := fun H => ⟨hP.1.now⟩
  (conv => whnf); repeat ((first | refine tk1 ?_ | refine tk2 ?_ | refine tk3 ?_ | refine tk12 (fun _ => ?_) | refine tk4 ?_ | refine tk5 ?_ | refine tk6 ?_ | refine tk7 ?_ | refine tk8 ?_ | refine tk9 ?_ | refine tk10 (fun _ _ => ?_) | refine tk11 (fun _ => ?_) | refine tk13 ?_ | refine tk14 ?_); (conv => whnf))
  refine LoopS.nilRow 5 1 ?_
  refine LoopS.lp tys_ok (fun (x : Nat × Option Addr × Nat) u => [u 0, u 1, .slice x.2.1 (bodyOf ((ps.map pure1).take x.1)).length x.2.2, u 3, u 4, .slice A ps.length cp, .int .i64 ps.length, .int .i64 (x.1 : Nat), u 8, u 9, u 10, u 11, u 12, u 13, u 14, u 15, u 16])
    (fun x => [.row (.slice x.2.1 (bodyOf ((ps.map pure1).take x.1)).length x.2.2) 5 1 (bodyOf ((ps.map pure1).take x.1)).length ((bodyOf ((ps.map pure1).take x.1)).map byteV)])
    (fun x => x.1 ≤ ps.length) (fun x => ps.length - x.1) (0, none, 0) (Nat.zero_le _) rfl (by repeat' (first | exact List.Sublist.refl _ | exact List.nil_sublist _ | apply List.Sublist.cons_cons | apply List.Sublist.cons)) ?_
  rintro ⟨k, B, cq⟩ u hk
  dsimp only at hk ⊢
  (conv => whnf); repeat ((first | refine tk1 ?_ | refine tk2 ?_ | refine tk3 ?_ | refine tk12 (fun _ => ?_) | refine tk4 ?_ | refine tk5 ?_ | refine tk6 ?_ | refine tk7 ?_ | refine tk8 ?_ | refine tk9 ?_ | refine tk10 (fun _ _ => ?_) | refine tk11 (fun _ => ?_) | refine tk13 ?_ | refine tk14 ?_); (conv => whnf))
  refine Cmp.cases (fun hlt => ?_) (fun hlt => ?_)
  · have hlt' : k < ps.length := by omega
    have hkp : k < (ps.map pure1).length := by rw [List.length_map]; exact hlt'
    obtain ⟨q, hq⟩ : ∃ q, ps[k] = q := ⟨_, rfl⟩
    have hqm : q ∈ ps := hq ▸ List.getElem_mem hlt'
    have hRq : ∀ H, RdA (mkC Tryz.prog gI w hG) H q.A (q.l.map byteV) := fun H => ⟨(hP.2 q hqm).now⟩
    have h2 := (pcells_at ps k hlt').2.2
    have e1 : bodyOf ((ps.map pure1).take (k + 1)) = bodyOf ((ps.map pure1).take k) ++ q.l := by
      rw [List.take_succ_eq_append_getElem hkp, bodyOf_snoc, List.getElem_map, hq]; rfl
    have e2 := total_take (ps.map pure1) (k + 1)
    rw [← total_bodyOf, e1, List.length_append] at e2
    rw [hq] at h2
    (conv => whnf); repeat ((first | refine tk1 ?_ | refine tk2 ?_ | refine tk3 ?_ | refine tk12 (fun _ => ?_) | refine tk4 ?_ | refine tk5 ?_ | refine tk6 ?_ | refine tk7 ?_ | refine tk8 ?_ | refine tk9 ?_ | refine tk10 (fun _ _ => ?_) | refine tk11 (fun _ => ?_) | refine tk13 ?_ | refine tk14 ?_); (conv => whnf))
    refine IdxA.tc (by rw [pcells_length]; omega) (by omega) (by omega) ?_
    (conv => whnf); repeat ((first | refine tk1 ?_ | refine tk2 ?_ | refine tk3 ?_ | refine tk12 (fun _ => ?_) | refine tk4 ?_ | refine tk5 ?_ | refine tk6 ?_ | refine tk7 ?_ | refine tk8 ?_ | refine tk9 ?_ | refine tk10 (fun _ _ => ?_) | refine tk11 (fun _ => ?_) | refine tk13 ?_ | refine tk14 ?_); (conv => whnf))
    refine Ld.taN h2 rfl ?_
    (conv => whnf); repeat ((first | refine tk1 ?_ | refine tk2 ?_ | refine tk3 ?_ | refine tk12 (fun _ => ?_) | refine tk4 ?_ | refine tk5 ?_ | refine tk6 ?_ | refine tk7 ?_ | refine tk8 ?_ | refine tk9 ?_ | refine tk10 (fun _ _ => ?_) | refine tk11 (fun _ => ?_) | refine tk13 ?_ | refine tk14 ?_); (conv => whnf))
    refine AppS.tc (m := q.l.length) (news := q.l.map byteV) SrcK.tc (by simp) (by intro u hu; obtain ⟨y, _, rfl⟩ := List.mem_map.1 hu; rfl) (by decide) (by omega) (by omega) (zs := (bodyOf ((ps.map pure1).take (k + 1))).map byteV) (by rw [e1, List.map_append]) (fun B' cq' => ?_)
    rw [show (bodyOf ((ps.map pure1).take k)).length + q.l.length = (bodyOf ((ps.map pure1).take (k + 1))).length by rw [e1, List.length_append]]
    (conv => whnf); repeat ((first | refine tk1 ?_ | refine tk2 ?_ | refine tk3 ?_ | refine tk12 (fun _ => ?_) | refine tk4 ?_ | refine tk5 ?_ | refine tk6 ?_ | refine tk7 ?_ | refine tk8 ?_ | refine tk9 ?_ | refine tk10 (fun _ _ => ?_) | refine tk11 (fun _ => ?_) | refine tk13 ?_ | refine tk14 ?_); (conv => whnf))
    exact ⟨(k + 1, B', cq'), by dsimp only; omega, rfl, (by repeat' (first | exact List.Sublist.refl _ | exact List.nil_sublist _ | apply List.Sublist.cons_cons | apply List.Sublist.cons)), by dsimp only; omega⟩
  · rw [List.take_of_length_le (show (ps.map pure1).length ≤ k by rw [List.length_map]; omega)]
    (conv => whnf); repeat ((first | refine tk1 ?_ | refine tk2 ?_ | refine tk3 ?_ | refine tk12 (fun _ => ?_) | refine tk4 ?_ | refine tk5 ?_ | refine tk6 ?_ | refine tk7 ?_ | refine tk8 ?_ | refine tk9 ?_ | refine tk10 (fun _ _ => ?_) | refine tk11 (fun _ => ?_) | refine tk13 ?_ | refine tk14 ?_); (conv => whnf))
    exact fun w' hw' => ⟨_, rfl, rowPost.of (List.mem_cons_self ..) w' hw'⟩
end Go.Proofs.YtnaeeklnlddcaaaGreatDoor.Vex
/- The program's functions on answers as bytes, reckoned: own, Check. -/
namespace Go.Proofs.YtnaeeklnlddcaaaGreatDoor.Vex
open Go Go.RowKit
set_option maxRecDepth 100000
set_option linter.unusedSectionVars false
variable {gI : GI} [HasMax gI]

theorem OwnR_f : FnS Tryz.prog gI 73 [] [] 9 1 4 (ownR.map str) := by
  refine FnE.of tys_ok Tryz.func73 rfl (by kernel_rfl) rfl rfl ?_; intro w hG hP
  (conv => whnf); repeat ((first | refine tk1 ?_ | refine tk2 ?_ | refine tk3 ?_ | refine tk12 (fun _ => ?_) | refine tk4 ?_ | refine tk5 ?_ | refine tk6 ?_ | refine tk7 ?_ | refine tk8 ?_ | refine tk9 ?_ | refine tk10 (fun _ _ => ?_) | refine tk11 (fun _ => ?_) | refine tk13 ?_ | refine tk14 ?_); (conv => whnf))
  exact rowPost.of (List.mem_cons_self ..)
theorem anST_bad {st : Int} {n cd : Nat} (h : st < 200 ∨ 599 < st ∨ 2 < cd ∨ (bareB st = true ∧ (0 < n ∨ cd ≠ 0))) : anST st n cd = false := by
  unfold anST
  rw [Bool.eq_false_iff]
  simp only [ne_eq, Bool.and_eq_true, decide_eq_true_eq, Bool.or_eq_true, Bool.not_eq_true']
  rintro ⟨h1, h2, h3, h4⟩
  rcases h with h | h | h | ⟨h, h5⟩
  · omega
  · omega
  · omega
  · rcases h4 with h4 | h4
    · rw [h] at h4; cases h4
    · omega
theorem anST_good {st : Int} {n cd : Nat} (h1 : ¬ st < 200) (h2 : ¬ 599 < st) (h3 : ¬ 2 < cd) (h4 : bareB st = true → ¬ 0 < n ∧ cd = 0) : anST st n cd = true := by
  unfold anST
  cases hb : bareB st
  · simp only [Bool.and_eq_true, decide_eq_true_eq, Bool.not_false, Bool.true_or, and_true]; omega
  · have := h4 hb
    simp only [Bool.and_eq_true, decide_eq_true_eq, Bool.not_true, Bool.false_or]; omega
set_option maxHeartbeats 4000000 in
theorem ACheck_f (st : Int) (FA : Option Addr) (Fc : Nat) (F : List Fld) (QA : Option Addr) (Qc : Nat) (ps : List Prt) (cd : UInt8) (tag : List UInt8) (press : Bool) (hF : fsum F ≤ 1048576) (hn : ps.length ≤ 4000000) (htl : total (ps.map pure1) ≤ 4000000) :
    FnR Tryz.prog gI 42 [.agg ⟨[.int .i64 st, .slice FA F.length Fc, .slice QA ps.length Qc, .int .u8 cd.toNat, str tag, .bool press]⟩] [(FA, fcells F), (QA, pcells ps)] (.int .i64 (anE st F (ps.map pure1) cd.toNat)) := by
  have bad : anOK st F (ps.map pure1) cd.toNat = false → anE st F (ps.map pure1) cd.toNat = 8 := fun h => by unfold anE; rw [h]; rfl
  have bad1 : anST st ps.length cd.toNat = false → anE st F (ps.map pure1) cd.toNat = 8 := fun h => bad (by unfold anOK; rw [List.length_map, h]; rfl)
  have hFl := fsum_length F
  refine FnE.of tys_ok Tryz.func42 rfl (by kernel_rfl) rfl rfl ?_; intro w hG hP
  have hRF : ∀ H, RdA (mkC Tryz.prog gI w hG) H FA (fcells F) := fun H => ⟨hP.1.now⟩
  have hRQ : ∀ H, RdA (mkC Tryz.prog gI w hG) H QA (pcells ps) := fun H => ⟨hP.2.1.now⟩
  clear hP
  (conv => whnf); repeat ((first | refine tk1 ?_ | refine tk2 ?_ | refine tk3 ?_ | refine tk12 (fun _ => ?_) | refine tk4 ?_ | refine tk5 ?_ | refine tk6 ?_ | refine tk7 ?_ | refine tk8 ?_ | refine tk9 ?_ | refine tk10 (fun _ _ => ?_) | refine tk11 (fun _ => ?_) | refine tk13 ?_ | refine tk14 ?_); (conv => whnf))
  rename_i b
  refine Cmp.cases (fun c1 => ?_) (fun c1 => ?_)
  · rw [bad1 (anST_bad (by omega))]
    (conv => whnf); repeat ((first | refine tk1 ?_ | refine tk2 ?_ | refine tk3 ?_ | refine tk12 (fun _ => ?_) | refine tk4 ?_ | refine tk5 ?_ | refine tk6 ?_ | refine tk7 ?_ | refine tk8 ?_ | refine tk9 ?_ | refine tk10 (fun _ _ => ?_) | refine tk11 (fun _ => ?_) | refine tk13 ?_ | refine tk14 ?_); (conv => whnf))
    exact fun w' _ => rfl
  (conv => whnf); repeat ((first | refine tk1 ?_ | refine tk2 ?_ | refine tk3 ?_ | refine tk12 (fun _ => ?_) | refine tk4 ?_ | refine tk5 ?_ | refine tk6 ?_ | refine tk7 ?_ | refine tk8 ?_ | refine tk9 ?_ | refine tk10 (fun _ _ => ?_) | refine tk11 (fun _ => ?_) | refine tk13 ?_ | refine tk14 ?_); (conv => whnf))
  refine Cmp.cases (fun c2 => ?_) (fun c2 => ?_)
  · rw [bad1 (anST_bad (by omega))]
    (conv => whnf); repeat ((first | refine tk1 ?_ | refine tk2 ?_ | refine tk3 ?_ | refine tk12 (fun _ => ?_) | refine tk4 ?_ | refine tk5 ?_ | refine tk6 ?_ | refine tk7 ?_ | refine tk8 ?_ | refine tk9 ?_ | refine tk10 (fun _ _ => ?_) | refine tk11 (fun _ => ?_) | refine tk13 ?_ | refine tk14 ?_); (conv => whnf))
    exact fun w' _ => rfl
  (conv => whnf); repeat ((first | refine tk1 ?_ | refine tk2 ?_ | refine tk3 ?_ | refine tk12 (fun _ => ?_) | refine tk4 ?_ | refine tk5 ?_ | refine tk6 ?_ | refine tk7 ?_ | refine tk8 ?_ | refine tk9 ?_ | refine tk10 (fun _ _ => ?_) | refine tk11 (fun _ => ?_) | refine tk13 ?_ | refine tk14 ?_); (conv => whnf))
  refine Cmp.cases (fun c3 => ?_) (fun c3 => ?_)
  · rw [bad1 (anST_bad (by omega))]
    (conv => whnf); repeat ((first | refine tk1 ?_ | refine tk2 ?_ | refine tk3 ?_ | refine tk12 (fun _ => ?_) | refine tk4 ?_ | refine tk5 ?_ | refine tk6 ?_ | refine tk7 ?_ | refine tk8 ?_ | refine tk9 ?_ | refine tk10 (fun _ _ => ?_) | refine tk11 (fun _ => ?_) | refine tk13 ?_ | refine tk14 ?_); (conv => whnf))
    exact fun w' _ => rfl
  (conv => whnf); repeat ((first | refine tk1 ?_ | refine tk2 ?_ | refine tk3 ?_ | refine tk12 (fun _ => ?_) | refine tk4 ?_ | refine tk5 ?_ | refine tk6 ?_ | refine tk7 ?_ | refine tk8 ?_ | refine tk9 ?_ | refine tk10 (fun _ _ => ?_) | refine tk11 (fun _ => ?_) | refine tk13 ?_ | refine tk14 ?_); (conv => whnf))
  refine CallK.fn (bare_f st) ?_
  cases hbr : bareB st
  · have hst := anST_good (n := ps.length) (cd := cd.toNat) c1 c2 (by omega) (fun h => by rw [hbr] at h; cases h)
    clear c1 c2 c3 bad1
    (conv => whnf); repeat ((first | refine tk1 ?_ | refine tk2 ?_ | refine tk3 ?_ | refine tk12 (fun _ => ?_) | refine tk4 ?_ | refine tk5 ?_ | refine tk6 ?_ | refine tk7 ?_ | refine tk8 ?_ | refine tk9 ?_ | refine tk10 (fun _ _ => ?_) | refine tk11 (fun _ => ?_) | refine tk13 ?_ | refine tk14 ?_); (conv => whnf))
    refine LoopS.lp tys_ok (fun (k : Nat) u => [u 0, .pointer (some ⟨b, 0, none⟩), u 2, u 3, u 4, u 5, u 6, u 7, u 8, u 9, u 10, u 11, u 12, u 13, u 14, u 15, u 16, u 17, u 18, u 19, u 20, u 21, u 22, u 23, u 24, u 25, u 26, u 27, u 28, u 29, u 30, u 31, u 32, u 33, u 34, u 35, u 36, u 37, .slice FA F.length Fc, .int .i64 F.length, .int .i64 (k : Nat), u 41, u 42, u 43, u 44, u 45, u 46, u 47, u 48, u 49, u 50, u 51, u 52, u 53, u 54, u 55, u 56, u 57, u 58, u 59, u 60, u 61, u 62, u 63, u 64, u 65, u 66, u 67, u 68, u 69, u 70, u 71, u 72, u 73, u 74]) (fun _ => [.box b [.int .i64 st, .slice FA F.length Fc, .slice QA ps.length Qc, .int .u8 cd.toNat, str tag, .bool press] 47])
      (fun k => k ≤ F.length ∧ (F.take k).all fldR = true) (fun k => F.length - k) 0 ⟨Nat.zero_le _, rfl⟩ rfl (by repeat' (first | exact List.Sublist.refl _ | exact List.nil_sublist _ | apply List.Sublist.cons_cons | apply List.Sublist.cons)) ?_
    rintro k u ⟨hk, hI⟩
    (conv => whnf); repeat ((first | refine tk1 ?_ | refine tk2 ?_ | refine tk3 ?_ | refine tk12 (fun _ => ?_) | refine tk4 ?_ | refine tk5 ?_ | refine tk6 ?_ | refine tk7 ?_ | refine tk8 ?_ | refine tk9 ?_ | refine tk10 (fun _ _ => ?_) | refine tk11 (fun _ => ?_) | refine tk13 ?_ | refine tk14 ?_); (conv => whnf))
    refine Cmp.cases (fun hlt => ?_) (fun hlt => ?_)
    · have hlt' : k < F.length := by omega
      have hsn := all_snoc_take fldR F k hlt' hI
      have h2 := fcells_two F k hlt'
      have hm9 := List.getElem_mem hlt'
      obtain ⟨n, v, hf⟩ : ∃ n v, F[k] = (n, v) := ⟨_, _, rfl⟩
      rw [hf] at hsn h2 hm9
      have hz := fsum_mem hm9
      have badf : fldR (n, v) = false → anE st F (ps.map pure1) cd.toNat = 8 := fun h => bad (by unfold anOK; rw [all_bad hm9 h]; simp)
      (conv => whnf); repeat ((first | refine tk1 ?_ | refine tk2 ?_ | refine tk3 ?_ | refine tk12 (fun _ => ?_) | refine tk4 ?_ | refine tk5 ?_ | refine tk6 ?_ | refine tk7 ?_ | refine tk8 ?_ | refine tk9 ?_ | refine tk10 (fun _ _ => ?_) | refine tk11 (fun _ => ?_) | refine tk13 ?_ | refine tk14 ?_); (conv => whnf))
      refine IdxA.tc (by rw [fcells_length]; omega) (by omega) (by omega) ?_
      (conv => whnf); repeat ((first | refine tk1 ?_ | refine tk2 ?_ | refine tk3 ?_ | refine tk12 (fun _ => ?_) | refine tk4 ?_ | refine tk5 ?_ | refine tk6 ?_ | refine tk7 ?_ | refine tk8 ?_ | refine tk9 ?_ | refine tk10 (fun _ _ => ?_) | refine tk11 (fun _ => ?_) | refine tk13 ?_ | refine tk14 ?_); (conv => whnf))
      refine Ld.taN h2 rfl ?_
      (conv => whnf); repeat ((first | refine tk1 ?_ | refine tk2 ?_ | refine tk3 ?_ | refine tk12 (fun _ => ?_) | refine tk4 ?_ | refine tk5 ?_ | refine tk6 ?_ | refine tk7 ?_ | refine tk8 ?_ | refine tk9 ?_ | refine tk10 (fun _ _ => ?_) | refine tk11 (fun _ => ?_) | refine tk13 ?_ | refine tk14 ?_); (conv => whnf))
      refine DrawS.go [(0, true), (1, true), (2, true), (3, true), (5, true), (6, true), (4, false), (7, true), (8, true)] tys_ok mixed (by kernel_rfl) ?_
      (conv => whnf); repeat ((first | refine tk1 ?_ | refine tk2 ?_ | refine tk3 ?_ | refine tk12 (fun _ => ?_) | refine tk4 ?_ | refine tk5 ?_ | refine tk6 ?_ | refine tk7 ?_ | refine tk8 ?_ | refine tk9 ?_ | refine tk10 (fun _ _ => ?_) | refine tk11 (fun _ => ?_) | refine tk13 ?_ | refine tk14 ?_); (conv => whnf))
      refine CallQ.fn (Check_f n v (by dsimp only at hz; omega)) ?_
      cases hfo : fieldOK n v
      · rw [show fieldE n v = 3 by unfold fieldE; rw [hfo]; rfl, badf (by unfold fldR; rw [hfo]; rfl)]
        (conv => whnf); repeat ((first | refine tk1 ?_ | refine tk2 ?_ | refine tk3 ?_ | refine tk12 (fun _ => ?_) | refine tk4 ?_ | refine tk5 ?_ | refine tk6 ?_ | refine tk7 ?_ | refine tk8 ?_ | refine tk9 ?_ | refine tk10 (fun _ _ => ?_) | refine tk11 (fun _ => ?_) | refine tk13 ?_ | refine tk14 ?_); (conv => whnf))
        exact fun w' _ => rfl
      · rw [show fieldE n v = 0 by unfold fieldE; rw [hfo]; rfl]
        (conv => whnf); repeat ((first | refine tk1 ?_ | refine tk2 ?_ | refine tk3 ?_ | refine tk12 (fun _ => ?_) | refine tk4 ?_ | refine tk5 ?_ | refine tk6 ?_ | refine tk7 ?_ | refine tk8 ?_ | refine tk9 ?_ | refine tk10 (fun _ _ => ?_) | refine tk11 (fun _ => ?_) | refine tk13 ?_ | refine tk14 ?_); (conv => whnf))
        refine CallK.fnS OwnR_f trivial (fun A cp => ?_)
        (conv => whnf); repeat ((first | refine tk1 ?_ | refine tk2 ?_ | refine tk3 ?_ | refine tk12 (fun _ => ?_) | refine tk4 ?_ | refine tk5 ?_ | refine tk6 ?_ | refine tk7 ?_ | refine tk8 ?_ | refine tk9 ?_ | refine tk10 (fun _ _ => ?_) | refine tk11 (fun _ => ?_) | refine tk13 ?_ | refine tk14 ?_); (conv => whnf))
        refine CallQ.fnR (Contains_f A cp ownR n (by decide)) ⟨RdA.ok, trivial⟩ ?_
        cases hc : ownR.contains n
        · rw [show fldR (n, v) = true by unfold fldR; rw [hfo, hc]; rfl] at hsn
          (conv => whnf); repeat ((first | refine tk1 ?_ | refine tk2 ?_ | refine tk3 ?_ | refine tk12 (fun _ => ?_) | refine tk4 ?_ | refine tk5 ?_ | refine tk6 ?_ | refine tk7 ?_ | refine tk8 ?_ | refine tk9 ?_ | refine tk10 (fun _ _ => ?_) | refine tk11 (fun _ => ?_) | refine tk13 ?_ | refine tk14 ?_); (conv => whnf))
          exact ⟨k + 1, ⟨by omega, hsn⟩, rfl, (by repeat' (first | exact List.Sublist.refl _ | exact List.nil_sublist _ | apply List.Sublist.cons_cons | apply List.Sublist.cons)), by dsimp only; omega⟩
        · rw [badf (by unfold fldR; rw [hc]; simp)]
          (conv => whnf); repeat ((first | refine tk1 ?_ | refine tk2 ?_ | refine tk3 ?_ | refine tk12 (fun _ => ?_) | refine tk4 ?_ | refine tk5 ?_ | refine tk6 ?_ | refine tk7 ?_ | refine tk8 ?_ | refine tk9 ?_ | refine tk10 (fun _ _ => ?_) | refine tk11 (fun _ => ?_) | refine tk13 ?_ | refine tk14 ?_); (conv => whnf))
          exact fun w' _ => rfl
    have hFok : F.all fldR = true := by rw [List.take_of_length_le (by omega)] at hI; exact hI
    have hAE : anE st F (ps.map pure1) cd.toNat = if prsOK 0 (ps.map pure1) then 0 else 8 := by
      unfold anE anOK
      rw [List.length_map, hst, hFok]
      simp
    rw [hAE]
    clear hI hlt hk bad hAE
    (conv => whnf); repeat ((first | refine tk1 ?_ | refine tk2 ?_ | refine tk3 ?_ | refine tk12 (fun _ => ?_) | refine tk4 ?_ | refine tk5 ?_ | refine tk6 ?_ | refine tk7 ?_ | refine tk8 ?_ | refine tk9 ?_ | refine tk10 (fun _ _ => ?_) | refine tk11 (fun _ => ?_) | refine tk13 ?_ | refine tk14 ?_); (conv => whnf))
    refine LoopS.lp tys_ok (fun (k : Nat) u => [u 0, u 1, u 2, u 3, u 4, .int .i64 (total ((ps.map pure1).take k) : Nat), u 6, u 7, u 8, u 9, u 10, u 11, u 12, u 13, u 14, u 15, u 16, u 17, u 18, u 19, u 20, u 21, u 22, u 23, u 24, u 25, u 26, u 27, u 28, u 29, u 30, u 31, u 32, u 33, u 34, u 35, u 36, u 37, u 38, u 39, u 40, u 41, u 42, u 43, u 44, u 45, u 46, u 47, u 48, u 49, u 50, u 51, u 52, u 53, u 54, .slice QA ps.length Qc, .int .i64 ps.length, .int .i64 (k : Nat), u 58, u 59, u 60, u 61, u 62, u 63, u 64, u 65, u 66, u 67, u 68, u 69, u 70, u 71, u 72, u 73, u 74]) (fun _ => [])
      (fun k => k ≤ ps.length ∧ prsOK 0 (ps.map pure1) = prsOK (total ((ps.map pure1).take k)) ((ps.map pure1).drop k)) (fun k => ps.length - k) 0 ⟨Nat.zero_le _, rfl⟩ rfl (by repeat' (first | exact List.Sublist.refl _ | exact List.nil_sublist _ | apply List.Sublist.cons_cons | apply List.Sublist.cons)) ?_
    rintro k u ⟨hk, hI⟩
    (conv => whnf); repeat ((first | refine tk1 ?_ | refine tk2 ?_ | refine tk3 ?_ | refine tk12 (fun _ => ?_) | refine tk4 ?_ | refine tk5 ?_ | refine tk6 ?_ | refine tk7 ?_ | refine tk8 ?_ | refine tk9 ?_ | refine tk10 (fun _ _ => ?_) | refine tk11 (fun _ => ?_) | refine tk13 ?_ | refine tk14 ?_); (conv => whnf))
    refine Cmp.cases (fun hlt => ?_) (fun hlt => ?_)
    · have hlt' : k < ps.length := by omega
      have hkp : k < (ps.map pure1).length := by rw [List.length_map]; exact hlt'
      have h2 := (pcells_at ps k hlt').2.2
      have htk := total_take (ps.map pure1) (k + 1)
      have ht1 : total ((ps.map pure1).take (k + 1)) = total ((ps.map pure1).take k) + ps[k].l.length := by
        rw [List.take_succ_eq_append_getElem hkp, total_append, List.getElem_map]; simp [total, pure1]
      rw [ht1] at htk
      rw [List.drop_eq_getElem_cons hkp, List.getElem_map] at hI
      generalize ps[k] = q at *
      have hcons : prsOK (total ((ps.map pure1).take k)) (pure1 q :: (ps.map pure1).drop (k + 1)) = (!decide (q.l = []) && (decide (total ((ps.map pure1).take k) + q.l.length ≤ 262144) && prsOK (total ((ps.map pure1).take k) + q.l.length) ((ps.map pure1).drop (k + 1)))) := rfl
      rw [hcons] at hI
      clear hcons
      rw [show (prsOK (total ((ps.map pure1).take k) + q.l.length) ((ps.map pure1).drop (k + 1))) = prsOK (total ((ps.map pure1).take (k + 1))) ((ps.map pure1).drop (k + 1)) by rw [ht1]] at hI
      (conv => whnf); repeat ((first | refine tk1 ?_ | refine tk2 ?_ | refine tk3 ?_ | refine tk12 (fun _ => ?_) | refine tk4 ?_ | refine tk5 ?_ | refine tk6 ?_ | refine tk7 ?_ | refine tk8 ?_ | refine tk9 ?_ | refine tk10 (fun _ _ => ?_) | refine tk11 (fun _ => ?_) | refine tk13 ?_ | refine tk14 ?_); (conv => whnf))
      refine IdxA.tc (by rw [pcells_length]; omega) (by omega) (by omega) ?_
      (conv => whnf); repeat ((first | refine tk1 ?_ | refine tk2 ?_ | refine tk3 ?_ | refine tk12 (fun _ => ?_) | refine tk4 ?_ | refine tk5 ?_ | refine tk6 ?_ | refine tk7 ?_ | refine tk8 ?_ | refine tk9 ?_ | refine tk10 (fun _ _ => ?_) | refine tk11 (fun _ => ?_) | refine tk13 ?_ | refine tk14 ?_); (conv => whnf))
      refine Ld.taN h2 rfl ?_
      by_cases hq0 : q.l.length = 0
      · rw [show prsOK 0 (ps.map pure1) = false by rw [hI, decide_eq_true (List.eq_nil_of_length_eq_zero hq0)]; rfl]
        (conv => whnf); repeat ((first | refine tk1 ?_ | refine tk2 ?_ | refine tk3 ?_ | refine tk12 (fun _ => ?_) | refine tk4 ?_ | refine tk5 ?_ | refine tk6 ?_ | refine tk7 ?_ | refine tk8 ?_ | refine tk9 ?_ | refine tk10 (fun _ _ => ?_) | refine tk11 (fun _ => ?_) | refine tk13 ?_ | refine tk14 ?_); (conv => whnf))
        exact fun w' _ => rfl
      have hqn : q.l ≠ [] := fun h => hq0 (by rw [h]; rfl)
      by_cases hbig : total ((ps.map pure1).take k) + q.l.length ≤ 262144
      · rw [decide_eq_false hqn, decide_eq_true hbig] at hI
        simp only [Bool.not_false, Bool.true_and] at hI
        (conv => whnf); repeat ((first | refine tk1 ?_ | refine tk2 ?_ | refine tk3 ?_ | refine tk12 (fun _ => ?_) | refine tk4 ?_ | refine tk5 ?_ | refine tk6 ?_ | refine tk7 ?_ | refine tk8 ?_ | refine tk9 ?_ | refine tk10 (fun _ _ => ?_) | refine tk11 (fun _ => ?_) | refine tk13 ?_ | refine tk14 ?_); (conv => whnf))
        exact ⟨k + 1, ⟨by omega, hI⟩, by dsimp only; rw [ht1]; rfl, (by repeat' (first | exact List.Sublist.refl _ | exact List.nil_sublist _ | apply List.Sublist.cons_cons | apply List.Sublist.cons)), by dsimp only; omega⟩
      · rw [show prsOK 0 (ps.map pure1) = false by rw [hI, decide_eq_false hbig]; simp]
        (conv => whnf); repeat ((first | refine tk1 ?_ | refine tk2 ?_ | refine tk3 ?_ | refine tk12 (fun _ => ?_) | refine tk4 ?_ | refine tk5 ?_ | refine tk6 ?_ | refine tk7 ?_ | refine tk8 ?_ | refine tk9 ?_ | refine tk10 (fun _ _ => ?_) | refine tk11 (fun _ => ?_) | refine tk13 ?_ | refine tk14 ?_); (conv => whnf))
        exact fun w' _ => rfl
    · rw [show prsOK 0 (ps.map pure1) = true by rw [hI, List.drop_eq_nil_of_le (by rw [List.length_map]; omega)]; rfl]
      (conv => whnf); repeat ((first | refine tk1 ?_ | refine tk2 ?_ | refine tk3 ?_ | refine tk12 (fun _ => ?_) | refine tk4 ?_ | refine tk5 ?_ | refine tk6 ?_ | refine tk7 ?_ | refine tk8 ?_ | refine tk9 ?_ | refine tk10 (fun _ _ => ?_) | refine tk11 (fun _ => ?_) | refine tk13 ?_ | refine tk14 ?_); (conv => whnf))
      exact fun w' _ => rfl
  · (conv => whnf); repeat ((first | refine tk1 ?_ | refine tk2 ?_ | refine tk3 ?_ | refine tk12 (fun _ => ?_) | refine tk4 ?_ | refine tk5 ?_ | refine tk6 ?_ | refine tk7 ?_ | refine tk8 ?_ | refine tk9 ?_ | refine tk10 (fun _ _ => ?_) | refine tk11 (fun _ => ?_) | refine tk13 ?_ | refine tk14 ?_); (conv => whnf))
    refine Cmp.cases (fun c4 => ?_) (fun c4 => ?_)
    · rw [bad1 (anST_bad (.inr (.inr (.inr ⟨hbr, .inl (by omega)⟩))))]
      (conv => whnf); repeat ((first | refine tk1 ?_ | refine tk2 ?_ | refine tk3 ?_ | refine tk12 (fun _ => ?_) | refine tk4 ?_ | refine tk5 ?_ | refine tk6 ?_ | refine tk7 ?_ | refine tk8 ?_ | refine tk9 ?_ | refine tk10 (fun _ _ => ?_) | refine tk11 (fun _ => ?_) | refine tk13 ?_ | refine tk14 ?_); (conv => whnf))
      exact fun w' _ => rfl
    (conv => whnf); repeat ((first | refine tk1 ?_ | refine tk2 ?_ | refine tk3 ?_ | refine tk12 (fun _ => ?_) | refine tk4 ?_ | refine tk5 ?_ | refine tk6 ?_ | refine tk7 ?_ | refine tk8 ?_ | refine tk9 ?_ | refine tk10 (fun _ _ => ?_) | refine tk11 (fun _ => ?_) | refine tk13 ?_ | refine tk14 ?_); (conv => whnf))
    refine Cmp.cases (fun c5 => ?_) (fun c5 => ?_)
    · rw [bad1 (anST_bad (.inr (.inr (.inr ⟨hbr, .inr (by omega)⟩))))]
      (conv => whnf); repeat ((first | refine tk1 ?_ | refine tk2 ?_ | refine tk3 ?_ | refine tk12 (fun _ => ?_) | refine tk4 ?_ | refine tk5 ?_ | refine tk6 ?_ | refine tk7 ?_ | refine tk8 ?_ | refine tk9 ?_ | refine tk10 (fun _ _ => ?_) | refine tk11 (fun _ => ?_) | refine tk13 ?_ | refine tk14 ?_); (conv => whnf))
      exact fun w' _ => rfl
    have hst := anST_good (n := ps.length) (cd := cd.toNat) c1 c2 (by omega) (fun _ => ⟨by omega, by omega⟩)
    clear c1 c2 c3 c4 c5 bad1
    (conv => whnf); repeat ((first | refine tk1 ?_ | refine tk2 ?_ | refine tk3 ?_ | refine tk12 (fun _ => ?_) | refine tk4 ?_ | refine tk5 ?_ | refine tk6 ?_ | refine tk7 ?_ | refine tk8 ?_ | refine tk9 ?_ | refine tk10 (fun _ _ => ?_) | refine tk11 (fun _ => ?_) | refine tk13 ?_ | refine tk14 ?_); (conv => whnf))
    refine LoopS.lp tys_ok (fun (k : Nat) u => [u 0, .pointer (some ⟨b, 0, none⟩), u 2, u 3, u 4, u 5, u 6, u 7, u 8, u 9, u 10, u 11, u 12, u 13, u 14, u 15, u 16, u 17, u 18, u 19, u 20, u 21, u 22, u 23, u 24, u 25, u 26, u 27, u 28, u 29, u 30, u 31, u 32, u 33, u 34, u 35, u 36, u 37, .slice FA F.length Fc, .int .i64 F.length, .int .i64 (k : Nat), u 41, u 42, u 43, u 44, u 45, u 46, u 47, u 48, u 49, u 50, u 51, u 52, u 53, u 54, u 55, u 56, u 57, u 58, u 59, u 60, u 61, u 62, u 63, u 64, u 65, u 66, u 67, u 68, u 69, u 70, u 71, u 72, u 73, u 74]) (fun _ => [.box b [.int .i64 st, .slice FA F.length Fc, .slice QA ps.length Qc, .int .u8 cd.toNat, str tag, .bool press] 47])
      (fun k => k ≤ F.length ∧ (F.take k).all fldR = true) (fun k => F.length - k) 0 ⟨Nat.zero_le _, rfl⟩ rfl (by repeat' (first | exact List.Sublist.refl _ | exact List.nil_sublist _ | apply List.Sublist.cons_cons | apply List.Sublist.cons)) ?_
    rintro k u ⟨hk, hI⟩
    (conv => whnf); repeat ((first | refine tk1 ?_ | refine tk2 ?_ | refine tk3 ?_ | refine tk12 (fun _ => ?_) | refine tk4 ?_ | refine tk5 ?_ | refine tk6 ?_ | refine tk7 ?_ | refine tk8 ?_ | refine tk9 ?_ | refine tk10 (fun _ _ => ?_) | refine tk11 (fun _ => ?_) | refine tk13 ?_ | refine tk14 ?_); (conv => whnf))
    refine Cmp.cases (fun hlt => ?_) (fun hlt => ?_)
    · have hlt' : k < F.length := by omega
      have hsn := all_snoc_take fldR F k hlt' hI
      have h2 := fcells_two F k hlt'
      have hm9 := List.getElem_mem hlt'
      obtain ⟨n, v, hf⟩ : ∃ n v, F[k] = (n, v) := ⟨_, _, rfl⟩
      rw [hf] at hsn h2 hm9
      have hz := fsum_mem hm9
      have badf : fldR (n, v) = false → anE st F (ps.map pure1) cd.toNat = 8 := fun h => bad (by unfold anOK; rw [all_bad hm9 h]; simp)
      (conv => whnf); repeat ((first | refine tk1 ?_ | refine tk2 ?_ | refine tk3 ?_ | refine tk12 (fun _ => ?_) | refine tk4 ?_ | refine tk5 ?_ | refine tk6 ?_ | refine tk7 ?_ | refine tk8 ?_ | refine tk9 ?_ | refine tk10 (fun _ _ => ?_) | refine tk11 (fun _ => ?_) | refine tk13 ?_ | refine tk14 ?_); (conv => whnf))
      refine IdxA.tc (by rw [fcells_length]; omega) (by omega) (by omega) ?_
      (conv => whnf); repeat ((first | refine tk1 ?_ | refine tk2 ?_ | refine tk3 ?_ | refine tk12 (fun _ => ?_) | refine tk4 ?_ | refine tk5 ?_ | refine tk6 ?_ | refine tk7 ?_ | refine tk8 ?_ | refine tk9 ?_ | refine tk10 (fun _ _ => ?_) | refine tk11 (fun _ => ?_) | refine tk13 ?_ | refine tk14 ?_); (conv => whnf))
      refine Ld.taN h2 rfl ?_
      (conv => whnf); repeat ((first | refine tk1 ?_ | refine tk2 ?_ | refine tk3 ?_ | refine tk12 (fun _ => ?_) | refine tk4 ?_ | refine tk5 ?_ | refine tk6 ?_ | refine tk7 ?_ | refine tk8 ?_ | refine tk9 ?_ | refine tk10 (fun _ _ => ?_) | refine tk11 (fun _ => ?_) | refine tk13 ?_ | refine tk14 ?_); (conv => whnf))
      refine DrawS.go [(0, true), (1, true), (2, true), (3, true), (5, true), (6, true), (4, false), (7, true), (8, true)] tys_ok mixed (by kernel_rfl) ?_
      (conv => whnf); repeat ((first | refine tk1 ?_ | refine tk2 ?_ | refine tk3 ?_ | refine tk12 (fun _ => ?_) | refine tk4 ?_ | refine tk5 ?_ | refine tk6 ?_ | refine tk7 ?_ | refine tk8 ?_ | refine tk9 ?_ | refine tk10 (fun _ _ => ?_) | refine tk11 (fun _ => ?_) | refine tk13 ?_ | refine tk14 ?_); (conv => whnf))
      refine CallQ.fn (Check_f n v (by dsimp only at hz; omega)) ?_
      cases hfo : fieldOK n v
      · rw [show fieldE n v = 3 by unfold fieldE; rw [hfo]; rfl, badf (by unfold fldR; rw [hfo]; rfl)]
        (conv => whnf); repeat ((first | refine tk1 ?_ | refine tk2 ?_ | refine tk3 ?_ | refine tk12 (fun _ => ?_) | refine tk4 ?_ | refine tk5 ?_ | refine tk6 ?_ | refine tk7 ?_ | refine tk8 ?_ | refine tk9 ?_ | refine tk10 (fun _ _ => ?_) | refine tk11 (fun _ => ?_) | refine tk13 ?_ | refine tk14 ?_); (conv => whnf))
        exact fun w' _ => rfl
      · rw [show fieldE n v = 0 by unfold fieldE; rw [hfo]; rfl]
        (conv => whnf); repeat ((first | refine tk1 ?_ | refine tk2 ?_ | refine tk3 ?_ | refine tk12 (fun _ => ?_) | refine tk4 ?_ | refine tk5 ?_ | refine tk6 ?_ | refine tk7 ?_ | refine tk8 ?_ | refine tk9 ?_ | refine tk10 (fun _ _ => ?_) | refine tk11 (fun _ => ?_) | refine tk13 ?_ | refine tk14 ?_); (conv => whnf))
        refine CallK.fnS OwnR_f trivial (fun A cp => ?_)
        (conv => whnf); repeat ((first | refine tk1 ?_ | refine tk2 ?_ | refine tk3 ?_ | refine tk12 (fun _ => ?_) | refine tk4 ?_ | refine tk5 ?_ | refine tk6 ?_ | refine tk7 ?_ | refine tk8 ?_ | refine tk9 ?_ | refine tk10 (fun _ _ => ?_) | refine tk11 (fun _ => ?_) | refine tk13 ?_ | refine tk14 ?_); (conv => whnf))
        refine CallQ.fnR (Contains_f A cp ownR n (by decide)) ⟨RdA.ok, trivial⟩ ?_
        cases hc : ownR.contains n
        · rw [show fldR (n, v) = true by unfold fldR; rw [hfo, hc]; rfl] at hsn
          (conv => whnf); repeat ((first | refine tk1 ?_ | refine tk2 ?_ | refine tk3 ?_ | refine tk12 (fun _ => ?_) | refine tk4 ?_ | refine tk5 ?_ | refine tk6 ?_ | refine tk7 ?_ | refine tk8 ?_ | refine tk9 ?_ | refine tk10 (fun _ _ => ?_) | refine tk11 (fun _ => ?_) | refine tk13 ?_ | refine tk14 ?_); (conv => whnf))
          exact ⟨k + 1, ⟨by omega, hsn⟩, rfl, (by repeat' (first | exact List.Sublist.refl _ | exact List.nil_sublist _ | apply List.Sublist.cons_cons | apply List.Sublist.cons)), by dsimp only; omega⟩
        · rw [badf (by unfold fldR; rw [hc]; simp)]
          (conv => whnf); repeat ((first | refine tk1 ?_ | refine tk2 ?_ | refine tk3 ?_ | refine tk12 (fun _ => ?_) | refine tk4 ?_ | refine tk5 ?_ | refine tk6 ?_ | refine tk7 ?_ | refine tk8 ?_ | refine tk9 ?_ | refine tk10 (fun _ _ => ?_) | refine tk11 (fun _ => ?_) | refine tk13 ?_ | refine tk14 ?_); (conv => whnf))
          exact fun w' _ => rfl
    have hFok : F.all fldR = true := by rw [List.take_of_length_le (by omega)] at hI; exact hI
    have hAE : anE st F (ps.map pure1) cd.toNat = if prsOK 0 (ps.map pure1) then 0 else 8 := by
      unfold anE anOK
      rw [List.length_map, hst, hFok]
      simp
    rw [hAE]
    clear hI hlt hk bad hAE
    (conv => whnf); repeat ((first | refine tk1 ?_ | refine tk2 ?_ | refine tk3 ?_ | refine tk12 (fun _ => ?_) | refine tk4 ?_ | refine tk5 ?_ | refine tk6 ?_ | refine tk7 ?_ | refine tk8 ?_ | refine tk9 ?_ | refine tk10 (fun _ _ => ?_) | refine tk11 (fun _ => ?_) | refine tk13 ?_ | refine tk14 ?_); (conv => whnf))
    refine LoopS.lp tys_ok (fun (k : Nat) u => [u 0, u 1, u 2, u 3, u 4, .int .i64 (total ((ps.map pure1).take k) : Nat), u 6, u 7, u 8, u 9, u 10, u 11, u 12, u 13, u 14, u 15, u 16, u 17, u 18, u 19, u 20, u 21, u 22, u 23, u 24, u 25, u 26, u 27, u 28, u 29, u 30, u 31, u 32, u 33, u 34, u 35, u 36, u 37, u 38, u 39, u 40, u 41, u 42, u 43, u 44, u 45, u 46, u 47, u 48, u 49, u 50, u 51, u 52, u 53, u 54, .slice QA ps.length Qc, .int .i64 ps.length, .int .i64 (k : Nat), u 58, u 59, u 60, u 61, u 62, u 63, u 64, u 65, u 66, u 67, u 68, u 69, u 70, u 71, u 72, u 73, u 74]) (fun _ => [])
      (fun k => k ≤ ps.length ∧ prsOK 0 (ps.map pure1) = prsOK (total ((ps.map pure1).take k)) ((ps.map pure1).drop k)) (fun k => ps.length - k) 0 ⟨Nat.zero_le _, rfl⟩ rfl (by repeat' (first | exact List.Sublist.refl _ | exact List.nil_sublist _ | apply List.Sublist.cons_cons | apply List.Sublist.cons)) ?_
    rintro k u ⟨hk, hI⟩
    (conv => whnf); repeat ((first | refine tk1 ?_ | refine tk2 ?_ | refine tk3 ?_ | refine tk12 (fun _ => ?_) | refine tk4 ?_ | refine tk5 ?_ | refine tk6 ?_ | refine tk7 ?_ | refine tk8 ?_ | refine tk9 ?_ | refine tk10 (fun _ _ => ?_) | refine tk11 (fun _ => ?_) | refine tk13 ?_ | refine tk14 ?_); (conv => whnf))
    refine Cmp.cases (fun hlt => ?_) (fun hlt => ?_)
    · have hlt' : k < ps.length := by omega
      have hkp : k < (ps.map pure1).length := by rw [List.length_map]; exact hlt'
      have h2 := (pcells_at ps k hlt').2.2
      have htk := total_take (ps.map pure1) (k + 1)
      have ht1 : total ((ps.map pure1).take (k + 1)) = total ((ps.map pure1).take k) + ps[k].l.length := by
        rw [List.take_succ_eq_append_getElem hkp, total_append, List.getElem_map]; simp [total, pure1]
      rw [ht1] at htk
      rw [List.drop_eq_getElem_cons hkp, List.getElem_map] at hI
      generalize ps[k] = q at *
      have hcons : prsOK (total ((ps.map pure1).take k)) (pure1 q :: (ps.map pure1).drop (k + 1)) = (!decide (q.l = []) && (decide (total ((ps.map pure1).take k) + q.l.length ≤ 262144) && prsOK (total ((ps.map pure1).take k) + q.l.length) ((ps.map pure1).drop (k + 1)))) := rfl
      rw [hcons] at hI
      clear hcons
      rw [show (prsOK (total ((ps.map pure1).take k) + q.l.length) ((ps.map pure1).drop (k + 1))) = prsOK (total ((ps.map pure1).take (k + 1))) ((ps.map pure1).drop (k + 1)) by rw [ht1]] at hI
      (conv => whnf); repeat ((first | refine tk1 ?_ | refine tk2 ?_ | refine tk3 ?_ | refine tk12 (fun _ => ?_) | refine tk4 ?_ | refine tk5 ?_ | refine tk6 ?_ | refine tk7 ?_ | refine tk8 ?_ | refine tk9 ?_ | refine tk10 (fun _ _ => ?_) | refine tk11 (fun _ => ?_) | refine tk13 ?_ | refine tk14 ?_); (conv => whnf))
      refine IdxA.tc (by rw [pcells_length]; omega) (by omega) (by omega) ?_
      (conv => whnf); repeat ((first | refine tk1 ?_ | refine tk2 ?_ | refine tk3 ?_ | refine tk12 (fun _ => ?_) | refine tk4 ?_ | refine tk5 ?_ | refine tk6 ?_ | refine tk7 ?_ | refine tk8 ?_ | refine tk9 ?_ | refine tk10 (fun _ _ => ?_) | refine tk11 (fun _ => ?_) | refine tk13 ?_ | refine tk14 ?_); (conv => whnf))
      refine Ld.taN h2 rfl ?_
      by_cases hq0 : q.l.length = 0
      · rw [show prsOK 0 (ps.map pure1) = false by rw [hI, decide_eq_true (List.eq_nil_of_length_eq_zero hq0)]; rfl]
        (conv => whnf); repeat ((first | refine tk1 ?_ | refine tk2 ?_ | refine tk3 ?_ | refine tk12 (fun _ => ?_) | refine tk4 ?_ | refine tk5 ?_ | refine tk6 ?_ | refine tk7 ?_ | refine tk8 ?_ | refine tk9 ?_ | refine tk10 (fun _ _ => ?_) | refine tk11 (fun _ => ?_) | refine tk13 ?_ | refine tk14 ?_); (conv => whnf))
        exact fun w' _ => rfl
      have hqn : q.l ≠ [] := fun h => hq0 (by rw [h]; rfl)
      by_cases hbig : total ((ps.map pure1).take k) + q.l.length ≤ 262144
      · rw [decide_eq_false hqn, decide_eq_true hbig] at hI
        simp only [Bool.not_false, Bool.true_and] at hI
        (conv => whnf); repeat ((first | refine tk1 ?_ | refine tk2 ?_ | refine tk3 ?_ | refine tk12 (fun _ => ?_) | refine tk4 ?_ | refine tk5 ?_ | refine tk6 ?_ | refine tk7 ?_ | refine tk8 ?_ | refine tk9 ?_ | refine tk10 (fun _ _ => ?_) | refine tk11 (fun _ => ?_) | refine tk13 ?_ | refine tk14 ?_); (conv => whnf))
        exact ⟨k + 1, ⟨by omega, hI⟩, by dsimp only; rw [ht1]; rfl, (by repeat' (first | exact List.Sublist.refl _ | exact List.nil_sublist _ | apply List.Sublist.cons_cons | apply List.Sublist.cons)), by dsimp only; omega⟩
      · rw [show prsOK 0 (ps.map pure1) = false by rw [hI, decide_eq_false hbig]; simp]
        (conv => whnf); repeat ((first | refine tk1 ?_ | refine tk2 ?_ | refine tk3 ?_ | refine tk12 (fun _ => ?_) | refine tk4 ?_ | refine tk5 ?_ | refine tk6 ?_ | refine tk7 ?_ | refine tk8 ?_ | refine tk9 ?_ | refine tk10 (fun _ _ => ?_) | refine tk11 (fun _ => ?_) | refine tk13 ?_ | refine tk14 ?_); (conv => whnf))
        exact fun w' _ => rfl
    · rw [show prsOK 0 (ps.map pure1) = true by rw [hI, List.drop_eq_nil_of_le (by rw [List.length_map]; omega)]; rfl]
      (conv => whnf); repeat ((first | refine tk1 ?_ | refine tk2 ?_ | refine tk3 ?_ | refine tk12 (fun _ => ?_) | refine tk4 ?_ | refine tk5 ?_ | refine tk6 ?_ | refine tk7 ?_ | refine tk8 ?_ | refine tk9 ?_ | refine tk10 (fun _ _ => ?_) | refine tk11 (fun _ => ?_) | refine tk13 ?_ | refine tk14 ?_); (conv => whnf))
      exact fun w' _ => rfl
end Go.Proofs.YtnaeeklnlddcaaaGreatDoor.Vex
/- The program's functions on first lines, reckoned: Parse, Write, Quote, Segments. -/
namespace Go.Proofs.YtnaeeklnlddcaaaGreatDoor.Vex
open Go Go.RowKit
set_option maxRecDepth 100000
set_option linter.unusedSectionVars false
variable {gI : GI} [HasMax gI]

def rqV (r : Rq) : Value := .agg ⟨[str r.m, str r.p, str r.q, .int .i64 r.v, .slice none 0 0, .slice none 0 0]⟩
theorem Itoa_f [HasPow gI] (n : Int) (h0 : -9223372036854775808 ≤ n) (h1 : n ≤ 9223372036854775807) : Fn Tryz.prog gI 55 [.int .i64 n] (str (Lib.itoa n)) :=
  ⟨callable Tryz.func55 rfl (by kernel_rfl), fun w hG => (Tryz.strconv_Itoa n h0 h1 w (HasPow.ok w hG)).mono fun _ _ ⟨he, k, os, hw⟩ => ⟨he, by
    rw [hw]
    exact ⟨rfl, rfl, rfl, by simp [«Sort».grow, World.drewN], fun i hi => by
      show (w.heap ++ os)[i]? = w.heap[i]?
      exact Array.getElem?_append_left hi⟩⟩⟩
theorem itoa_01 {v : Int} (h : v = 0 ∨ v = 1) : Lib.itoa v = if v = 0 then [48] else [49] := by rcases h with rfl | rfl <;> decide +kernel
end Go.Proofs.YtnaeeklnlddcaaaGreatDoor.Vex
/- The program's functions on answers as bytes, reckoned: streamed, head. -/
namespace Go.Proofs.YtnaeeklnlddcaaaGreatDoor.Vex
open Go Go.RowKit
set_option maxRecDepth 100000
set_option linter.unusedSectionVars false
variable {gI : GI} [HasMax gI] [HasPow gI]

theorem anames_f : FnS Tryz.prog gI 118 [] [] 9 1 3 [str (codNm 0), str (codNm 1), str (codNm 2)] := by
  refine FnE.of tys_ok Tryz.func118 rfl (by kernel_rfl) rfl rfl ?_; intro w hG hP
  (conv => whnf); repeat ((first | refine tk1 ?_ | refine tk2 ?_ | refine tk3 ?_ | refine tk12 (fun _ => ?_) | refine tk4 ?_ | refine tk5 ?_ | refine tk6 ?_ | refine tk7 ?_ | refine tk8 ?_ | refine tk9 ?_ | refine tk10 (fun _ _ => ?_) | refine tk11 (fun _ => ?_) | refine tk13 ?_ | refine tk14 ?_); (conv => whnf))
  exact rowPost.of (List.mem_cons_self ..)
theorem AName_f (c : UInt8) (h : c.toNat ≤ 2) : Fn Tryz.prog gI 75 [.int .u8 c.toNat] (.tuple #[str (codNm c.toNat), .int .i64 0]) := by
  refine Fn.of tys_ok Tryz.func75 rfl (by kernel_rfl) rfl rfl ?_; intro w hG
  have hcn : [str (codNm 0), str (codNm 1), str (codNm 2)][c.toNat]? = some (str (codNm c.toNat)) := by
    rcases (show c.toNat = 0 ∨ c.toNat = 1 ∨ c.toNat = 2 by omega) with e | e | e <;> rw [e] <;> rfl
  (conv => whnf); repeat ((first | refine tk1 ?_ | refine tk2 ?_ | refine tk3 ?_ | refine tk12 (fun _ => ?_) | refine tk4 ?_ | refine tk5 ?_ | refine tk6 ?_ | refine tk7 ?_ | refine tk8 ?_ | refine tk9 ?_ | refine tk10 (fun _ _ => ?_) | refine tk11 (fun _ => ?_) | refine tk13 ?_ | refine tk14 ?_); (conv => whnf))
  refine CallK.fnS (anames_f (gI := gI)) trivial (fun A cp => ?_)
  (conv => whnf); repeat ((first | refine tk1 ?_ | refine tk2 ?_ | refine tk3 ?_ | refine tk12 (fun _ => ?_) | refine tk4 ?_ | refine tk5 ?_ | refine tk6 ?_ | refine tk7 ?_ | refine tk8 ?_ | refine tk9 ?_ | refine tk10 (fun _ _ => ?_) | refine tk11 (fun _ => ?_) | refine tk13 ?_ | refine tk14 ?_); (conv => whnf))
  refine IdxA.tc (xs := [str (codNm 0), str (codNm 1), str (codNm 2)]) (by simp) (by omega) (by omega) ?_
  (conv => whnf); repeat ((first | refine tk1 ?_ | refine tk2 ?_ | refine tk3 ?_ | refine tk12 (fun _ => ?_) | refine tk4 ?_ | refine tk5 ?_ | refine tk6 ?_ | refine tk7 ?_ | refine tk8 ?_ | refine tk9 ?_ | refine tk10 (fun _ _ => ?_) | refine tk11 (fun _ => ?_) | refine tk13 ?_ | refine tk14 ?_); (conv => whnf))
  refine Ld.ta (xs := [str (codNm 0), str (codNm 1), str (codNm 2)]) (v := str (codNm c.toNat)) (by simpa using hcn) ?_
  (conv => whnf); repeat ((first | refine tk1 ?_ | refine tk2 ?_ | refine tk3 ?_ | refine tk12 (fun _ => ?_) | refine tk4 ?_ | refine tk5 ?_ | refine tk6 ?_ | refine tk7 ?_ | refine tk8 ?_ | refine tk9 ?_ | refine tk10 (fun _ _ => ?_) | refine tk11 (fun _ => ?_) | refine tk13 ?_ | refine tk14 ?_); (conv => whnf))
theorem streamB_n {ps : List Prt} {cd : Nat} : streamB (ps.map pure1) cd = (!decide (cd = 0) || (decide (1 < ps.length) || (match ps with | [p] => p.f | _ => false))) := by
  unfold streamB
  rw [List.length_map]
  rcases ps with _ | ⟨p, _ | ⟨q, r⟩⟩ <;> rfl
theorem streamed_r (st : Int) (FA : Option Addr) (Fn Fc : Nat) (QA : Option Addr) (Qc : Nat) (ps : List Prt) (cd : UInt8) (tag : List UInt8) (press : Bool) (hn : ps.length ≤ 4000000) :
    FnR Tryz.prog gI 43 [.agg ⟨[.int .i64 st, .slice FA Fn Fc, .slice QA ps.length Qc, .int .u8 cd.toNat, str tag, .bool press]⟩] [(QA, pcells ps)] (.bool (streamB (ps.map pure1) cd.toNat)) := by
  refine FnE.of tys_ok Tryz.func43 rfl (by kernel_rfl) rfl rfl ?_; intro w hG hP
  have hRQ : ∀ H, RdA (mkC Tryz.prog gI w hG) H QA (pcells ps) := fun H => ⟨hP.1.now⟩
  clear hP
  rw [streamB_n]
  (conv => whnf); repeat ((first | refine tk1 ?_ | refine tk2 ?_ | refine tk3 ?_ | refine tk12 (fun _ => ?_) | refine tk4 ?_ | refine tk5 ?_ | refine tk6 ?_ | refine tk7 ?_ | refine tk8 ?_ | refine tk9 ?_ | refine tk10 (fun _ _ => ?_) | refine tk11 (fun _ => ?_) | refine tk13 ?_ | refine tk14 ?_); (conv => whnf))
  refine Cmp.cases (fun c1 => ?_) (fun c1 => ?_)
  · rw [decide_eq_false (show ¬ cd.toNat = 0 by omega)]
    (conv => whnf); repeat ((first | refine tk1 ?_ | refine tk2 ?_ | refine tk3 ?_ | refine tk12 (fun _ => ?_) | refine tk4 ?_ | refine tk5 ?_ | refine tk6 ?_ | refine tk7 ?_ | refine tk8 ?_ | refine tk9 ?_ | refine tk10 (fun _ _ => ?_) | refine tk11 (fun _ => ?_) | refine tk13 ?_ | refine tk14 ?_); (conv => whnf))
    exact fun w' _ => rfl
  rw [decide_eq_true (show cd.toNat = 0 by omega)]
  (conv => whnf); repeat ((first | refine tk1 ?_ | refine tk2 ?_ | refine tk3 ?_ | refine tk12 (fun _ => ?_) | refine tk4 ?_ | refine tk5 ?_ | refine tk6 ?_ | refine tk7 ?_ | refine tk8 ?_ | refine tk9 ?_ | refine tk10 (fun _ _ => ?_) | refine tk11 (fun _ => ?_) | refine tk13 ?_ | refine tk14 ?_); (conv => whnf))
  refine Cmp.cases (fun c2 => ?_) (fun c2 => ?_)
  · rw [decide_eq_true (show 1 < ps.length by omega)]
    (conv => whnf); repeat ((first | refine tk1 ?_ | refine tk2 ?_ | refine tk3 ?_ | refine tk12 (fun _ => ?_) | refine tk4 ?_ | refine tk5 ?_ | refine tk6 ?_ | refine tk7 ?_ | refine tk8 ?_ | refine tk9 ?_ | refine tk10 (fun _ _ => ?_) | refine tk11 (fun _ => ?_) | refine tk13 ?_ | refine tk14 ?_); (conv => whnf))
    exact fun w' _ => rfl
  rw [decide_eq_false (show ¬ 1 < ps.length by omega)]
  rcases ps with _ | ⟨p, _ | ⟨q, r⟩⟩
  · (conv => whnf); repeat ((first | refine tk1 ?_ | refine tk2 ?_ | refine tk3 ?_ | refine tk12 (fun _ => ?_) | refine tk4 ?_ | refine tk5 ?_ | refine tk6 ?_ | refine tk7 ?_ | refine tk8 ?_ | refine tk9 ?_ | refine tk10 (fun _ _ => ?_) | refine tk11 (fun _ => ?_) | refine tk13 ?_ | refine tk14 ?_); (conv => whnf))
    exact fun w' _ => rfl
  · (conv => whnf); repeat ((first | refine tk1 ?_ | refine tk2 ?_ | refine tk3 ?_ | refine tk12 (fun _ => ?_) | refine tk4 ?_ | refine tk5 ?_ | refine tk6 ?_ | refine tk7 ?_ | refine tk8 ?_ | refine tk9 ?_ | refine tk10 (fun _ _ => ?_) | refine tk11 (fun _ => ?_) | refine tk13 ?_ | refine tk14 ?_); (conv => whnf))
    refine IdxA.tc (xs := pcells [p]) (by simp [pcells]) (by decide) (by simp) ?_
    (conv => whnf); repeat ((first | refine tk1 ?_ | refine tk2 ?_ | refine tk3 ?_ | refine tk12 (fun _ => ?_) | refine tk4 ?_ | refine tk5 ?_ | refine tk6 ?_ | refine tk7 ?_ | refine tk8 ?_ | refine tk9 ?_ | refine tk10 (fun _ _ => ?_) | refine tk11 (fun _ => ?_) | refine tk13 ?_ | refine tk14 ?_); (conv => whnf))
    refine Ld.taF (xs := pcells [p]) (v := .bool p.f) rfl ?_
    dsimp only
    cases p.f
    · (conv => whnf); repeat ((first | refine tk1 ?_ | refine tk2 ?_ | refine tk3 ?_ | refine tk12 (fun _ => ?_) | refine tk4 ?_ | refine tk5 ?_ | refine tk6 ?_ | refine tk7 ?_ | refine tk8 ?_ | refine tk9 ?_ | refine tk10 (fun _ _ => ?_) | refine tk11 (fun _ => ?_) | refine tk13 ?_ | refine tk14 ?_); (conv => whnf))
      exact fun w' _ => rfl
    · (conv => whnf); repeat ((first | refine tk1 ?_ | refine tk2 ?_ | refine tk3 ?_ | refine tk12 (fun _ => ?_) | refine tk4 ?_ | refine tk5 ?_ | refine tk6 ?_ | refine tk7 ?_ | refine tk8 ?_ | refine tk9 ?_ | refine tk10 (fun _ _ => ?_) | refine tk11 (fun _ => ?_) | refine tk13 ?_ | refine tk14 ?_); (conv => whnf))
      exact fun w' _ => rfl
  · simp only [List.length_cons] at c2; omega
theorem linesR_take (F : List Fld) (k : Nat) (h : k < F.length) : linesR (F.take (k + 1)) = linesR (F.take k) ++ lineR F[k].1 F[k].2 := by
  unfold linesR
  rw [List.take_succ_eq_append_getElem h, List.flatMap_append]
  simp
theorem linesR_le (F : List Fld) : (linesR F).length ≤ 4 * F.length + fsum F := by
  induction F with
  | nil => simp [linesR]
  | cons a r ih =>
    have e : linesR (a :: r) = lineR a.1 a.2 ++ linesR r := rfl
    rw [e, List.length_append, List.length_cons, fsum_cons]
    simp only [lineR, List.length_append, List.length_cons, List.length_nil]
    omega
theorem linesR_take_le (F : List Fld) (k : Nat) : (linesR (F.take k)).length ≤ (linesR F).length := by
  conv => rhs; rw [← List.take_append_drop k F]
  unfold linesR
  rw [List.flatMap_append, List.length_append]
  omega
theorem write_q {c : Ctx} (hc : Ours Tryz.prog gI c) {q b : Nat} {vq : List Value} {tq : TypeId} {A : Option Addr} {cp : Nat} {l : List UInt8} {Dn : Option Addr} {dn dc : Nat} {SA : Option Addr} {sc : Nat} {ts : List (List UInt8)} {X : Hp} {K : Value → Hp → Prop} (hl : l.length + ts.flatten.length ≤ 4000000000) (ht : ts.length ≤ 1000000)
    (k : ∀ v A' cp', K v (.box b [.slice A' (l ++ ts.flatten).length cp', .slice Dn dn dc] 95 :: .row (.slice A' (l ++ ts.flatten).length cp') 5 1 (l ++ ts.flatten).length ((l ++ ts.flatten).map byteV) :: .box q vq tq :: X)) :
    CallK c false 47 [.pointer (some ⟨b, 0, none⟩), .slice SA ts.length sc] (.row (.slice SA ts.length sc) 9 1 ts.length (ts.map str) :: .box q vq tq :: .box b [.slice A l.length cp, .slice Dn dn dc] 95 :: .row (.slice A l.length cp) 5 1 l.length (l.map byteV) :: X) K :=
  CallK.into (Cv.into (by (try dsimp only); repeat' (first | with_reducible exact Cv.refl | with_reducible exact Cv.left | with_reducible exact Cv.right | with_reducible exact Cv.nil | (with_reducible apply Cv.cons; focus ((repeat (first | with_reducible exact Pick.here | with_reducible apply Pick.skip)); done)) | (apply Cv.cons; focus ((repeat (first | exact Pick.here | apply Pick.skip)); done)) | exact Cv.nil | exact Cv.refl | exact Cv.left | exact Cv.right | refine Cv.skip ?_))) (write_k hc (X := .box q vq tq :: X) hl ht k)
set_option maxHeartbeats 8000000 in
theorem head_k {c : Ctx} (hc : Ours Tryz.prog gI c) {b : Nat} {A : Option Addr} {cp : Nat} {l : List UInt8} {Dn : Option Addr} {dn dc : Nat} {X : Hp} {K : Value → Hp → Prop} (st : Int) (FA : Option Addr) (Fc : Nat) (F : List Fld) (QA : Option Addr) (Qc : Nat) (ps : List Prt) (cd : UInt8) (tag : List UInt8) (press ch cl : Bool)
    (hRF : ∀ H, RdA c H FA (fcells F)) (hRQ : ∀ H, RdA c H QA (pcells ps)) (hPQ : ∀ H w, St c H w → PrtsOk w QA ps) (hF : fsum F ≤ 1048576) (hn : ps.length ≤ 4000000) (htl : total (ps.map pure1) ≤ 4000000) (hl : l.length ≤ 1000000) (hcd : cd.toNat ≤ 2) (hst : 200 ≤ st) (hst2 : st ≤ 599)
    (k : ∀ v A' cp' L, L = l ++ headR st F (ps.map pure1) cd.toNat ch cl → K v (.box b [.slice A' L.length cp', .slice Dn dn dc] 95 :: .row (.slice A' L.length cp') 5 1 L.length (L.map byteV) :: X)) :
    CallK c false 45 [.pointer (some ⟨b, 0, none⟩), .agg ⟨[.int .i64 st, .slice FA F.length Fc, .slice QA ps.length Qc, .int .u8 cd.toNat, str tag, .bool press]⟩, .bool ch, .bool cl] (.box b [.slice A l.length cp, .slice Dn dn dc] 95 :: .row (.slice A l.length cp) 5 1 l.length (l.map byteV) :: X) K := by
  obtain ⟨P, g, w0, M, hM, hG⟩ := c
  have hc' := hc
  obtain ⟨rfl, rfl⟩ := hc
  have hll := linesR_le F
  have hFl := fsum_length F
  refine CallK.post ?_
  refine CallK.inl tys_ok Tryz.func45 rfl (by kernel_rfl) rfl rfl ?_
  (conv => whnf); repeat ((first | refine tk1 ?_ | refine tk2 ?_ | refine tk3 ?_ | refine tk12 (fun _ => ?_) | refine tk4 ?_ | refine tk5 ?_ | refine tk6 ?_ | refine tk7 ?_ | refine tk8 ?_ | refine tk9 ?_ | refine tk10 (fun _ _ => ?_) | refine tk11 (fun _ => ?_) | refine tk13 ?_ | refine tk14 ?_); (conv => whnf))
  rename_i q a5
  refine DrawS.goW [5] [(0, true), (1, true), (2, true), (3, true), (4, false), (5, false)] tys_ok mixed (by kernel_rfl) ?_
  (conv => whnf); repeat ((first | refine tk1 ?_ | refine tk2 ?_ | refine tk3 ?_ | refine tk12 (fun _ => ?_) | refine tk4 ?_ | refine tk5 ?_ | refine tk6 ?_ | refine tk7 ?_ | refine tk8 ?_ | refine tk9 ?_ | refine tk10 (fun _ _ => ?_) | refine tk11 (fun _ => ?_) | refine tk13 ?_ | refine tk14 ?_); (conv => whnf))
  refine CallQ.fn (Itoa_f st (by omega) (by omega)) ?_
  have hit := Lib.itoa_length_le st (by omega) (by omega)
  (conv => whnf); repeat ((first | refine tk1 ?_ | refine tk2 ?_ | refine tk3 ?_ | refine tk12 (fun _ => ?_) | refine tk4 ?_ | refine tk5 ?_ | refine tk6 ?_ | refine tk7 ?_ | refine tk8 ?_ | refine tk9 ?_ | refine tk10 (fun _ _ => ?_) | refine tk11 (fun _ => ?_) | refine tk13 ?_ | refine tk14 ?_); (conv => whnf))
  rename_i sb
  refine CallK.into (G := .row (.slice (some ⟨sb, 0, none⟩) 4 4) 9 1 4 ([firstR, Lib.itoa st, [32], [13, 10]].map str) :: .box b [.slice A l.length cp, .slice Dn dn dc] 95 :: .row (.slice A l.length cp) 5 1 l.length (l.map byteV) :: .box q [.pointer (some ⟨b, 0, none⟩)] 93 :: .box a5 [.int .i64 st, .slice FA F.length Fc, .slice QA ps.length Qc, .int .u8 cd.toNat, str tag, .bool press] 47 :: X) (Cv.into (by (try dsimp only); repeat' (first | with_reducible exact Cv.refl | with_reducible exact Cv.left | with_reducible exact Cv.right | with_reducible exact Cv.nil | (with_reducible apply Cv.cons; focus ((repeat (first | with_reducible exact Pick.here | with_reducible apply Pick.skip)); done)) | (apply Cv.cons; focus ((repeat (first | exact Pick.here | apply Pick.skip)); done)) | exact Cv.nil | exact Cv.refl | exact Cv.left | exact Cv.right | refine Cv.skip ?_))) ?_
  have hfl : [firstR, Lib.itoa st, [32], [13, 10]].flatten = firstR ++ Lib.itoa st ++ [32, 13, 10] := by simp
  have hfz : (firstR ++ Lib.itoa st ++ [32, 13, 10]).length ≤ 40 := by simp [firstR]; omega
  refine write_k hc' (ts := [firstR, Lib.itoa st, [32], [13, 10]]) (X := .box q [.pointer (some ⟨b, 0, none⟩)] 93 :: .box a5 [.int .i64 st, .slice FA F.length Fc, .slice QA ps.length Qc, .int .u8 cd.toNat, str tag, .bool press] 47 :: X) (by rw [hfl]; omega) (by simp) (fun _ A1 cp1 => ?_)
  rw [hfl]
  obtain ⟨l1, hl1⟩ : ∃ l1, l ++ (firstR ++ Lib.itoa st ++ [32, 13, 10]) = l1 := ⟨_, rfl⟩
  have hz1 : l1.length ≤ 1000040 := by rw [← hl1, List.length_append]; omega
  rw [hl1]
  (conv => whnf); repeat ((first | refine tk1 ?_ | refine tk2 ?_ | refine tk3 ?_ | refine tk12 (fun _ => ?_) | refine tk4 ?_ | refine tk5 ?_ | refine tk6 ?_ | refine tk7 ?_ | refine tk8 ?_ | refine tk9 ?_ | refine tk10 (fun _ _ => ?_) | refine tk11 (fun _ => ?_) | refine tk13 ?_ | refine tk14 ?_); (conv => whnf))
  refine LoopS.lpT tys_ok (fun (x : Nat × Option Addr × Nat) u => [u 0, u 1, .bool ch, .bool cl, .pointer (some ⟨q, 0, none⟩), .pointer (some ⟨a5, 0, none⟩), u 6, u 7, .func (.func 74) ⟨[]⟩ ⟨[.pointer (some ⟨q, 0, none⟩)]⟩, u 9, u 10, u 11, u 12, u 13, u 14, u 15, u 16, u 17, u 18, u 19, u 20, .slice FA F.length Fc, .int .i64 F.length, .int .i64 (x.1 : Nat), u 24, u 25, u 26, u 27, u 28, u 29, u 30, u 31, u 32, u 33, u 34, u 35, u 36, u 37, u 38, u 39, u 40, u 41, u 42, u 43, u 44, u 45, u 46, u 47, u 48, u 49, u 50, u 51, u 52, u 53, u 54, u 55, u 56, u 57, u 58, u 59, u 60, u 61, u 62, u 63, u 64, u 65, u 66, u 67, u 68, u 69, u 70])
    (fun x => .box q [.pointer (some ⟨b, 0, none⟩)] 93 :: .box b [.slice x.2.1 (l1 ++ linesR (F.take x.1)).length x.2.2, .slice Dn dn dc] 95 :: .row (.slice x.2.1 (l1 ++ linesR (F.take x.1)).length x.2.2) 5 1 (l1 ++ linesR (F.take x.1)).length ((l1 ++ linesR (F.take x.1)).map byteV) :: .box a5 [.int .i64 st, .slice FA F.length Fc, .slice QA ps.length Qc, .int .u8 cd.toNat, str tag, .bool press] 47 :: X)
    (fun x => x.1 ≤ F.length) (fun x => F.length - x.1) (0, A1, cp1) (Nat.zero_le _) rfl (by simp only [List.take_zero, linesR, List.flatMap_nil, List.append_nil]; exact Cv.into (by (try dsimp only); repeat' (first | with_reducible exact Cv.refl | with_reducible exact Cv.left | with_reducible exact Cv.right | with_reducible exact Cv.nil | (with_reducible apply Cv.cons; focus ((repeat (first | with_reducible exact Pick.here | with_reducible apply Pick.skip)); done)) | (apply Cv.cons; focus ((repeat (first | exact Pick.here | apply Pick.skip)); done)) | exact Cv.nil | exact Cv.refl | exact Cv.left | exact Cv.right | refine Cv.skip ?_))) ?_
  rintro ⟨i, A2, cp2⟩ u hi
  dsimp only at hi ⊢
  have hti := linesR_take_le F i
  have hz2 : (l1 ++ linesR (F.take i)).length ≤ 8000000 := by rw [List.length_append]; omega
  by_cases hlt : i < F.length
  · as_aux_lemma =>
    have h2 := fcells_two F i hlt
    have hm9 := List.getElem_mem hlt
    have hz := fsum_mem hm9
    have hnx := linesR_take F i hlt
    obtain ⟨n, v, hf⟩ : ∃ n v, F[i] = (n, v) := ⟨_, _, rfl⟩
    rw [hf] at h2 hz hnx
    dsimp only at hz hnx
    (conv => whnf); repeat ((first | refine tk1 ?_ | refine tk2 ?_ | refine tk3 ?_ | refine tk12 (fun _ => ?_) | refine tk4 ?_ | refine tk5 ?_ | refine tk6 ?_ | refine tk7 ?_ | refine tk8 ?_ | refine tk9 ?_ | refine tk10 (fun _ _ => ?_) | refine tk11 (fun _ => ?_) | refine tk13 ?_ | refine tk14 ?_); (conv => whnf))
    refine IdxA.tc (xs := fcells F) (by rw [fcells_length]; omega) (by omega) (by omega) ?_
    (conv => whnf); repeat ((first | refine tk1 ?_ | refine tk2 ?_ | refine tk3 ?_ | refine tk12 (fun _ => ?_) | refine tk4 ?_ | refine tk5 ?_ | refine tk6 ?_ | refine tk7 ?_ | refine tk8 ?_ | refine tk9 ?_ | refine tk10 (fun _ _ => ?_) | refine tk11 (fun _ => ?_) | refine tk13 ?_ | refine tk14 ?_); (conv => whnf))
    refine Ld.taN h2 rfl ?_
    (conv => whnf); repeat ((first | refine tk1 ?_ | refine tk2 ?_ | refine tk3 ?_ | refine tk12 (fun _ => ?_) | refine tk4 ?_ | refine tk5 ?_ | refine tk6 ?_ | refine tk7 ?_ | refine tk8 ?_ | refine tk9 ?_ | refine tk10 (fun _ _ => ?_) | refine tk11 (fun _ => ?_) | refine tk13 ?_ | refine tk14 ?_); (conv => whnf))
    refine CallK.into (G := .box q [.pointer (some ⟨b, 0, none⟩)] 93 :: .box b [.slice A2 (l1 ++ linesR (F.take i)).length cp2, .slice Dn dn dc] 95 :: .row (.slice A2 (l1 ++ linesR (F.take i)).length cp2) 5 1 (l1 ++ linesR (F.take i)).length ((l1 ++ linesR (F.take i)).map byteV) :: .box a5 [.int .i64 st, .slice FA F.length Fc, .slice QA ps.length Qc, .int .u8 cd.toNat, str tag, .bool press] 47 :: X) (Cv.into (by (try dsimp only); repeat' (first | with_reducible exact Cv.refl | with_reducible exact Cv.left | with_reducible exact Cv.right | with_reducible exact Cv.nil | (with_reducible apply Cv.cons; focus ((repeat (first | with_reducible exact Pick.here | with_reducible apply Pick.skip)); done)) | (apply Cv.cons; focus ((repeat (first | exact Pick.here | apply Pick.skip)); done)) | exact Cv.nil | exact Cv.refl | exact Cv.left | exact Cv.right | refine Cv.skip ?_))) ?_
    refine line_c hc' n v (by omega) (fun _ A3 cp3 => ?_)
    (conv => whnf); repeat ((first | refine tk1 ?_ | refine tk2 ?_ | refine tk3 ?_ | refine tk12 (fun _ => ?_) | refine tk4 ?_ | refine tk5 ?_ | refine tk6 ?_ | refine tk7 ?_ | refine tk8 ?_ | refine tk9 ?_ | refine tk10 (fun _ _ => ?_) | refine tk11 (fun _ => ?_) | refine tk13 ?_ | refine tk14 ?_); (conv => whnf))
    exact ⟨(i + 1, A3, cp3), by dsimp only; omega, rfl, by dsimp only; rw [hnx, ← List.append_assoc]; exact Cv.into (by (try dsimp only); repeat' (first | with_reducible exact Cv.refl | with_reducible exact Cv.left | with_reducible exact Cv.right | with_reducible exact Cv.nil | (with_reducible apply Cv.cons; focus ((repeat (first | with_reducible exact Pick.here | with_reducible apply Pick.skip)); done)) | (apply Cv.cons; focus ((repeat (first | exact Pick.here | apply Pick.skip)); done)) | exact Cv.nil | exact Cv.refl | exact Cv.left | exact Cv.right | refine Cv.skip ?_)), by dsimp only; omega⟩
  obtain rfl : i = F.length := by omega
  rw [List.take_length] at hz2 ⊢
  obtain ⟨l2, hl2⟩ : ∃ l2, l1 ++ linesR F = l2 := ⟨_, rfl⟩
  rw [hl2] at hz2 ⊢
  have hcn : (codNm cd.toNat).length ≤ 20 := by unfold codNm; split <;> (try split) <;> decide
  have hitl := Lib.itoa_length_le (total (ps.map pure1) : Nat) (by omega) (by omega)
  have hnm := AName_f (gI := g) cd hcd
  have e0 : l2 = l ++ (firstR ++ Lib.itoa st ++ [32, 13, 10]) ++ linesR F := by rw [← hl2, ← hl1]
  clear hi hlt hl1 hl2
  have hstr := streamed_r (gI := g) st FA F.length Fc QA Qc ps cd tag press hn
  by_cases c0 : cd.toNat = 0 <;> cases hb : bareB st <;> cases ch <;> cases hs : streamB (ps.map pure1) cd.toNat <;> cases cl
  all_goals as_aux_lemma =>
    (conv => whnf); repeat ((first | refine tk1 ?_ | refine tk2 ?_ | refine tk3 ?_ | refine tk12 (fun _ => ?_) | refine tk4 ?_ | refine tk5 ?_ | refine tk6 ?_ | refine tk7 ?_ | refine tk8 ?_ | refine tk9 ?_ | refine tk10 (fun _ _ => ?_) | refine tk11 (fun _ => ?_) | refine tk13 ?_ | refine tk14 ?_); (conv => whnf))
    try (refine CallK.fn hnm ?_)
    try ((conv => whnf); repeat ((first | refine tk1 ?_ | refine tk2 ?_ | refine tk3 ?_ | refine tk12 (fun _ => ?_) | refine tk4 ?_ | refine tk5 ?_ | refine tk6 ?_ | refine tk7 ?_ | refine tk8 ?_ | refine tk9 ?_ | refine tk10 (fun _ _ => ?_) | refine tk11 (fun _ => ?_) | refine tk13 ?_ | refine tk14 ?_); (conv => whnf)))
    try (refine line_c hc' ceN (codNm cd.toNat) (by simp [ceN]; omega) (fun _ _ _ => ?_))
    try ((conv => whnf); repeat ((first | refine tk1 ?_ | refine tk2 ?_ | refine tk3 ?_ | refine tk12 (fun _ => ?_) | refine tk4 ?_ | refine tk5 ?_ | refine tk6 ?_ | refine tk7 ?_ | refine tk8 ?_ | refine tk9 ?_ | refine tk10 (fun _ _ => ?_) | refine tk11 (fun _ => ?_) | refine tk13 ?_ | refine tk14 ?_); (conv => whnf)))
    refine CallK.fn (bare_f st) ?_
    rw [hb]
    (conv => whnf); repeat ((first | refine tk1 ?_ | refine tk2 ?_ | refine tk3 ?_ | refine tk12 (fun _ => ?_) | refine tk4 ?_ | refine tk5 ?_ | refine tk6 ?_ | refine tk7 ?_ | refine tk8 ?_ | refine tk9 ?_ | refine tk10 (fun _ _ => ?_) | refine tk11 (fun _ => ?_) | refine tk13 ?_ | refine tk14 ?_); (conv => whnf))
    try (refine line_c hc' teN chunkedN (by simp [lineR, teN, chunkedN, ceN]; omega) (fun _ _ _ => ?_))
    try ((conv => whnf); repeat ((first | refine tk1 ?_ | refine tk2 ?_ | refine tk3 ?_ | refine tk12 (fun _ => ?_) | refine tk4 ?_ | refine tk5 ?_ | refine tk6 ?_ | refine tk7 ?_ | refine tk8 ?_ | refine tk9 ?_ | refine tk10 (fun _ _ => ?_) | refine tk11 (fun _ => ?_) | refine tk13 ?_ | refine tk14 ?_); (conv => whnf)))
    try (refine CallK.fnR hstr ⟨(hRQ _).ok, trivial⟩ ?_; rw [hs])
    try ((conv => whnf); repeat ((first | refine tk1 ?_ | refine tk2 ?_ | refine tk3 ?_ | refine tk12 (fun _ => ?_) | refine tk4 ?_ | refine tk5 ?_ | refine tk6 ?_ | refine tk7 ?_ | refine tk8 ?_ | refine tk9 ?_ | refine tk10 (fun _ _ => ?_) | refine tk11 (fun _ => ?_) | refine tk13 ?_ | refine tk14 ?_); (conv => whnf)))
    try (refine CallK.fnG (G := fun v => v) (Body_f QA Qc ps hn (by omega)) (fun w hw => hPQ _ w hw) (fun _ _ _ => ?_); rw [total_bodyOf])
    try ((conv => whnf); repeat ((first | refine tk1 ?_ | refine tk2 ?_ | refine tk3 ?_ | refine tk12 (fun _ => ?_) | refine tk4 ?_ | refine tk5 ?_ | refine tk6 ?_ | refine tk7 ?_ | refine tk8 ?_ | refine tk9 ?_ | refine tk10 (fun _ _ => ?_) | refine tk11 (fun _ => ?_) | refine tk13 ?_ | refine tk14 ?_); (conv => whnf)))
    try (refine CallK.fn (Itoa_f (total (ps.map pure1) : Nat) (by omega) (by omega)) ?_)
    try ((conv => whnf); repeat ((first | refine tk1 ?_ | refine tk2 ?_ | refine tk3 ?_ | refine tk12 (fun _ => ?_) | refine tk4 ?_ | refine tk5 ?_ | refine tk6 ?_ | refine tk7 ?_ | refine tk8 ?_ | refine tk9 ?_ | refine tk10 (fun _ _ => ?_) | refine tk11 (fun _ => ?_) | refine tk13 ?_ | refine tk14 ?_); (conv => whnf)))
    try (refine CallK.into (Into.skip Into.refl) ?_; refine line_c hc' clN (Lib.itoa (total (ps.map pure1) : Nat)) (by simp [lineR, clN, ceN]; omega) (fun _ _ _ => ?_))
    try ((conv => whnf); repeat ((first | refine tk1 ?_ | refine tk2 ?_ | refine tk3 ?_ | refine tk12 (fun _ => ?_) | refine tk4 ?_ | refine tk5 ?_ | refine tk6 ?_ | refine tk7 ?_ | refine tk8 ?_ | refine tk9 ?_ | refine tk10 (fun _ _ => ?_) | refine tk11 (fun _ => ?_) | refine tk13 ?_ | refine tk14 ?_); (conv => whnf)))
    try (refine line_c hc' coN closeN (by simp [lineR, coN, closeN, clN, ceN, teN, chunkedN]; omega) (fun _ _ _ => ?_))
    try ((conv => whnf); repeat ((first | refine tk1 ?_ | refine tk2 ?_ | refine tk3 ?_ | refine tk12 (fun _ => ?_) | refine tk4 ?_ | refine tk5 ?_ | refine tk6 ?_ | refine tk7 ?_ | refine tk8 ?_ | refine tk9 ?_ | refine tk10 (fun _ _ => ?_) | refine tk11 (fun _ => ?_) | refine tk13 ?_ | refine tk14 ?_); (conv => whnf)))
    refine write_q hc' (ts := [[13, 10]]) (by simp [lineR, coN, closeN, clN, ceN, teN, chunkedN]; omega) (by simp) (fun _ _ _ => ?_)
    (conv => whnf); repeat ((first | refine tk1 ?_ | refine tk2 ?_ | refine tk3 ?_ | refine tk12 (fun _ => ?_) | refine tk4 ?_ | refine tk5 ?_ | refine tk6 ?_ | refine tk7 ?_ | refine tk8 ?_ | refine tk9 ?_ | refine tk10 (fun _ _ => ?_) | refine tk11 (fun _ => ?_) | refine tk13 ?_ | refine tk14 ?_); (conv => whnf))
    have hs' := hs
    try rw [c0] at hs'
    exact ⟨_, Cv.into (by (try dsimp only); repeat' (first | with_reducible exact Cv.refl | with_reducible exact Cv.left | with_reducible exact Cv.right | with_reducible exact Cv.nil | (with_reducible apply Cv.cons; focus ((repeat (first | with_reducible exact Pick.here | with_reducible apply Pick.skip)); done)) | (apply Cv.cons; focus ((repeat (first | exact Pick.here | apply Pick.skip)); done)) | exact Cv.nil | exact Cv.refl | exact Cv.left | exact Cv.right | refine Cv.skip ?_)), k _ _ _ _ (by rw [e0]; simp [headR, lengthR, c0, hb, hs, hs'])⟩
end Go.Proofs.YtnaeeklnlddcaaaGreatDoor.Vex
/- strconv.FormatInt to the base of 16, reckoned; what of the tables it reads. -/
namespace Go.Proofs.YtnaeeklnlddcaaaGreatDoor.Vex
open Go Go.RowKit Go.ChangeShapes
set_option maxRecDepth 100000
set_option linter.unusedSectionVars false

/-- The one entry of the table that a base of 16 reads. -/
class HasTz (g : GI) : Prop where
  ok : ∀ w, g.G w → w.cell? ⟨7, 15, none⟩ = some (.int .u8 4)
def gV : GI where
  n := max gU.n (7 + 1)
  G w := gU.G w ∧ w.cell? ⟨7, 15, none⟩ = some (.int .u8 4)
  keep w w' h := fun ⟨h1, h2⟩ => ⟨gU.keep w w' (fun k hk => h k (Nat.lt_of_lt_of_le hk (Nat.le_max_left _ _))) h1, (World.cell?_of_block (h 7 (by omega))).trans h2⟩
  size w := fun ⟨h1, h2⟩ => Nat.max_le.2 ⟨gU.size w h1, World.block_lt_of_cell? _ _ h2⟩
instance : HasMax gV := ⟨fun _ h => h.1.1.1.1⟩
instance : HasErr gV := ⟨fun _ h => h.1.1.1.2⟩
instance : HasPow gV := ⟨fun _ h => h.1.1.2⟩
instance : HasUtf gV := ⟨fun _ h => h.1.2⟩
instance : HasTz gV := ⟨fun _ h => h.2⟩
theorem tz_name : Tryz.prog.globalNamed "math/bits.deBruijn64tab" = some 7 := by kernel_rfl
def tzTab : List Int := [0, 1, 56, 2, 57, 49, 28, 3, 61, 58, 42, 50, 38, 29, 17, 4, 62, 47, 59, 36, 45, 43, 51, 22, 53, 39, 33, 30, 24, 18, 12, 5, 63, 55, 48, 27, 60, 41, 37, 16, 46, 35, 44, 21, 52, 32, 23, 11, 54, 26, 40, 15, 34, 20, 31, 10, 25, 14, 19, 9, 13, 8, 7, 6]
theorem gV_of {l : List (String × DataW Unit)} {W : World} (hL : laidMetH Tryz.prog l W) (hS : W.ShapedOpen Tryz.prog) (hp : (l.all fun x => x.2.handleName?.isNone) = true)
    (h1 : ("strconv.ErrSyntax", Rows.laid_strconv_ErrSyntax) ∈ l) (h2 : ("strconv.ErrRange", Rows.laid_strconv_ErrRange) ∈ l) (h3 : ("internal/strconv.uint64pow10", Rows.laid_internal_strconv_uint64pow10) ∈ l)
    (h4 : ("unicode/utf8.first", Rows.laid_unicode_utf8_first) ∈ l) (h5 : ("unicode/utf8.acceptRanges", Rows.laid_unicode_utf8_acceptRanges) ∈ l) (h6 : ("math/bits.deBruijn64tab", Rows.laid_math_bits_deBruijn64tab) ∈ l) : gV.G W := by
  have e6 : (Rows.laid_math_bits_deBruijn64tab : DataW Unit) = Lib.tabData .u8 tzTab := by kernel_rfl
  rw [e6] at h6
  have ht := tab_of (t := 264) (e := 5) (m := 64) (reads_of hL hp h6) tz_name (by kernel_rfl) Tryz.underlying264 Tryz.underlying5 (by kernel_rfl) (by kernel_rfl)
  exact ⟨gU_of hL hS hp h1 h2 h3 h4 h5, ht.cell tz_name 15 (by decide)⟩

section
variable {c : Ctx} {T : Ty} {H : Hp} {fr : Fr} {dst : Option Nat} {ty : TypeId} {pos : String} {after : Array Edge} {gd : Option (Nat × Bool)}
/-- An array's end, as a slice. -/
theorem OthP.slcArr {t e n : Nat} {x lo : Operand} {b : Nat} {k : IntKind} {z : Int} {K : Value → Prop} (hT : TOk c.P T) (ht : (lookT T t).d = .array n e) (he : (lookT T e).d ≠ .invalid) (hs : (lookT T e).size = 1)
    (hx : evK fr x fun v => v = .pointer (some ⟨b, 0, none⟩)) (hl : evK fr lo fun v => v = .int k z) (h0 : 0 ≤ z) (h1 : z < n) (kk : K (.slice (some ⟨b, z.toNat, none⟩) (n - z.toNat) (n - z.toNat))) :
    OthP c ⟨dst, .slice t x (some lo) none none, ty, pos, after, gd⟩ fr H K := ⟨⟨_, kk, fun w _ => by
  rw [evK_eq] at hx hl
  have hu := (lookT_ok hT (t := t) (by rw [ht]; intro h; cases h)).1
  rw [ht] at hu
  have hse := run_sizeOf (lookT_ok hT he) w
  rw [hs] at hse
  have hne : ¬ n = z.toNat := by omega
  have hle : z ≤ n := by omega
  generalize (act fr).eval = ρ at *
  simp [execOp, hx, hl, Instr.sliceAt, Instr.sliceBounds, Instr.sliceBound, asIntOf, Sem.run_bind, run_underlying hu, Instr.sureAddr, h0, hle, hse, hne, Addr.add_lit]⟩⟩
/-- A box's cells from a place on. -/
theorem RdS.boxAt {b k : Nat} {vs : List Value} {t : TypeId} {f : List Value → Hp} [h : BoxAt b H vs t f] : RdS c H (some ⟨b, k, none⟩) (vs.drop k) := fun w hw j u hj => by
  obtain ⟨H1, H2, rfl, _⟩ := h.ok
  have hg : w.heap[b]? = some (.cells ⟨vs⟩ t (0, 0)) := (hw.own (.box b vs t) (by simp)).1
  rw [List.getElem?_drop] at hj
  exact ⟨_, rfl, by rw [Addr.add_lit, cell_of_row w b (k + j) ⟨vs⟩ t _ hg]; simpa using hj⟩
end
theorem Ar.u64 {z : Int} {K : Value → Prop} (h : 0 ≤ z) (h' : z < 18446744073709551616) (k : K (.int .u64 z)) : Ar .u64 z K := ⟨z, by rw [IntKind.wrap_u64]; omega, k⟩
variable {gI : GI} [HasTz gI]
theorem Pow2_f : Fn Tryz.prog gI 201 [.int .i64 16] (.bool true) := by
  refine Fn.of tys_ok Tryz.func201 rfl (by kernel_rfl) rfl rfl ?_; intro w hG
  (conv => whnf); repeat ((first | refine tk1 ?_ | refine tk2 ?_ | refine tk3 ?_ | refine tk12 (fun _ => ?_) | refine tk4 ?_ | refine tk5 ?_ | refine tk6 ?_ | refine tk7 ?_ | refine tk8 ?_ | refine tk9 ?_ | refine tk10 (fun _ _ => ?_) | refine tk11 (fun _ => ?_) | refine tk13 ?_ | refine tk14 ?_); (conv => whnf))
  refine OthP.ints rfl rfl (v := .int .i64 0) (fun w => rfl) ?_
  (conv => whnf); repeat ((first | refine tk1 ?_ | refine tk2 ?_ | refine tk3 ?_ | refine tk12 (fun _ => ?_) | refine tk4 ?_ | refine tk5 ?_ | refine tk6 ?_ | refine tk7 ?_ | refine tk8 ?_ | refine tk9 ?_ | refine tk10 (fun _ _ => ?_) | refine tk11 (fun _ => ?_) | refine tk13 ?_ | refine tk14 ?_); (conv => whnf))
theorem Tz64_f : Fn Tryz.prog gI 212 [.int .u64 16] (.int .i64 4) := by
  refine Fn.of tys_ok Tryz.func212 rfl (by kernel_rfl) rfl rfl ?_; intro w hG
  have ht := HasTz.ok w hG
  (conv => whnf); repeat ((first | refine tk1 ?_ | refine tk2 ?_ | refine tk3 ?_ | refine tk12 (fun _ => ?_) | refine tk4 ?_ | refine tk5 ?_ | refine tk6 ?_ | refine tk7 ?_ | refine tk8 ?_ | refine tk9 ?_ | refine tk10 (fun _ _ => ?_) | refine tk11 (fun _ => ?_) | refine tk13 ?_ | refine tk14 ?_); (conv => whnf))
  refine ⟨18446744073709551600, rfl, ?_⟩
  (conv => whnf); repeat ((first | refine tk1 ?_ | refine tk2 ?_ | refine tk3 ?_ | refine tk12 (fun _ => ?_) | refine tk4 ?_ | refine tk5 ?_ | refine tk6 ?_ | refine tk7 ?_ | refine tk8 ?_ | refine tk9 ?_ | refine tk10 (fun _ _ => ?_) | refine tk11 (fun _ => ?_) | refine tk13 ?_ | refine tk14 ?_); (conv => whnf))
  refine OthP.ints rfl rfl (v := .int .u64 16) (fun w => rfl) ?_
  (conv => whnf); repeat ((first | refine tk1 ?_ | refine tk2 ?_ | refine tk3 ?_ | refine tk12 (fun _ => ?_) | refine tk4 ?_ | refine tk5 ?_ | refine tk6 ?_ | refine tk7 ?_ | refine tk8 ?_ | refine tk9 ?_ | refine tk10 (fun _ _ => ?_) | refine tk11 (fun _ => ?_) | refine tk13 ?_ | refine tk14 ?_); (conv => whnf))
  refine ⟨4573923408821661840, rfl, ?_⟩
  (conv => whnf); repeat ((first | refine tk1 ?_ | refine tk2 ?_ | refine tk3 ?_ | refine tk12 (fun _ => ?_) | refine tk4 ?_ | refine tk5 ?_ | refine tk6 ?_ | refine tk7 ?_ | refine tk8 ?_ | refine tk9 ?_ | refine tk10 (fun _ _ => ?_) | refine tk11 (fun _ => ?_) | refine tk13 ?_ | refine tk14 ?_); (conv => whnf))
  refine OthP.ints rfl rfl (v := .int .u64 15) (fun w => rfl) ?_
  (conv => whnf); repeat ((first | refine tk1 ?_ | refine tk2 ?_ | refine tk3 ?_ | refine tk12 (fun _ => ?_) | refine tk4 ?_ | refine tk5 ?_ | refine tk6 ?_ | refine tk7 ?_ | refine tk8 ?_ | refine tk9 ?_ | refine tk10 (fun _ _ => ?_) | refine tk11 (fun _ => ?_) | refine tk13 ?_ | refine tk14 ?_); (conv => whnf))
  refine OthP.idxArr (b := 7) (k := .u64) (z := 15) tys_ok rfl (fun h => nomatch h) rfl rfl rfl (by decide) (by decide) ?_
  (conv => whnf); repeat ((first | refine tk1 ?_ | refine tk2 ?_ | refine tk3 ?_ | refine tk12 (fun _ => ?_) | refine tk4 ?_ | refine tk5 ?_ | refine tk6 ?_ | refine tk7 ?_ | refine tk8 ?_ | refine tk9 ?_ | refine tk10 (fun _ _ => ?_) | refine tk11 (fun _ => ?_) | refine tk13 ?_ | refine tk14 ?_); (conv => whnf))
  refine Ld.now ht ?_
  (conv => whnf); repeat ((first | refine tk1 ?_ | refine tk2 ?_ | refine tk3 ?_ | refine tk12 (fun _ => ?_) | refine tk4 ?_ | refine tk5 ?_ | refine tk6 ?_ | refine tk7 ?_ | refine tk8 ?_ | refine tk9 ?_ | refine tk10 (fun _ _ => ?_) | refine tk11 (fun _ => ?_) | refine tk13 ?_ | refine tk14 ?_); (conv => whnf))
theorem Tz_f : Fn Tryz.prog gI 202 [.int .u64 16] (.int .i64 4) := by
  refine Fn.of tys_ok Tryz.func202 rfl (by kernel_rfl) rfl rfl ?_; intro w hG
  (conv => whnf); repeat ((first | refine tk1 ?_ | refine tk2 ?_ | refine tk3 ?_ | refine tk12 (fun _ => ?_) | refine tk4 ?_ | refine tk5 ?_ | refine tk6 ?_ | refine tk7 ?_ | refine tk8 ?_ | refine tk9 ?_ | refine tk10 (fun _ _ => ?_) | refine tk11 (fun _ => ?_) | refine tk13 ?_ | refine tk14 ?_); (conv => whnf))
  refine CallK.fn (Tz64_f (gI := gI)) ?_
  (conv => whnf); repeat ((first | refine tk1 ?_ | refine tk2 ?_ | refine tk3 ?_ | refine tk12 (fun _ => ?_) | refine tk4 ?_ | refine tk5 ?_ | refine tk6 ?_ | refine tk7 ?_ | refine tk8 ?_ | refine tk9 ?_ | refine tk10 (fun _ _ => ?_) | refine tk11 (fun _ => ?_) | refine tk13 ?_ | refine tk14 ?_); (conv => whnf))

theorem and15 (u : Nat) (h : u < 18446744073709551616) : bits .and .u64 (u : Int) 15 = ((u % 16 : Nat) : Int) := by
  have := bits_and_u64_nat u 15 h (by decide)
  rw [show ((15 : Nat) : Int) = 15 from rfl] at this
  rw [this, show (15 : Nat) = 2 ^ 4 - 1 from rfl, Nat.and_two_pow_sub_one_eq_mod]
def arrC (dg : List UInt8) : List Value := List.replicate (65 - dg.length) (.int .u8 0) ++ dg.map byteV
theorem arrC_length (dg : List UInt8) (h : dg.length ≤ 65) : (arrC dg).length = 65 := by
  unfold arrC
  rw [List.length_append, List.length_replicate, List.length_map]
  omega
theorem arrC_set (dg : List UInt8) (x : UInt8) (h : dg.length < 65) : (arrC dg).set (64 - dg.length) (.int .u8 x.toNat) = arrC (x :: dg) := by
  unfold arrC
  rw [show 65 - dg.length = (64 - dg.length) + 1 by omega, List.replicate_succ', List.append_assoc, List.set_append_right _ _ (by rw [List.length_replicate]; exact Nat.le_refl _)]
  rw [List.length_replicate, Nat.sub_self, List.length_cons, show 65 - (dg.length + 1) = 64 - dg.length by omega]
  rfl
theorem arrC_drop (dg : List UInt8) : (arrC dg).drop (65 - dg.length) = dg.map byteV := by
  unfold arrC
  rw [List.drop_append_of_le_length (by rw [List.length_replicate]; exact Nat.le_refl _), List.drop_of_length_le (by rw [List.length_replicate]; exact Nat.le_refl _), List.nil_append]
def digL : List UInt8 := [48, 49, 50, 51, 52, 53, 54, 55, 56, 57, 97, 98, 99, 100, 101, 102, 103, 104, 105, 106, 107, 108, 109, 110, 111, 112, 113, 114, 115, 116, 117, 118, 119, 120, 121, 122]
theorem digL_at : ∀ k : Nat, k < 16 → digL[k]? = some (hxD k) := by decide +kernel
structure FB where
  f : Nat
  u : Nat
  dg : List UInt8
set_option maxHeartbeats 4000000 in
theorem formatBits_f (n : Nat) (hn : n < 18446744073709551616) : FnE Tryz.prog gI 173 [.slice none 0 0, .int .u64 n, .int .i64 16, .bool false, .bool false] (fun _ => True) fun _ v _ => v = .tuple #[.slice none 0 0, str (hxS n)] := by
  refine FnE.of tys_ok Tryz.func173 rfl (by kernel_rfl) rfl rfl ?_; intro w hG hP
  (conv => whnf); repeat ((first | refine tk1 ?_ | refine tk2 ?_ | refine tk3 ?_ | refine tk12 (fun _ => ?_) | refine tk4 ?_ | refine tk5 ?_ | refine tk6 ?_ | refine tk7 ?_ | refine tk8 ?_ | refine tk9 ?_ | refine tk10 (fun _ _ => ?_) | refine tk11 (fun _ => ?_) | refine tk13 ?_ | refine tk14 ?_); (conv => whnf))
  rename_i b
  refine CallK.fn (Pow2_f (gI := gI)) ?_
  (conv => whnf); repeat ((first | refine tk1 ?_ | refine tk2 ?_ | refine tk3 ?_ | refine tk12 (fun _ => ?_) | refine tk4 ?_ | refine tk5 ?_ | refine tk6 ?_ | refine tk7 ?_ | refine tk8 ?_ | refine tk9 ?_ | refine tk10 (fun _ _ => ?_) | refine tk11 (fun _ => ?_) | refine tk13 ?_ | refine tk14 ?_); (conv => whnf))
  refine Ar.u64 (by decide) (by decide) ?_
  (conv => whnf); repeat ((first | refine tk1 ?_ | refine tk2 ?_ | refine tk3 ?_ | refine tk12 (fun _ => ?_) | refine tk4 ?_ | refine tk5 ?_ | refine tk6 ?_ | refine tk7 ?_ | refine tk8 ?_ | refine tk9 ?_ | refine tk10 (fun _ _ => ?_) | refine tk11 (fun _ => ?_) | refine tk13 ?_ | refine tk14 ?_); (conv => whnf))
  refine CallK.fn (Tz_f (gI := gI)) ?_
  (conv => whnf); repeat ((first | refine tk1 ?_ | refine tk2 ?_ | refine tk3 ?_ | refine tk12 (fun _ => ?_) | refine tk4 ?_ | refine tk5 ?_ | refine tk6 ?_ | refine tk7 ?_ | refine tk8 ?_ | refine tk9 ?_ | refine tk10 (fun _ _ => ?_) | refine tk11 (fun _ => ?_) | refine tk13 ?_ | refine tk14 ?_); (conv => whnf))
  refine Ar.u64 (by decide) (by decide) ?_
  (conv => whnf); repeat ((first | refine tk1 ?_ | refine tk2 ?_ | refine tk3 ?_ | refine tk12 (fun _ => ?_) | refine tk4 ?_ | refine tk5 ?_ | refine tk6 ?_ | refine tk7 ?_ | refine tk8 ?_ | refine tk9 ?_ | refine tk10 (fun _ _ => ?_) | refine tk11 (fun _ => ?_) | refine tk13 ?_ | refine tk14 ?_); (conv => whnf))
  refine Ar.u64 (by decide) (by decide) ?_
  (conv => whnf); repeat ((first | refine tk1 ?_ | refine tk2 ?_ | refine tk3 ?_ | refine tk12 (fun _ => ?_) | refine tk4 ?_ | refine tk5 ?_ | refine tk6 ?_ | refine tk7 ?_ | refine tk8 ?_ | refine tk9 ?_ | refine tk10 (fun _ _ => ?_) | refine tk11 (fun _ => ?_) | refine tk13 ?_ | refine tk14 ?_); (conv => whnf))
  refine Ar.u64 (by decide) (by decide) ?_
  (conv => whnf); repeat ((first | refine tk1 ?_ | refine tk2 ?_ | refine tk3 ?_ | refine tk12 (fun _ => ?_) | refine tk4 ?_ | refine tk5 ?_ | refine tk6 ?_ | refine tk7 ?_ | refine tk8 ?_ | refine tk9 ?_ | refine tk10 (fun _ _ => ?_) | refine tk11 (fun _ => ?_) | refine tk13 ?_ | refine tk14 ?_); (conv => whnf))
  refine Ar.u64 (by decide) (by decide) ?_
  (conv => whnf); repeat ((first | refine tk1 ?_ | refine tk2 ?_ | refine tk3 ?_ | refine tk12 (fun _ => ?_) | refine tk4 ?_ | refine tk5 ?_ | refine tk6 ?_ | refine tk7 ?_ | refine tk8 ?_ | refine tk9 ?_ | refine tk10 (fun _ _ => ?_) | refine tk11 (fun _ => ?_) | refine tk13 ?_ | refine tk14 ?_); (conv => whnf))
  refine LoopS.lp tys_ok (fun (x : FB) u => [.slice none 0 0, .int .u64 (x.u : Nat), u 2, .bool false, .bool false, u 5, u 6, u 7, u 8, u 9, .slice none 0 0, str [], .pointer (some ⟨b, 0, none⟩), .int .i64 (65 - (x.dg.length : Int)), .int .u64 4, .int .u64 16, .int .u64 15, u 17, u 18, u 19, u 20, u 21, u 22, u 23, u 24, u 25, u 26, u 27, u 28, u 29, u 30, u 31, u 32, u 33, u 34, u 35, u 36, u 37, u 38, u 39, u 40, u 41, u 42, u 43, u 44, u 45, u 46, u 47, u 48, u 49, u 50, u 51, u 52, u 53, u 54, u 55, u 56, u 57, u 58, u 59, u 60, u 61, u 62, u 63, u 64, u 65, u 66, u 67, u 68, u 69, u 70, u 71, u 72, u 73, u 74, u 75, u 76, u 77, u 78, u 79, u 80, u 81, u 82, u 83, u 84, u 85, u 86, u 87, u 88, u 89, u 90, u 91, u 92, u 93, u 94, u 95, u 96, u 97, u 98, u 99, u 100, u 101])
    (fun x => [.box b (arrC x.dg) 251])
    (fun x => x.u < 16 ^ (x.f + 1) ∧ hxF 16 n = hxF x.f x.u ++ x.dg ∧ x.f + x.dg.length = 16 ∧ x.u < 18446744073709551616) (fun x => x.u) ⟨16, n, []⟩ ⟨by dsimp only; omega, by rw [List.append_nil], rfl, hn⟩ rfl (by repeat' (first | exact List.Sublist.refl _ | exact List.nil_sublist _ | apply List.Sublist.cons_cons | apply List.Sublist.cons)) ?_
  rintro ⟨f, u, dg⟩ uu ⟨h1, h2, h3, h4⟩
  dsimp only at h1 h2 h3 h4 ⊢
  have hset := arrC_set dg (hxD (u % 16)) (by omega)
  have hlen := arrC_length dg (by omega)
  (conv => whnf); repeat ((first | refine tk1 ?_ | refine tk2 ?_ | refine tk3 ?_ | refine tk12 (fun _ => ?_) | refine tk4 ?_ | refine tk5 ?_ | refine tk6 ?_ | refine tk7 ?_ | refine tk8 ?_ | refine tk9 ?_ | refine tk10 (fun _ _ => ?_) | refine tk11 (fun _ => ?_) | refine tk13 ?_ | refine tk14 ?_); (conv => whnf))
  refine Cmp.cases (fun c1 => ?_) (fun c1 => ?_)
  · obtain ⟨f, rfl⟩ : ∃ g, f = g + 1 := ⟨f - 1, by rcases f with _ | f; (exfalso; simp at h1; omega); omega⟩
    have hpow : u / 16 < 16 ^ (f + 1) := by rw [Nat.pow_succ] at h1; omega
    have hstep : hxF (f + 1) u = hxF f (u / 16) ++ [hxD (u % 16)] := by rw [hxF, if_neg (by omega)]
    have hand := and15 u h4
    have hdv : ((u : Nat) : Int).fdiv 16 = ((u / 16 : Nat) : Int) := by rw [Int.fdiv_eq_ediv_of_nonneg _ (by decide)]; omega
    (conv => whnf); repeat ((first | refine tk1 ?_ | refine tk2 ?_ | refine tk3 ?_ | refine tk12 (fun _ => ?_) | refine tk4 ?_ | refine tk5 ?_ | refine tk6 ?_ | refine tk7 ?_ | refine tk8 ?_ | refine tk9 ?_ | refine tk10 (fun _ _ => ?_) | refine tk11 (fun _ => ?_) | refine tk13 ?_ | refine tk14 ?_); (conv => whnf))
    refine OthP.ints rfl rfl (v := .int .u64 ((u % 16 : Nat) : Int)) (fun w => by show Result.ok (Value.int .u64 (bits .and .u64 (u : Int) 15)) w = _; rw [hand]) ?_
    (conv => whnf); repeat ((first | refine tk1 ?_ | refine tk2 ?_ | refine tk3 ?_ | refine tk12 (fun _ => ?_) | refine tk4 ?_ | refine tk5 ?_ | refine tk6 ?_ | refine tk7 ?_ | refine tk8 ?_ | refine tk9 ?_ | refine tk10 (fun _ _ => ?_) | refine tk11 (fun _ => ?_) | refine tk13 ?_ | refine tk14 ?_); (conv => whnf))
    refine IdxS.at (hxD (u % 16)) (digL_at (u % 16) (Nat.mod_lt _ (by decide))) (by omega) ?_
    (conv => whnf); repeat ((first | refine tk1 ?_ | refine tk2 ?_ | refine tk3 ?_ | refine tk12 (fun _ => ?_) | refine tk4 ?_ | refine tk5 ?_ | refine tk6 ?_ | refine tk7 ?_ | refine tk8 ?_ | refine tk9 ?_ | refine tk10 (fun _ _ => ?_) | refine tk11 (fun _ => ?_) | refine tk13 ?_ | refine tk14 ?_); (conv => whnf))
    refine OthP.idxArr (b := b) (k := .i64) (z := 65 - (dg.length : Int) - 1) tys_ok rfl (fun h => nomatch h) rfl rfl rfl (by omega) (by omega) ?_
    (conv => whnf); repeat ((first | refine tk1 ?_ | refine tk2 ?_ | refine tk3 ?_ | refine tk12 (fun _ => ?_) | refine tk4 ?_ | refine tk5 ?_ | refine tk6 ?_ | refine tk7 ?_ | refine tk8 ?_ | refine tk9 ?_ | refine tk10 (fun _ _ => ?_) | refine tk11 (fun _ => ?_) | refine tk13 ?_ | refine tk14 ?_); (conv => whnf))
    refine Sto.tc (vs' := arrC (hxD (u % 16) :: dg)) (by rw [show (65 - (dg.length : Int) - 1).toNat = 64 - dg.length by omega]; exact hset) (by rw [hlen]; omega) rfl ?_
    (conv => whnf); repeat ((first | refine tk1 ?_ | refine tk2 ?_ | refine tk3 ?_ | refine tk12 (fun _ => ?_) | refine tk4 ?_ | refine tk5 ?_ | refine tk6 ?_ | refine tk7 ?_ | refine tk8 ?_ | refine tk9 ?_ | refine tk10 (fun _ _ => ?_) | refine tk11 (fun _ => ?_) | refine tk13 ?_ | refine tk14 ?_); (conv => whnf))
    refine OthP.ints rfl rfl (v := .int .u64 (((u : Nat) : Int).fdiv 16)) (fun w => rfl) ?_
    rw [hdv]
    (conv => whnf); repeat ((first | refine tk1 ?_ | refine tk2 ?_ | refine tk3 ?_ | refine tk12 (fun _ => ?_) | refine tk4 ?_ | refine tk5 ?_ | refine tk6 ?_ | refine tk7 ?_ | refine tk8 ?_ | refine tk9 ?_ | refine tk10 (fun _ _ => ?_) | refine tk11 (fun _ => ?_) | refine tk13 ?_ | refine tk14 ?_); (conv => whnf))
    exact ⟨⟨f, u / 16, hxD (u % 16) :: dg⟩, ⟨hpow, by rw [h2, hstep, List.append_assoc]; rfl, by dsimp only; rw [List.length_cons]; omega, by dsimp only; omega⟩, by dsimp only; rw [show (65 : Int) - ((hxD (u % 16) :: dg).length : Int) = 65 - (dg.length : Int) - 1 by rw [List.length_cons]; omega]; rfl, (by repeat' (first | exact List.Sublist.refl _ | exact List.nil_sublist _ | apply List.Sublist.cons_cons | apply List.Sublist.cons)), by dsimp only; omega⟩
  · have hu : u < 16 := by omega
    have hlast : hxF f u = [hxD u] := by
      cases f with
      | zero => rw [hxF, Nat.mod_eq_of_lt hu]
      | succ f => rw [hxF, if_pos hu]
    have hset := arrC_set dg (hxD u) (by omega)
    have hfin : hxS n = hxD u :: dg := by unfold hxS; rw [h2, hlast]; rfl
    (conv => whnf); repeat ((first | refine tk1 ?_ | refine tk2 ?_ | refine tk3 ?_ | refine tk12 (fun _ => ?_) | refine tk4 ?_ | refine tk5 ?_ | refine tk6 ?_ | refine tk7 ?_ | refine tk8 ?_ | refine tk9 ?_ | refine tk10 (fun _ _ => ?_) | refine tk11 (fun _ => ?_) | refine tk13 ?_ | refine tk14 ?_); (conv => whnf))
    refine IdxS.at (hxD u) (digL_at u hu) (by omega) ?_
    (conv => whnf); repeat ((first | refine tk1 ?_ | refine tk2 ?_ | refine tk3 ?_ | refine tk12 (fun _ => ?_) | refine tk4 ?_ | refine tk5 ?_ | refine tk6 ?_ | refine tk7 ?_ | refine tk8 ?_ | refine tk9 ?_ | refine tk10 (fun _ _ => ?_) | refine tk11 (fun _ => ?_) | refine tk13 ?_ | refine tk14 ?_); (conv => whnf))
    refine OthP.idxArr (b := b) (k := .i64) (z := 65 - (dg.length : Int) - 1) tys_ok rfl (fun h => nomatch h) rfl rfl rfl (by omega) (by omega) ?_
    (conv => whnf); repeat ((first | refine tk1 ?_ | refine tk2 ?_ | refine tk3 ?_ | refine tk12 (fun _ => ?_) | refine tk4 ?_ | refine tk5 ?_ | refine tk6 ?_ | refine tk7 ?_ | refine tk8 ?_ | refine tk9 ?_ | refine tk10 (fun _ _ => ?_) | refine tk11 (fun _ => ?_) | refine tk13 ?_ | refine tk14 ?_); (conv => whnf))
    refine Sto.tc (vs' := arrC (hxD u :: dg)) (by rw [show (65 - (dg.length : Int) - 1).toNat = 64 - dg.length by omega]; exact hset) (by rw [hlen]; omega) rfl ?_
    (conv => whnf); repeat ((first | refine tk1 ?_ | refine tk2 ?_ | refine tk3 ?_ | refine tk12 (fun _ => ?_) | refine tk4 ?_ | refine tk5 ?_ | refine tk6 ?_ | refine tk7 ?_ | refine tk8 ?_ | refine tk9 ?_ | refine tk10 (fun _ _ => ?_) | refine tk11 (fun _ => ?_) | refine tk13 ?_ | refine tk14 ?_); (conv => whnf))
    refine OthP.slcArr (b := b) (k := .i64) (z := 65 - (dg.length : Int) - 1) tys_ok rfl (fun h => nomatch h) rfl rfl rfl (by omega) (by omega) ?_
    (conv => whnf); repeat ((first | refine tk1 ?_ | refine tk2 ?_ | refine tk3 ?_ | refine tk12 (fun _ => ?_) | refine tk4 ?_ | refine tk5 ?_ | refine tk6 ?_ | refine tk7 ?_ | refine tk8 ?_ | refine tk9 ?_ | refine tk10 (fun _ _ => ?_) | refine tk11 (fun _ => ?_) | refine tk13 ?_ | refine tk14 ?_); (conv => whnf))
    refine B2S.rd (l := hxD u :: dg) ?_ (by rw [List.length_cons]; omega) ?_
    · have hd := arrC_drop (hxD u :: dg)
      rw [← hd, show (65 - (dg.length : Int) - 1).toNat = 65 - (hxD u :: dg).length by rw [List.length_cons]; omega]
      exact RdS.boxAt
    rw [hfin]
    (conv => whnf); repeat ((first | refine tk1 ?_ | refine tk2 ?_ | refine tk3 ?_ | refine tk12 (fun _ => ?_) | refine tk4 ?_ | refine tk5 ?_ | refine tk6 ?_ | refine tk7 ?_ | refine tk8 ?_ | refine tk9 ?_ | refine tk10 (fun _ _ => ?_) | refine tk11 (fun _ => ?_) | refine tk13 ?_ | refine tk14 ?_); (conv => whnf))
    exact fun w' _ => rfl
theorem FormatInt_f (n : Nat) (hn : n < 9223372036854775808) : Fn Tryz.prog gI 120 [.int .i64 n, .int .i64 16] (str (hxS n)) := by
  have hf := formatBits_f (gI := gI) n (by omega)
  have h2 : FnE Tryz.prog gI 127 [.int .i64 n, .int .i64 16] (fun _ => True) fun _ v _ => v = str (hxS n) := by
    refine FnE.of tys_ok Tryz.func127 rfl (by kernel_rfl) rfl rfl ?_; intro w hG hP
    (conv => whnf); repeat ((first | refine tk1 ?_ | refine tk2 ?_ | refine tk3 ?_ | refine tk12 (fun _ => ?_) | refine tk4 ?_ | refine tk5 ?_ | refine tk6 ?_ | refine tk7 ?_ | refine tk8 ?_ | refine tk9 ?_ | refine tk10 (fun _ _ => ?_) | refine tk11 (fun _ => ?_) | refine tk13 ?_ | refine tk14 ?_); (conv => whnf))
    refine Ar.u64 (by omega) (by omega) ?_
    (conv => whnf); repeat ((first | refine tk1 ?_ | refine tk2 ?_ | refine tk3 ?_ | refine tk12 (fun _ => ?_) | refine tk4 ?_ | refine tk5 ?_ | refine tk6 ?_ | refine tk7 ?_ | refine tk8 ?_ | refine tk9 ?_ | refine tk10 (fun _ _ => ?_) | refine tk11 (fun _ => ?_) | refine tk13 ?_ | refine tk14 ?_); (conv => whnf))
    refine CallK.fnEV hf (fun _ _ => trivial) ?_
    (conv => whnf); repeat ((first | refine tk1 ?_ | refine tk2 ?_ | refine tk3 ?_ | refine tk12 (fun _ => ?_) | refine tk4 ?_ | refine tk5 ?_ | refine tk6 ?_ | refine tk7 ?_ | refine tk8 ?_ | refine tk9 ?_ | refine tk10 (fun _ _ => ?_) | refine tk11 (fun _ => ?_) | refine tk13 ?_ | refine tk14 ?_); (conv => whnf))
    exact fun w' _ => rfl
  refine Fn.of tys_ok Tryz.func120 rfl (by kernel_rfl) rfl rfl ?_; intro w hG
  (conv => whnf); repeat ((first | refine tk1 ?_ | refine tk2 ?_ | refine tk3 ?_ | refine tk12 (fun _ => ?_) | refine tk4 ?_ | refine tk5 ?_ | refine tk6 ?_ | refine tk7 ?_ | refine tk8 ?_ | refine tk9 ?_ | refine tk10 (fun _ _ => ?_) | refine tk11 (fun _ => ?_) | refine tk13 ?_ | refine tk14 ?_); (conv => whnf))
  refine CallK.fnEV h2 (fun _ _ => trivial) ?_
  (conv => whnf); repeat ((first | refine tk1 ?_ | refine tk2 ?_ | refine tk3 ?_ | refine tk12 (fun _ => ?_) | refine tk4 ?_ | refine tk5 ?_ | refine tk6 ?_ | refine tk7 ?_ | refine tk8 ?_ | refine tk9 ?_ | refine tk10 (fun _ _ => ?_) | refine tk11 (fun _ => ?_) | refine tk13 ?_ | refine tk14 ?_); (conv => whnf))
end Go.Proofs.YtnaeeklnlddcaaaGreatDoor.Vex
/- slices.Concat of three, chunk.Wrap, chunk.Last, reckoned. -/
namespace Go.Proofs.YtnaeeklnlddcaaaGreatDoor.Vex
open Go Go.RowKit Go.ChangeShapes
set_option maxRecDepth 100000
set_option linter.unusedSectionVars false

def growRen : Go.Shelf.Ren := ⟨fun | 4 => 160 | n => n, fun | 0 => 0 | 3 => 3 | 4 => 4 | 9 => 9 | 20 => 20 | 22 => 51 | 25 => 5 | n => n, fun n => n⟩
theorem growLays : Go.Proofs.Lays8.n4 Tryz.prog growRen := {
  mixed := by kernel_rfl
  f4 := ⟨"slices.Grow[[]byte,byte]", by decide, Tryz.func160.trans (congrArg some (by kernel_rfl))⟩
  t0 := Tryz.underlying0
  a0 := Tryz.isAgg0
  z0 := Tryz.sizeOf0
  v0 := Tryz.zeroValue0
  t3 := Tryz.underlying3
  a3 := Tryz.isAgg3
  z3 := Tryz.sizeOf3
  v3 := Tryz.zeroValue3
  t4 := Tryz.underlying4
  a4 := Tryz.isAgg4
  z4 := Tryz.sizeOf4
  v4 := Tryz.zeroValue4
  t9 := Tryz.underlying9
  a9 := Tryz.isAgg9
  z9 := Tryz.sizeOf9
  v9 := Tryz.zeroValue9
  t20 := Tryz.underlying20
  a20 := Tryz.isAgg20
  z20 := Tryz.sizeOf20
  v20 := Tryz.zeroValue20
  t22 := Tryz.underlying51
  a22 := Tryz.isAgg51
  z22 := Tryz.sizeOf51
  v22 := Tryz.zeroValue51 }
theorem u8Info : ∃ i, Tryz.prog.info? 5 = some i ∧ i.zero = some (.int .u8 0) ∧ i.size = 1 ∧ i.bytes = 1 := by
  have h : (Tryz.prog.info? 5).map (fun i => (i.zero, i.size, i.bytes)) = some (some (Value.int .u8 0), 1, 1) := by kernel_rfl
  cases hi : Tryz.prog.info? 5 with
  | none => rw [hi] at h; cases h
  | some i =>
    rw [hi] at h
    simp only [Option.map_some, Option.some.injEq, Prod.mk.injEq] at h
    exact ⟨i, rfl, h.1, h.2.1, h.2.2⟩
variable {gI : GI}
/-- A nil slice, with room for some bytes. -/
theorem Grow_f (n : Nat) (h1 : 1 ≤ n) (h : n ≤ 1000000000) : FnS Tryz.prog gI 160 [.slice none 0 0, .int .i64 n] [] 5 1 0 [] :=
  ⟨callable Tryz.func160 rfl (by kernel_rfl), fun w hG _ => by
    obtain ⟨i0, hi, hz, hs, hb⟩ := u8Info
    refine (Any8.slices_Grow_grow growLays i0 (.int .u8 0) hi hz (by omega) none 0 0 n [] w (Nat.le_refl _) (by omega) (by rw [hb]; omega) (by omega) (by simp) (fun _ => rfl) (fun a ha => by cases ha)).mono fun e w' ⟨he, hw⟩ => ⟨_, he, ?_, ?_⟩
    · subst hw
      obtain ⟨G, hGe⟩ : ∃ G, grownCap w (0 + n) 0 (growRen.t 25) = G := ⟨_, rfl⟩
      have hg1 : n ≤ G := by have := grownCap_ge w (0 + n) 0 (growRen.t 25); omega
      have hg2 : G ≤ maxLen := by rw [← hGe]; exact grownCap_le_maxLen w (0 + n) 0 _ (by unfold maxLen; omega)
      rw [hGe]
      refine ⟨⟨rfl, .inr ⟨w.heap.size, G, _, (0, 0), rfl, heap_alloc_new w.drew _, Nat.zero_le _, hg2, ?_, ?_, .inl (Nat.le_refl _)⟩⟩, fun b hb => ?_⟩
      · simp only [Array.size_append, size_zeroCells, List.size_toArray, List.length_nil]
        show 0 + (0 + n - 0) * 1 + (G - (0 + n)) * 1 = G * 1
        omega
      · simp
      · cases hb
        exact ⟨Nat.le_refl _, by rw [World.size_alloc]; exact Nat.lt_succ_self _⟩
    · subst hw
      exact (R.drew w).alloc (Nat.le_refl _) _⟩
structure CPt where
  A : Option Addr
  cp : Nat
  l : List UInt8
def CPt.v (x : CPt) : Value := .slice x.A x.l.length x.cp
def sumC (a b c : CPt) : Nat → Int | 0 => 0 | 1 => 0 + a.l.length | 2 => 0 + a.l.length + b.l.length | _ => 0 + a.l.length + b.l.length + c.l.length
def catC (a b c : CPt) : Nat → List UInt8 | 0 => [] | 1 => a.l | 2 => a.l ++ b.l | _ => a.l ++ b.l ++ c.l
set_option maxHeartbeats 4000000 in
theorem Concat3_f (P : Option Addr) (pc : Nat) (a b c : CPt) (h1 : 1 ≤ a.l.length) (h : a.l.length + b.l.length + c.l.length ≤ 1000000000) :
    FnS Tryz.prog gI 121 [.slice P 3 pc] [(P, [a.v, b.v, c.v]), (a.A, a.l.map byteV), (b.A, b.l.map byteV), (c.A, c.l.map byteV)] 5 1 (a.l ++ b.l ++ c.l).length ((a.l ++ b.l ++ c.l).map byteV) := by
  have hg := Grow_f (gI := gI) (a.l.length + b.l.length + c.l.length) (by omega) h
  refine FnE.of tys_ok Tryz.func121 rfl (by kernel_rfl) rfl rfl ?_; intro w hG hP
  have hR : ∀ H, RdA (mkC Tryz.prog gI w hG) H P [a.v, b.v, c.v] := fun H => ⟨hP.1.now⟩
  have hA : ∀ H, RdA (mkC Tryz.prog gI w hG) H a.A (a.l.map byteV) := fun H => ⟨hP.2.1.now⟩
  have hB : ∀ H, RdA (mkC Tryz.prog gI w hG) H b.A (b.l.map byteV) := fun H => ⟨hP.2.2.1.now⟩
  have hC : ∀ H, RdA (mkC Tryz.prog gI w hG) H c.A (c.l.map byteV) := fun H => ⟨hP.2.2.2.1.now⟩
  clear hP
  (conv => whnf); repeat ((first | refine tk1 ?_ | refine tk2 ?_ | refine tk3 ?_ | refine tk12 (fun _ => ?_) | refine tk4 ?_ | refine tk5 ?_ | refine tk6 ?_ | refine tk7 ?_ | refine tk8 ?_ | refine tk9 ?_ | refine tk10 (fun _ _ => ?_) | refine tk11 (fun _ => ?_) | refine tk13 ?_ | refine tk14 ?_); (conv => whnf))
  refine LoopS.lp tys_ok (fun (k : Nat) u => [.slice P 3 pc, u 1, u 2, .int .i64 (sumC a b c k), u 4, u 5, u 6, u 7, u 8, .slice P 3 pc, .int .i64 3, .int .i64 (k : Nat), u 12, u 13, u 14, u 15, u 16, u 17, u 18, u 19, u 20, u 21, u 22, u 23, u 24, u 25, u 26, u 27, u 28, u 29, u 30, u 31, u 32, u 33, u 34, u 35]) (fun _ => []) (fun k => k ≤ 3) (fun k => 3 - k) 0 (by decide) rfl (by repeat' (first | exact List.Sublist.refl _ | exact List.nil_sublist _ | apply List.Sublist.cons_cons | apply List.Sublist.cons)) ?_
  intro k u hk
  have hk4 : k = 0 ∨ k = 1 ∨ k = 2 ∨ k = 3 := by omega
  rcases hk4 with rfl | rfl | rfl | rfl <;> dsimp only [sumC]
  · (conv => whnf); repeat ((first | refine tk1 ?_ | refine tk2 ?_ | refine tk3 ?_ | refine tk12 (fun _ => ?_) | refine tk4 ?_ | refine tk5 ?_ | refine tk6 ?_ | refine tk7 ?_ | refine tk8 ?_ | refine tk9 ?_ | refine tk10 (fun _ _ => ?_) | refine tk11 (fun _ => ?_) | refine tk13 ?_ | refine tk14 ?_); (conv => whnf))
    refine IdxA.tc (xs := [a.v, b.v, c.v]) (by simp) (by decide) (by decide) ?_
    (conv => whnf); repeat ((first | refine tk1 ?_ | refine tk2 ?_ | refine tk3 ?_ | refine tk12 (fun _ => ?_) | refine tk4 ?_ | refine tk5 ?_ | refine tk6 ?_ | refine tk7 ?_ | refine tk8 ?_ | refine tk9 ?_ | refine tk10 (fun _ _ => ?_) | refine tk11 (fun _ => ?_) | refine tk13 ?_ | refine tk14 ?_); (conv => whnf))
    refine Ld.ta (xs := [a.v, b.v, c.v]) (v := a.v) rfl ?_
    unfold CPt.v
    (conv => whnf); repeat ((first | refine tk1 ?_ | refine tk2 ?_ | refine tk3 ?_ | refine tk12 (fun _ => ?_) | refine tk4 ?_ | refine tk5 ?_ | refine tk6 ?_ | refine tk7 ?_ | refine tk8 ?_ | refine tk9 ?_ | refine tk10 (fun _ _ => ?_) | refine tk11 (fun _ => ?_) | refine tk13 ?_ | refine tk14 ?_); (conv => whnf))
    exact ⟨1, by decide, rfl, (by repeat' (first | exact List.Sublist.refl _ | exact List.nil_sublist _ | apply List.Sublist.cons_cons | apply List.Sublist.cons)), by decide⟩
  · (conv => whnf); repeat ((first | refine tk1 ?_ | refine tk2 ?_ | refine tk3 ?_ | refine tk12 (fun _ => ?_) | refine tk4 ?_ | refine tk5 ?_ | refine tk6 ?_ | refine tk7 ?_ | refine tk8 ?_ | refine tk9 ?_ | refine tk10 (fun _ _ => ?_) | refine tk11 (fun _ => ?_) | refine tk13 ?_ | refine tk14 ?_); (conv => whnf))
    refine IdxA.tc (xs := [a.v, b.v, c.v]) (by simp) (by decide) (by decide) ?_
    (conv => whnf); repeat ((first | refine tk1 ?_ | refine tk2 ?_ | refine tk3 ?_ | refine tk12 (fun _ => ?_) | refine tk4 ?_ | refine tk5 ?_ | refine tk6 ?_ | refine tk7 ?_ | refine tk8 ?_ | refine tk9 ?_ | refine tk10 (fun _ _ => ?_) | refine tk11 (fun _ => ?_) | refine tk13 ?_ | refine tk14 ?_); (conv => whnf))
    refine Ld.ta (xs := [a.v, b.v, c.v]) (v := b.v) rfl ?_
    unfold CPt.v
    (conv => whnf); repeat ((first | refine tk1 ?_ | refine tk2 ?_ | refine tk3 ?_ | refine tk12 (fun _ => ?_) | refine tk4 ?_ | refine tk5 ?_ | refine tk6 ?_ | refine tk7 ?_ | refine tk8 ?_ | refine tk9 ?_ | refine tk10 (fun _ _ => ?_) | refine tk11 (fun _ => ?_) | refine tk13 ?_ | refine tk14 ?_); (conv => whnf))
    exact ⟨2, by decide, rfl, (by repeat' (first | exact List.Sublist.refl _ | exact List.nil_sublist _ | apply List.Sublist.cons_cons | apply List.Sublist.cons)), by decide⟩
  · (conv => whnf); repeat ((first | refine tk1 ?_ | refine tk2 ?_ | refine tk3 ?_ | refine tk12 (fun _ => ?_) | refine tk4 ?_ | refine tk5 ?_ | refine tk6 ?_ | refine tk7 ?_ | refine tk8 ?_ | refine tk9 ?_ | refine tk10 (fun _ _ => ?_) | refine tk11 (fun _ => ?_) | refine tk13 ?_ | refine tk14 ?_); (conv => whnf))
    refine IdxA.tc (xs := [a.v, b.v, c.v]) (by simp) (by decide) (by decide) ?_
    (conv => whnf); repeat ((first | refine tk1 ?_ | refine tk2 ?_ | refine tk3 ?_ | refine tk12 (fun _ => ?_) | refine tk4 ?_ | refine tk5 ?_ | refine tk6 ?_ | refine tk7 ?_ | refine tk8 ?_ | refine tk9 ?_ | refine tk10 (fun _ _ => ?_) | refine tk11 (fun _ => ?_) | refine tk13 ?_ | refine tk14 ?_); (conv => whnf))
    refine Ld.ta (xs := [a.v, b.v, c.v]) (v := c.v) rfl ?_
    unfold CPt.v
    (conv => whnf); repeat ((first | refine tk1 ?_ | refine tk2 ?_ | refine tk3 ?_ | refine tk12 (fun _ => ?_) | refine tk4 ?_ | refine tk5 ?_ | refine tk6 ?_ | refine tk7 ?_ | refine tk8 ?_ | refine tk9 ?_ | refine tk10 (fun _ _ => ?_) | refine tk11 (fun _ => ?_) | refine tk13 ?_ | refine tk14 ?_); (conv => whnf))
    exact ⟨3, by decide, rfl, (by repeat' (first | exact List.Sublist.refl _ | exact List.nil_sublist _ | apply List.Sublist.cons_cons | apply List.Sublist.cons)), by decide⟩
  · rw [show (0 : Int) + a.l.length + b.l.length + c.l.length = ((a.l.length + b.l.length + c.l.length : Nat) : Int) by omega]
    (conv => whnf); repeat ((first | refine tk1 ?_ | refine tk2 ?_ | refine tk3 ?_ | refine tk12 (fun _ => ?_) | refine tk4 ?_ | refine tk5 ?_ | refine tk6 ?_ | refine tk7 ?_ | refine tk8 ?_ | refine tk9 ?_ | refine tk10 (fun _ _ => ?_) | refine tk11 (fun _ => ?_) | refine tk13 ?_ | refine tk14 ?_); (conv => whnf))
    refine CallK.fnS hg trivial (fun B bc => ?_)
    (conv => whnf); repeat ((first | refine tk1 ?_ | refine tk2 ?_ | refine tk3 ?_ | refine tk12 (fun _ => ?_) | refine tk4 ?_ | refine tk5 ?_ | refine tk6 ?_ | refine tk7 ?_ | refine tk8 ?_ | refine tk9 ?_ | refine tk10 (fun _ _ => ?_) | refine tk11 (fun _ => ?_) | refine tk13 ?_ | refine tk14 ?_); (conv => whnf))
    refine LoopS.lp tys_ok (fun (x : Nat × Option Addr × Nat) u => [u 0, u 1, u 2, u 3, u 4, u 5, .slice x.2.1 (catC a b c x.1).length x.2.2, u 7, u 8, u 9, u 10, u 11, u 12, u 13, u 14, u 15, u 16, u 17, u 18, u 19, u 20, u 21, u 22, u 23, u 24, .slice P 3 pc, .int .i64 3, .int .i64 (x.1 : Nat), u 28, u 29, u 30, u 31, u 32, u 33, u 34, u 35]) (fun x => [.row (.slice x.2.1 (catC a b c x.1).length x.2.2) 5 1 (catC a b c x.1).length ((catC a b c x.1).map byteV)]) (fun x => x.1 ≤ 3) (fun x => 3 - x.1) ⟨0, B, bc⟩ (by dsimp only; omega) rfl (by repeat' (first | exact List.Sublist.refl _ | exact List.nil_sublist _ | apply List.Sublist.cons_cons | apply List.Sublist.cons)) ?_
    rintro ⟨k, B, bc⟩ u hk
    dsimp only at hk ⊢
    have hk4 : k = 0 ∨ k = 1 ∨ k = 2 ∨ k = 3 := by omega
    rcases hk4 with rfl | rfl | rfl | rfl
    · have hl0 : (catC a b c 0).length + a.l.length = (catC a b c 1).length := by simp [catC]; try omega
      have hl1 : (catC a b c 1).length ≤ 1000000000 := by simp [catC]; omega
      (conv => whnf); repeat ((first | refine tk1 ?_ | refine tk2 ?_ | refine tk3 ?_ | refine tk12 (fun _ => ?_) | refine tk4 ?_ | refine tk5 ?_ | refine tk6 ?_ | refine tk7 ?_ | refine tk8 ?_ | refine tk9 ?_ | refine tk10 (fun _ _ => ?_) | refine tk11 (fun _ => ?_) | refine tk13 ?_ | refine tk14 ?_); (conv => whnf))
      refine IdxA.tc (xs := [a.v, b.v, c.v]) (by simp) (by decide) (by decide) ?_
      (conv => whnf); repeat ((first | refine tk1 ?_ | refine tk2 ?_ | refine tk3 ?_ | refine tk12 (fun _ => ?_) | refine tk4 ?_ | refine tk5 ?_ | refine tk6 ?_ | refine tk7 ?_ | refine tk8 ?_ | refine tk9 ?_ | refine tk10 (fun _ _ => ?_) | refine tk11 (fun _ => ?_) | refine tk13 ?_ | refine tk14 ?_); (conv => whnf))
      refine Ld.ta (xs := [a.v, b.v, c.v]) (v := a.v) rfl ?_
      unfold CPt.v
      (conv => whnf); repeat ((first | refine tk1 ?_ | refine tk2 ?_ | refine tk3 ?_ | refine tk12 (fun _ => ?_) | refine tk4 ?_ | refine tk5 ?_ | refine tk6 ?_ | refine tk7 ?_ | refine tk8 ?_ | refine tk9 ?_ | refine tk10 (fun _ _ => ?_) | refine tk11 (fun _ => ?_) | refine tk13 ?_ | refine tk14 ?_); (conv => whnf))
      refine AppS.tc SrcK.tc (by simp) (bytes_one a.l) (by decide) (by omega) (by omega) (zs := (catC a b c 1).map byteV) (by simp [catC]) (fun B' bc' => ?_)
      rw [hl0]
      (conv => whnf); repeat ((first | refine tk1 ?_ | refine tk2 ?_ | refine tk3 ?_ | refine tk12 (fun _ => ?_) | refine tk4 ?_ | refine tk5 ?_ | refine tk6 ?_ | refine tk7 ?_ | refine tk8 ?_ | refine tk9 ?_ | refine tk10 (fun _ _ => ?_) | refine tk11 (fun _ => ?_) | refine tk13 ?_ | refine tk14 ?_); (conv => whnf))
      exact ⟨(1, B', bc'), by dsimp only; omega, rfl, (by repeat' (first | exact List.Sublist.refl _ | exact List.nil_sublist _ | apply List.Sublist.cons_cons | apply List.Sublist.cons)), by dsimp only; omega⟩
    · have hl0 : (catC a b c 1).length + b.l.length = (catC a b c 2).length := by simp [catC]; try omega
      have hl1 : (catC a b c 2).length ≤ 1000000000 := by simp [catC]; omega
      (conv => whnf); repeat ((first | refine tk1 ?_ | refine tk2 ?_ | refine tk3 ?_ | refine tk12 (fun _ => ?_) | refine tk4 ?_ | refine tk5 ?_ | refine tk6 ?_ | refine tk7 ?_ | refine tk8 ?_ | refine tk9 ?_ | refine tk10 (fun _ _ => ?_) | refine tk11 (fun _ => ?_) | refine tk13 ?_ | refine tk14 ?_); (conv => whnf))
      refine IdxA.tc (xs := [a.v, b.v, c.v]) (by simp) (by decide) (by decide) ?_
      (conv => whnf); repeat ((first | refine tk1 ?_ | refine tk2 ?_ | refine tk3 ?_ | refine tk12 (fun _ => ?_) | refine tk4 ?_ | refine tk5 ?_ | refine tk6 ?_ | refine tk7 ?_ | refine tk8 ?_ | refine tk9 ?_ | refine tk10 (fun _ _ => ?_) | refine tk11 (fun _ => ?_) | refine tk13 ?_ | refine tk14 ?_); (conv => whnf))
      refine Ld.ta (xs := [a.v, b.v, c.v]) (v := b.v) rfl ?_
      unfold CPt.v
      (conv => whnf); repeat ((first | refine tk1 ?_ | refine tk2 ?_ | refine tk3 ?_ | refine tk12 (fun _ => ?_) | refine tk4 ?_ | refine tk5 ?_ | refine tk6 ?_ | refine tk7 ?_ | refine tk8 ?_ | refine tk9 ?_ | refine tk10 (fun _ _ => ?_) | refine tk11 (fun _ => ?_) | refine tk13 ?_ | refine tk14 ?_); (conv => whnf))
      refine AppS.tc SrcK.tc (by simp) (bytes_one b.l) (by decide) (by omega) (by omega) (zs := (catC a b c 2).map byteV) (by simp [catC]) (fun B' bc' => ?_)
      rw [hl0]
      (conv => whnf); repeat ((first | refine tk1 ?_ | refine tk2 ?_ | refine tk3 ?_ | refine tk12 (fun _ => ?_) | refine tk4 ?_ | refine tk5 ?_ | refine tk6 ?_ | refine tk7 ?_ | refine tk8 ?_ | refine tk9 ?_ | refine tk10 (fun _ _ => ?_) | refine tk11 (fun _ => ?_) | refine tk13 ?_ | refine tk14 ?_); (conv => whnf))
      exact ⟨(2, B', bc'), by dsimp only; omega, rfl, (by repeat' (first | exact List.Sublist.refl _ | exact List.nil_sublist _ | apply List.Sublist.cons_cons | apply List.Sublist.cons)), by dsimp only; omega⟩
    · have hl0 : (catC a b c 2).length + c.l.length = (catC a b c 3).length := by simp [catC]; try omega
      have hl1 : (catC a b c 3).length ≤ 1000000000 := by simp [catC]; omega
      (conv => whnf); repeat ((first | refine tk1 ?_ | refine tk2 ?_ | refine tk3 ?_ | refine tk12 (fun _ => ?_) | refine tk4 ?_ | refine tk5 ?_ | refine tk6 ?_ | refine tk7 ?_ | refine tk8 ?_ | refine tk9 ?_ | refine tk10 (fun _ _ => ?_) | refine tk11 (fun _ => ?_) | refine tk13 ?_ | refine tk14 ?_); (conv => whnf))
      refine IdxA.tc (xs := [a.v, b.v, c.v]) (by simp) (by decide) (by decide) ?_
      (conv => whnf); repeat ((first | refine tk1 ?_ | refine tk2 ?_ | refine tk3 ?_ | refine tk12 (fun _ => ?_) | refine tk4 ?_ | refine tk5 ?_ | refine tk6 ?_ | refine tk7 ?_ | refine tk8 ?_ | refine tk9 ?_ | refine tk10 (fun _ _ => ?_) | refine tk11 (fun _ => ?_) | refine tk13 ?_ | refine tk14 ?_); (conv => whnf))
      refine Ld.ta (xs := [a.v, b.v, c.v]) (v := c.v) rfl ?_
      unfold CPt.v
      (conv => whnf); repeat ((first | refine tk1 ?_ | refine tk2 ?_ | refine tk3 ?_ | refine tk12 (fun _ => ?_) | refine tk4 ?_ | refine tk5 ?_ | refine tk6 ?_ | refine tk7 ?_ | refine tk8 ?_ | refine tk9 ?_ | refine tk10 (fun _ _ => ?_) | refine tk11 (fun _ => ?_) | refine tk13 ?_ | refine tk14 ?_); (conv => whnf))
      refine AppS.tc SrcK.tc (by simp) (bytes_one c.l) (by decide) (by omega) (by omega) (zs := (catC a b c 3).map byteV) (by simp [catC]) (fun B' bc' => ?_)
      rw [hl0]
      (conv => whnf); repeat ((first | refine tk1 ?_ | refine tk2 ?_ | refine tk3 ?_ | refine tk12 (fun _ => ?_) | refine tk4 ?_ | refine tk5 ?_ | refine tk6 ?_ | refine tk7 ?_ | refine tk8 ?_ | refine tk9 ?_ | refine tk10 (fun _ _ => ?_) | refine tk11 (fun _ => ?_) | refine tk13 ?_ | refine tk14 ?_); (conv => whnf))
      exact ⟨(3, B', bc'), by dsimp only; omega, rfl, (by repeat' (first | exact List.Sublist.refl _ | exact List.nil_sublist _ | apply List.Sublist.cons_cons | apply List.Sublist.cons)), by dsimp only; omega⟩
    · (conv => whnf); repeat ((first | refine tk1 ?_ | refine tk2 ?_ | refine tk3 ?_ | refine tk12 (fun _ => ?_) | refine tk4 ?_ | refine tk5 ?_ | refine tk6 ?_ | refine tk7 ?_ | refine tk8 ?_ | refine tk9 ?_ | refine tk10 (fun _ _ => ?_) | refine tk11 (fun _ => ?_) | refine tk13 ?_ | refine tk14 ?_); (conv => whnf))
      exact rowPost.of (by simp [catC])
theorem Last_f : FnT Tryz.prog gI 49 [] (fun _ => True) (fun (x : Nat × Obj) => .slice (some ⟨x.1, 0, none⟩) 5 5) (fun x => RowO x.2 (lastC.map byteV)) (fun x => [.obj x.1 x.2]) (fun _ => []) := by
  refine FnE.of tys_ok Tryz.func49 rfl (by kernel_rfl) rfl rfl ?_; intro w hG hP
  (conv => whnf); repeat ((first | refine tk1 ?_ | refine tk2 ?_ | refine tk3 ?_ | refine tk12 (fun _ => ?_) | refine tk4 ?_ | refine tk5 ?_ | refine tk6 ?_ | refine tk7 ?_ | refine tk8 ?_ | refine tk9 ?_ | refine tk10 (fun _ _ => ?_) | refine tk11 (fun _ => ?_) | refine tk13 ?_ | refine tk14 ?_); (conv => whnf))
  refine Oth.same tys_ok rfl rfl rfl (fun o ho => ?_)
  (conv => whnf); repeat ((first | refine tk1 ?_ | refine tk2 ?_ | refine tk3 ?_ | refine tk12 (fun _ => ?_) | refine tk4 ?_ | refine tk5 ?_ | refine tk6 ?_ | refine tk7 ?_ | refine tk8 ?_ | refine tk9 ?_ | refine tk10 (fun _ _ => ?_) | refine tk11 (fun _ => ?_) | refine tk13 ?_ | refine tk14 ?_); (conv => whnf))
  exact fun w' hw' => ⟨(_, o), rfl, ho, newH.into hw' (Cv.into (by (try dsimp only); repeat' (first | with_reducible exact Cv.refl | with_reducible exact Cv.left | with_reducible exact Cv.right | with_reducible exact Cv.nil | (with_reducible apply Cv.cons; focus ((repeat (first | with_reducible exact Pick.here | with_reducible apply Pick.skip)); done)) | (apply Cv.cons; focus ((repeat (first | exact Pick.here | apply Pick.skip)); done)) | exact Cv.nil | exact Cv.refl | exact Cv.left | exact Cv.right | refine Cv.skip ?_)))⟩
def wrapV (b : List UInt8) : List UInt8 := if b.length ≤ 131072 then wrapG b else []
def wrapE (b : List UInt8) : Int := if b.length ≤ 131072 then 0 else 4
set_option maxHeartbeats 4000000 in
theorem Wrap_f [HasTz gI] (A : Option Addr) (cp : Nat) (b : List UInt8) (hb : b.length ≤ 1000000000) :
    FnT Tryz.prog gI 77 [.slice A b.length cp] (fun w => RdL w [(A, b.map byteV)]) (fun (x : Option Addr × Nat) => .tuple #[.slice x.1 (wrapV b).length x.2, .int .i64 (wrapE b)]) (fun _ => True) (fun x => [.row (.slice x.1 (wrapV b).length x.2) 5 1 (wrapV b).length ((wrapV b).map byteV)]) (fun _ => []) := by
  have hfi := FormatInt_f (gI := gI) b.length (by omega)
  refine FnE.of tys_ok Tryz.func77 rfl (by kernel_rfl) rfl rfl ?_; intro w hG hP
  have hA : ∀ H, RdA (mkC Tryz.prog gI w hG) H A (b.map byteV) := fun H => ⟨hP.1.now⟩
  by_cases h1 : b.length ≤ 131072
  rotate_left
  · have e1 : wrapV b = [] := if_neg h1
    have e2 : wrapE b = 4 := if_neg h1
    rw [e1, e2]
    (conv => whnf); repeat ((first | refine tk1 ?_ | refine tk2 ?_ | refine tk3 ?_ | refine tk12 (fun _ => ?_) | refine tk4 ?_ | refine tk5 ?_ | refine tk6 ?_ | refine tk7 ?_ | refine tk8 ?_ | refine tk9 ?_ | refine tk10 (fun _ _ => ?_) | refine tk11 (fun _ => ?_) | refine tk13 ?_ | refine tk14 ?_); (conv => whnf))
    exact fun w' hw' => ⟨(none, 0), rfl, trivial, newH.of (hw'.nilRow 5 1)⟩
  have e2 : wrapE b = 0 := if_pos h1
  rw [e2]
  by_cases h0 : b.length = 0
  · have e1 : wrapV b = [] := by unfold wrapV; rw [if_pos h1, List.eq_nil_of_length_eq_zero h0]; rfl
    rw [e1]
    (conv => whnf); repeat ((first | refine tk1 ?_ | refine tk2 ?_ | refine tk3 ?_ | refine tk12 (fun _ => ?_) | refine tk4 ?_ | refine tk5 ?_ | refine tk6 ?_ | refine tk7 ?_ | refine tk8 ?_ | refine tk9 ?_ | refine tk10 (fun _ _ => ?_) | refine tk11 (fun _ => ?_) | refine tk13 ?_ | refine tk14 ?_); (conv => whnf))
    exact fun w' hw' => ⟨(none, 0), rfl, trivial, newH.of (hw'.nilRow 5 1)⟩
  have e1 : wrapV b = (hxS b.length ++ [13, 10]) ++ b ++ [13, 10] := by unfold wrapV wrapG; rw [if_pos h1, if_neg (fun e => h0 (by rw [e]; rfl))]
  have hl : (hxS b.length).length ≤ 6 := hxF_long 16 5 b.length (by omega)
  have hs := hxF_some 16 b.length
  rw [e1]
  (conv => whnf); repeat ((first | refine tk1 ?_ | refine tk2 ?_ | refine tk3 ?_ | refine tk12 (fun _ => ?_) | refine tk4 ?_ | refine tk5 ?_ | refine tk6 ?_ | refine tk7 ?_ | refine tk8 ?_ | refine tk9 ?_ | refine tk10 (fun _ _ => ?_) | refine tk11 (fun _ => ?_) | refine tk13 ?_ | refine tk14 ?_); (conv => whnf))
  refine CallK.fn hfi ?_
  (conv => whnf); repeat ((first | refine tk1 ?_ | refine tk2 ?_ | refine tk3 ?_ | refine tk12 (fun _ => ?_) | refine tk4 ?_ | refine tk5 ?_ | refine tk6 ?_ | refine tk7 ?_ | refine tk8 ?_ | refine tk9 ?_ | refine tk10 (fun _ _ => ?_) | refine tk11 (fun _ => ?_) | refine tk13 ?_ | refine tk14 ?_); (conv => whnf))
  refine CatS.at (by simp; omega) ?_
  (conv => whnf); repeat ((first | refine tk1 ?_ | refine tk2 ?_ | refine tk3 ?_ | refine tk12 (fun _ => ?_) | refine tk4 ?_ | refine tk5 ?_ | refine tk6 ?_ | refine tk7 ?_ | refine tk8 ?_ | refine tk9 ?_ | refine tk10 (fun _ _ => ?_) | refine tk11 (fun _ => ?_) | refine tk13 ?_ | refine tk14 ?_); (conv => whnf))
  refine S2B.go (by rw [List.length_append]; simp only [List.length_cons, List.length_nil]; omega) (fun B1 c1 => ?_)
  (conv => whnf); repeat ((first | refine tk1 ?_ | refine tk2 ?_ | refine tk3 ?_ | refine tk12 (fun _ => ?_) | refine tk4 ?_ | refine tk5 ?_ | refine tk6 ?_ | refine tk7 ?_ | refine tk8 ?_ | refine tk9 ?_ | refine tk10 (fun _ _ => ?_) | refine tk11 (fun _ => ?_) | refine tk13 ?_ | refine tk14 ?_); (conv => whnf))
  rename_i b2
  refine Oth.same tys_ok rfl rfl rfl (fun o2 ho2 => ?_)
  have hR2 : ∀ H, RdA (mkC Tryz.prog gI w hG) (.obj b2 o2 :: H) (some ⟨b2, 0, none⟩) _ := ho2.rd
  (conv => whnf); repeat ((first | refine tk1 ?_ | refine tk2 ?_ | refine tk3 ?_ | refine tk12 (fun _ => ?_) | refine tk4 ?_ | refine tk5 ?_ | refine tk6 ?_ | refine tk7 ?_ | refine tk8 ?_ | refine tk9 ?_ | refine tk10 (fun _ _ => ?_) | refine tk11 (fun _ => ?_) | refine tk13 ?_ | refine tk14 ?_); (conv => whnf))
  refine CallK.fnS (Concat3_f (gI := gI) _ 3 ⟨_, c1, hxS b.length ++ [13, 10]⟩ ⟨A, cp, b⟩ ⟨_, 2, [13, 10]⟩ (by dsimp only; simp) (by dsimp only; simp; omega)) ⟨RdA.ok, RdA.ok, (hA _).ok, RdA.ok, trivial⟩ (fun C cc => ?_)
  (conv => whnf); repeat ((first | refine tk1 ?_ | refine tk2 ?_ | refine tk3 ?_ | refine tk12 (fun _ => ?_) | refine tk4 ?_ | refine tk5 ?_ | refine tk6 ?_ | refine tk7 ?_ | refine tk8 ?_ | refine tk9 ?_ | refine tk10 (fun _ _ => ?_) | refine tk11 (fun _ => ?_) | refine tk13 ?_ | refine tk14 ?_); (conv => whnf))
  exact fun w' hw' => ⟨(C, cc), rfl, trivial, newH.into hw' (Cv.into (by (try dsimp only); repeat' (first | with_reducible exact Cv.refl | with_reducible exact Cv.left | with_reducible exact Cv.right | with_reducible exact Cv.nil | (with_reducible apply Cv.cons; focus ((repeat (first | with_reducible exact Pick.here | with_reducible apply Pick.skip)); done)) | (apply Cv.cons; focus ((repeat (first | exact Pick.here | apply Pick.skip)); done)) | exact Cv.nil | exact Cv.refl | exact Cv.left | exact Cv.right | refine Cv.skip ?_)))⟩
end Go.Proofs.YtnaeeklnlddcaaaGreatDoor.Vex
