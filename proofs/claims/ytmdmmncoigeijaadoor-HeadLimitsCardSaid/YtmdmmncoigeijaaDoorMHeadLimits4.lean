/- For any two limits, and all bytes, HeadLimits returns true; the arguments read behind the call as they read before. -/
import Derived.Test.YtmdmmncoigeijaaDoorMHeadLimits3
/- The program's Scan of heads, and Same of requests, reckoned. -/
namespace Go.Proofs.YtmdmmncoigeijaaDoor.Vex
open Go Go.RowKit
set_option maxRecDepth 100000
set_option linter.unusedSectionVars false
variable {gI : GI} [HasMax gI] [HasErr gI]

structure ScV where
  fA : Option Addr
  fc : Nat
def reqC (rq : Rq) (fA : Option Addr) (n fc : Nat) : List Value := [str rq.m, str rq.p, str rq.q, .int .i64 rq.v, .slice fA n fc, .slice none 0 0]
def ScV.val (r : HRes) (e : Int) (x : ScV) : Value := .tuple #[.agg ⟨reqC r.rq x.fA r.fs.length x.fc⟩, .int .i64 (r.used : Nat), .int .i64 r.st, .int .i64 e]
def ScV.hd (r : HRes) (x : ScV) : Hp := [.row (.slice x.fA r.fs.length x.fc) 39 2 r.fs.length (fcells r.fs)]
theorem tk15 {c : Ctx} {H : Hp} {b n j : Nat} {vs L : List Value} {t : TypeId} {f : List Value → Hp} {K : Hp → Prop} [h : BoxAt b H vs t f] (k : K (f (L.take j))) (hn : (L.take j).length = n := by exact rfl) (hv : vs.length = n := by exact rfl) (h1 : ∀ x ∈ L, x.oneCell' = true := by simp [Value.oneCell']) :
    Sto c H (.pointer (some ⟨b, 0, none⟩)) (.agg ⟨L.take j⟩) n K := Sto.tv hn hv (fun x hx => h1 x (List.mem_of_mem_take hx)) k
structure SL where
  k : Nat
  s : HSt
  y : HMem
theorem HScan_f (l : Lm) (BA : Option Addr) (Bc : Nat) (b : List UInt8) (hb : b.length ≤ 1000000000) :
    FnT Tryd.prog gI 19 [limV l, .slice BA b.length Bc] (fun w => RdL w [(BA, b.map byteV)]) (ScV.val (scanR l b) (scanE l b)) (fun _ => True) (ScV.hd (scanR l b)) (fun _ => []) := by
  unfold limV
  refine FnE.of tys_ok Tryd.func19 rfl (by kernel_rfl) rfl rfl ?_; intro w hG hP
  have hRB : ∀ H, RdA (mkC Tryd.prog gI w hG) H BA (b.map byteV) := fun H => ⟨hP.1.now⟩
  have hfail : ∀ (st e : Int) (r : HRes) (w w' : World) (hG : gI.G w), r = ⟨rq0, [], 0, st⟩ → St (mkC Tryd.prog gI w hG) [] w' → ∃ x, Value.tuple #[.agg ⟨[str [], str [], str [], .int .i64 0, .slice none 0 0, .slice none 0 0]⟩, .int .i64 0, .int .i64 st, .int .i64 e] = ScV.val r e x ∧ True ∧ newH w w' (ScV.hd r x ++ []) := fun st e r w w' hG hr hw' => by
    subst hr
    exact ⟨⟨none, 0⟩, rfl, trivial, newH.of (hw'.nilRow 39 2)⟩
  (conv => whnf); repeat ((first | refine tk1 ?_ | refine tk2 ?_ | refine tk3 ?_ | refine tk12 (fun _ => ?_) | refine tk4 ?_ | refine tk5 ?_ | refine tk6 ?_ | refine tk7 ?_ | refine tk8 ?_ | refine tk9 ?_ | refine tk10 (fun _ _ => ?_) | refine tk11 (fun _ => ?_) | refine tk13 ?_ | refine tk14 ?_); (conv => whnf))
  rename_i b2 b4
  refine CallK.fn (HCheck_f l) ?_
  unfold limE scanR scanE
  cases hl : limOK l
  · simp only [Bool.false_eq_true, if_false]
    rw [if_neg (show ¬ (8 : Int) = 0 by decide)]
    (conv => whnf); repeat ((first | refine tk1 ?_ | refine tk2 ?_ | refine tk3 ?_ | refine tk12 (fun _ => ?_) | refine tk4 ?_ | refine tk5 ?_ | refine tk6 ?_ | refine tk7 ?_ | refine tk8 ?_ | refine tk9 ?_ | refine tk10 (fun _ _ => ?_) | refine tk11 (fun _ => ?_) | refine tk13 ?_ | refine tk14 ?_); (conv => whnf))
    exact fun w' hw' => hfail 0 8 _ w w' hG rfl (hw'.sub (List.nil_sublist _))
  simp only [if_true]
  (conv => whnf); repeat ((first | refine tk1 ?_ | refine tk2 ?_ | refine tk3 ?_ | refine tk12 (fun _ => ?_) | refine tk4 ?_ | refine tk5 ?_ | refine tk6 ?_ | refine tk7 ?_ | refine tk8 ?_ | refine tk9 ?_ | refine tk10 (fun _ _ => ?_) | refine tk11 (fun _ => ?_) | refine tk13 ?_ | refine tk14 ?_); (conv => whnf))
  refine Cmp.cases (fun h1 => ?_) (fun h1 => ?_)
  · rw [if_neg (show ¬ b.length ≤ 131072 by omega), if_neg (show ¬ (4 : Int) = 0 by decide)]
    (conv => whnf); repeat ((first | refine tk1 ?_ | refine tk2 ?_ | refine tk3 ?_ | refine tk12 (fun _ => ?_) | refine tk4 ?_ | refine tk5 ?_ | refine tk6 ?_ | refine tk7 ?_ | refine tk8 ?_ | refine tk9 ?_ | refine tk10 (fun _ _ => ?_) | refine tk11 (fun _ => ?_) | refine tk13 ?_ | refine tk14 ?_); (conv => whnf))
    exact fun w' hw' => hfail 0 4 _ w w' hG rfl (hw'.sub (List.nil_sublist _))
  rw [if_pos (show b.length ≤ 131072 by omega), if_pos rfl]
  have hou : Ours Tryd.prog gI (mkC Tryd.prog gI w hG) := ⟨rfl, rfl⟩
  (conv => whnf); repeat ((first | refine tk1 ?_ | refine tk2 ?_ | refine tk3 ?_ | refine tk12 (fun _ => ?_) | refine tk4 ?_ | refine tk5 ?_ | refine tk6 ?_ | refine tk7 ?_ | refine tk8 ?_ | refine tk9 ?_ | refine tk10 (fun _ _ => ?_) | refine tk11 (fun _ => ?_) | refine tk13 ?_ | refine tk14 ?_); (conv => whnf))
  rename_i b9
  refine LoopS.lpT tys_ok (fun (x : SL) u => [u 0, u 1, u 2, u 3, .pointer (some ⟨b4, 0, none⟩), u 5, u 6, u 7, u 8, .pointer (some ⟨b9, 0, none⟩), u 10, u 11, u 12, u 13, u 14, u 15, u 16, u 17, u 18, u 19, u 20, u 21, u 22, u 23, u 24, u 25, .slice BA b.length Bc, .int .i64 b.length, .int .i64 (x.k : Nat), u 29, u 30, u 31, u 32, u 33, u 34, u 35, u 36, u 37, u 38, u 39, u 40, u 41, u 42, u 43, u 44, u 45, u 46, u 47, u 48, u 49, u 50, u 51, u 52, u 53, u 54])
    (fun x => hHeap b9 l x.s x.y [.box b4 [str [], str [], str [], .int .i64 0, .slice none 0 0, .slice none 0 0] 28])
    (fun x => x.k ≤ b.length ∧ scanG l hst0 0 b = scanG l x.s x.k (b.drop x.k) ∧ x.s.Le x.k ∧ (x.s.ph = false → x.s.fs = [])) (fun x => b.length - x.k) ⟨0, hst0, ⟨none, 0, none, 0⟩⟩ ⟨Nat.zero_le _, rfl, ⟨Nat.le_refl _, Nat.le_refl _, Nat.le_refl _⟩, fun _ => rfl⟩ rfl ?_ ?_
  · unfold hHeap
    exact Into.trans (Into.nilRow (e := 5) (sz := 1) (Into.nilRow (e := 39) (sz := 2) Into.refl)) (Cv.into (by (try dsimp only); repeat' (first | with_reducible exact Cv.refl | with_reducible exact Cv.left | with_reducible exact Cv.right | with_reducible exact Cv.nil | (with_reducible apply Cv.cons; focus ((repeat (first | with_reducible exact Pick.here | with_reducible apply Pick.skip)); done)) | (apply Cv.cons; focus ((repeat (first | exact Pick.here | apply Pick.skip)); done)) | exact Cv.nil | exact Cv.refl | exact Cv.left | exact Cv.right | refine Cv.skip ?_)))
  rintro ⟨k, s, y⟩ u ⟨hk, hI, hle, h0⟩
  dsimp only at hk hI hle h0 ⊢
  unfold hHeap
  (conv => whnf); repeat ((first | refine tk1 ?_ | refine tk2 ?_ | refine tk3 ?_ | refine tk12 (fun _ => ?_) | refine tk4 ?_ | refine tk5 ?_ | refine tk6 ?_ | refine tk7 ?_ | refine tk8 ?_ | refine tk9 ?_ | refine tk10 (fun _ _ => ?_) | refine tk11 (fun _ => ?_) | refine tk13 ?_ | refine tk14 ?_); (conv => whnf))
  refine Cmp.cases (fun hlt => ?_) (fun hlt => ?_)
  · have hlt' : k < b.length := by omega
    have hxb : (b.map byteV)[k]? = some (.int .u8 b[k].toNat) := by rw [List.getElem?_map, List.getElem?_eq_getElem hlt']; rfl
    rw [List.drop_eq_getElem_cons hlt', scanG] at hI
    obtain ⟨x, hx⟩ : ∃ x, b[k] = x := ⟨_, rfl⟩
    rw [hx] at hI hxb
    have hle' := step_le (l := l) (x := x) hle
    have hph : (stepG l s x).1.ph = false → (stepG l s x).1.fs = [] := fun h => step_ph h0 h
    (conv => whnf); repeat ((first | refine tk1 ?_ | refine tk2 ?_ | refine tk3 ?_ | refine tk12 (fun _ => ?_) | refine tk4 ?_ | refine tk5 ?_ | refine tk6 ?_ | refine tk7 ?_ | refine tk8 ?_ | refine tk9 ?_ | refine tk10 (fun _ _ => ?_) | refine tk11 (fun _ => ?_) | refine tk13 ?_ | refine tk14 ?_); (conv => whnf))
    refine IdxA.tc (by rw [List.length_map]; omega) (by omega) (by omega) ?_
    (conv => whnf); repeat ((first | refine tk1 ?_ | refine tk2 ?_ | refine tk3 ?_ | refine tk12 (fun _ => ?_) | refine tk4 ?_ | refine tk5 ?_ | refine tk6 ?_ | refine tk7 ?_ | refine tk8 ?_ | refine tk9 ?_ | refine tk10 (fun _ _ => ?_) | refine tk11 (fun _ => ?_) | refine tk13 ?_ | refine tk14 ?_); (conv => whnf))
    refine Ld.ta (v := .int .u8 x.toNat) (by rw [show ((k : Nat) : Int).toNat * 1 = k by omega]; exact hxb) ?_
    (conv => whnf); repeat ((first | refine tk1 ?_ | refine tk2 ?_ | refine tk3 ?_ | refine tk12 (fun _ => ?_) | refine tk4 ?_ | refine tk5 ?_ | refine tk6 ?_ | refine tk7 ?_ | refine tk8 ?_ | refine tk9 ?_ | refine tk10 (fun _ _ => ?_) | refine tk11 (fun _ => ?_) | refine tk13 ?_ | refine tk14 ?_); (conv => whnf))
    refine step_k hou (l := l) (s := s) (y := y) (x := x) (X := [.box b4 [str [], str [], str [], .int .i64 0, .slice none 0 0, .slice none 0 0] 28]) ⟨by have := hle.text; omega, by have := hle.fs; omega, by have := hle.many; omega⟩ h0 (fun y' => ?_)
    rcases hst : stepG l s x with ⟨s1, st⟩
    rw [hst] at hI hle' hph
    dsimp only at hI hle' hph ⊢
    unfold hHeap
    by_cases hs0 : st = 0
    · rw [if_pos hs0] at hI
      subst hs0
      (conv => whnf); repeat ((first | refine tk1 ?_ | refine tk2 ?_ | refine tk3 ?_ | refine tk12 (fun _ => ?_) | refine tk4 ?_ | refine tk5 ?_ | refine tk6 ?_ | refine tk7 ?_ | refine tk8 ?_ | refine tk9 ?_ | refine tk10 (fun _ _ => ?_) | refine tk11 (fun _ => ?_) | refine tk13 ?_ | refine tk14 ?_); (conv => whnf))
      exact ⟨⟨k + 1, s1, y'⟩, ⟨by dsimp only; omega, hI, hle', hph⟩, rfl, Into.refl, by dsimp only; omega⟩
    rw [if_neg hs0] at hI
    by_cases hs2 : st = 200
    · rw [if_pos hs2] at hI
      rw [hI]
      subst hs2
      (conv => whnf); repeat ((first | refine tk15 ?_ | first | refine tk1 ?_ | refine tk2 ?_ | refine tk3 ?_ | refine tk12 (fun _ => ?_) | refine tk4 ?_ | refine tk5 ?_ | refine tk6 ?_ | refine tk7 ?_ | refine tk8 ?_ | refine tk9 ?_ | refine tk10 (fun _ _ => ?_) | refine tk11 (fun _ => ?_) | refine tk13 ?_ | refine tk14 ?_); (conv => whnf))
      exact fun w' hw' => ⟨⟨y'.fA, y'.fc⟩, rfl, trivial, newH.into hw' (Cv.into (by (try dsimp only); repeat' (first | with_reducible exact Cv.refl | with_reducible exact Cv.left | with_reducible exact Cv.right | with_reducible exact Cv.nil | (with_reducible apply Cv.cons; focus ((repeat (first | with_reducible exact Pick.here | with_reducible apply Pick.skip)); done)) | (apply Cv.cons; focus ((repeat (first | exact Pick.here | apply Pick.skip)); done)) | exact Cv.nil | exact Cv.refl | exact Cv.left | exact Cv.right | refine Cv.skip ?_)))⟩
    · rw [if_neg hs2] at hI
      rw [hI]
      (conv => whnf); repeat ((first | refine tk1 ?_ | refine tk2 ?_ | refine tk3 ?_ | refine tk12 (fun _ => ?_) | refine tk4 ?_ | refine tk5 ?_ | refine tk6 ?_ | refine tk7 ?_ | refine tk8 ?_ | refine tk9 ?_ | refine tk10 (fun _ _ => ?_) | refine tk11 (fun _ => ?_) | refine tk13 ?_ | refine tk14 ?_); (conv => whnf))
      exact fun w' hw' => hfail st 0 _ w w' hG rfl (hw'.sub (List.nil_sublist _))
  · rw [List.drop_eq_nil_of_le (by omega)] at hI
    have hI : scanG l hst0 0 b = hres0 := hI
    rw [hI]
    (conv => whnf); repeat ((first | refine tk1 ?_ | refine tk2 ?_ | refine tk3 ?_ | refine tk12 (fun _ => ?_) | refine tk4 ?_ | refine tk5 ?_ | refine tk6 ?_ | refine tk7 ?_ | refine tk8 ?_ | refine tk9 ?_ | refine tk10 (fun _ _ => ?_) | refine tk11 (fun _ => ?_) | refine tk13 ?_ | refine tk14 ?_); (conv => whnf))
    exact fun w' hw' => hfail 0 0 _ w w' hG rfl (hw'.sub (List.nil_sublist _))
theorem HSame_r (a b : Rq) (A B : Option Addr) (cp cq : Nat) (fa fb : List Fld) (ha : fa.length ≤ 1000000000) (hb : fb.length ≤ 1000000000) :
    FnR Tryd.prog gI 21 [.agg ⟨reqC a A fa.length cp⟩, .agg ⟨reqC b B fb.length cq⟩] [(A, fcells fa), (B, fcells fb)] (.bool (decide (a = b) && decide (fa = fb))) := by
  obtain ⟨am, ap, aq, av⟩ := a
  obtain ⟨bm, bp, bq, bv⟩ := b
  unfold reqC
  dsimp only
  refine FnE.of tys_ok Tryd.func21 rfl (by kernel_rfl) rfl rfl ?_; intro w hG hP
  (conv => whnf); repeat ((first | refine tk1 ?_ | refine tk2 ?_ | refine tk3 ?_ | refine tk12 (fun _ => ?_) | refine tk4 ?_ | refine tk5 ?_ | refine tk6 ?_ | refine tk7 ?_ | refine tk8 ?_ | refine tk9 ?_ | refine tk10 (fun _ _ => ?_) | refine tk11 (fun _ => ?_) | refine tk13 ?_ | refine tk14 ?_); (conv => whnf))
  refine Cmp.cases (fun h1 => ?_) (fun h1 => ?_)
  rotate_left
  · rw [decide_eq_false (show ¬ (⟨am, ap, aq, av⟩ : Rq) = ⟨bm, bp, bq, bv⟩ from fun h => h1 (congrArg Rq.m h))]
    (conv => whnf); repeat ((first | refine tk1 ?_ | refine tk2 ?_ | refine tk3 ?_ | refine tk12 (fun _ => ?_) | refine tk4 ?_ | refine tk5 ?_ | refine tk6 ?_ | refine tk7 ?_ | refine tk8 ?_ | refine tk9 ?_ | refine tk10 (fun _ _ => ?_) | refine tk11 (fun _ => ?_) | refine tk13 ?_ | refine tk14 ?_); (conv => whnf))
    exact fun w' _ => rfl
  (conv => whnf); repeat ((first | refine tk1 ?_ | refine tk2 ?_ | refine tk3 ?_ | refine tk12 (fun _ => ?_) | refine tk4 ?_ | refine tk5 ?_ | refine tk6 ?_ | refine tk7 ?_ | refine tk8 ?_ | refine tk9 ?_ | refine tk10 (fun _ _ => ?_) | refine tk11 (fun _ => ?_) | refine tk13 ?_ | refine tk14 ?_); (conv => whnf))
  refine Cmp.cases (fun h2 => ?_) (fun h2 => ?_)
  rotate_left
  · rw [decide_eq_false (show ¬ (⟨am, ap, aq, av⟩ : Rq) = ⟨bm, bp, bq, bv⟩ from fun h => h2 (congrArg Rq.p h))]
    (conv => whnf); repeat ((first | refine tk1 ?_ | refine tk2 ?_ | refine tk3 ?_ | refine tk12 (fun _ => ?_) | refine tk4 ?_ | refine tk5 ?_ | refine tk6 ?_ | refine tk7 ?_ | refine tk8 ?_ | refine tk9 ?_ | refine tk10 (fun _ _ => ?_) | refine tk11 (fun _ => ?_) | refine tk13 ?_ | refine tk14 ?_); (conv => whnf))
    exact fun w' _ => rfl
  (conv => whnf); repeat ((first | refine tk1 ?_ | refine tk2 ?_ | refine tk3 ?_ | refine tk12 (fun _ => ?_) | refine tk4 ?_ | refine tk5 ?_ | refine tk6 ?_ | refine tk7 ?_ | refine tk8 ?_ | refine tk9 ?_ | refine tk10 (fun _ _ => ?_) | refine tk11 (fun _ => ?_) | refine tk13 ?_ | refine tk14 ?_); (conv => whnf))
  refine Cmp.cases (fun h3 => ?_) (fun h3 => ?_)
  rotate_left
  · rw [decide_eq_false (show ¬ (⟨am, ap, aq, av⟩ : Rq) = ⟨bm, bp, bq, bv⟩ from fun h => h3 (congrArg Rq.q h))]
    (conv => whnf); repeat ((first | refine tk1 ?_ | refine tk2 ?_ | refine tk3 ?_ | refine tk12 (fun _ => ?_) | refine tk4 ?_ | refine tk5 ?_ | refine tk6 ?_ | refine tk7 ?_ | refine tk8 ?_ | refine tk9 ?_ | refine tk10 (fun _ _ => ?_) | refine tk11 (fun _ => ?_) | refine tk13 ?_ | refine tk14 ?_); (conv => whnf))
    exact fun w' _ => rfl
  (conv => whnf); repeat ((first | refine tk1 ?_ | refine tk2 ?_ | refine tk3 ?_ | refine tk12 (fun _ => ?_) | refine tk4 ?_ | refine tk5 ?_ | refine tk6 ?_ | refine tk7 ?_ | refine tk8 ?_ | refine tk9 ?_ | refine tk10 (fun _ _ => ?_) | refine tk11 (fun _ => ?_) | refine tk13 ?_ | refine tk14 ?_); (conv => whnf))
  refine Cmp.cases (fun h4 => ?_) (fun h4 => ?_)
  rotate_left
  · rw [decide_eq_false (show ¬ (⟨am, ap, aq, av⟩ : Rq) = ⟨bm, bp, bq, bv⟩ from fun h => h4 (congrArg Rq.v h))]
    (conv => whnf); repeat ((first | refine tk1 ?_ | refine tk2 ?_ | refine tk3 ?_ | refine tk12 (fun _ => ?_) | refine tk4 ?_ | refine tk5 ?_ | refine tk6 ?_ | refine tk7 ?_ | refine tk8 ?_ | refine tk9 ?_ | refine tk10 (fun _ _ => ?_) | refine tk11 (fun _ => ?_) | refine tk13 ?_ | refine tk14 ?_); (conv => whnf))
    exact fun w' _ => rfl
  rw [decide_eq_true (show (⟨am, ap, aq, av⟩ : Rq) = ⟨bm, bp, bq, bv⟩ by rw [h1, h2, h3, h4])]
  clear h1 h2 h3 h4
  (conv => whnf); repeat ((first | refine tk1 ?_ | refine tk2 ?_ | refine tk3 ?_ | refine tk12 (fun _ => ?_) | refine tk4 ?_ | refine tk5 ?_ | refine tk6 ?_ | refine tk7 ?_ | refine tk8 ?_ | refine tk9 ?_ | refine tk10 (fun _ _ => ?_) | refine tk11 (fun _ => ?_) | refine tk13 ?_ | refine tk14 ?_); (conv => whnf))
  refine CallK.fnR (SameFields_r A B cp cq fa fb ha hb) ⟨hP.1.now, hP.2.1.now, trivial⟩ ?_
  cases hd : decide (fa = fb)
  · (conv => whnf); repeat ((first | refine tk1 ?_ | refine tk2 ?_ | refine tk3 ?_ | refine tk12 (fun _ => ?_) | refine tk4 ?_ | refine tk5 ?_ | refine tk6 ?_ | refine tk7 ?_ | refine tk8 ?_ | refine tk9 ?_ | refine tk10 (fun _ _ => ?_) | refine tk11 (fun _ => ?_) | refine tk13 ?_ | refine tk14 ?_); (conv => whnf))
    exact fun w' _ => rfl
  · (conv => whnf); repeat ((first | refine tk1 ?_ | refine tk2 ?_ | refine tk3 ?_ | refine tk12 (fun _ => ?_) | refine tk4 ?_ | refine tk5 ?_ | refine tk6 ?_ | refine tk7 ?_ | refine tk8 ?_ | refine tk9 ?_ | refine tk10 (fun _ _ => ?_) | refine tk11 (fun _ => ?_) | refine tk13 ?_ | refine tk14 ?_); (conv => whnf))
    refine B2S.rd (l := []) RdS.nil rfl ?_
    (conv => whnf); repeat ((first | refine tk1 ?_ | refine tk2 ?_ | refine tk3 ?_ | refine tk12 (fun _ => ?_) | refine tk4 ?_ | refine tk5 ?_ | refine tk6 ?_ | refine tk7 ?_ | refine tk8 ?_ | refine tk9 ?_ | refine tk10 (fun _ _ => ?_) | refine tk11 (fun _ => ?_) | refine tk13 ?_ | refine tk14 ?_); (conv => whnf))
    refine B2S.rd (l := []) RdS.nil rfl ?_
    (conv => whnf); repeat ((first | refine tk1 ?_ | refine tk2 ?_ | refine tk3 ?_ | refine tk12 (fun _ => ?_) | refine tk4 ?_ | refine tk5 ?_ | refine tk6 ?_ | refine tk7 ?_ | refine tk8 ?_ | refine tk9 ?_ | refine tk10 (fun _ _ => ?_) | refine tk11 (fun _ => ?_) | refine tk13 ?_ | refine tk14 ?_); (conv => whnf))
    exact fun w' _ => rfl
end Go.Proofs.YtmdmmncoigeijaaDoor.Vex
/- Plain laws on heads: beginnings, and greater limits. No program in sight. -/
namespace Go.Proofs.YtmdmmncoigeijaaDoor.Vex

theorem scan_cons (l : Lm) (s : HSt) (i : Nat) (x : UInt8) (r : List UInt8) : scanG l s i (x :: r) = if (stepG l s x).2 = 0 then scanG l (stepG l s x).1 (i + 1) r
    else if (stepG l s x).2 = 200 then ⟨(stepG l s x).1.rq, (stepG l s x).1.fs, i + 1, 200⟩ else ⟨rq0, [], 0, (stepG l s x).2⟩ := rfl
/-- What is whole stands in the bytes; what is not tells nothing. -/
theorem scan_used (l : Lm) : ∀ (b : List UInt8) (s : HSt) (i : Nat), ((scanG l s i b).st = 200 ∧ i < (scanG l s i b).used ∧ (scanG l s i b).used ≤ i + b.length) ∨ ((scanG l s i b).st ≠ 200 ∧ (scanG l s i b).used = 0 ∧ (scanG l s i b).rq = rq0 ∧ (scanG l s i b).fs = [])
  | [], s, i => .inr ⟨by show ¬ (0 : Int) = 200; decide, rfl, rfl, rfl⟩
  | x :: r, s, i => by
    rw [scan_cons]
    split
    · have ih := scan_used l r (stepG l s x).1 (i + 1)
      rw [List.length_cons]
      rcases ih with ⟨h1, h2, h3⟩ | h
      · exact .inl ⟨h1, by omega, by omega⟩
      · exact .inr h
    · split
      · exact .inl ⟨rfl, Nat.lt_succ_self _, by rw [List.length_cons]; dsimp only; omega⟩
      · rename_i h1 h2
        exact .inr ⟨h2, rfl, rfl, rfl⟩
/-- Beginnings. -/
theorem scan_take (l : Lm) : ∀ (b : List UInt8) (s : HSt) (i n : Nat), n ≤ b.length → ((scanG l s i (b.take n)).st ≠ 0 → scanG l s i b = scanG l s i (b.take n)) ∧ ((scanG l s i b).st = 200 → ((scanG l s i (b.take n)).st = 200 ↔ (scanG l s i b).used ≤ i + n))
  | [], s, i, n, h => by
    obtain rfl : n = 0 := by simpa using h
    exact ⟨fun h => absurd rfl h, fun h => absurd h (by show ¬ (0 : Int) = 200; decide)⟩
  | x :: r, s, i, 0, _ => by
    refine ⟨fun h => absurd rfl h, fun h => ?_⟩
    rcases scan_used l (x :: r) s i with ⟨_, h2, _⟩ | ⟨h2, _⟩
    · exact ⟨fun h => absurd h (by show ¬ (0 : Int) = 200; decide), fun h => (by omega)⟩
    · exact absurd h h2
  | x :: r, s, i, n + 1, hn => by
    rw [List.take_succ_cons, scan_cons, scan_cons]
    split
    · have ih := scan_take l r (stepG l s x).1 (i + 1) n (by simpa using hn)
      rw [show i + 1 + n = i + (n + 1) by omega] at ih
      exact ih
    · split
      · exact ⟨fun _ => rfl, fun _ => ⟨fun _ => by dsimp only; omega, fun _ => rfl⟩⟩
      · exact ⟨fun _ => rfl, fun h => absurd h (by assumption)⟩
/-- What holds at each byte. -/
structure HInv (l : Lm) (s : HSt) (i : Nat) : Prop where
  fs : (s.fs.length : Int) ≤ l.fields
  many : (s.many : Int) ≤ l.head
  a : s.ph = false → s.many = 0 ∧ i = s.text.length + (if s.cr then 1 else 0) ∧ (s.text.length : Int) ≤ l.line
  b : s.ph = true → (i : Int) ≤ l.line + 2 + s.many
theorem inv0 {l : Lm} (h : limOK l = true) : HInv l hst0 0 := by
  unfold limOK fromB at h
  simp only [Bool.and_eq_true, decide_eq_true_eq] at h
  exact ⟨h.2.2.1.1, by show (0 : Int) ≤ _; omega, fun _ => ⟨rfl, rfl, by show (0 : Int) ≤ _; omega⟩, fun h => by cases h⟩
/-- A byte that is no error does the same with greater limits. -/
theorem step_lim {l m : Lm} {s : HSt} {i : Nat} {x : UInt8} (h : HInv l s i) (h1 : l.line ≤ m.line) (h2 : l.head ≤ m.head) (h3 : l.fields ≤ m.fields) (hst : (stepG l s x).2 = 0 ∨ (stepG l s x).2 = 200) :
    stepG m s x = stepG l s x ∧ ((stepG l s x).2 = 0 → HInv l (stepG l s x).1 (i + 1)) ∧ ((stepG l s x).2 = 200 → ((stepG l s x).1.fs.length : Int) ≤ l.fields ∧ ((i + 1 : Nat) : Int) ≤ l.line + 2 + l.head) := by
  obtain ⟨rq, fs, text, cr, many, ph⟩ := s
  obtain ⟨i1, i2, i3, i4⟩ := h
  dsimp only at i1 i2 i3 i4
  cases ph
  · obtain ⟨j1, j2, j3⟩ := i3 rfl
    clear i3 i4
    unfold stepG at hst ⊢
    simp only [Bool.false_eq_true, if_false] at hst ⊢
    unfold firstG at hst ⊢
    dsimp only at hst ⊢
    rcases takeG_cases cr x with ⟨e, c1, _⟩ | e | ⟨e, c1, _⟩ | ⟨e, c1, _⟩ <;> rw [e] at hst ⊢ <;> dsimp only at hst ⊢
    · simp only [ne_eq, not_true, Bool.false_eq_true, if_false, if_true] at hst ⊢
      by_cases h9 : lineSt text = 200
      · rw [if_pos h9]
        refine ⟨by first | rfl | trivial, fun _ => ⟨by show (0 : Int) ≤ _; omega, by show (many : Int) ≤ _; omega, fun h => (by cases h), fun _ => ?_⟩, fun h => by cases h⟩
        show ((i + 1 : Nat) : Int) ≤ l.line + 2 + many
        rw [c1] at j2
        simp only [if_true] at j2
        omega
      · rw [if_neg h9] at hst
        rw [if_neg h9]
        dsimp only at hst
        have hz : ¬ lineSt text = 0 := by unfold lineSt; split <;> (try split) <;> decide
        rcases hst with h | h
        · exact absurd h hz
        · exact absurd h h9
    · simp at hst
    · simp only [ne_eq, not_true, Bool.false_eq_true, if_false] at hst ⊢
      refine ⟨by first | rfl | trivial, fun _ => ⟨i1, i2, fun _ => ⟨j1, ?_, j3⟩, fun h => by cases h⟩, fun h => by cases h⟩
      show i + 1 = text.length + (if true then 1 else 0)
      rw [c1] at j2
      simp at j2 ⊢
      omega
    · simp only [ne_eq, not_true, if_false, if_true] at hst ⊢
      by_cases h9 : (text.length : Int) = l.line
      · rw [if_pos h9] at hst
        rcases hst with h | h <;> cases h
      · rw [if_neg h9, if_neg (show ¬ (text.length : Int) = m.line by omega)]
        refine ⟨by first | rfl | trivial, fun _ => ⟨i1, i2, fun _ => ⟨j1, ?_, ?_⟩, fun h => by cases h⟩, fun h => by cases h⟩
        · show i + 1 = (text ++ [x]).length + (if false then 1 else 0)
          rw [c1] at j2
          simp at j2 ⊢
          omega
        · show ((text ++ [x]).length : Int) ≤ _
          rw [List.length_append]
          simp only [List.length_singleton]
          omega
  · have j4 := i4 rfl
    clear i3 i4
    unfold stepG at hst ⊢
    simp only [if_true] at hst ⊢
    unfold otherG at hst ⊢
    dsimp only at hst ⊢
    by_cases hm : (many : Int) = l.head
    · rw [if_pos hm] at hst
      rcases hst with h | h <;> cases h
    rw [if_neg hm] at hst
    rw [if_neg hm, if_neg (show ¬ (many : Int) = m.head by omega)]
    have k4 : ((i + 1 : Nat) : Int) ≤ l.line + 2 + ((many + 1 : Nat) : Int) := by omega
    have k2 : ((many + 1 : Nat) : Int) ≤ l.head := by omega
    rcases takeG_cases cr x with ⟨e, _, _⟩ | e | ⟨e, _, _⟩ | ⟨e, _, _⟩ <;> rw [e] at hst ⊢ <;> dsimp only at hst ⊢
    · simp only [ne_eq, not_true, Bool.false_eq_true, if_false, if_true] at hst ⊢
      by_cases ht : text = []
      · rw [if_pos ht, if_pos ht]
        exact ⟨rfl, fun h => (by cases h), fun _ => ⟨i1, by omega⟩⟩
      rw [if_neg ht] at hst
      rw [if_neg ht, if_neg ht]
      by_cases hf : (fs.length : Int) = l.fields
      · rw [if_pos hf] at hst
        rcases hst with h | h <;> cases h
      rw [if_neg hf] at hst
      rw [if_neg hf, if_neg (show ¬ (fs.length : Int) = m.fields by omega)]
      by_cases hp : parseE text = 0
      · rw [if_pos hp]
        refine ⟨by first | rfl | trivial, fun _ => ⟨?_, k2, fun h => (by cases h), fun _ => k4⟩, fun h => by cases h⟩
        show ((fs ++ [(parseN text, parseV text)]).length : Int) ≤ _
        rw [List.length_append]
        simp only [List.length_singleton]
        omega
      · rw [if_neg hp] at hst
        rcases hst with h | h <;> cases h
    · simp at hst
    · simp only [ne_eq, not_true, Bool.false_eq_true, if_false] at hst ⊢
      exact ⟨by first | rfl | trivial, fun _ => ⟨i1, k2, fun h => (by cases h), fun _ => k4⟩, fun h => by cases h⟩
    · simp only [ne_eq, not_true, if_false, if_true] at hst ⊢
      exact ⟨by first | rfl | trivial, fun _ => ⟨i1, k2, fun h => (by cases h), fun _ => k4⟩, fun h => by cases h⟩
theorem scan_lim {l m : Lm} (h1 : l.line ≤ m.line) (h2 : l.head ≤ m.head) (h3 : l.fields ≤ m.fields) : ∀ (b : List UInt8) (s : HSt) (i : Nat), HInv l s i → (scanG l s i b).st = 200 →
    scanG m s i b = scanG l s i b ∧ ((scanG l s i b).fs.length : Int) ≤ l.fields ∧ ((scanG l s i b).used : Int) ≤ l.line + 2 + l.head
  | [], _, _, _, h => absurd h (by show ¬ (0 : Int) = 200; decide)
  | x :: r, s, i, hi, h => by
    rw [scan_cons] at h
    rw [scan_cons, scan_cons]
    by_cases h0 : (stepG l s x).2 = 0
    · rw [if_pos h0] at h
      obtain ⟨e1, e2, _⟩ := step_lim (x := x) hi h1 h2 h3 (.inl h0)
      rw [e1, if_pos h0, if_pos h0]
      exact scan_lim h1 h2 h3 r _ _ (e2 h0) h
    · rw [if_neg h0] at h
      by_cases h9 : (stepG l s x).2 = 200
      · obtain ⟨e1, _, e3⟩ := step_lim (x := x) hi h1 h2 h3 (.inr h9)
        rw [e1, if_neg h0, if_neg h0, if_pos h9]
        exact ⟨rfl, e3 h9⟩
      · rw [if_neg h9] at h
        exact absurd h h9
theorem scan_fs (l : Lm) : ∀ (b : List UInt8) (s : HSt) (i : Nat), s.Le i → (scanG l s i b).fs.length ≤ i + b.length
  | [], _, _, _ => Nat.zero_le _
  | x :: r, s, i, h => by
    have h1 := step_le (l := l) (x := x) h
    rw [scan_cons, List.length_cons]
    split
    · have := scan_fs l r _ _ h1
      omega
    · split
      · have := h1.fs
        show (stepG l s x).1.fs.length ≤ _
        omega
      · exact Nat.zero_le _
theorem scanR_fs (l : Lm) (b : List UInt8) (h : b.length ≤ 1000000000) : (scanR l b).fs.length ≤ 1000000000 := by
  unfold scanR
  split
  · have := scan_fs l b hst0 0 ⟨Nat.le_refl _, Nat.le_refl _, Nat.le_refl _⟩
    omega
  · exact Nat.zero_le _
end Go.Proofs.YtmdmmncoigeijaaDoor.Vex
/- The statements' own first head, and HeadBegins, reckoned. -/
namespace Go.Proofs.YtmdmmncoigeijaaDoor.Vex
open Go Go.RowKit
set_option maxRecDepth 100000
set_option linter.unusedSectionVars false
variable {gI : GI} [HasMax gI] [HasErr gI]

theorem SlcV.le {c : Ctx} {H : Hp} {A : Option Addr} {n cp sz : Nat} {h : Int} {K : Value → Prop} (h0 : 0 ≤ h) (h1 : h ≤ cp) (k : K (.slice A h.toNat cp)) : SlcV c H A n cp 0 (some h) sz K := by
  refine ⟨Int.le_refl _, h0, fun h' e w hw => by cases e; exact h1, ?_⟩
  have : A.map (·.add ((0 : Int).toNat * sz)) = A := by
    cases A with
    | none => rfl
    | some a =>
      simp only [Option.map_some, Int.toNat_zero, Nat.zero_mul, Option.some.injEq]
      unfold Addr.add
      split <;> simp_all
  simp only [this, ite_self, Option.getD_some]
  exact k
def limS : Lm := ⟨20, 40, 2, 0, 1⟩
theorem small20_f : Fn Tryd.prog gI 38 [] (limV limS) := by
  refine Fn.of tys_ok Tryd.func38 rfl (by kernel_rfl) rfl rfl ?_; intro w hG
  (conv => whnf); repeat ((first | refine tk1 ?_ | refine tk2 ?_ | refine tk3 ?_ | refine tk12 (fun _ => ?_) | refine tk4 ?_ | refine tk5 ?_ | refine tk6 ?_ | refine tk7 ?_ | refine tk8 ?_ | refine tk9 ?_ | refine tk10 (fun _ _ => ?_) | refine tk11 (fun _ => ?_) | refine tk13 ?_ | refine tk14 ?_); (conv => whnf))
  rfl
def aliveB : List UInt8 := [71, 69, 84, 32, 47, 32, 72, 84, 84, 80, 47, 49, 46, 49, 13, 10, 65, 58, 32, 98, 13, 10, 13, 10, 120]
theorem alive_scan : scanR limS aliveB = ⟨⟨[71, 69, 84], [47], [], 1⟩, [([97], [98])], 24, 200⟩ ∧ scanE limS aliveB = 0 := by decide +kernel
theorem alive20_f : Fn Tryd.prog gI 18 [] (.bool true) := by
  refine Fn.of tys_ok Tryd.func18 rfl (by kernel_rfl) rfl rfl ?_; intro w hG
  (conv => whnf); repeat ((first | refine tk1 ?_ | refine tk2 ?_ | refine tk3 ?_ | refine tk12 (fun _ => ?_) | refine tk4 ?_ | refine tk5 ?_ | refine tk6 ?_ | refine tk7 ?_ | refine tk8 ?_ | refine tk9 ?_ | refine tk10 (fun _ _ => ?_) | refine tk11 (fun _ => ?_) | refine tk13 ?_ | refine tk14 ?_); (conv => whnf))
  refine CallK.fn small20_f ?_
  (conv => whnf); repeat ((first | refine tk1 ?_ | refine tk2 ?_ | refine tk3 ?_ | refine tk12 (fun _ => ?_) | refine tk4 ?_ | refine tk5 ?_ | refine tk6 ?_ | refine tk7 ?_ | refine tk8 ?_ | refine tk9 ?_ | refine tk10 (fun _ _ => ?_) | refine tk11 (fun _ => ?_) | refine tk13 ?_ | refine tk14 ?_); (conv => whnf))
  rename_i b7
  refine Oth.same tys_ok rfl rfl rfl (fun o7 ho7 => ?_)
  have hR7 : ∀ H, RdA (mkC Tryd.prog gI w hG) (.obj b7 o7 :: H) (some ⟨b7, 0, none⟩) _ := ho7.rd
  have hs := HScan_f (gI := gI) limS (some ⟨b7, 0, none⟩) 25 aliveB (by decide)
  rw [alive_scan.1, alive_scan.2] at hs
  (conv => whnf); repeat ((first | refine tk1 ?_ | refine tk2 ?_ | refine tk3 ?_ | refine tk12 (fun _ => ?_) | refine tk4 ?_ | refine tk5 ?_ | refine tk6 ?_ | refine tk7 ?_ | refine tk8 ?_ | refine tk9 ?_ | refine tk10 (fun _ _ => ?_) | refine tk11 (fun _ => ?_) | refine tk13 ?_ | refine tk14 ?_); (conv => whnf))
  refine CallK.fnT hs (fun w1 hw1 => ⟨RdA.ok (xs := aliveB.map byteV) w1 hw1, trivial⟩) ?_
  intro x _
  dsimp only [ScV.val, ScV.hd, reqC, List.cons_append, List.nil_append, List.append_nil]
  (conv => whnf); repeat ((first | refine tk1 ?_ | refine tk2 ?_ | refine tk3 ?_ | refine tk12 (fun _ => ?_) | refine tk4 ?_ | refine tk5 ?_ | refine tk6 ?_ | refine tk7 ?_ | refine tk8 ?_ | refine tk9 ?_ | refine tk10 (fun _ _ => ?_) | refine tk11 (fun _ => ?_) | refine tk13 ?_ | refine tk14 ?_); (conv => whnf))
  rename_i b1 b27
  refine CallK.fnR (HSame_r ⟨[71, 69, 84], [47], [], 1⟩ ⟨[71, 69, 84], [47], [], 1⟩ x.fA _ x.fc 1 [([97], [98])] [([97], [98])] (by decide) (by decide)) ⟨RdA.ok, RdA.ok (xs := fcells [([97], [98])]), trivial⟩ ?_
  (conv => whnf); repeat ((first | refine tk1 ?_ | refine tk2 ?_ | refine tk3 ?_ | refine tk12 (fun _ => ?_) | refine tk4 ?_ | refine tk5 ?_ | refine tk6 ?_ | refine tk7 ?_ | refine tk8 ?_ | refine tk9 ?_ | refine tk10 (fun _ _ => ?_) | refine tk11 (fun _ => ?_) | refine tk13 ?_ | refine tk14 ?_); (conv => whnf))
  rfl
end Go.Proofs.YtmdmmncoigeijaaDoor.Vex
/- The statement HeadLimits, reckoned. -/
namespace Go.Proofs.YtmdmmncoigeijaaDoor.Vex
open Go Go.RowKit
set_option maxRecDepth 100000
set_option linter.unusedSectionVars false
variable {gI : GI} [HasMax gI] [HasErr gI]

set_option maxHeartbeats 8000000 in
theorem HeadLimits_v (l m : Lm) (BA : Option Addr) (Bc : Nat) (b : List UInt8) (hl : -9223372036854775808 ≤ l.line) (hh : -9223372036854775808 ≤ l.head) : FnR Tryd.prog gI 7 [limV l, limV m, .slice BA b.length Bc] [(BA, b.map byteV)] (.bool true) := by
  unfold limV
  refine FnE.of tys_ok Tryd.func7 rfl (by kernel_rfl) rfl rfl ?_; intro w hG hP
  have hRB : ∀ H, RdA (mkC Tryd.prog gI w hG) H BA (b.map byteV) := fun H => ⟨hP.1.now⟩
  (conv => whnf); repeat ((first | refine tk1 ?_ | refine tk2 ?_ | refine tk3 ?_ | refine tk12 (fun _ => ?_) | refine tk4 ?_ | refine tk5 ?_ | refine tk6 ?_ | refine tk7 ?_ | refine tk8 ?_ | refine tk9 ?_ | refine tk10 (fun _ _ => ?_) | refine tk11 (fun _ => ?_) | refine tk13 ?_ | refine tk14 ?_); (conv => whnf))
  rename_i b3 b4
  refine CallK.fn alive20_f ?_
  (conv => whnf); repeat ((first | refine tk1 ?_ | refine tk2 ?_ | refine tk3 ?_ | refine tk12 (fun _ => ?_) | refine tk4 ?_ | refine tk5 ?_ | refine tk6 ?_ | refine tk7 ?_ | refine tk8 ?_ | refine tk9 ?_ | refine tk10 (fun _ _ => ?_) | refine tk11 (fun _ => ?_) | refine tk13 ?_ | refine tk14 ?_); (conv => whnf))
  refine Cmp.cases (fun c1 => ?_) (fun c1 => ?_)
  · (conv => whnf); repeat ((first | refine tk1 ?_ | refine tk2 ?_ | refine tk3 ?_ | refine tk12 (fun _ => ?_) | refine tk4 ?_ | refine tk5 ?_ | refine tk6 ?_ | refine tk7 ?_ | refine tk8 ?_ | refine tk9 ?_ | refine tk10 (fun _ _ => ?_) | refine tk11 (fun _ => ?_) | refine tk13 ?_ | refine tk14 ?_); (conv => whnf))
    exact fun w' _ => rfl
  have hs1 := HScan_f (gI := gI) l BA Bc b (by omega)
  have e1 : scanE l b = limE l := by unfold scanE limE; rw [if_pos (show b.length ≤ 131072 by omega)]
  have f1 : limE l = 0 → scanR l b = scanG l hst0 0 b := fun h => by
    unfold scanR
    rw [e1, h]
    rfl
  have hrl := scanR_fs l b (by omega)
  cases hlo : limOK l
  · have e9 : limE l = 8 := by unfold limE; rw [hlo]; rfl
    rw [e1, e9] at hs1
    (conv => whnf); repeat ((first | refine tk1 ?_ | refine tk2 ?_ | refine tk3 ?_ | refine tk12 (fun _ => ?_) | refine tk4 ?_ | refine tk5 ?_ | refine tk6 ?_ | refine tk7 ?_ | refine tk8 ?_ | refine tk9 ?_ | refine tk10 (fun _ _ => ?_) | refine tk11 (fun _ => ?_) | refine tk13 ?_ | refine tk14 ?_); (conv => whnf))
    refine CallK.fnT hs1 (fun w1 hw1 => ⟨(hRB _).ok w1 hw1, trivial⟩) ?_
    intro x _
    dsimp only [ScV.val, ScV.hd, reqC, List.cons_append, List.nil_append, List.append_nil]
    (conv => whnf); repeat ((first | refine tk1 ?_ | refine tk2 ?_ | refine tk3 ?_ | refine tk12 (fun _ => ?_) | refine tk4 ?_ | refine tk5 ?_ | refine tk6 ?_ | refine tk7 ?_ | refine tk8 ?_ | refine tk9 ?_ | refine tk10 (fun _ _ => ?_) | refine tk11 (fun _ => ?_) | refine tk13 ?_ | refine tk14 ?_); (conv => whnf))
    exact fun w' _ => rfl
  have e9 : limE l = 0 := by unfold limE; rw [hlo]; rfl
  by_cases hr2 : (scanR l b).st = 200
  rotate_left
  · rw [e1, e9] at hs1
    (conv => whnf); repeat ((first | refine tk1 ?_ | refine tk2 ?_ | refine tk3 ?_ | refine tk12 (fun _ => ?_) | refine tk4 ?_ | refine tk5 ?_ | refine tk6 ?_ | refine tk7 ?_ | refine tk8 ?_ | refine tk9 ?_ | refine tk10 (fun _ _ => ?_) | refine tk11 (fun _ => ?_) | refine tk13 ?_ | refine tk14 ?_); (conv => whnf))
    refine CallK.fnT hs1 (fun w1 hw1 => ⟨(hRB _).ok w1 hw1, trivial⟩) ?_
    intro x _
    dsimp only [ScV.val, ScV.hd, reqC, List.cons_append, List.nil_append, List.append_nil]
    (conv => whnf); repeat ((first | refine tk1 ?_ | refine tk2 ?_ | refine tk3 ?_ | refine tk12 (fun _ => ?_) | refine tk4 ?_ | refine tk5 ?_ | refine tk6 ?_ | refine tk7 ?_ | refine tk8 ?_ | refine tk9 ?_ | refine tk10 (fun _ _ => ?_) | refine tk11 (fun _ => ?_) | refine tk13 ?_ | refine tk14 ?_); (conv => whnf))
    exact fun w' _ => rfl
  have hlim := fun (m : Lm) (h1 : l.line ≤ m.line) (h2 : l.head ≤ m.head) (h3 : l.fields ≤ m.fields) => scan_lim h1 h2 h3 b hst0 0 (inv0 hlo) (by rw [← f1 e9]; exact hr2)
  have hs2 := HScan_f (gI := gI) ⟨max m.line l.line, max m.head l.head, max m.fields l.fields, m.body, m.wait⟩ BA Bc b (by omega)
  have hq := scanR_fs ⟨max m.line l.line, max m.head l.head, max m.fields l.fields, m.body, m.wait⟩ b (by omega)
  have hm1 := hlim ⟨max m.line l.line, max m.head l.head, max m.fields l.fields, m.body, m.wait⟩ (by dsimp only; omega) (by dsimp only; omega) (by dsimp only; omega)
  have e2 : scanE ⟨max m.line l.line, max m.head l.head, max m.fields l.fields, m.body, m.wait⟩ b = limE ⟨max m.line l.line, max m.head l.head, max m.fields l.fields, m.body, m.wait⟩ := by unfold scanE limE; rw [if_pos (show b.length ≤ 131072 by omega)]
  have f2 : limE ⟨max m.line l.line, max m.head l.head, max m.fields l.fields, m.body, m.wait⟩ = 0 → scanR ⟨max m.line l.line, max m.head l.head, max m.fields l.fields, m.body, m.wait⟩ b = scanR l b := fun h => by
    rw [f1 e9, ← hm1.1]
    unfold scanR
    rw [e2, h]
    rfl
  have hm2 := hm1.2
  rw [← f1 e9] at hm2
  obtain ⟨e7, he7⟩ : ∃ e7, limE ⟨max m.line l.line, max m.head l.head, max m.fields l.fields, m.body, m.wait⟩ = e7 := ⟨_, rfl⟩
  obtain ⟨q, hq7⟩ : ∃ q, scanR ⟨max m.line l.line, max m.head l.head, max m.fields l.fields, m.body, m.wait⟩ b = q := ⟨_, rfl⟩
  rw [e2, he7, hq7] at hs2
  rw [he7, hq7] at f2
  rw [hq7] at hq
  have hlo2 : 0 ≤ l.line ∧ l.line ≤ 4096 ∧ 0 ≤ l.head ∧ l.head ≤ 4096 := by
    unfold limOK fromB at hlo
    simp only [Bool.and_eq_true, decide_eq_true_eq] at hlo
    omega
  rw [e1, e9] at hs1
  obtain ⟨r, hr⟩ : ∃ r, scanR l b = r := ⟨_, rfl⟩
  rw [hr] at hs1 hrl hr2 f2 hm2
  clear hm1 hlim f1 e1 e2 he7 hq7 hr
  (conv => whnf); repeat ((first | refine tk1 ?_ | refine tk2 ?_ | refine tk3 ?_ | refine tk12 (fun _ => ?_) | refine tk4 ?_ | refine tk5 ?_ | refine tk6 ?_ | refine tk7 ?_ | refine tk8 ?_ | refine tk9 ?_ | refine tk10 (fun _ _ => ?_) | refine tk11 (fun _ => ?_) | refine tk13 ?_ | refine tk14 ?_); (conv => whnf))
  refine CallK.fnT hs1 (fun w1 hw1 => ⟨(hRB _).ok w1 hw1, trivial⟩) ?_
  intro x _
  dsimp only [ScV.val, ScV.hd, reqC, List.cons_append, List.nil_append, List.append_nil]
  rw [hr2]
  (conv => whnf); repeat ((first | refine tk1 ?_ | refine tk2 ?_ | refine tk3 ?_ | refine tk12 (fun _ => ?_) | refine tk4 ?_ | refine tk5 ?_ | refine tk6 ?_ | refine tk7 ?_ | refine tk8 ?_ | refine tk9 ?_ | refine tk10 (fun _ _ => ?_) | refine tk11 (fun _ => ?_) | refine tk13 ?_ | refine tk14 ?_); (conv => whnf))
  rename_i b8
  refine DrawS.joinI (fun (_ : Unit) u => [u 0, u 1, .slice BA b.length Bc, .pointer (some ⟨b3, 0, none⟩), .pointer (some ⟨b4, 0, none⟩), u 5, u 6, .bool true, .pointer (some ⟨b8, 0, none⟩), .int .i64 (r.used : Nat), u 10, u 11, u 12, u 13, u 14, u 15, u 16, u 17, u 18, u 19, u 20, u 21, u 22, u 23, u 24, u 25, u 26, u 27, u 28, u 29, u 30, u 31, u 32, u 33, u 34, u 35, u 36, u 37, u 38, u 39, u 40, u 41, u 42, u 43, u 44, u 45, u 46, u 47, u 48, u 49, u 50, u 51, u 52, u 53, u 54, u 55, u 56, u 57, u 58, u 59, u 60, u 61, u 62, u 63, u 64, u 65, u 66, u 67, u 68, u 69, u 70, u 71, u 72, u 73, u 74, u 75, u 76, u 77, u 78, u 79, u 80, u 81, u 82, u 83, u 84, u 85, u 86, u 87, u 88, u 89, u 90, u 91, u 92, u 93, u 94, u 95, u 96, u 97, u 98, u 99, u 100])
    (fun _ => [.box b8 [str r.rq.m, str r.rq.p, str r.rq.q, .int .i64 r.rq.v, .slice x.fA r.fs.length x.fc, .slice none 0 0] 28, .row (.slice x.fA r.fs.length x.fc) 39 2 r.fs.length (fcells r.fs),
      .box b4 [.int .i64 (max m.line l.line), .int .i64 (max m.head l.head), .int .i64 (max m.fields l.fields), .int .i64 m.body, .int .i64 m.wait] 50, .box b3 [.int .i64 l.line, .int .i64 l.head, .int .i64 l.fields, .int .i64 l.body, .int .i64 l.wait] 50])
    [] (.q 0 (.q 1 (.q 2 (.q 3 (.q 4 (.q 5 (.q 6 (.q 10 (.q 11 (.q 15 (.ch 7 (.ch 8 (.ch 9 (.ch 12 (.ch 13 (.ch 14 (.a 16 (.q 17 (.a 18 (.q 19 (.a 20 (.nil)))))) (.ch 16 (.q 17 (.ch 14 (.a 18 (.q 19 (.a 20 (.nil)))) (.ch 18 (.q 14 (.q 19 (.a 20 (.nil)))) (.stop)))) (.stop))) (.ch 16 (.q 17 (.ch 13 (.ch 14 (.a 18 (.q 19 (.a 20 (.nil)))) (.ch 18 (.q 14 (.q 19 (.a 20 (.nil)))) (.stop))) (.ch 18 (.q 13 (.q 14 (.q 19 (.a 20 (.nil))))) (.stop)))) (.stop))) (.ch 16 (.q 17 (.ch 12 (.ch 13 (.ch 14 (.a 18 (.q 19 (.a 20 (.nil)))) (.ch 18 (.q 14 (.q 19 (.a 20 (.nil)))) (.stop))) (.ch 18 (.q 13 (.q 14 (.q 19 (.a 20 (.nil))))) (.stop))) (.ch 18 (.q 12 (.q 13 (.q 14 (.q 19 (.a 20 (.nil)))))) (.stop)))) (.stop))) (.ch 12 (.ch 9 (.ch 13 (.ch 14 (.a 16 (.q 17 (.a 18 (.q 19 (.a 20 (.nil)))))) (.ch 16 (.q 17 (.ch 14 (.a 18 (.q 19 (.a 20 (.nil)))) (.ch 18 (.q 14 (.q 19 (.a 20 (.nil)))) (.stop)))) (.stop))) (.ch 16 (.q 17 (.ch 13 (.ch 14 (.a 18 (.q 19 (.a 20 (.nil)))) (.ch 18 (.q 14 (.q 19 (.a 20 (.nil)))) (.stop))) (.ch 18 (.q 13 (.q 14 (.q 19 (.a 20 (.nil))))) (.stop)))) (.stop))) (.ch 13 (.ch 9 (.ch 14 (.a 16 (.q 17 (.a 18 (.q 19 (.a 20 (.nil)))))) (.ch 16 (.q 17 (.ch 14 (.a 18 (.q 19 (.a 20 (.nil)))) (.ch 18 (.q 14 (.q 19 (.a 20 (.nil)))) (.stop)))) (.stop))) (.ch 14 (.ch 9 (.a 16 (.q 17 (.a 18 (.q 19 (.a 20 (.nil)))))) (.ch 16 (.q 9 (.q 17 (.a 18 (.q 19 (.a 20 (.nil)))))) (.stop))) (.ch 16 (.q 9 (.q 17 (.ch 14 (.a 18 (.q 19 (.a 20 (.nil)))) (.ch 18 (.q 14 (.q 19 (.a 20 (.nil)))) (.stop))))) (.stop)))) (.ch 16 (.q 9 (.q 17 (.ch 13 (.ch 14 (.a 18 (.q 19 (.a 20 (.nil)))) (.ch 18 (.q 14 (.q 19 (.a 20 (.nil)))) (.stop))) (.ch 18 (.q 13 (.q 14 (.q 19 (.a 20 (.nil))))) (.stop))))) (.stop)))) (.ch 16 (.q 9 (.q 17 (.ch 12 (.ch 13 (.ch 14 (.a 18 (.q 19 (.a 20 (.nil)))) (.ch 18 (.q 14 (.q 19 (.a 20 (.nil)))) (.stop))) (.ch 18 (.q 13 (.q 14 (.q 19 (.a 20 (.nil))))) (.stop))) (.ch 18 (.q 12 (.q 13 (.q 14 (.q 19 (.a 20 (.nil)))))) (.stop))))) (.stop)))) (.ch 12 (.ch 8 (.ch 9 (.ch 13 (.ch 14 (.a 16 (.q 17 (.a 18 (.q 19 (.a 20 (.nil)))))) (.ch 16 (.q 17 (.ch 14 (.a 18 (.q 19 (.a 20 (.nil)))) (.ch 18 (.q 14 (.q 19 (.a 20 (.nil)))) (.stop)))) (.stop))) (.ch 16 (.q 17 (.ch 13 (.ch 14 (.a 18 (.q 19 (.a 20 (.nil)))) (.ch 18 (.q 14 (.q 19 (.a 20 (.nil)))) (.stop))) (.ch 18 (.q 13 (.q 14 (.q 19 (.a 20 (.nil))))) (.stop)))) (.stop))) (.ch 13 (.ch 9 (.ch 14 (.a 16 (.q 17 (.a 18 (.q 19 (.a 20 (.nil)))))) (.ch 16 (.q 17 (.ch 14 (.a 18 (.q 19 (.a 20 (.nil)))) (.ch 18 (.q 14 (.q 19 (.a 20 (.nil)))) (.stop)))) (.stop))) (.ch 14 (.ch 9 (.a 16 (.q 17 (.a 18 (.q 19 (.a 20 (.nil)))))) (.ch 16 (.q 9 (.q 17 (.a 18 (.q 19 (.a 20 (.nil)))))) (.stop))) (.ch 16 (.q 9 (.q 17 (.ch 14 (.a 18 (.q 19 (.a 20 (.nil)))) (.ch 18 (.q 14 (.q 19 (.a 20 (.nil)))) (.stop))))) (.stop)))) (.ch 16 (.q 9 (.q 17 (.ch 13 (.ch 14 (.a 18 (.q 19 (.a 20 (.nil)))) (.ch 18 (.q 14 (.q 19 (.a 20 (.nil)))) (.stop))) (.ch 18 (.q 13 (.q 14 (.q 19 (.a 20 (.nil))))) (.stop))))) (.stop)))) (.ch 13 (.ch 8 (.ch 9 (.ch 14 (.a 16 (.q 17 (.a 18 (.q 19 (.a 20 (.nil)))))) (.ch 16 (.q 17 (.ch 14 (.a 18 (.q 19 (.a 20 (.nil)))) (.ch 18 (.q 14 (.q 19 (.a 20 (.nil)))) (.stop)))) (.stop))) (.ch 14 (.ch 9 (.a 16 (.q 17 (.a 18 (.q 19 (.a 20 (.nil)))))) (.ch 16 (.q 9 (.q 17 (.a 18 (.q 19 (.a 20 (.nil)))))) (.stop))) (.ch 16 (.q 9 (.q 17 (.ch 14 (.a 18 (.q 19 (.a 20 (.nil)))) (.ch 18 (.q 14 (.q 19 (.a 20 (.nil)))) (.stop))))) (.stop)))) (.ch 14 (.ch 8 (.ch 9 (.a 16 (.q 17 (.a 18 (.q 19 (.a 20 (.nil)))))) (.ch 16 (.q 9 (.q 17 (.a 18 (.q 19 (.a 20 (.nil)))))) (.stop))) (.ch 16 (.q 8 (.q 9 (.q 17 (.a 18 (.q 19 (.a 20 (.nil))))))) (.stop))) (.ch 16 (.q 8 (.q 9 (.q 17 (.ch 14 (.a 18 (.q 19 (.a 20 (.nil)))) (.ch 18 (.q 14 (.q 19 (.a 20 (.nil)))) (.stop)))))) (.stop)))) (.ch 16 (.q 8 (.q 9 (.q 17 (.ch 13 (.ch 14 (.a 18 (.q 19 (.a 20 (.nil)))) (.ch 18 (.q 14 (.q 19 (.a 20 (.nil)))) (.stop))) (.ch 18 (.q 13 (.q 14 (.q 19 (.a 20 (.nil))))) (.stop)))))) (.stop)))) (.ch 16 (.q 8 (.q 9 (.q 17 (.ch 12 (.ch 13 (.ch 14 (.a 18 (.q 19 (.a 20 (.nil)))) (.ch 18 (.q 14 (.q 19 (.a 20 (.nil)))) (.stop))) (.ch 18 (.q 13 (.q 14 (.q 19 (.a 20 (.nil))))) (.stop))) (.ch 18 (.q 12 (.q 13 (.q 14 (.q 19 (.a 20 (.nil)))))) (.stop)))))) (.stop)))) (.ch 12 (.ch 7 (.ch 8 (.ch 9 (.ch 13 (.ch 14 (.a 16 (.q 17 (.a 18 (.q 19 (.a 20 (.nil)))))) (.ch 16 (.q 17 (.ch 14 (.a 18 (.q 19 (.a 20 (.nil)))) (.ch 18 (.q 14 (.q 19 (.a 20 (.nil)))) (.stop)))) (.stop))) (.ch 16 (.q 17 (.ch 13 (.ch 14 (.a 18 (.q 19 (.a 20 (.nil)))) (.ch 18 (.q 14 (.q 19 (.a 20 (.nil)))) (.stop))) (.ch 18 (.q 13 (.q 14 (.q 19 (.a 20 (.nil))))) (.stop)))) (.stop))) (.ch 13 (.ch 9 (.ch 14 (.a 16 (.q 17 (.a 18 (.q 19 (.a 20 (.nil)))))) (.ch 16 (.q 17 (.ch 14 (.a 18 (.q 19 (.a 20 (.nil)))) (.ch 18 (.q 14 (.q 19 (.a 20 (.nil)))) (.stop)))) (.stop))) (.ch 14 (.ch 9 (.a 16 (.q 17 (.a 18 (.q 19 (.a 20 (.nil)))))) (.ch 16 (.q 9 (.q 17 (.a 18 (.q 19 (.a 20 (.nil)))))) (.stop))) (.ch 16 (.q 9 (.q 17 (.ch 14 (.a 18 (.q 19 (.a 20 (.nil)))) (.ch 18 (.q 14 (.q 19 (.a 20 (.nil)))) (.stop))))) (.stop)))) (.ch 16 (.q 9 (.q 17 (.ch 13 (.ch 14 (.a 18 (.q 19 (.a 20 (.nil)))) (.ch 18 (.q 14 (.q 19 (.a 20 (.nil)))) (.stop))) (.ch 18 (.q 13 (.q 14 (.q 19 (.a 20 (.nil))))) (.stop))))) (.stop)))) (.ch 13 (.ch 8 (.ch 9 (.ch 14 (.a 16 (.q 17 (.a 18 (.q 19 (.a 20 (.nil)))))) (.ch 16 (.q 17 (.ch 14 (.a 18 (.q 19 (.a 20 (.nil)))) (.ch 18 (.q 14 (.q 19 (.a 20 (.nil)))) (.stop)))) (.stop))) (.ch 14 (.ch 9 (.a 16 (.q 17 (.a 18 (.q 19 (.a 20 (.nil)))))) (.ch 16 (.q 9 (.q 17 (.a 18 (.q 19 (.a 20 (.nil)))))) (.stop))) (.ch 16 (.q 9 (.q 17 (.ch 14 (.a 18 (.q 19 (.a 20 (.nil)))) (.ch 18 (.q 14 (.q 19 (.a 20 (.nil)))) (.stop))))) (.stop)))) (.ch 14 (.ch 8 (.ch 9 (.a 16 (.q 17 (.a 18 (.q 19 (.a 20 (.nil)))))) (.ch 16 (.q 9 (.q 17 (.a 18 (.q 19 (.a 20 (.nil)))))) (.stop))) (.ch 16 (.q 8 (.q 9 (.q 17 (.a 18 (.q 19 (.a 20 (.nil))))))) (.stop))) (.ch 16 (.q 8 (.q 9 (.q 17 (.ch 14 (.a 18 (.q 19 (.a 20 (.nil)))) (.ch 18 (.q 14 (.q 19 (.a 20 (.nil)))) (.stop)))))) (.stop)))) (.ch 16 (.q 8 (.q 9 (.q 17 (.ch 13 (.ch 14 (.a 18 (.q 19 (.a 20 (.nil)))) (.ch 18 (.q 14 (.q 19 (.a 20 (.nil)))) (.stop))) (.ch 18 (.q 13 (.q 14 (.q 19 (.a 20 (.nil))))) (.stop)))))) (.stop)))) (.ch 13 (.ch 7 (.ch 8 (.ch 9 (.ch 14 (.a 16 (.q 17 (.a 18 (.q 19 (.a 20 (.nil)))))) (.ch 16 (.q 17 (.ch 14 (.a 18 (.q 19 (.a 20 (.nil)))) (.ch 18 (.q 14 (.q 19 (.a 20 (.nil)))) (.stop)))) (.stop))) (.ch 14 (.ch 9 (.a 16 (.q 17 (.a 18 (.q 19 (.a 20 (.nil)))))) (.ch 16 (.q 9 (.q 17 (.a 18 (.q 19 (.a 20 (.nil)))))) (.stop))) (.ch 16 (.q 9 (.q 17 (.ch 14 (.a 18 (.q 19 (.a 20 (.nil)))) (.ch 18 (.q 14 (.q 19 (.a 20 (.nil)))) (.stop))))) (.stop)))) (.ch 14 (.ch 8 (.ch 9 (.a 16 (.q 17 (.a 18 (.q 19 (.a 20 (.nil)))))) (.ch 16 (.q 9 (.q 17 (.a 18 (.q 19 (.a 20 (.nil)))))) (.stop))) (.ch 16 (.q 8 (.q 9 (.q 17 (.a 18 (.q 19 (.a 20 (.nil))))))) (.stop))) (.ch 16 (.q 8 (.q 9 (.q 17 (.ch 14 (.a 18 (.q 19 (.a 20 (.nil)))) (.ch 18 (.q 14 (.q 19 (.a 20 (.nil)))) (.stop)))))) (.stop)))) (.ch 14 (.ch 7 (.ch 8 (.ch 9 (.a 16 (.q 17 (.a 18 (.q 19 (.a 20 (.nil)))))) (.ch 16 (.q 9 (.q 17 (.a 18 (.q 19 (.a 20 (.nil)))))) (.stop))) (.ch 16 (.q 8 (.q 9 (.q 17 (.a 18 (.q 19 (.a 20 (.nil))))))) (.stop))) (.ch 16 (.q 7 (.q 8 (.q 9 (.q 17 (.a 18 (.q 19 (.a 20 (.nil)))))))) (.stop))) (.ch 16 (.q 7 (.q 8 (.q 9 (.q 17 (.ch 14 (.a 18 (.q 19 (.a 20 (.nil)))) (.ch 18 (.q 14 (.q 19 (.a 20 (.nil)))) (.stop))))))) (.stop)))) (.ch 16 (.q 7 (.q 8 (.q 9 (.q 17 (.ch 13 (.ch 14 (.a 18 (.q 19 (.a 20 (.nil)))) (.ch 18 (.q 14 (.q 19 (.a 20 (.nil)))) (.stop))) (.ch 18 (.q 13 (.q 14 (.q 19 (.a 20 (.nil))))) (.stop))))))) (.stop)))) (.ch 16 (.q 7 (.q 8 (.q 9 (.q 17 (.ch 12 (.ch 13 (.ch 14 (.a 18 (.q 19 (.a 20 (.nil)))) (.ch 18 (.q 14 (.q 19 (.a 20 (.nil)))) (.stop))) (.ch 18 (.q 13 (.q 14 (.q 19 (.a 20 (.nil))))) (.stop))) (.ch 18 (.q 12 (.q 13 (.q 14 (.q 19 (.a 20 (.nil)))))) (.stop))))))) (.stop)))))))))))))) tys_ok mixed (by kernel_rfl) ?_ ?_
  · (repeat' ((conv => whnf); first | (first | refine tk1 ?_ | refine tk2 ?_ | refine tk3 ?_ | refine tk12 (fun _ => ?_) | refine tk4 ?_ | refine tk5 ?_ | refine tk6 ?_ | refine tk7 ?_ | refine tk8 ?_ | refine tk9 ?_ | refine tk10 (fun _ _ => ?_) | refine tk11 (fun _ => ?_) | refine tk13 ?_ | refine tk14 ?_) | refine And.intro ?_ ?_ | exact trivial | exact ⟨(), rfl, Cv.into (by (try dsimp only); repeat' (first | with_reducible exact Cv.refl | with_reducible exact Cv.left | with_reducible exact Cv.right | with_reducible exact Cv.nil | (with_reducible apply Cv.cons; focus ((repeat (first | with_reducible exact Pick.here | with_reducible apply Pick.skip)); done)) | (apply Cv.cons; focus ((repeat (first | exact Pick.here | apply Pick.skip)); done)) | exact Cv.nil | exact Cv.refl | exact Cv.left | exact Cv.right | refine Cv.skip ?_))⟩ | (refine OthP.max2 _ rfl rfl rfl ?_)))
  rintro ⟨⟩ u
  dsimp only
  (conv => whnf); repeat ((first | refine tk1 ?_ | refine tk2 ?_ | refine tk3 ?_ | refine tk12 (fun _ => ?_) | refine tk4 ?_ | refine tk5 ?_ | refine tk6 ?_ | refine tk7 ?_ | refine tk8 ?_ | refine tk9 ?_ | refine tk10 (fun _ _ => ?_) | refine tk11 (fun _ => ?_) | refine tk13 ?_ | refine tk14 ?_); (conv => whnf))
  refine CallK.fnT hs2 (fun w1 hw1 => ⟨(hRB _).ok w1 hw1, trivial⟩) ?_
  intro y _
  dsimp only [ScV.val, ScV.hd, reqC, List.cons_append, List.nil_append, List.append_nil]
  by_cases h7 : e7 = 0
  · have hqr := f2 h7
    subst hqr
    rw [h7]
    (conv => whnf); repeat ((first | refine tk1 ?_ | refine tk2 ?_ | refine tk3 ?_ | refine tk12 (fun _ => ?_) | refine tk4 ?_ | refine tk5 ?_ | refine tk6 ?_ | refine tk7 ?_ | refine tk8 ?_ | refine tk9 ?_ | refine tk10 (fun _ _ => ?_) | refine tk11 (fun _ => ?_) | refine tk13 ?_ | refine tk14 ?_); (conv => whnf))
    refine CallK.fnR (HSame_r q.rq q.rq y.fA x.fA y.fc x.fc q.fs q.fs hrl hrl) ⟨RdA.ok, RdA.ok, trivial⟩ ?_
    rw [show (decide (q.rq = q.rq) && decide (q.fs = q.fs)) = true by simp]
    (conv => whnf); repeat ((first | refine tk1 ?_ | refine tk2 ?_ | refine tk3 ?_ | refine tk12 (fun _ => ?_) | refine tk4 ?_ | refine tk5 ?_ | refine tk6 ?_ | refine tk7 ?_ | refine tk8 ?_ | refine tk9 ?_ | refine tk10 (fun _ _ => ?_) | refine tk11 (fun _ => ?_) | refine tk13 ?_ | refine tk14 ?_); (conv => whnf))
    exact fun w' _ => rfl
  · (conv => whnf); repeat ((first | refine tk1 ?_ | refine tk2 ?_ | refine tk3 ?_ | refine tk12 (fun _ => ?_) | refine tk4 ?_ | refine tk5 ?_ | refine tk6 ?_ | refine tk7 ?_ | refine tk8 ?_ | refine tk9 ?_ | refine tk10 (fun _ _ => ?_) | refine tk11 (fun _ => ?_) | refine tk13 ?_ | refine tk14 ?_); (conv => whnf))
    exact fun w' _ => rfl
end Go.Proofs.YtmdmmncoigeijaaDoor.Vex
namespace Go.Proofs.YtmdmmncoigeijaaDoor.headLimits
open Go.ChangeShapes Go.WideShapes Go.ChangeAt Go.RowKit

set_option maxRecDepth 100000 in
theorem contract (H : Type) (enc : TypeId × Value → H) (W : World) (base : Nat) (args : Array Value) (ds gs : List (DataW H)) (before : List MemPlace)
    (hval : ∀ (j : Nat) t v, Tryd.f7.params[j]? = some t → args[j]? = some v → Value.okWide Tryd.prog W .any base t v)
    (hW : DataW.Whole enc Tryd.prog Tryd.f7.params.toList Rows.headLimitsSpec.vars false W args.toList ds gs before) (hL : laidMetH Tryd.prog Rows.headLimitsRow.laid W) (hS : W.ShapedOpen Tryd.prog) :
    Calls Tryd.prog 7 args W fun e W' => ∃ v, e = .returned v ∧ Rows.headLimitsSpec.post enc Tryd.prog Tryd.f7 false true false false W args v W' := by
  have hW' := hW
  obtain ⟨p, q, hA, hV, rfl, hfz, hnd⟩ := hW
  rw [Tryd.params7] at hA hval
  obtain ⟨v0, vs0, d0, ds0, p0, q0, hargs, rfl, rfl, h0, r0⟩ := trodAll_cons hA
  obtain ⟨v1, vs1, d1, ds1, p1, q1, rfl, rfl, rfl, h1, r1⟩ := trodAll_cons r0
  obtain ⟨v2, vs2, d2, ds2, p2, q2, rfl, rfl, rfl, h2, r2⟩ := trodAll_cons r1
  obtain ⟨rfl, rfl, rfl⟩ := trodAll_nil r2
  obtain rfl : args = #[v0, v1, v2] := by rw [← Array.toList_inj]; exact hargs
  obtain ⟨rfl, rfl⟩ := trodVars_none hV
  obtain ⟨x0, rfl, k0, z0⟩ := Vex.open_whole Vex.opens_limits Tryd.underlying50 (hval 0 50 v0 rfl rfl) h0
  obtain ⟨x1, rfl, k1, z1⟩ := Vex.open_whole Vex.opens_limits Tryd.underlying50 (hval 1 50 v1 rfl rfl) h1
  obtain ⟨x2, e2, k2, z2⟩ := Vex.open_cell Vex.opens_bytes (by rw [Tryd.underlying26]) (hval 2 26 v2 rfl rfl) h2
  obtain rfl := (List.cons.inj e2).1
  have hG := Vex.gE_of hL hS (by kernel_rfl) (List.mem_of_getElem? (i := 5) rfl) (List.mem_of_getElem? (i := 4) rfl)
  refine (Vex.done_E (Vex.HeadLimits_v x0 x1 x2.A x2.cp x2.l k0.1.1 k0.2.1.1) hG ⟨Vex.rd_bytes k2, trivial⟩).mono fun e W' ⟨he, hb⟩ => ?_
  exact ⟨_, he, law_post laidOut rfl hW' (by kernel_rfl) (by kernel_rfl) Tryd.underlying4 (by kernel_rfl) hb⟩

abbrev start : Array Value := #[.agg #[.int .i64 0, .int .i64 0, .int .i64 0, .int .i64 0, .int .i64 0], .agg #[.int .i64 0, .int .i64 0, .int .i64 0, .int .i64 0, .int .i64 0], .slice none 0 0]
theorem laid_met (os : Os) : laidMet Tryd.prog Rows.headLimitsRow.laid ((laidWorld os start).forCall (fun _ _ => 0) ⟨#[], start, []⟩).memory :=
  laidMet_of_run' 8 (by kernel_rfl) (by kernel_rfl)
theorem reads (os : Os) {H : Type} (enc : TypeId × Value → H) : ∃ places, DataW.whole enc Tryd.prog ((laidWorld os start).forCall (fun _ _ => 0) ⟨#[], start, []⟩).memory Tryd.f7.params.toList Rows.headLimitsSpec.vars false start.toList 8 = some ([.agg [.lit (.int .i64 0), .lit (.int .i64 0), .lit (.int .i64 0), .lit (.int .i64 0), .lit (.int .i64 0)], .agg [.lit (.int .i64 0), .lit (.int .i64 0), .lit (.int .i64 0), .lit (.int .i64 0), .lit (.int .i64 0)], .nil], [], places) :=
  ⟨[], by kernel_rfl⟩

set_option maxRecDepth 100000 in
theorem lifted (os : Os) (started : os.Started) (H : Type) (enc : TypeId × Value → H) (F : Stop.Interp) :
    ReturnsInHanded {} Tryd.checked os 7 .any ((OpenSpec.ofChange Rows.headLimitsSpec).preRow enc Tryd.prog Tryd.f7 Rows.headLimitsRow.domain false Rows.headLimitsRow.laid) (((OpenSpec.ofChange Rows.headLimitsSpec).at F).post enc Tryd.prog Tryd.f7 false true false false) := by
  obtain ⟨places, hx⟩ := reads os enc
  refine returnsInHanded_of_row (C := Tryd.checked) (s := OpenSpec.ofChange Rows.headLimitsSpec) own started (by kernel_rfl) Tryd.func7
    (witness_row_atRef (enc := enc) (C := Tryd.checked) false (laidWorld os start) start rfl (by kernel_rfl) (by kernel_rfl) (by kernel_rfl)
      (OpenSpec.preRow_of_cond 8 hx (by kernel_rfl) (fun k hk => by cases hk) (by kernel_rfl) (laid_met os))) ?_
  intro W base args ds gs before hval hW _ _ _ hL hS _
  exact contract H enc W base args ds gs before hval hW hL hS

theorem said : Rows.HeadLimitsSaid :=
  OpenClaim.holds_of_cond 7 Tryd.f7 rfl rfl rfl rfl rfl rfl rfl ⟨rfl, rfl, rfl, rfl, rfl⟩ rfl rfl rfl rfl rfl (by kernel_rfl) Tryd.func7 (by kernel_rfl)
    (of_decide_eq_true (by kernel_rfl)) (by unfold Func.isWrapper; first | (rw [if_pos (by decide +kernel)]; kernel_rfl) | (rw [if_neg (by decide +kernel)]; exact ⟨rfl, rfl⟩))
    (fun os started H enc _ F => by rw [OpenClaim.pre_eq_preRow]; exact lifted os started H enc F)

/-- No parameter wants a stand-in; the program's own looks. -/
theorem plain (f : FuncId) (fn : Func) (hf : Tryd.pinned.checked.prog.funcNamed "bellows/bellowslaw20.HeadLimits" = some f) (hfn : Tryd.pinned.checked.prog.funcs[f]? = some fn) :
    true = Tryd.pinned.checked.prog.looks [] ∧ ∀ (j : Nat) t, fn.params[j]? = some t → Tryd.pinned.checked.prog.wantsStandIn t = false := by
  obtain rfl : f = 7 := Option.some.inj ((show Tryd.prog.funcNamed "bellows/bellowslaw20.HeadLimits" = some 7 by kernel_rfl).symm.trans hf) |>.symm
  obtain rfl : fn = Tryd.f7 := (Option.some.inj (Tryd.func7.symm.trans hfn)).symm
  refine ⟨by kernel_rfl, fun j t ht => ?_⟩
  have hall : (Tryd.f7.params.toList.all fun t => !Tryd.prog.wantsStandIn t) = true := by kernel_rfl
  have := List.all_eq_true.1 hall t (Array.mem_toList_iff.2 (Array.mem_of_getElem? ht))
  exact (show Tryd.prog.wantsStandIn t = false by simpa using this)

theorem proved : Rows.HeadLimitsCardSaid :=
  Claim7.holds_tied_plain_at .later [] _ _ _ _ said (fun _ h => by cases h) (by kernel_rfl) (fun _ h => by cases h) headLimits_row_tie rfl ⟨rfl, rfl⟩ (by kernel_rfl) rfl plain (by kernel_rfl)
end Go.Proofs.YtmdmmncoigeijaaDoor.headLimits
