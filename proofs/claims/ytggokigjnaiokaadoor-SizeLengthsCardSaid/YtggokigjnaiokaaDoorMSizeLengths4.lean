/- For every two numbers, SizeLengths returns true; the arguments read behind the call as they read before. -/
import Derived.Test.YtggokigjnaiokaaDoorMSizeLengths3
import Derived.Lib.ItoaNum
/- The law SizeOne, reckoned. -/
namespace Go.Proofs.YtggokigjnaiokaaDoor.Vex
open Go Go.RowKit
set_option maxRecDepth 100000
set_option linter.unusedSectionVars false
variable {gI : GI} [HasMax gI]

theorem sizeOf_cases (F : List Fld) (v : Int) : (sizeOf F v = (0, 0, 400) ∨ sizeOf F v = (0, 0, 501) ∨ (sizeOf F v = (0, 0, 200) ∧ allOf F codN = []) ∨ (sizeOf F v = (2, 0, 200) ∧ allOf F codN ≠ [] ∧ allOf F lenN = [] ∧ v ≠ 0) ∨ ∃ n, sizeOf F v = (1, n, 200) ∧ allOf F codN = [] ∧ allOf F lenN ≠ [] ∧ 0 ≤ n ∧ n < 1000000000) := by
  have go : ∀ (l : List (List UInt8)) (x : Option Int), (∀ n, x = some n → 0 ≤ n ∧ n < 1000000000) → lenGo x l = (0, 0, 400) ∨ ∃ n, lenGo x l = (1, n, 200) ∧ 0 ≤ n ∧ n < 1000000000 := by
    intro l
    induction l with
    | nil =>
      intro x hx
      cases x with
      | none => exact .inl rfl
      | some n => exact .inr ⟨n, rfl, hx n rfl⟩
    | cons s r ih =>
      intro x hx
      rw [lenGo_cons]
      split
      · exact ih _ (fun n hn => by cases hn; exact numN_range s)
      · exact .inl rfl
  unfold sizeOf
  split
  · exact .inl rfl
  · split
    · rename_i hc
      unfold codS
      split
      · exact .inl rfl
      · rename_i h
        split
        · exact .inr (.inl rfl)
        · refine .inr (.inr (.inr (.inl ⟨rfl, hc, ?_, fun h1 => h (.inl h1)⟩)))
          by_cases h2 : allOf F lenN = []
          · exact h2
          · exact absurd (.inr (.inl (decide_eq_true h2))) h
    · rename_i hc
      have hc : allOf F codN = [] := by simpa using hc
      split
      · rename_i hl
        rcases go (itemsAll (allOf F lenN)) none (fun n hn => by cases hn) with h | ⟨n, h, h1⟩
        · exact .inl h
        · exact .inr (.inr (.inr (.inr ⟨n, h, hc, hl, h1⟩)))
      · exact .inr (.inr (.inl ⟨rfl, hc⟩))
theorem allOf_cons (p : Fld) (F : List Fld) (s : List UInt8) (h : smallOf p.1 ≠ smallOf s) : allOf (p :: F) s = allOf F s := by
  unfold allOf
  rw [List.filter_cons, if_neg (by simpa using h)]
theorem allOf_snoc (p : Fld) (F : List Fld) (s : List UInt8) (h : smallOf p.1 ≠ smallOf s) : allOf (F ++ [p]) s = allOf F s := by
  unfold allOf
  rw [List.filter_append, List.filter_cons, if_neg (by simpa using h)]
  simp
theorem sizeOf_cons (p : Fld) (F : List Fld) (v : Int) (h1 : smallOf p.1 ≠ hostN) (h2 : smallOf p.1 ≠ lenN) (h3 : smallOf p.1 ≠ codN) : sizeOf (p :: F) v = sizeOf F v := by
  unfold sizeOf
  rw [allOf_cons p F hostN h1, allOf_cons p F lenN h2, allOf_cons p F codN h3]
theorem sizeOf_snoc (p : Fld) (F : List Fld) (v : Int) (h1 : smallOf p.1 ≠ hostN) (h2 : smallOf p.1 ≠ lenN) (h3 : smallOf p.1 ≠ codN) : sizeOf (F ++ [p]) v = sizeOf F v := by
  unfold sizeOf
  rw [allOf_snoc p F hostN h1, allOf_snoc p F lenN h2, allOf_snoc p F codN h3]
theorem is_f (k n st : Int) (A : Option Addr) (cp : Nat) (l : List Fld) (hl : fsum l ≤ 1000000) :
    FnR Tryd.prog gI 26 [.int .u8 k, .int .i64 n, .int .i64 st, .slice A l.length cp] [(A, fcells l)] (.bool (decide (sizeOf ((hostN, [104]) :: l) 1 = (k, n, st)))) := by
  have z := fsum_length l
  have zz : fsum ((hostN, [104]) :: l) ≤ 2000000 := by rw [fsum_cons]; simp [hostN]; omega
  refine FnE.of tys_ok Tryd.func26 rfl (by kernel_rfl) rfl rfl ?_; intro w hG hP
  have hR : ∀ H, RdA (mkC Tryd.prog gI w hG) H A (fcells l) := fun H => ⟨hP.1.now⟩
  (conv => whnf); repeat ((first | refine tk1 ?_ | refine tk2 ?_ | refine tk3 ?_ | refine tk12 (fun _ => ?_) | refine tk4 ?_ | refine tk5 ?_ | refine tk6 ?_ | refine tk7 ?_ | refine tk8 ?_ | refine tk9 ?_ | refine tk10 (fun _ _ => ?_) | refine tk11 (fun _ => ?_)); (conv => whnf))
  refine AppS.tc (m := l.length) (news := fcells l) SrcK.tc (by rw [fcells_length]; omega) (fcells_one l) (by decide) (by omega) (by omega) (zs := fcells ((hostN, [104]) :: l)) rfl (fun B cq => ?_)
  rw [show 1 + l.length = ((hostN, [104]) :: l).length by simp; omega]
  (conv => whnf); repeat ((first | refine tk1 ?_ | refine tk2 ?_ | refine tk3 ?_ | refine tk12 (fun _ => ?_) | refine tk4 ?_ | refine tk5 ?_ | refine tk6 ?_ | refine tk7 ?_ | refine tk8 ?_ | refine tk9 ?_ | refine tk10 (fun _ _ => ?_) | refine tk11 (fun _ => ?_)); (conv => whnf))
  refine CallK.fnR (Of_f [] [] [] 1 B cq ((hostN, [104]) :: l) (.slice none 0 0) zz (by decide)) ⟨RdA.ok, trivial⟩ ?_
  obtain ⟨s, hs⟩ : ∃ s, sizeOf ((hostN, [104]) :: l) 1 = s := ⟨_, rfl⟩
  rw [hs]
  obtain ⟨s1, s2, s3⟩ := s
  dsimp only
  (conv => whnf); repeat ((first | refine tk1 ?_ | refine tk2 ?_ | refine tk3 ?_ | refine tk12 (fun _ => ?_) | refine tk4 ?_ | refine tk5 ?_ | refine tk6 ?_ | refine tk7 ?_ | refine tk8 ?_ | refine tk9 ?_ | refine tk10 (fun _ _ => ?_) | refine tk11 (fun _ => ?_)); (conv => whnf))
  refine Cmp.cases (fun h1 => ?_) (fun h1 => ?_)
  · (conv => whnf); repeat ((first | refine tk1 ?_ | refine tk2 ?_ | refine tk3 ?_ | refine tk12 (fun _ => ?_) | refine tk4 ?_ | refine tk5 ?_ | refine tk6 ?_ | refine tk7 ?_ | refine tk8 ?_ | refine tk9 ?_ | refine tk10 (fun _ _ => ?_) | refine tk11 (fun _ => ?_)); (conv => whnf))
    refine Cmp.cases (fun h2 => ?_) (fun h2 => ?_)
    · (conv => whnf); repeat ((first | refine tk1 ?_ | refine tk2 ?_ | refine tk3 ?_ | refine tk12 (fun _ => ?_) | refine tk4 ?_ | refine tk5 ?_ | refine tk6 ?_ | refine tk7 ?_ | refine tk8 ?_ | refine tk9 ?_ | refine tk10 (fun _ _ => ?_) | refine tk11 (fun _ => ?_)); (conv => whnf))
      refine Cmp.cases (fun h3 => ?_) (fun h3 => ?_)
      · (conv => whnf); repeat ((first | refine tk1 ?_ | refine tk2 ?_ | refine tk3 ?_ | refine tk12 (fun _ => ?_) | refine tk4 ?_ | refine tk5 ?_ | refine tk6 ?_ | refine tk7 ?_ | refine tk8 ?_ | refine tk9 ?_ | refine tk10 (fun _ _ => ?_) | refine tk11 (fun _ => ?_)); (conv => whnf))
        intro w' _
        rw [decide_eq_true (by simp_all)]
      · (conv => whnf); repeat ((first | refine tk1 ?_ | refine tk2 ?_ | refine tk3 ?_ | refine tk12 (fun _ => ?_) | refine tk4 ?_ | refine tk5 ?_ | refine tk6 ?_ | refine tk7 ?_ | refine tk8 ?_ | refine tk9 ?_ | refine tk10 (fun _ _ => ?_) | refine tk11 (fun _ => ?_)); (conv => whnf))
        intro w' _
        rw [decide_eq_false (by simp_all)]
    · (conv => whnf); repeat ((first | refine tk1 ?_ | refine tk2 ?_ | refine tk3 ?_ | refine tk12 (fun _ => ?_) | refine tk4 ?_ | refine tk5 ?_ | refine tk6 ?_ | refine tk7 ?_ | refine tk8 ?_ | refine tk9 ?_ | refine tk10 (fun _ _ => ?_) | refine tk11 (fun _ => ?_)); (conv => whnf))
      intro w' _
      rw [decide_eq_false (by simp_all)]
  · (conv => whnf); repeat ((first | refine tk1 ?_ | refine tk2 ?_ | refine tk3 ?_ | refine tk12 (fun _ => ?_) | refine tk4 ?_ | refine tk5 ?_ | refine tk6 ?_ | refine tk7 ?_ | refine tk8 ?_ | refine tk9 ?_ | refine tk10 (fun _ _ => ?_) | refine tk11 (fun _ => ?_)); (conv => whnf))
    intro w' _
    rw [decide_eq_false (by simp_all)]
theorem length21_f (s : List UInt8) : Fn Tryd.prog gI 27 [str s] (.agg ⟨[str lenN, str s]⟩) := by
  refine Fn.of tys_ok Tryd.func27 rfl (by kernel_rfl) rfl rfl ?_; intro w hG
  (conv => whnf); repeat ((first | refine tk1 ?_ | refine tk2 ?_ | refine tk3 ?_ | refine tk12 (fun _ => ?_) | refine tk4 ?_ | refine tk5 ?_ | refine tk6 ?_ | refine tk7 ?_ | refine tk8 ?_ | refine tk9 ?_ | refine tk10 (fun _ _ => ?_) | refine tk11 (fun _ => ?_)); (conv => whnf))
  rfl
theorem coding21_f (s : List UInt8) : Fn Tryd.prog gI 47 [str s] (.agg ⟨[str codN, str s]⟩) := by
  refine Fn.of tys_ok Tryd.func47 rfl (by kernel_rfl) rfl rfl ?_; intro w hG
  (conv => whnf); repeat ((first | refine tk1 ?_ | refine tk2 ?_ | refine tk3 ?_ | refine tk12 (fun _ => ?_) | refine tk4 ?_ | refine tk5 ?_ | refine tk6 ?_ | refine tk7 ?_ | refine tk8 ?_ | refine tk9 ?_ | refine tk10 (fun _ _ => ?_) | refine tk11 (fun _ => ?_)); (conv => whnf))
  rfl
theorem alive21_f : Fn Tryd.prog gI 20 [] (.bool true) := by
  refine Fn.of tys_ok Tryd.func20 rfl (by kernel_rfl) rfl rfl ?_; intro w hG
  (conv => whnf); repeat ((first | refine tk1 ?_ | refine tk2 ?_ | refine tk3 ?_ | refine tk12 (fun _ => ?_) | refine tk4 ?_ | refine tk5 ?_ | refine tk6 ?_ | refine tk7 ?_ | refine tk8 ?_ | refine tk9 ?_ | refine tk10 (fun _ _ => ?_) | refine tk11 (fun _ => ?_)); (conv => whnf))
  refine CallK.fnR ((is_f 0 0 200 none 0 [] (by decide)).toV (v' := .bool true) (by kernel_rfl)) ⟨RdS.nil, trivial⟩ ?_
  (conv => whnf); repeat ((first | refine tk1 ?_ | refine tk2 ?_ | refine tk3 ?_ | refine tk12 (fun _ => ?_) | refine tk4 ?_ | refine tk5 ?_ | refine tk6 ?_ | refine tk7 ?_ | refine tk8 ?_ | refine tk9 ?_ | refine tk10 (fun _ _ => ?_) | refine tk11 (fun _ => ?_)); (conv => whnf))
  refine CallK.fn (length21_f [49, 50]) ?_
  (conv => whnf); repeat ((first | refine tk1 ?_ | refine tk2 ?_ | refine tk3 ?_ | refine tk12 (fun _ => ?_) | refine tk4 ?_ | refine tk5 ?_ | refine tk6 ?_ | refine tk7 ?_ | refine tk8 ?_ | refine tk9 ?_ | refine tk10 (fun _ _ => ?_) | refine tk11 (fun _ => ?_)); (conv => whnf))
  refine CallK.fnR ((is_f 1 12 200 _ 1 [(lenN, [49, 50])] (by decide)).toV (v' := .bool true) (by kernel_rfl)) ⟨RdA.ok, trivial⟩ ?_
  (conv => whnf); repeat ((first | refine tk1 ?_ | refine tk2 ?_ | refine tk3 ?_ | refine tk12 (fun _ => ?_) | refine tk4 ?_ | refine tk5 ?_ | refine tk6 ?_ | refine tk7 ?_ | refine tk8 ?_ | refine tk9 ?_ | refine tk10 (fun _ _ => ?_) | refine tk11 (fun _ => ?_)); (conv => whnf))
  refine CallK.fn (coding21_f chunkedN) ?_
  (conv => whnf); repeat ((first | refine tk1 ?_ | refine tk2 ?_ | refine tk3 ?_ | refine tk12 (fun _ => ?_) | refine tk4 ?_ | refine tk5 ?_ | refine tk6 ?_ | refine tk7 ?_ | refine tk8 ?_ | refine tk9 ?_ | refine tk10 (fun _ _ => ?_) | refine tk11 (fun _ => ?_)); (conv => whnf))
  refine CallK.fnR ((is_f 2 0 200 _ 1 [(codN, chunkedN)] (by decide)).toV (v' := .bool true) (by kernel_rfl)) ⟨RdA.ok, trivial⟩ ?_
  (conv => whnf); repeat ((first | refine tk1 ?_ | refine tk2 ?_ | refine tk3 ?_ | refine tk12 (fun _ => ?_) | refine tk4 ?_ | refine tk5 ?_ | refine tk6 ?_ | refine tk7 ?_ | refine tk8 ?_ | refine tk9 ?_ | refine tk10 (fun _ _ => ?_) | refine tk11 (fun _ => ?_)); (conv => whnf))
theorem Of_s (m p q : List UInt8) (v : Int) (A : Option Addr) (cp : Nat) (F : List Fld) (c5 : Value) (hF : fsum F ≤ 2000000) (hv : -9223372036854775808 ≤ v ∧ v ≤ 9223372036854775807) {k n st : Int} (h : sizeOf F v = (k, n, st)) :
    FnR Tryd.prog gI 22 [.agg ⟨[str m, str p, str q, .int .i64 v, .slice A F.length cp, c5]⟩] [(A, fcells F)] (.tuple #[.int .u8 k, .int .i64 n, .int .i64 st]) := by
  have := Of_f (gI := gI) m p q v A cp F c5 hF hv
  rw [h] at this
  exact this
theorem Great18_b (A : Option Addr) (cp : Nat) (l : List Fld) : FnE Tryd.prog gI 21 [.slice A l.length cp] (fun w => Rdw w A (fcells l)) fun _ v _ => ∃ b, v = .bool b :=
  ⟨(Great_r (gI := gI) A cp l).can, fun w hG hp => ((Great_r A cp l).ok w hG ⟨hp, trivial⟩).mono fun _ _ ⟨v, he, hv, hr⟩ => ⟨v, he, ⟨_, hv⟩, hr⟩⟩
set_option maxHeartbeats 4000000 in
theorem SizeOne_v (m p q : List UInt8) (v : Int) (A : Option Addr) (cp : Nat) (F : List Fld) (C : Option Addr) (bn bc : Nat) (n x : List UInt8) (hF : fsum F + n.length + x.length ≤ 1100000) (hv : -9223372036854775808 ≤ v ∧ v ≤ 9223372036854775807) :
    FnR Tryd.prog gI 6 [.agg ⟨[str m, str p, str q, .int .i64 v, .slice A F.length cp, .slice C bn bc]⟩, .agg ⟨[str n, str x]⟩] [(A, fcells F)] (.bool true) := by
  have z := fsum_length F
  have zc : fsum ((n, x) :: F) ≤ 2000000 := by rw [fsum_cons]; dsimp only; omega
  have zs : fsum (F ++ [(n, x)]) ≤ 2000000 := by
    rw [fsum_append]
    have : fsum [(n, x)] = n.length + x.length + 3 := by simp [fsum]
    omega
  refine FnE.of tys_ok Tryd.func6 rfl (by kernel_rfl) rfl rfl ?_; intro w hG hP
  have hR : ∀ H, RdA (mkC Tryd.prog gI w hG) H A (fcells F) := fun H => ⟨hP.1.now⟩
  (conv => whnf); repeat ((first | refine tk1 ?_ | refine tk2 ?_ | refine tk3 ?_ | refine tk12 (fun _ => ?_) | refine tk4 ?_ | refine tk5 ?_ | refine tk6 ?_ | refine tk7 ?_ | refine tk8 ?_ | refine tk9 ?_ | refine tk10 (fun _ _ => ?_) | refine tk11 (fun _ => ?_)); (conv => whnf))
  refine CallK.fn alive21_f ?_
  (conv => whnf); repeat ((first | refine tk1 ?_ | refine tk2 ?_ | refine tk3 ?_ | refine tk12 (fun _ => ?_) | refine tk4 ?_ | refine tk5 ?_ | refine tk6 ?_ | refine tk7 ?_ | refine tk8 ?_ | refine tk9 ?_ | refine tk10 (fun _ _ => ?_) | refine tk11 (fun _ => ?_)); (conv => whnf))
  rename_i p2 p3 _
  refine AppS.tc (m := F.length) (news := fcells F) SrcK.tc (by rw [fcells_length]; omega) (fcells_one F) (by decide) (by omega) (by omega) (zs := fcells ((n, x) :: F)) rfl (fun B cq => ?_)
  rw [show 1 + F.length = ((n, x) :: F).length by simp; omega]
  (conv => whnf); repeat ((first | refine tk1 ?_ | refine tk2 ?_ | refine tk3 ?_ | refine tk12 (fun _ => ?_) | refine tk4 ?_ | refine tk5 ?_ | refine tk6 ?_ | refine tk7 ?_ | refine tk8 ?_ | refine tk9 ?_ | refine tk10 (fun _ _ => ?_) | refine tk11 (fun _ => ?_)); (conv => whnf))
  refine CallK.fnAny (Great18_b B cq ((n, x) :: F)) (fun w1 hw1 => RdA.ok (self := inferInstance) w1 hw1) (fun b => ?_)
  cases b
  rotate_left
  · (conv => whnf); repeat ((first | refine tk1 ?_ | refine tk2 ?_ | refine tk3 ?_ | refine tk12 (fun _ => ?_) | refine tk4 ?_ | refine tk5 ?_ | refine tk6 ?_ | refine tk7 ?_ | refine tk8 ?_ | refine tk9 ?_ | refine tk10 (fun _ _ => ?_) | refine tk11 (fun _ => ?_)); (conv => whnf))
    exact fun w' _ => rfl
  have hnz : ∀ (k : Nat) (h : k < F.length), F[k].1.length ≤ 140737488355328 := fun k h => by have := fsum_mem (List.getElem_mem h); omega
  have z2 := allOf_le F codN
  have z3 := allOf_le F lenN
  (conv => whnf); repeat ((first | refine tk1 ?_ | refine tk2 ?_ | refine tk3 ?_ | refine tk12 (fun _ => ?_) | refine tk4 ?_ | refine tk5 ?_ | refine tk6 ?_ | refine tk7 ?_ | refine tk8 ?_ | refine tk9 ?_ | refine tk10 (fun _ _ => ?_) | refine tk11 (fun _ => ?_)); (conv => whnf))
  rcases sizeOf_cases F v with hs | hs | ⟨hs, h1⟩ | ⟨hs, h1, h2, h3⟩ | ⟨N, hs, h1, h2, h3⟩
  · refine CallK.fnR (Of_s m p q v A cp F (.slice C bn bc) (by omega) hv hs) ⟨RdA.ok, trivial⟩ ?_
    (conv => whnf); repeat ((first | refine tk1 ?_ | refine tk2 ?_ | refine tk3 ?_ | refine tk12 (fun _ => ?_) | refine tk4 ?_ | refine tk5 ?_ | refine tk6 ?_ | refine tk7 ?_ | refine tk8 ?_ | refine tk9 ?_ | refine tk10 (fun _ _ => ?_) | refine tk11 (fun _ => ?_)); (conv => whnf))
    refine LoopS.lp tys_ok (fun (k : Nat) u => [u 0, u 1, .pointer (some ⟨p2, 0, none⟩), .pointer (some ⟨p3, 0, none⟩), u 4, .bool true, .int .u8 0, .int .i64 0, .int .i64 400, .int .i64 (allOf (F.take k) lenN).length, .int .i64 (allOf (F.take k) codN).length, .int .i64 (k : Nat), u 12, u 13, u 14, u 15, u 16, u 17, u 18, u 19, u 20, u 21, u 22, u 23, u 24, u 25, u 26, u 27, u 28, u 29, u 30, u 31, u 32, u 33, u 34, u 35, u 36, u 37, u 38, u 39, u 40, u 41, u 42, u 43, u 44, u 45, u 46, u 47, u 48, u 49, u 50, u 51, u 52, u 53, u 54, u 55, u 56, u 57, u 58, u 59, u 60, u 61, u 62, u 63, u 64, u 65, u 66, u 67, u 68, u 69, u 70, u 71, u 72, u 73, u 74, u 75, u 76, u 77, u 78, u 79, u 80, u 81, u 82, u 83, u 84, u 85, u 86, u 87, u 88, u 89, u 90, u 91, u 92, u 93, u 94, u 95, u 96, u 97, u 98, u 99, u 100, u 101, u 102, u 103, u 104, u 105, u 106, u 107, u 108, u 109, u 110, u 111, u 112, u 113, u 114, u 115, u 116, u 117, u 118, u 119, u 120, u 121, u 122, u 123, u 124, u 125, u 126, u 127, u 128, u 129, u 130, u 131, u 132, u 133, u 134, u 135, u 136, u 137, u 138, u 139, u 140, u 141, u 142, u 143, u 144, u 145, u 146, u 147, u 148, u 149, u 150, u 151, u 152, u 153, u 154, u 155, u 156, u 157, u 158, u 159, u 160, u 161, u 162, u 163, u 164, u 165, u 166, u 167, u 168, u 169, u 170, u 171, u 172, u 173, u 174, u 175, u 176, u 177, u 178, u 179, u 180, u 181, u 182, u 183, u 184])
      (fun _ => [.box p3 [str n, str x] 39, .box p2 [str m, str p, str q, .int .i64 v, .slice A F.length cp, .slice C bn bc] 28])
      (fun k => k ≤ F.length) (fun k => F.length - k) 0 (Nat.zero_le _) rfl (by repeat' (first | exact List.Sublist.refl _ | exact List.nil_sublist _ | apply List.Sublist.cons_cons | apply List.Sublist.cons)) ?_
    intro k u hk
    (conv => whnf); repeat ((first | refine tk1 ?_ | refine tk2 ?_ | refine tk3 ?_ | refine tk12 (fun _ => ?_) | refine tk4 ?_ | refine tk5 ?_ | refine tk6 ?_ | refine tk7 ?_ | refine tk8 ?_ | refine tk9 ?_ | refine tk10 (fun _ _ => ?_) | refine tk11 (fun _ => ?_)); (conv => whnf))
    refine Cmp.cases (fun hlt => ?_) (fun hlt => ?_)
    · have hlt' : k < F.length := by omega
      have ha := allOf_take F lenN k hlt'
      have hb := allOf_take F codN k hlt'
      rw [show smallOf lenN = lenN by decide] at ha
      rw [show smallOf codN = codN by decide] at hb
      have z4 := allOf_le (F.take k) lenN
      have z5 := allOf_le (F.take k) codN
      rw [List.length_take] at z4 z5
      (conv => whnf); repeat ((first | refine tk1 ?_ | refine tk2 ?_ | refine tk3 ?_ | refine tk12 (fun _ => ?_) | refine tk4 ?_ | refine tk5 ?_ | refine tk6 ?_ | refine tk7 ?_ | refine tk8 ?_ | refine tk9 ?_ | refine tk10 (fun _ _ => ?_) | refine tk11 (fun _ => ?_)); (conv => whnf))
      refine IdxA.tc (by rw [fcells_length]; omega) (by omega) (by omega) ?_
      (conv => whnf); repeat ((first | refine tk1 ?_ | refine tk2 ?_ | refine tk3 ?_ | refine tk12 (fun _ => ?_) | refine tk4 ?_ | refine tk5 ?_ | refine tk6 ?_ | refine tk7 ?_ | refine tk8 ?_ | refine tk9 ?_ | refine tk10 (fun _ _ => ?_) | refine tk11 (fun _ => ?_)); (conv => whnf))
      refine Ld.taF (fcells_0 F k hlt') ?_
      (conv => whnf); repeat ((first | refine tk1 ?_ | refine tk2 ?_ | refine tk3 ?_ | refine tk12 (fun _ => ?_) | refine tk4 ?_ | refine tk5 ?_ | refine tk6 ?_ | refine tk7 ?_ | refine tk8 ?_ | refine tk9 ?_ | refine tk10 (fun _ _ => ?_) | refine tk11 (fun _ => ?_)); (conv => whnf))
      refine CallK.fn (Small_r F[k].1 (by have := fsum_mem (List.getElem_mem hlt'); omega)) ?_
      (conv => whnf); repeat ((first | refine tk1 ?_ | refine tk2 ?_ | refine tk3 ?_ | refine tk12 (fun _ => ?_) | refine tk4 ?_ | refine tk5 ?_ | refine tk6 ?_ | refine tk7 ?_ | refine tk8 ?_ | refine tk9 ?_ | refine tk10 (fun _ _ => ?_) | refine tk11 (fun _ => ?_)); (conv => whnf))
      refine Cmp.cases (fun y1 => ?_) (fun y1 => ?_)
      · have y1 : smallOf F[k].1 = lenN := y1
        rw [if_pos y1] at ha
        rw [if_neg (by rw [y1]; decide), List.append_nil] at hb
        (conv => whnf); repeat ((first | refine tk1 ?_ | refine tk2 ?_ | refine tk3 ?_ | refine tk12 (fun _ => ?_) | refine tk4 ?_ | refine tk5 ?_ | refine tk6 ?_ | refine tk7 ?_ | refine tk8 ?_ | refine tk9 ?_ | refine tk10 (fun _ _ => ?_) | refine tk11 (fun _ => ?_)); (conv => whnf))
        exact ⟨k + 1, by omega, by dsimp only; rw [ha, hb, List.length_append]; rfl, (by repeat' (first | exact List.Sublist.refl _ | exact List.nil_sublist _ | apply List.Sublist.cons_cons | apply List.Sublist.cons)), by dsimp only; omega⟩
      · have y1 : ¬ smallOf F[k].1 = lenN := y1
        rw [if_neg y1, List.append_nil] at ha
        (conv => whnf); repeat ((first | refine tk1 ?_ | refine tk2 ?_ | refine tk3 ?_ | refine tk12 (fun _ => ?_) | refine tk4 ?_ | refine tk5 ?_ | refine tk6 ?_ | refine tk7 ?_ | refine tk8 ?_ | refine tk9 ?_ | refine tk10 (fun _ _ => ?_) | refine tk11 (fun _ => ?_)); (conv => whnf))
        refine Cmp.cases (fun y2 => ?_) (fun y2 => ?_)
        · have y2 : smallOf F[k].1 = codN := y2
          rw [if_pos y2] at hb
          (conv => whnf); repeat ((first | refine tk1 ?_ | refine tk2 ?_ | refine tk3 ?_ | refine tk12 (fun _ => ?_) | refine tk4 ?_ | refine tk5 ?_ | refine tk6 ?_ | refine tk7 ?_ | refine tk8 ?_ | refine tk9 ?_ | refine tk10 (fun _ _ => ?_) | refine tk11 (fun _ => ?_)); (conv => whnf))
          exact ⟨k + 1, by omega, by dsimp only; rw [ha, hb, List.length_append]; rfl, (by repeat' (first | exact List.Sublist.refl _ | exact List.nil_sublist _ | apply List.Sublist.cons_cons | apply List.Sublist.cons)), by dsimp only; omega⟩
        · have y2 : ¬ smallOf F[k].1 = codN := y2
          rw [if_neg y2, List.append_nil] at hb
          (conv => whnf); repeat ((first | refine tk1 ?_ | refine tk2 ?_ | refine tk3 ?_ | refine tk12 (fun _ => ?_) | refine tk4 ?_ | refine tk5 ?_ | refine tk6 ?_ | refine tk7 ?_ | refine tk8 ?_ | refine tk9 ?_ | refine tk10 (fun _ _ => ?_) | refine tk11 (fun _ => ?_)); (conv => whnf))
          exact ⟨k + 1, by omega, by dsimp only; rw [ha, hb]; rfl, (by repeat' (first | exact List.Sublist.refl _ | exact List.nil_sublist _ | apply List.Sublist.cons_cons | apply List.Sublist.cons)), by dsimp only; omega⟩
    · rw [List.take_of_length_le (by omega)]
      (conv => whnf); repeat ((first | refine tk1 ?_ | refine tk2 ?_ | refine tk3 ?_ | refine tk12 (fun _ => ?_) | refine tk4 ?_ | refine tk5 ?_ | refine tk6 ?_ | refine tk7 ?_ | refine tk8 ?_ | refine tk9 ?_ | refine tk10 (fun _ _ => ?_) | refine tk11 (fun _ => ?_)); (conv => whnf))
      refine CallK.fn (Small_r n (by omega)) ?_
      (conv => whnf); repeat ((first | refine tk1 ?_ | refine tk2 ?_ | refine tk3 ?_ | refine tk12 (fun _ => ?_) | refine tk4 ?_ | refine tk5 ?_ | refine tk6 ?_ | refine tk7 ?_ | refine tk8 ?_ | refine tk9 ?_ | refine tk10 (fun _ _ => ?_) | refine tk11 (fun _ => ?_)); (conv => whnf))
      refine Cmp.cases (fun y1 => ?_) (fun y1 => ?_)
      · (conv => whnf); repeat ((first | refine tk1 ?_ | refine tk2 ?_ | refine tk3 ?_ | refine tk12 (fun _ => ?_) | refine tk4 ?_ | refine tk5 ?_ | refine tk6 ?_ | refine tk7 ?_ | refine tk8 ?_ | refine tk9 ?_ | refine tk10 (fun _ _ => ?_) | refine tk11 (fun _ => ?_)); (conv => whnf))
        exact fun w' _ => rfl
      (conv => whnf); repeat ((first | refine tk1 ?_ | refine tk2 ?_ | refine tk3 ?_ | refine tk12 (fun _ => ?_) | refine tk4 ?_ | refine tk5 ?_ | refine tk6 ?_ | refine tk7 ?_ | refine tk8 ?_ | refine tk9 ?_ | refine tk10 (fun _ _ => ?_) | refine tk11 (fun _ => ?_)); (conv => whnf))
      refine Cmp.cases (fun y2 => ?_) (fun y2 => ?_)
      · (conv => whnf); repeat ((first | refine tk1 ?_ | refine tk2 ?_ | refine tk3 ?_ | refine tk12 (fun _ => ?_) | refine tk4 ?_ | refine tk5 ?_ | refine tk6 ?_ | refine tk7 ?_ | refine tk8 ?_ | refine tk9 ?_ | refine tk10 (fun _ _ => ?_) | refine tk11 (fun _ => ?_)); (conv => whnf))
        exact fun w' _ => rfl
      (conv => whnf); repeat ((first | refine tk1 ?_ | refine tk2 ?_ | refine tk3 ?_ | refine tk12 (fun _ => ?_) | refine tk4 ?_ | refine tk5 ?_ | refine tk6 ?_ | refine tk7 ?_ | refine tk8 ?_ | refine tk9 ?_ | refine tk10 (fun _ _ => ?_) | refine tk11 (fun _ => ?_)); (conv => whnf))
      refine Cmp.cases (fun y3 => ?_) (fun y3 => ?_)
      · (conv => whnf); repeat ((first | refine tk1 ?_ | refine tk2 ?_ | refine tk3 ?_ | refine tk12 (fun _ => ?_) | refine tk4 ?_ | refine tk5 ?_ | refine tk6 ?_ | refine tk7 ?_ | refine tk8 ?_ | refine tk9 ?_ | refine tk10 (fun _ _ => ?_) | refine tk11 (fun _ => ?_)); (conv => whnf))
        exact fun w' _ => rfl
      have hcs : sizeOf ((n, x) :: F) v = (0, 0, 400) := by rw [sizeOf_cons (n, x) F v y1 y2 y3, hs]
      have hsn : sizeOf (F ++ [(n, x)]) v = (0, 0, 400) := by rw [sizeOf_snoc (n, x) F v y1 y2 y3, hs]
      (conv => whnf); repeat ((first | refine tk1 ?_ | refine tk2 ?_ | refine tk3 ?_ | refine tk12 (fun _ => ?_) | refine tk4 ?_ | refine tk5 ?_ | refine tk6 ?_ | refine tk7 ?_ | refine tk8 ?_ | refine tk9 ?_ | refine tk10 (fun _ _ => ?_) | refine tk11 (fun _ => ?_)); (conv => whnf))
      refine DrawS.join (fun (y : Nat × Nat) u => [u 0, u 1, .pointer (some ⟨p2, 0, none⟩), .pointer (some ⟨p3, 0, none⟩), u 4, .bool true, .int .u8 0, .int .i64 0, .int .i64 400, u 9, u 10, u 11, u 12, .pointer (some ⟨y.1, 0, none⟩), .pointer (some ⟨y.2, 0, none⟩), u 15, u 16, u 17, u 18, u 19, u 20, u 21, u 22, u 23, u 24, u 25, u 26, u 27, u 28, u 29, u 30, u 31, u 32, u 33, u 34, u 35, u 36, u 37, u 38, u 39, u 40, u 41, u 42, u 43, u 44, u 45, u 46, u 47, u 48, u 49, u 50, u 51, u 52, u 53, u 54, u 55, u 56, u 57, u 58, u 59, u 60, u 61, u 62, u 63, u 64, u 65, u 66, u 67, u 68, u 69, u 70, u 71, u 72, u 73, u 74, u 75, u 76, u 77, u 78, u 79, u 80, u 81, u 82, u 83, u 84, u 85, u 86, u 87, u 88, u 89, u 90, u 91, u 92, u 93, u 94, u 95, u 96, u 97, u 98, u 99, u 100, u 101, u 102, u 103, u 104, u 105, u 106, u 107, u 108, u 109, u 110, u 111, u 112, u 113, u 114, u 115, u 116, u 117, u 118, u 119, u 120, u 121, u 122, u 123, u 124, u 125, u 126, u 127, u 128, u 129, u 130, u 131, u 132, u 133, u 134, u 135, u 136, u 137, u 138, u 139, u 140, u 141, u 142, u 143, u 144, u 145, u 146, u 147, u 148, u 149, u 150, u 151, u 152, u 153, u 154, u 155, u 156, u 157, u 158, u 159, u 160, u 161, u 162, u 163, u 164, u 165, u 166, u 167, u 168, u 169, u 170, u 171, u 172, u 173, u 174, u 175, u 176, u 177, u 178, u 179, u 180, u 181, u 182, u 183, u 184])
        (fun y => [.box y.1 [str m, str p, str q, .int .i64 v, .slice A F.length cp, .slice C bn bc] 28, .box y.2 [str m, str p, str q, .int .i64 v, .slice A F.length cp, .slice C bn bc] 28, .box p3 [str n, str x] 39, .box p2 [str m, str p, str q, .int .i64 v, .slice A F.length cp, .slice C bn bc] 28])
        [] (.q 0 (.ch 1 (.ch 2 (.a 3 (.a 4 (.a 5 (.nil)))) (.ch 3 (.a 2 (.a 4 (.a 5 (.nil)))) (.stop))) (.ch 2 (.ch 1 (.a 3 (.a 4 (.a 5 (.nil)))) (.ch 3 (.ch 1 (.a 4 (.a 5 (.nil))) (.ch 4 (.q 1 (.a 5 (.nil))) (.stop))) (.stop))) (.ch 3 (.ch 1 (.a 2 (.a 4 (.a 5 (.nil)))) (.ch 2 (.ch 1 (.a 4 (.a 5 (.nil))) (.ch 4 (.q 1 (.a 5 (.nil))) (.stop))) (.stop))) (.stop))))) tys_ok mixed (by kernel_rfl) ?_ ?_
      · (repeat' ((conv => whnf); first | (first | refine tk1 ?_ | refine tk2 ?_ | refine tk3 ?_ | refine tk12 (fun _ => ?_) | refine tk4 ?_ | refine tk5 ?_ | refine tk6 ?_ | refine tk7 ?_ | refine tk8 ?_ | refine tk9 ?_ | refine tk10 (fun _ _ => ?_) | refine tk11 (fun _ => ?_)) | refine And.intro ?_ ?_ | exact trivial | exact ⟨(_, _), rfl, (by repeat' (first | exact Cov.nil | refine Cov.cons (by first | exact Pick.here | exact Pick.here.skip | exact Pick.here.skip.skip | exact Pick.here.skip.skip.skip | exact Pick.here.skip.skip.skip.skip | exact Pick.here.skip.skip.skip.skip.skip | exact Pick.here.skip.skip.skip.skip.skip.skip) ?_))⟩ | fail))
      rintro ⟨b13, b14⟩ u
      dsimp only
      (conv => whnf); repeat ((first | refine tk1 ?_ | refine tk2 ?_ | refine tk3 ?_ | refine tk12 (fun _ => ?_) | refine tk4 ?_ | refine tk5 ?_ | refine tk6 ?_ | refine tk7 ?_ | refine tk8 ?_ | refine tk9 ?_ | refine tk10 (fun _ _ => ?_) | refine tk11 (fun _ => ?_)); (conv => whnf))
      refine AppS.tc (m := F.length) (news := fcells F) SrcK.tc (by rw [fcells_length]; omega) (fcells_one F) (by decide) (by omega) (by omega) (zs := fcells ((n, x) :: F)) rfl (fun B1 c1 => ?_)
      rw [show 1 + F.length = ((n, x) :: F).length by simp; omega]
      (conv => whnf); repeat ((first | refine tk1 ?_ | refine tk2 ?_ | refine tk3 ?_ | refine tk12 (fun _ => ?_) | refine tk4 ?_ | refine tk5 ?_ | refine tk6 ?_ | refine tk7 ?_ | refine tk8 ?_ | refine tk9 ?_ | refine tk10 (fun _ _ => ?_) | refine tk11 (fun _ => ?_)); (conv => whnf))
      refine DrawS.join (fun (y : Option Addr × Nat) u => [u 0, u 1, u 2, u 3, u 4, .bool true, .int .u8 0, .int .i64 0, .int .i64 400, u 9, u 10, u 11, u 12, .pointer (some ⟨b13, 0, none⟩), .pointer (some ⟨b14, 0, none⟩), u 15, u 16, u 17, u 18, u 19, u 20, u 21, u 22, u 23, u 24, u 25, u 26, u 27, u 28, u 29, u 30, u 31, u 32, u 33, u 34, u 35, u 36, u 37, u 38, u 39, u 40, u 41, u 42, u 43, u 44, u 45, u 46, u 47, u 48, u 49, u 50, u 51, u 52, u 53, u 54, u 55, u 56, u 57, u 58, u 59, u 60, u 61, u 62, u 63, u 64, u 65, u 66, u 67, u 68, u 69, u 70, u 71, u 72, u 73, u 74, u 75, u 76, u 77, u 78, u 79, u 80, u 81, u 82, u 83, u 84, u 85, u 86, u 87, u 88, u 89, u 90, u 91, u 92, u 93, u 94, u 95, u 96, u 97, u 98, u 99, u 100, u 101, u 102, u 103, u 104, u 105, u 106, u 107, u 108, u 109, u 110, u 111, u 112, u 113, u 114, u 115, u 116, u 117, u 118, u 119, u 120, u 121, u 122, u 123, u 124, u 125, u 126, u 127, u 128, u 129, u 130, u 131, u 132, u 133, u 134, u 135, u 136, u 137, u 138, u 139, u 140, u 141, u 142, u 143, u 144, u 145, u 146, u 147, u 148, u 149, u 150, u 151, u 152, u 153, u 154, u 155, u 156, u 157, u 158, u 159, u 160, u 161, u 162, u 163, u 164, u 165, u 166, u 167, u 168, u 169, u 170, u 171, u 172, u 173, u 174, u 175, u 176, u 177, u 178, u 179, u 180, u 181, u 182, u 183, u 184])
        (fun y => [.box b13 [str m, str p, str q, .int .i64 v, .slice B1 ((n, x) :: F).length c1, .slice C bn bc] 28, .box b14 [str m, str p, str q, .int .i64 v, .slice y.1 (F ++ [(n, x)]).length y.2, .slice C bn bc] 28, .row (.slice B1 ((n, x) :: F).length c1) 39 2 ((n, x) :: F).length (fcells ((n, x) :: F)), .row (.slice y.1 (F ++ [(n, x)]).length y.2) 39 2 (F ++ [(n, x)]).length (fcells (F ++ [(n, x)]))])
        [] (.q 0 (.q 1 (.ch 2 (.q 3 (.a 4 (.a 5 (.q 6 (.a 7 (.nil)))))) (.ch 3 (.ch 2 (.a 4 (.a 5 (.q 6 (.a 7 (.nil))))) (.ch 4 (.a 2 (.a 5 (.q 6 (.a 7 (.nil))))) (.stop))) (.stop))))) tys_ok mixed (by kernel_rfl) ?_ ?_
      · (repeat' ((conv => whnf); first | (first | refine tk1 ?_ | refine tk2 ?_ | refine tk3 ?_ | refine tk12 (fun _ => ?_) | refine tk4 ?_ | refine tk5 ?_ | refine tk6 ?_ | refine tk7 ?_ | refine tk8 ?_ | refine tk9 ?_ | refine tk10 (fun _ _ => ?_) | refine tk11 (fun _ => ?_)) | refine And.intro ?_ ?_ | exact trivial | exact ⟨(_, _), rfl, (by repeat' (first | exact Cov.nil | refine Cov.cons (by first | exact Pick.here | exact Pick.here.skip | exact Pick.here.skip.skip | exact Pick.here.skip.skip.skip | exact Pick.here.skip.skip.skip.skip | exact Pick.here.skip.skip.skip.skip.skip | exact Pick.here.skip.skip.skip.skip.skip.skip) ?_))⟩ | (refine AppS.t0 (m := F.length) (news := fcells F) SrcK.tc (by rw [fcells_length]; omega) (fcells_one F) (by decide) (by omega) (by omega) (fun B2 c2 => ?_)) | (refine AppS.tc (m := 1) (news := [str n, str x]) SrcK.tc rfl (by simp [Value.oneCell']) (by decide) (by omega) (by omega) (zs := fcells (F ++ [(n, x)])) (by rw [fcells_app]; rfl) (fun B3 c3 => ?_); rw [show F.length + 1 = (F ++ [(n, x)]).length by simp])))
      rintro ⟨B3, c3⟩ u
      dsimp only
      (conv => whnf); repeat ((first | refine tk1 ?_ | refine tk2 ?_ | refine tk3 ?_ | refine tk12 (fun _ => ?_) | refine tk4 ?_ | refine tk5 ?_ | refine tk6 ?_ | refine tk7 ?_ | refine tk8 ?_ | refine tk9 ?_ | refine tk10 (fun _ _ => ?_) | refine tk11 (fun _ => ?_)); (conv => whnf))
      refine CallK.fnR (Of_s m p q v B1 c1 ((n, x) :: F) (.slice C bn bc) zc hv hcs) ⟨RdA.ok, trivial⟩ ?_
      (conv => whnf); repeat ((first | refine tk1 ?_ | refine tk2 ?_ | refine tk3 ?_ | refine tk12 (fun _ => ?_) | refine tk4 ?_ | refine tk5 ?_ | refine tk6 ?_ | refine tk7 ?_ | refine tk8 ?_ | refine tk9 ?_ | refine tk10 (fun _ _ => ?_) | refine tk11 (fun _ => ?_)); (conv => whnf))
      refine CallK.fnR (Of_s m p q v B3 c3 (F ++ [(n, x)]) (.slice C bn bc) zs hv hsn) ⟨RdA.ok, trivial⟩ ?_
      (conv => whnf); repeat ((first | refine tk1 ?_ | refine tk2 ?_ | refine tk3 ?_ | refine tk12 (fun _ => ?_) | refine tk4 ?_ | refine tk5 ?_ | refine tk6 ?_ | refine tk7 ?_ | refine tk8 ?_ | refine tk9 ?_ | refine tk10 (fun _ _ => ?_) | refine tk11 (fun _ => ?_)); (conv => whnf))
      exact fun w' _ => rfl
  · refine CallK.fnR (Of_s m p q v A cp F (.slice C bn bc) (by omega) hv hs) ⟨RdA.ok, trivial⟩ ?_
    (conv => whnf); repeat ((first | refine tk1 ?_ | refine tk2 ?_ | refine tk3 ?_ | refine tk12 (fun _ => ?_) | refine tk4 ?_ | refine tk5 ?_ | refine tk6 ?_ | refine tk7 ?_ | refine tk8 ?_ | refine tk9 ?_ | refine tk10 (fun _ _ => ?_) | refine tk11 (fun _ => ?_)); (conv => whnf))
    refine LoopS.lp tys_ok (fun (k : Nat) u => [u 0, u 1, .pointer (some ⟨p2, 0, none⟩), .pointer (some ⟨p3, 0, none⟩), u 4, .bool true, .int .u8 0, .int .i64 0, .int .i64 501, .int .i64 (allOf (F.take k) lenN).length, .int .i64 (allOf (F.take k) codN).length, .int .i64 (k : Nat), u 12, u 13, u 14, u 15, u 16, u 17, u 18, u 19, u 20, u 21, u 22, u 23, u 24, u 25, u 26, u 27, u 28, u 29, u 30, u 31, u 32, u 33, u 34, u 35, u 36, u 37, u 38, u 39, u 40, u 41, u 42, u 43, u 44, u 45, u 46, u 47, u 48, u 49, u 50, u 51, u 52, u 53, u 54, u 55, u 56, u 57, u 58, u 59, u 60, u 61, u 62, u 63, u 64, u 65, u 66, u 67, u 68, u 69, u 70, u 71, u 72, u 73, u 74, u 75, u 76, u 77, u 78, u 79, u 80, u 81, u 82, u 83, u 84, u 85, u 86, u 87, u 88, u 89, u 90, u 91, u 92, u 93, u 94, u 95, u 96, u 97, u 98, u 99, u 100, u 101, u 102, u 103, u 104, u 105, u 106, u 107, u 108, u 109, u 110, u 111, u 112, u 113, u 114, u 115, u 116, u 117, u 118, u 119, u 120, u 121, u 122, u 123, u 124, u 125, u 126, u 127, u 128, u 129, u 130, u 131, u 132, u 133, u 134, u 135, u 136, u 137, u 138, u 139, u 140, u 141, u 142, u 143, u 144, u 145, u 146, u 147, u 148, u 149, u 150, u 151, u 152, u 153, u 154, u 155, u 156, u 157, u 158, u 159, u 160, u 161, u 162, u 163, u 164, u 165, u 166, u 167, u 168, u 169, u 170, u 171, u 172, u 173, u 174, u 175, u 176, u 177, u 178, u 179, u 180, u 181, u 182, u 183, u 184])
      (fun _ => [.box p3 [str n, str x] 39, .box p2 [str m, str p, str q, .int .i64 v, .slice A F.length cp, .slice C bn bc] 28])
      (fun k => k ≤ F.length) (fun k => F.length - k) 0 (Nat.zero_le _) rfl (by repeat' (first | exact List.Sublist.refl _ | exact List.nil_sublist _ | apply List.Sublist.cons_cons | apply List.Sublist.cons)) ?_
    intro k u hk
    (conv => whnf); repeat ((first | refine tk1 ?_ | refine tk2 ?_ | refine tk3 ?_ | refine tk12 (fun _ => ?_) | refine tk4 ?_ | refine tk5 ?_ | refine tk6 ?_ | refine tk7 ?_ | refine tk8 ?_ | refine tk9 ?_ | refine tk10 (fun _ _ => ?_) | refine tk11 (fun _ => ?_)); (conv => whnf))
    refine Cmp.cases (fun hlt => ?_) (fun hlt => ?_)
    · have hlt' : k < F.length := by omega
      have ha := allOf_take F lenN k hlt'
      have hb := allOf_take F codN k hlt'
      rw [show smallOf lenN = lenN by decide] at ha
      rw [show smallOf codN = codN by decide] at hb
      have z4 := allOf_le (F.take k) lenN
      have z5 := allOf_le (F.take k) codN
      rw [List.length_take] at z4 z5
      (conv => whnf); repeat ((first | refine tk1 ?_ | refine tk2 ?_ | refine tk3 ?_ | refine tk12 (fun _ => ?_) | refine tk4 ?_ | refine tk5 ?_ | refine tk6 ?_ | refine tk7 ?_ | refine tk8 ?_ | refine tk9 ?_ | refine tk10 (fun _ _ => ?_) | refine tk11 (fun _ => ?_)); (conv => whnf))
      refine IdxA.tc (by rw [fcells_length]; omega) (by omega) (by omega) ?_
      (conv => whnf); repeat ((first | refine tk1 ?_ | refine tk2 ?_ | refine tk3 ?_ | refine tk12 (fun _ => ?_) | refine tk4 ?_ | refine tk5 ?_ | refine tk6 ?_ | refine tk7 ?_ | refine tk8 ?_ | refine tk9 ?_ | refine tk10 (fun _ _ => ?_) | refine tk11 (fun _ => ?_)); (conv => whnf))
      refine Ld.taF (fcells_0 F k hlt') ?_
      (conv => whnf); repeat ((first | refine tk1 ?_ | refine tk2 ?_ | refine tk3 ?_ | refine tk12 (fun _ => ?_) | refine tk4 ?_ | refine tk5 ?_ | refine tk6 ?_ | refine tk7 ?_ | refine tk8 ?_ | refine tk9 ?_ | refine tk10 (fun _ _ => ?_) | refine tk11 (fun _ => ?_)); (conv => whnf))
      refine CallK.fn (Small_r F[k].1 (by have := fsum_mem (List.getElem_mem hlt'); omega)) ?_
      (conv => whnf); repeat ((first | refine tk1 ?_ | refine tk2 ?_ | refine tk3 ?_ | refine tk12 (fun _ => ?_) | refine tk4 ?_ | refine tk5 ?_ | refine tk6 ?_ | refine tk7 ?_ | refine tk8 ?_ | refine tk9 ?_ | refine tk10 (fun _ _ => ?_) | refine tk11 (fun _ => ?_)); (conv => whnf))
      refine Cmp.cases (fun y1 => ?_) (fun y1 => ?_)
      · have y1 : smallOf F[k].1 = lenN := y1
        rw [if_pos y1] at ha
        rw [if_neg (by rw [y1]; decide), List.append_nil] at hb
        (conv => whnf); repeat ((first | refine tk1 ?_ | refine tk2 ?_ | refine tk3 ?_ | refine tk12 (fun _ => ?_) | refine tk4 ?_ | refine tk5 ?_ | refine tk6 ?_ | refine tk7 ?_ | refine tk8 ?_ | refine tk9 ?_ | refine tk10 (fun _ _ => ?_) | refine tk11 (fun _ => ?_)); (conv => whnf))
        exact ⟨k + 1, by omega, by dsimp only; rw [ha, hb, List.length_append]; rfl, (by repeat' (first | exact List.Sublist.refl _ | exact List.nil_sublist _ | apply List.Sublist.cons_cons | apply List.Sublist.cons)), by dsimp only; omega⟩
      · have y1 : ¬ smallOf F[k].1 = lenN := y1
        rw [if_neg y1, List.append_nil] at ha
        (conv => whnf); repeat ((first | refine tk1 ?_ | refine tk2 ?_ | refine tk3 ?_ | refine tk12 (fun _ => ?_) | refine tk4 ?_ | refine tk5 ?_ | refine tk6 ?_ | refine tk7 ?_ | refine tk8 ?_ | refine tk9 ?_ | refine tk10 (fun _ _ => ?_) | refine tk11 (fun _ => ?_)); (conv => whnf))
        refine Cmp.cases (fun y2 => ?_) (fun y2 => ?_)
        · have y2 : smallOf F[k].1 = codN := y2
          rw [if_pos y2] at hb
          (conv => whnf); repeat ((first | refine tk1 ?_ | refine tk2 ?_ | refine tk3 ?_ | refine tk12 (fun _ => ?_) | refine tk4 ?_ | refine tk5 ?_ | refine tk6 ?_ | refine tk7 ?_ | refine tk8 ?_ | refine tk9 ?_ | refine tk10 (fun _ _ => ?_) | refine tk11 (fun _ => ?_)); (conv => whnf))
          exact ⟨k + 1, by omega, by dsimp only; rw [ha, hb, List.length_append]; rfl, (by repeat' (first | exact List.Sublist.refl _ | exact List.nil_sublist _ | apply List.Sublist.cons_cons | apply List.Sublist.cons)), by dsimp only; omega⟩
        · have y2 : ¬ smallOf F[k].1 = codN := y2
          rw [if_neg y2, List.append_nil] at hb
          (conv => whnf); repeat ((first | refine tk1 ?_ | refine tk2 ?_ | refine tk3 ?_ | refine tk12 (fun _ => ?_) | refine tk4 ?_ | refine tk5 ?_ | refine tk6 ?_ | refine tk7 ?_ | refine tk8 ?_ | refine tk9 ?_ | refine tk10 (fun _ _ => ?_) | refine tk11 (fun _ => ?_)); (conv => whnf))
          exact ⟨k + 1, by omega, by dsimp only; rw [ha, hb]; rfl, (by repeat' (first | exact List.Sublist.refl _ | exact List.nil_sublist _ | apply List.Sublist.cons_cons | apply List.Sublist.cons)), by dsimp only; omega⟩
    · rw [List.take_of_length_le (by omega)]
      (conv => whnf); repeat ((first | refine tk1 ?_ | refine tk2 ?_ | refine tk3 ?_ | refine tk12 (fun _ => ?_) | refine tk4 ?_ | refine tk5 ?_ | refine tk6 ?_ | refine tk7 ?_ | refine tk8 ?_ | refine tk9 ?_ | refine tk10 (fun _ _ => ?_) | refine tk11 (fun _ => ?_)); (conv => whnf))
      refine CallK.fn (Small_r n (by omega)) ?_
      (conv => whnf); repeat ((first | refine tk1 ?_ | refine tk2 ?_ | refine tk3 ?_ | refine tk12 (fun _ => ?_) | refine tk4 ?_ | refine tk5 ?_ | refine tk6 ?_ | refine tk7 ?_ | refine tk8 ?_ | refine tk9 ?_ | refine tk10 (fun _ _ => ?_) | refine tk11 (fun _ => ?_)); (conv => whnf))
      refine Cmp.cases (fun y1 => ?_) (fun y1 => ?_)
      · (conv => whnf); repeat ((first | refine tk1 ?_ | refine tk2 ?_ | refine tk3 ?_ | refine tk12 (fun _ => ?_) | refine tk4 ?_ | refine tk5 ?_ | refine tk6 ?_ | refine tk7 ?_ | refine tk8 ?_ | refine tk9 ?_ | refine tk10 (fun _ _ => ?_) | refine tk11 (fun _ => ?_)); (conv => whnf))
        exact fun w' _ => rfl
      (conv => whnf); repeat ((first | refine tk1 ?_ | refine tk2 ?_ | refine tk3 ?_ | refine tk12 (fun _ => ?_) | refine tk4 ?_ | refine tk5 ?_ | refine tk6 ?_ | refine tk7 ?_ | refine tk8 ?_ | refine tk9 ?_ | refine tk10 (fun _ _ => ?_) | refine tk11 (fun _ => ?_)); (conv => whnf))
      refine Cmp.cases (fun y2 => ?_) (fun y2 => ?_)
      · (conv => whnf); repeat ((first | refine tk1 ?_ | refine tk2 ?_ | refine tk3 ?_ | refine tk12 (fun _ => ?_) | refine tk4 ?_ | refine tk5 ?_ | refine tk6 ?_ | refine tk7 ?_ | refine tk8 ?_ | refine tk9 ?_ | refine tk10 (fun _ _ => ?_) | refine tk11 (fun _ => ?_)); (conv => whnf))
        exact fun w' _ => rfl
      (conv => whnf); repeat ((first | refine tk1 ?_ | refine tk2 ?_ | refine tk3 ?_ | refine tk12 (fun _ => ?_) | refine tk4 ?_ | refine tk5 ?_ | refine tk6 ?_ | refine tk7 ?_ | refine tk8 ?_ | refine tk9 ?_ | refine tk10 (fun _ _ => ?_) | refine tk11 (fun _ => ?_)); (conv => whnf))
      refine Cmp.cases (fun y3 => ?_) (fun y3 => ?_)
      · (conv => whnf); repeat ((first | refine tk1 ?_ | refine tk2 ?_ | refine tk3 ?_ | refine tk12 (fun _ => ?_) | refine tk4 ?_ | refine tk5 ?_ | refine tk6 ?_ | refine tk7 ?_ | refine tk8 ?_ | refine tk9 ?_ | refine tk10 (fun _ _ => ?_) | refine tk11 (fun _ => ?_)); (conv => whnf))
        exact fun w' _ => rfl
      have hcs : sizeOf ((n, x) :: F) v = (0, 0, 501) := by rw [sizeOf_cons (n, x) F v y1 y2 y3, hs]
      have hsn : sizeOf (F ++ [(n, x)]) v = (0, 0, 501) := by rw [sizeOf_snoc (n, x) F v y1 y2 y3, hs]
      (conv => whnf); repeat ((first | refine tk1 ?_ | refine tk2 ?_ | refine tk3 ?_ | refine tk12 (fun _ => ?_) | refine tk4 ?_ | refine tk5 ?_ | refine tk6 ?_ | refine tk7 ?_ | refine tk8 ?_ | refine tk9 ?_ | refine tk10 (fun _ _ => ?_) | refine tk11 (fun _ => ?_)); (conv => whnf))
      refine DrawS.join (fun (y : Nat × Nat) u => [u 0, u 1, .pointer (some ⟨p2, 0, none⟩), .pointer (some ⟨p3, 0, none⟩), u 4, .bool true, .int .u8 0, .int .i64 0, .int .i64 501, u 9, u 10, u 11, u 12, .pointer (some ⟨y.1, 0, none⟩), .pointer (some ⟨y.2, 0, none⟩), u 15, u 16, u 17, u 18, u 19, u 20, u 21, u 22, u 23, u 24, u 25, u 26, u 27, u 28, u 29, u 30, u 31, u 32, u 33, u 34, u 35, u 36, u 37, u 38, u 39, u 40, u 41, u 42, u 43, u 44, u 45, u 46, u 47, u 48, u 49, u 50, u 51, u 52, u 53, u 54, u 55, u 56, u 57, u 58, u 59, u 60, u 61, u 62, u 63, u 64, u 65, u 66, u 67, u 68, u 69, u 70, u 71, u 72, u 73, u 74, u 75, u 76, u 77, u 78, u 79, u 80, u 81, u 82, u 83, u 84, u 85, u 86, u 87, u 88, u 89, u 90, u 91, u 92, u 93, u 94, u 95, u 96, u 97, u 98, u 99, u 100, u 101, u 102, u 103, u 104, u 105, u 106, u 107, u 108, u 109, u 110, u 111, u 112, u 113, u 114, u 115, u 116, u 117, u 118, u 119, u 120, u 121, u 122, u 123, u 124, u 125, u 126, u 127, u 128, u 129, u 130, u 131, u 132, u 133, u 134, u 135, u 136, u 137, u 138, u 139, u 140, u 141, u 142, u 143, u 144, u 145, u 146, u 147, u 148, u 149, u 150, u 151, u 152, u 153, u 154, u 155, u 156, u 157, u 158, u 159, u 160, u 161, u 162, u 163, u 164, u 165, u 166, u 167, u 168, u 169, u 170, u 171, u 172, u 173, u 174, u 175, u 176, u 177, u 178, u 179, u 180, u 181, u 182, u 183, u 184])
        (fun y => [.box y.1 [str m, str p, str q, .int .i64 v, .slice A F.length cp, .slice C bn bc] 28, .box y.2 [str m, str p, str q, .int .i64 v, .slice A F.length cp, .slice C bn bc] 28, .box p3 [str n, str x] 39, .box p2 [str m, str p, str q, .int .i64 v, .slice A F.length cp, .slice C bn bc] 28])
        [] (.q 0 (.ch 1 (.ch 2 (.a 3 (.a 4 (.a 5 (.nil)))) (.ch 3 (.a 2 (.a 4 (.a 5 (.nil)))) (.stop))) (.ch 2 (.ch 1 (.a 3 (.a 4 (.a 5 (.nil)))) (.ch 3 (.ch 1 (.a 4 (.a 5 (.nil))) (.ch 4 (.q 1 (.a 5 (.nil))) (.stop))) (.stop))) (.ch 3 (.ch 1 (.a 2 (.a 4 (.a 5 (.nil)))) (.ch 2 (.ch 1 (.a 4 (.a 5 (.nil))) (.ch 4 (.q 1 (.a 5 (.nil))) (.stop))) (.stop))) (.stop))))) tys_ok mixed (by kernel_rfl) ?_ ?_
      · (repeat' ((conv => whnf); first | (first | refine tk1 ?_ | refine tk2 ?_ | refine tk3 ?_ | refine tk12 (fun _ => ?_) | refine tk4 ?_ | refine tk5 ?_ | refine tk6 ?_ | refine tk7 ?_ | refine tk8 ?_ | refine tk9 ?_ | refine tk10 (fun _ _ => ?_) | refine tk11 (fun _ => ?_)) | refine And.intro ?_ ?_ | exact trivial | exact ⟨(_, _), rfl, (by repeat' (first | exact Cov.nil | refine Cov.cons (by first | exact Pick.here | exact Pick.here.skip | exact Pick.here.skip.skip | exact Pick.here.skip.skip.skip | exact Pick.here.skip.skip.skip.skip | exact Pick.here.skip.skip.skip.skip.skip | exact Pick.here.skip.skip.skip.skip.skip.skip) ?_))⟩ | fail))
      rintro ⟨b13, b14⟩ u
      dsimp only
      (conv => whnf); repeat ((first | refine tk1 ?_ | refine tk2 ?_ | refine tk3 ?_ | refine tk12 (fun _ => ?_) | refine tk4 ?_ | refine tk5 ?_ | refine tk6 ?_ | refine tk7 ?_ | refine tk8 ?_ | refine tk9 ?_ | refine tk10 (fun _ _ => ?_) | refine tk11 (fun _ => ?_)); (conv => whnf))
      refine AppS.tc (m := F.length) (news := fcells F) SrcK.tc (by rw [fcells_length]; omega) (fcells_one F) (by decide) (by omega) (by omega) (zs := fcells ((n, x) :: F)) rfl (fun B1 c1 => ?_)
      rw [show 1 + F.length = ((n, x) :: F).length by simp; omega]
      (conv => whnf); repeat ((first | refine tk1 ?_ | refine tk2 ?_ | refine tk3 ?_ | refine tk12 (fun _ => ?_) | refine tk4 ?_ | refine tk5 ?_ | refine tk6 ?_ | refine tk7 ?_ | refine tk8 ?_ | refine tk9 ?_ | refine tk10 (fun _ _ => ?_) | refine tk11 (fun _ => ?_)); (conv => whnf))
      refine DrawS.join (fun (y : Option Addr × Nat) u => [u 0, u 1, u 2, u 3, u 4, .bool true, .int .u8 0, .int .i64 0, .int .i64 501, u 9, u 10, u 11, u 12, .pointer (some ⟨b13, 0, none⟩), .pointer (some ⟨b14, 0, none⟩), u 15, u 16, u 17, u 18, u 19, u 20, u 21, u 22, u 23, u 24, u 25, u 26, u 27, u 28, u 29, u 30, u 31, u 32, u 33, u 34, u 35, u 36, u 37, u 38, u 39, u 40, u 41, u 42, u 43, u 44, u 45, u 46, u 47, u 48, u 49, u 50, u 51, u 52, u 53, u 54, u 55, u 56, u 57, u 58, u 59, u 60, u 61, u 62, u 63, u 64, u 65, u 66, u 67, u 68, u 69, u 70, u 71, u 72, u 73, u 74, u 75, u 76, u 77, u 78, u 79, u 80, u 81, u 82, u 83, u 84, u 85, u 86, u 87, u 88, u 89, u 90, u 91, u 92, u 93, u 94, u 95, u 96, u 97, u 98, u 99, u 100, u 101, u 102, u 103, u 104, u 105, u 106, u 107, u 108, u 109, u 110, u 111, u 112, u 113, u 114, u 115, u 116, u 117, u 118, u 119, u 120, u 121, u 122, u 123, u 124, u 125, u 126, u 127, u 128, u 129, u 130, u 131, u 132, u 133, u 134, u 135, u 136, u 137, u 138, u 139, u 140, u 141, u 142, u 143, u 144, u 145, u 146, u 147, u 148, u 149, u 150, u 151, u 152, u 153, u 154, u 155, u 156, u 157, u 158, u 159, u 160, u 161, u 162, u 163, u 164, u 165, u 166, u 167, u 168, u 169, u 170, u 171, u 172, u 173, u 174, u 175, u 176, u 177, u 178, u 179, u 180, u 181, u 182, u 183, u 184])
        (fun y => [.box b13 [str m, str p, str q, .int .i64 v, .slice B1 ((n, x) :: F).length c1, .slice C bn bc] 28, .box b14 [str m, str p, str q, .int .i64 v, .slice y.1 (F ++ [(n, x)]).length y.2, .slice C bn bc] 28, .row (.slice B1 ((n, x) :: F).length c1) 39 2 ((n, x) :: F).length (fcells ((n, x) :: F)), .row (.slice y.1 (F ++ [(n, x)]).length y.2) 39 2 (F ++ [(n, x)]).length (fcells (F ++ [(n, x)]))])
        [] (.q 0 (.q 1 (.ch 2 (.q 3 (.a 4 (.a 5 (.q 6 (.a 7 (.nil)))))) (.ch 3 (.ch 2 (.a 4 (.a 5 (.q 6 (.a 7 (.nil))))) (.ch 4 (.a 2 (.a 5 (.q 6 (.a 7 (.nil))))) (.stop))) (.stop))))) tys_ok mixed (by kernel_rfl) ?_ ?_
      · (repeat' ((conv => whnf); first | (first | refine tk1 ?_ | refine tk2 ?_ | refine tk3 ?_ | refine tk12 (fun _ => ?_) | refine tk4 ?_ | refine tk5 ?_ | refine tk6 ?_ | refine tk7 ?_ | refine tk8 ?_ | refine tk9 ?_ | refine tk10 (fun _ _ => ?_) | refine tk11 (fun _ => ?_)) | refine And.intro ?_ ?_ | exact trivial | exact ⟨(_, _), rfl, (by repeat' (first | exact Cov.nil | refine Cov.cons (by first | exact Pick.here | exact Pick.here.skip | exact Pick.here.skip.skip | exact Pick.here.skip.skip.skip | exact Pick.here.skip.skip.skip.skip | exact Pick.here.skip.skip.skip.skip.skip | exact Pick.here.skip.skip.skip.skip.skip.skip) ?_))⟩ | (refine AppS.t0 (m := F.length) (news := fcells F) SrcK.tc (by rw [fcells_length]; omega) (fcells_one F) (by decide) (by omega) (by omega) (fun B2 c2 => ?_)) | (refine AppS.tc (m := 1) (news := [str n, str x]) SrcK.tc rfl (by simp [Value.oneCell']) (by decide) (by omega) (by omega) (zs := fcells (F ++ [(n, x)])) (by rw [fcells_app]; rfl) (fun B3 c3 => ?_); rw [show F.length + 1 = (F ++ [(n, x)]).length by simp])))
      rintro ⟨B3, c3⟩ u
      dsimp only
      (conv => whnf); repeat ((first | refine tk1 ?_ | refine tk2 ?_ | refine tk3 ?_ | refine tk12 (fun _ => ?_) | refine tk4 ?_ | refine tk5 ?_ | refine tk6 ?_ | refine tk7 ?_ | refine tk8 ?_ | refine tk9 ?_ | refine tk10 (fun _ _ => ?_) | refine tk11 (fun _ => ?_)); (conv => whnf))
      refine CallK.fnR (Of_s m p q v B1 c1 ((n, x) :: F) (.slice C bn bc) zc hv hcs) ⟨RdA.ok, trivial⟩ ?_
      (conv => whnf); repeat ((first | refine tk1 ?_ | refine tk2 ?_ | refine tk3 ?_ | refine tk12 (fun _ => ?_) | refine tk4 ?_ | refine tk5 ?_ | refine tk6 ?_ | refine tk7 ?_ | refine tk8 ?_ | refine tk9 ?_ | refine tk10 (fun _ _ => ?_) | refine tk11 (fun _ => ?_)); (conv => whnf))
      refine CallK.fnR (Of_s m p q v B3 c3 (F ++ [(n, x)]) (.slice C bn bc) zs hv hsn) ⟨RdA.ok, trivial⟩ ?_
      (conv => whnf); repeat ((first | refine tk1 ?_ | refine tk2 ?_ | refine tk3 ?_ | refine tk12 (fun _ => ?_) | refine tk4 ?_ | refine tk5 ?_ | refine tk6 ?_ | refine tk7 ?_ | refine tk8 ?_ | refine tk9 ?_ | refine tk10 (fun _ _ => ?_) | refine tk11 (fun _ => ?_)); (conv => whnf))
      exact fun w' _ => rfl
  · have g1 : (allOf F codN).length = 0 := by rw [h1]; rfl
    refine CallK.fnR (Of_s m p q v A cp F (.slice C bn bc) (by omega) hv hs) ⟨RdA.ok, trivial⟩ ?_
    (conv => whnf); repeat ((first | refine tk1 ?_ | refine tk2 ?_ | refine tk3 ?_ | refine tk12 (fun _ => ?_) | refine tk4 ?_ | refine tk5 ?_ | refine tk6 ?_ | refine tk7 ?_ | refine tk8 ?_ | refine tk9 ?_ | refine tk10 (fun _ _ => ?_) | refine tk11 (fun _ => ?_)); (conv => whnf))
    refine LoopS.lp tys_ok (fun (k : Nat) u => [u 0, u 1, .pointer (some ⟨p2, 0, none⟩), .pointer (some ⟨p3, 0, none⟩), u 4, .bool true, .int .u8 0, .int .i64 0, .int .i64 200, .int .i64 (allOf (F.take k) lenN).length, .int .i64 (allOf (F.take k) codN).length, .int .i64 (k : Nat), u 12, u 13, u 14, u 15, u 16, u 17, u 18, u 19, u 20, u 21, u 22, u 23, u 24, u 25, u 26, u 27, u 28, u 29, u 30, u 31, u 32, u 33, u 34, u 35, u 36, u 37, u 38, u 39, u 40, u 41, u 42, u 43, u 44, u 45, u 46, u 47, u 48, u 49, u 50, u 51, u 52, u 53, u 54, u 55, u 56, u 57, u 58, u 59, u 60, u 61, u 62, u 63, u 64, u 65, u 66, u 67, u 68, u 69, u 70, u 71, u 72, u 73, u 74, u 75, u 76, u 77, u 78, u 79, u 80, u 81, u 82, u 83, u 84, u 85, u 86, u 87, u 88, u 89, u 90, u 91, u 92, u 93, u 94, u 95, u 96, u 97, u 98, u 99, u 100, u 101, u 102, u 103, u 104, u 105, u 106, u 107, u 108, u 109, u 110, u 111, u 112, u 113, u 114, u 115, u 116, u 117, u 118, u 119, u 120, u 121, u 122, u 123, u 124, u 125, u 126, u 127, u 128, u 129, u 130, u 131, u 132, u 133, u 134, u 135, u 136, u 137, u 138, u 139, u 140, u 141, u 142, u 143, u 144, u 145, u 146, u 147, u 148, u 149, u 150, u 151, u 152, u 153, u 154, u 155, u 156, u 157, u 158, u 159, u 160, u 161, u 162, u 163, u 164, u 165, u 166, u 167, u 168, u 169, u 170, u 171, u 172, u 173, u 174, u 175, u 176, u 177, u 178, u 179, u 180, u 181, u 182, u 183, u 184])
      (fun _ => [.box p3 [str n, str x] 39, .box p2 [str m, str p, str q, .int .i64 v, .slice A F.length cp, .slice C bn bc] 28])
      (fun k => k ≤ F.length) (fun k => F.length - k) 0 (Nat.zero_le _) rfl (by repeat' (first | exact List.Sublist.refl _ | exact List.nil_sublist _ | apply List.Sublist.cons_cons | apply List.Sublist.cons)) ?_
    intro k u hk
    (conv => whnf); repeat ((first | refine tk1 ?_ | refine tk2 ?_ | refine tk3 ?_ | refine tk12 (fun _ => ?_) | refine tk4 ?_ | refine tk5 ?_ | refine tk6 ?_ | refine tk7 ?_ | refine tk8 ?_ | refine tk9 ?_ | refine tk10 (fun _ _ => ?_) | refine tk11 (fun _ => ?_)); (conv => whnf))
    refine Cmp.cases (fun hlt => ?_) (fun hlt => ?_)
    · have hlt' : k < F.length := by omega
      have ha := allOf_take F lenN k hlt'
      have hb := allOf_take F codN k hlt'
      rw [show smallOf lenN = lenN by decide] at ha
      rw [show smallOf codN = codN by decide] at hb
      have z4 := allOf_le (F.take k) lenN
      have z5 := allOf_le (F.take k) codN
      rw [List.length_take] at z4 z5
      (conv => whnf); repeat ((first | refine tk1 ?_ | refine tk2 ?_ | refine tk3 ?_ | refine tk12 (fun _ => ?_) | refine tk4 ?_ | refine tk5 ?_ | refine tk6 ?_ | refine tk7 ?_ | refine tk8 ?_ | refine tk9 ?_ | refine tk10 (fun _ _ => ?_) | refine tk11 (fun _ => ?_)); (conv => whnf))
      refine IdxA.tc (by rw [fcells_length]; omega) (by omega) (by omega) ?_
      (conv => whnf); repeat ((first | refine tk1 ?_ | refine tk2 ?_ | refine tk3 ?_ | refine tk12 (fun _ => ?_) | refine tk4 ?_ | refine tk5 ?_ | refine tk6 ?_ | refine tk7 ?_ | refine tk8 ?_ | refine tk9 ?_ | refine tk10 (fun _ _ => ?_) | refine tk11 (fun _ => ?_)); (conv => whnf))
      refine Ld.taF (fcells_0 F k hlt') ?_
      (conv => whnf); repeat ((first | refine tk1 ?_ | refine tk2 ?_ | refine tk3 ?_ | refine tk12 (fun _ => ?_) | refine tk4 ?_ | refine tk5 ?_ | refine tk6 ?_ | refine tk7 ?_ | refine tk8 ?_ | refine tk9 ?_ | refine tk10 (fun _ _ => ?_) | refine tk11 (fun _ => ?_)); (conv => whnf))
      refine CallK.fn (Small_r F[k].1 (by have := fsum_mem (List.getElem_mem hlt'); omega)) ?_
      (conv => whnf); repeat ((first | refine tk1 ?_ | refine tk2 ?_ | refine tk3 ?_ | refine tk12 (fun _ => ?_) | refine tk4 ?_ | refine tk5 ?_ | refine tk6 ?_ | refine tk7 ?_ | refine tk8 ?_ | refine tk9 ?_ | refine tk10 (fun _ _ => ?_) | refine tk11 (fun _ => ?_)); (conv => whnf))
      refine Cmp.cases (fun y1 => ?_) (fun y1 => ?_)
      · have y1 : smallOf F[k].1 = lenN := y1
        rw [if_pos y1] at ha
        rw [if_neg (by rw [y1]; decide), List.append_nil] at hb
        (conv => whnf); repeat ((first | refine tk1 ?_ | refine tk2 ?_ | refine tk3 ?_ | refine tk12 (fun _ => ?_) | refine tk4 ?_ | refine tk5 ?_ | refine tk6 ?_ | refine tk7 ?_ | refine tk8 ?_ | refine tk9 ?_ | refine tk10 (fun _ _ => ?_) | refine tk11 (fun _ => ?_)); (conv => whnf))
        exact ⟨k + 1, by omega, by dsimp only; rw [ha, hb, List.length_append]; rfl, (by repeat' (first | exact List.Sublist.refl _ | exact List.nil_sublist _ | apply List.Sublist.cons_cons | apply List.Sublist.cons)), by dsimp only; omega⟩
      · have y1 : ¬ smallOf F[k].1 = lenN := y1
        rw [if_neg y1, List.append_nil] at ha
        (conv => whnf); repeat ((first | refine tk1 ?_ | refine tk2 ?_ | refine tk3 ?_ | refine tk12 (fun _ => ?_) | refine tk4 ?_ | refine tk5 ?_ | refine tk6 ?_ | refine tk7 ?_ | refine tk8 ?_ | refine tk9 ?_ | refine tk10 (fun _ _ => ?_) | refine tk11 (fun _ => ?_)); (conv => whnf))
        refine Cmp.cases (fun y2 => ?_) (fun y2 => ?_)
        · have y2 : smallOf F[k].1 = codN := y2
          rw [if_pos y2] at hb
          (conv => whnf); repeat ((first | refine tk1 ?_ | refine tk2 ?_ | refine tk3 ?_ | refine tk12 (fun _ => ?_) | refine tk4 ?_ | refine tk5 ?_ | refine tk6 ?_ | refine tk7 ?_ | refine tk8 ?_ | refine tk9 ?_ | refine tk10 (fun _ _ => ?_) | refine tk11 (fun _ => ?_)); (conv => whnf))
          exact ⟨k + 1, by omega, by dsimp only; rw [ha, hb, List.length_append]; rfl, (by repeat' (first | exact List.Sublist.refl _ | exact List.nil_sublist _ | apply List.Sublist.cons_cons | apply List.Sublist.cons)), by dsimp only; omega⟩
        · have y2 : ¬ smallOf F[k].1 = codN := y2
          rw [if_neg y2, List.append_nil] at hb
          (conv => whnf); repeat ((first | refine tk1 ?_ | refine tk2 ?_ | refine tk3 ?_ | refine tk12 (fun _ => ?_) | refine tk4 ?_ | refine tk5 ?_ | refine tk6 ?_ | refine tk7 ?_ | refine tk8 ?_ | refine tk9 ?_ | refine tk10 (fun _ _ => ?_) | refine tk11 (fun _ => ?_)); (conv => whnf))
          exact ⟨k + 1, by omega, by dsimp only; rw [ha, hb]; rfl, (by repeat' (first | exact List.Sublist.refl _ | exact List.nil_sublist _ | apply List.Sublist.cons_cons | apply List.Sublist.cons)), by dsimp only; omega⟩
    · rw [List.take_of_length_le (by omega)]
      (conv => whnf); repeat ((first | refine tk1 ?_ | refine tk2 ?_ | refine tk3 ?_ | refine tk12 (fun _ => ?_) | refine tk4 ?_ | refine tk5 ?_ | refine tk6 ?_ | refine tk7 ?_ | refine tk8 ?_ | refine tk9 ?_ | refine tk10 (fun _ _ => ?_) | refine tk11 (fun _ => ?_)); (conv => whnf))
      refine CallK.fn (Small_r n (by omega)) ?_
      (conv => whnf); repeat ((first | refine tk1 ?_ | refine tk2 ?_ | refine tk3 ?_ | refine tk12 (fun _ => ?_) | refine tk4 ?_ | refine tk5 ?_ | refine tk6 ?_ | refine tk7 ?_ | refine tk8 ?_ | refine tk9 ?_ | refine tk10 (fun _ _ => ?_) | refine tk11 (fun _ => ?_)); (conv => whnf))
      refine Cmp.cases (fun y1 => ?_) (fun y1 => ?_)
      · (conv => whnf); repeat ((first | refine tk1 ?_ | refine tk2 ?_ | refine tk3 ?_ | refine tk12 (fun _ => ?_) | refine tk4 ?_ | refine tk5 ?_ | refine tk6 ?_ | refine tk7 ?_ | refine tk8 ?_ | refine tk9 ?_ | refine tk10 (fun _ _ => ?_) | refine tk11 (fun _ => ?_)); (conv => whnf))
        exact fun w' _ => rfl
      (conv => whnf); repeat ((first | refine tk1 ?_ | refine tk2 ?_ | refine tk3 ?_ | refine tk12 (fun _ => ?_) | refine tk4 ?_ | refine tk5 ?_ | refine tk6 ?_ | refine tk7 ?_ | refine tk8 ?_ | refine tk9 ?_ | refine tk10 (fun _ _ => ?_) | refine tk11 (fun _ => ?_)); (conv => whnf))
      refine Cmp.cases (fun y2 => ?_) (fun y2 => ?_)
      · (conv => whnf); repeat ((first | refine tk1 ?_ | refine tk2 ?_ | refine tk3 ?_ | refine tk12 (fun _ => ?_) | refine tk4 ?_ | refine tk5 ?_ | refine tk6 ?_ | refine tk7 ?_ | refine tk8 ?_ | refine tk9 ?_ | refine tk10 (fun _ _ => ?_) | refine tk11 (fun _ => ?_)); (conv => whnf))
        exact fun w' _ => rfl
      (conv => whnf); repeat ((first | refine tk1 ?_ | refine tk2 ?_ | refine tk3 ?_ | refine tk12 (fun _ => ?_) | refine tk4 ?_ | refine tk5 ?_ | refine tk6 ?_ | refine tk7 ?_ | refine tk8 ?_ | refine tk9 ?_ | refine tk10 (fun _ _ => ?_) | refine tk11 (fun _ => ?_)); (conv => whnf))
      refine Cmp.cases (fun y3 => ?_) (fun y3 => ?_)
      · (conv => whnf); repeat ((first | refine tk1 ?_ | refine tk2 ?_ | refine tk3 ?_ | refine tk12 (fun _ => ?_) | refine tk4 ?_ | refine tk5 ?_ | refine tk6 ?_ | refine tk7 ?_ | refine tk8 ?_ | refine tk9 ?_ | refine tk10 (fun _ _ => ?_) | refine tk11 (fun _ => ?_)); (conv => whnf))
        exact fun w' _ => rfl
      have hcs : sizeOf ((n, x) :: F) v = (0, 0, 200) := by rw [sizeOf_cons (n, x) F v y1 y2 y3, hs]
      have hsn : sizeOf (F ++ [(n, x)]) v = (0, 0, 200) := by rw [sizeOf_snoc (n, x) F v y1 y2 y3, hs]
      (conv => whnf); repeat ((first | refine tk1 ?_ | refine tk2 ?_ | refine tk3 ?_ | refine tk12 (fun _ => ?_) | refine tk4 ?_ | refine tk5 ?_ | refine tk6 ?_ | refine tk7 ?_ | refine tk8 ?_ | refine tk9 ?_ | refine tk10 (fun _ _ => ?_) | refine tk11 (fun _ => ?_)); (conv => whnf))
      refine DrawS.join (fun (y : Nat × Nat) u => [u 0, u 1, .pointer (some ⟨p2, 0, none⟩), .pointer (some ⟨p3, 0, none⟩), u 4, .bool true, .int .u8 0, .int .i64 0, .int .i64 200, u 9, u 10, u 11, u 12, .pointer (some ⟨y.1, 0, none⟩), .pointer (some ⟨y.2, 0, none⟩), u 15, u 16, u 17, u 18, u 19, u 20, u 21, u 22, u 23, u 24, u 25, u 26, u 27, u 28, u 29, u 30, u 31, u 32, u 33, u 34, u 35, u 36, u 37, u 38, u 39, u 40, u 41, u 42, u 43, u 44, u 45, u 46, u 47, u 48, u 49, u 50, u 51, u 52, u 53, u 54, u 55, u 56, u 57, u 58, u 59, u 60, u 61, u 62, u 63, u 64, u 65, u 66, u 67, u 68, u 69, u 70, u 71, u 72, u 73, u 74, u 75, u 76, u 77, u 78, u 79, u 80, u 81, u 82, u 83, u 84, u 85, u 86, u 87, u 88, u 89, u 90, u 91, u 92, u 93, u 94, u 95, u 96, u 97, u 98, u 99, u 100, u 101, u 102, u 103, u 104, u 105, u 106, u 107, u 108, u 109, u 110, u 111, u 112, u 113, u 114, u 115, u 116, u 117, u 118, u 119, u 120, u 121, u 122, u 123, u 124, u 125, u 126, u 127, u 128, u 129, u 130, u 131, u 132, u 133, u 134, u 135, u 136, u 137, u 138, u 139, u 140, u 141, u 142, u 143, u 144, u 145, u 146, u 147, u 148, u 149, u 150, u 151, u 152, u 153, u 154, u 155, u 156, u 157, u 158, u 159, u 160, u 161, u 162, u 163, u 164, u 165, u 166, u 167, u 168, u 169, u 170, u 171, u 172, u 173, u 174, u 175, u 176, u 177, u 178, u 179, u 180, u 181, u 182, u 183, u 184])
        (fun y => [.box y.1 [str m, str p, str q, .int .i64 v, .slice A F.length cp, .slice C bn bc] 28, .box y.2 [str m, str p, str q, .int .i64 v, .slice A F.length cp, .slice C bn bc] 28, .box p3 [str n, str x] 39, .box p2 [str m, str p, str q, .int .i64 v, .slice A F.length cp, .slice C bn bc] 28])
        [] (.q 0 (.ch 1 (.ch 2 (.a 3 (.a 4 (.a 5 (.nil)))) (.ch 3 (.a 2 (.a 4 (.a 5 (.nil)))) (.stop))) (.ch 2 (.ch 1 (.a 3 (.a 4 (.a 5 (.nil)))) (.ch 3 (.ch 1 (.a 4 (.a 5 (.nil))) (.ch 4 (.q 1 (.a 5 (.nil))) (.stop))) (.stop))) (.ch 3 (.ch 1 (.a 2 (.a 4 (.a 5 (.nil)))) (.ch 2 (.ch 1 (.a 4 (.a 5 (.nil))) (.ch 4 (.q 1 (.a 5 (.nil))) (.stop))) (.stop))) (.stop))))) tys_ok mixed (by kernel_rfl) ?_ ?_
      · (repeat' ((conv => whnf); first | (first | refine tk1 ?_ | refine tk2 ?_ | refine tk3 ?_ | refine tk12 (fun _ => ?_) | refine tk4 ?_ | refine tk5 ?_ | refine tk6 ?_ | refine tk7 ?_ | refine tk8 ?_ | refine tk9 ?_ | refine tk10 (fun _ _ => ?_) | refine tk11 (fun _ => ?_)) | refine And.intro ?_ ?_ | exact trivial | exact ⟨(_, _), rfl, (by repeat' (first | exact Cov.nil | refine Cov.cons (by first | exact Pick.here | exact Pick.here.skip | exact Pick.here.skip.skip | exact Pick.here.skip.skip.skip | exact Pick.here.skip.skip.skip.skip | exact Pick.here.skip.skip.skip.skip.skip | exact Pick.here.skip.skip.skip.skip.skip.skip) ?_))⟩ | fail))
      rintro ⟨b13, b14⟩ u
      dsimp only
      (conv => whnf); repeat ((first | refine tk1 ?_ | refine tk2 ?_ | refine tk3 ?_ | refine tk12 (fun _ => ?_) | refine tk4 ?_ | refine tk5 ?_ | refine tk6 ?_ | refine tk7 ?_ | refine tk8 ?_ | refine tk9 ?_ | refine tk10 (fun _ _ => ?_) | refine tk11 (fun _ => ?_)); (conv => whnf))
      refine AppS.tc (m := F.length) (news := fcells F) SrcK.tc (by rw [fcells_length]; omega) (fcells_one F) (by decide) (by omega) (by omega) (zs := fcells ((n, x) :: F)) rfl (fun B1 c1 => ?_)
      rw [show 1 + F.length = ((n, x) :: F).length by simp; omega]
      (conv => whnf); repeat ((first | refine tk1 ?_ | refine tk2 ?_ | refine tk3 ?_ | refine tk12 (fun _ => ?_) | refine tk4 ?_ | refine tk5 ?_ | refine tk6 ?_ | refine tk7 ?_ | refine tk8 ?_ | refine tk9 ?_ | refine tk10 (fun _ _ => ?_) | refine tk11 (fun _ => ?_)); (conv => whnf))
      refine DrawS.join (fun (y : Option Addr × Nat) u => [u 0, u 1, u 2, u 3, u 4, .bool true, .int .u8 0, .int .i64 0, .int .i64 200, u 9, u 10, u 11, u 12, .pointer (some ⟨b13, 0, none⟩), .pointer (some ⟨b14, 0, none⟩), u 15, u 16, u 17, u 18, u 19, u 20, u 21, u 22, u 23, u 24, u 25, u 26, u 27, u 28, u 29, u 30, u 31, u 32, u 33, u 34, u 35, u 36, u 37, u 38, u 39, u 40, u 41, u 42, u 43, u 44, u 45, u 46, u 47, u 48, u 49, u 50, u 51, u 52, u 53, u 54, u 55, u 56, u 57, u 58, u 59, u 60, u 61, u 62, u 63, u 64, u 65, u 66, u 67, u 68, u 69, u 70, u 71, u 72, u 73, u 74, u 75, u 76, u 77, u 78, u 79, u 80, u 81, u 82, u 83, u 84, u 85, u 86, u 87, u 88, u 89, u 90, u 91, u 92, u 93, u 94, u 95, u 96, u 97, u 98, u 99, u 100, u 101, u 102, u 103, u 104, u 105, u 106, u 107, u 108, u 109, u 110, u 111, u 112, u 113, u 114, u 115, u 116, u 117, u 118, u 119, u 120, u 121, u 122, u 123, u 124, u 125, u 126, u 127, u 128, u 129, u 130, u 131, u 132, u 133, u 134, u 135, u 136, u 137, u 138, u 139, u 140, u 141, u 142, u 143, u 144, u 145, u 146, u 147, u 148, u 149, u 150, u 151, u 152, u 153, u 154, u 155, u 156, u 157, u 158, u 159, u 160, u 161, u 162, u 163, u 164, u 165, u 166, u 167, u 168, u 169, u 170, u 171, u 172, u 173, u 174, u 175, u 176, u 177, u 178, u 179, u 180, u 181, u 182, u 183, u 184])
        (fun y => [.box b13 [str m, str p, str q, .int .i64 v, .slice B1 ((n, x) :: F).length c1, .slice C bn bc] 28, .box b14 [str m, str p, str q, .int .i64 v, .slice y.1 (F ++ [(n, x)]).length y.2, .slice C bn bc] 28, .row (.slice B1 ((n, x) :: F).length c1) 39 2 ((n, x) :: F).length (fcells ((n, x) :: F)), .row (.slice y.1 (F ++ [(n, x)]).length y.2) 39 2 (F ++ [(n, x)]).length (fcells (F ++ [(n, x)]))])
        [] (.q 0 (.q 1 (.ch 2 (.q 3 (.a 4 (.a 5 (.q 6 (.a 7 (.nil)))))) (.ch 3 (.ch 2 (.a 4 (.a 5 (.q 6 (.a 7 (.nil))))) (.ch 4 (.a 2 (.a 5 (.q 6 (.a 7 (.nil))))) (.stop))) (.stop))))) tys_ok mixed (by kernel_rfl) ?_ ?_
      · (repeat' ((conv => whnf); first | (first | refine tk1 ?_ | refine tk2 ?_ | refine tk3 ?_ | refine tk12 (fun _ => ?_) | refine tk4 ?_ | refine tk5 ?_ | refine tk6 ?_ | refine tk7 ?_ | refine tk8 ?_ | refine tk9 ?_ | refine tk10 (fun _ _ => ?_) | refine tk11 (fun _ => ?_)) | refine And.intro ?_ ?_ | exact trivial | exact ⟨(_, _), rfl, (by repeat' (first | exact Cov.nil | refine Cov.cons (by first | exact Pick.here | exact Pick.here.skip | exact Pick.here.skip.skip | exact Pick.here.skip.skip.skip | exact Pick.here.skip.skip.skip.skip | exact Pick.here.skip.skip.skip.skip.skip | exact Pick.here.skip.skip.skip.skip.skip.skip) ?_))⟩ | (refine AppS.t0 (m := F.length) (news := fcells F) SrcK.tc (by rw [fcells_length]; omega) (fcells_one F) (by decide) (by omega) (by omega) (fun B2 c2 => ?_)) | (refine AppS.tc (m := 1) (news := [str n, str x]) SrcK.tc rfl (by simp [Value.oneCell']) (by decide) (by omega) (by omega) (zs := fcells (F ++ [(n, x)])) (by rw [fcells_app]; rfl) (fun B3 c3 => ?_); rw [show F.length + 1 = (F ++ [(n, x)]).length by simp])))
      rintro ⟨B3, c3⟩ u
      dsimp only
      (conv => whnf); repeat ((first | refine tk1 ?_ | refine tk2 ?_ | refine tk3 ?_ | refine tk12 (fun _ => ?_) | refine tk4 ?_ | refine tk5 ?_ | refine tk6 ?_ | refine tk7 ?_ | refine tk8 ?_ | refine tk9 ?_ | refine tk10 (fun _ _ => ?_) | refine tk11 (fun _ => ?_)); (conv => whnf))
      refine CallK.fnR (Of_s m p q v B1 c1 ((n, x) :: F) (.slice C bn bc) zc hv hcs) ⟨RdA.ok, trivial⟩ ?_
      (conv => whnf); repeat ((first | refine tk1 ?_ | refine tk2 ?_ | refine tk3 ?_ | refine tk12 (fun _ => ?_) | refine tk4 ?_ | refine tk5 ?_ | refine tk6 ?_ | refine tk7 ?_ | refine tk8 ?_ | refine tk9 ?_ | refine tk10 (fun _ _ => ?_) | refine tk11 (fun _ => ?_)); (conv => whnf))
      refine CallK.fnR (Of_s m p q v B3 c3 (F ++ [(n, x)]) (.slice C bn bc) zs hv hsn) ⟨RdA.ok, trivial⟩ ?_
      (conv => whnf); repeat ((first | refine tk1 ?_ | refine tk2 ?_ | refine tk3 ?_ | refine tk12 (fun _ => ?_) | refine tk4 ?_ | refine tk5 ?_ | refine tk6 ?_ | refine tk7 ?_ | refine tk8 ?_ | refine tk9 ?_ | refine tk10 (fun _ _ => ?_) | refine tk11 (fun _ => ?_)); (conv => whnf))
      exact fun w' _ => rfl
  · have g1 : 0 < (allOf F codN).length := List.length_pos_iff.2 h1
    have g2 : (allOf F lenN).length = 0 := by rw [h2]; rfl
    refine CallK.fnR (Of_s m p q v A cp F (.slice C bn bc) (by omega) hv hs) ⟨RdA.ok, trivial⟩ ?_
    (conv => whnf); repeat ((first | refine tk1 ?_ | refine tk2 ?_ | refine tk3 ?_ | refine tk12 (fun _ => ?_) | refine tk4 ?_ | refine tk5 ?_ | refine tk6 ?_ | refine tk7 ?_ | refine tk8 ?_ | refine tk9 ?_ | refine tk10 (fun _ _ => ?_) | refine tk11 (fun _ => ?_)); (conv => whnf))
    refine LoopS.lp tys_ok (fun (k : Nat) u => [u 0, u 1, .pointer (some ⟨p2, 0, none⟩), .pointer (some ⟨p3, 0, none⟩), u 4, .bool true, .int .u8 2, .int .i64 0, .int .i64 200, .int .i64 (allOf (F.take k) lenN).length, .int .i64 (allOf (F.take k) codN).length, .int .i64 (k : Nat), u 12, u 13, u 14, u 15, u 16, u 17, u 18, u 19, u 20, u 21, u 22, u 23, u 24, u 25, u 26, u 27, u 28, u 29, u 30, u 31, u 32, u 33, u 34, u 35, u 36, u 37, u 38, u 39, u 40, u 41, u 42, u 43, u 44, u 45, u 46, u 47, u 48, u 49, u 50, u 51, u 52, u 53, u 54, u 55, u 56, u 57, u 58, u 59, u 60, u 61, u 62, u 63, u 64, u 65, u 66, u 67, u 68, u 69, u 70, u 71, u 72, u 73, u 74, u 75, u 76, u 77, u 78, u 79, u 80, u 81, u 82, u 83, u 84, u 85, u 86, u 87, u 88, u 89, u 90, u 91, u 92, u 93, u 94, u 95, u 96, u 97, u 98, u 99, u 100, u 101, u 102, u 103, u 104, u 105, u 106, u 107, u 108, u 109, u 110, u 111, u 112, u 113, u 114, u 115, u 116, u 117, u 118, u 119, u 120, u 121, u 122, u 123, u 124, u 125, u 126, u 127, u 128, u 129, u 130, u 131, u 132, u 133, u 134, u 135, u 136, u 137, u 138, u 139, u 140, u 141, u 142, u 143, u 144, u 145, u 146, u 147, u 148, u 149, u 150, u 151, u 152, u 153, u 154, u 155, u 156, u 157, u 158, u 159, u 160, u 161, u 162, u 163, u 164, u 165, u 166, u 167, u 168, u 169, u 170, u 171, u 172, u 173, u 174, u 175, u 176, u 177, u 178, u 179, u 180, u 181, u 182, u 183, u 184])
      (fun _ => [.box p3 [str n, str x] 39, .box p2 [str m, str p, str q, .int .i64 v, .slice A F.length cp, .slice C bn bc] 28])
      (fun k => k ≤ F.length) (fun k => F.length - k) 0 (Nat.zero_le _) rfl (by repeat' (first | exact List.Sublist.refl _ | exact List.nil_sublist _ | apply List.Sublist.cons_cons | apply List.Sublist.cons)) ?_
    intro k u hk
    (conv => whnf); repeat ((first | refine tk1 ?_ | refine tk2 ?_ | refine tk3 ?_ | refine tk12 (fun _ => ?_) | refine tk4 ?_ | refine tk5 ?_ | refine tk6 ?_ | refine tk7 ?_ | refine tk8 ?_ | refine tk9 ?_ | refine tk10 (fun _ _ => ?_) | refine tk11 (fun _ => ?_)); (conv => whnf))
    refine Cmp.cases (fun hlt => ?_) (fun hlt => ?_)
    · have hlt' : k < F.length := by omega
      have ha := allOf_take F lenN k hlt'
      have hb := allOf_take F codN k hlt'
      rw [show smallOf lenN = lenN by decide] at ha
      rw [show smallOf codN = codN by decide] at hb
      have z4 := allOf_le (F.take k) lenN
      have z5 := allOf_le (F.take k) codN
      rw [List.length_take] at z4 z5
      (conv => whnf); repeat ((first | refine tk1 ?_ | refine tk2 ?_ | refine tk3 ?_ | refine tk12 (fun _ => ?_) | refine tk4 ?_ | refine tk5 ?_ | refine tk6 ?_ | refine tk7 ?_ | refine tk8 ?_ | refine tk9 ?_ | refine tk10 (fun _ _ => ?_) | refine tk11 (fun _ => ?_)); (conv => whnf))
      refine IdxA.tc (by rw [fcells_length]; omega) (by omega) (by omega) ?_
      (conv => whnf); repeat ((first | refine tk1 ?_ | refine tk2 ?_ | refine tk3 ?_ | refine tk12 (fun _ => ?_) | refine tk4 ?_ | refine tk5 ?_ | refine tk6 ?_ | refine tk7 ?_ | refine tk8 ?_ | refine tk9 ?_ | refine tk10 (fun _ _ => ?_) | refine tk11 (fun _ => ?_)); (conv => whnf))
      refine Ld.taF (fcells_0 F k hlt') ?_
      (conv => whnf); repeat ((first | refine tk1 ?_ | refine tk2 ?_ | refine tk3 ?_ | refine tk12 (fun _ => ?_) | refine tk4 ?_ | refine tk5 ?_ | refine tk6 ?_ | refine tk7 ?_ | refine tk8 ?_ | refine tk9 ?_ | refine tk10 (fun _ _ => ?_) | refine tk11 (fun _ => ?_)); (conv => whnf))
      refine CallK.fn (Small_r F[k].1 (by have := fsum_mem (List.getElem_mem hlt'); omega)) ?_
      (conv => whnf); repeat ((first | refine tk1 ?_ | refine tk2 ?_ | refine tk3 ?_ | refine tk12 (fun _ => ?_) | refine tk4 ?_ | refine tk5 ?_ | refine tk6 ?_ | refine tk7 ?_ | refine tk8 ?_ | refine tk9 ?_ | refine tk10 (fun _ _ => ?_) | refine tk11 (fun _ => ?_)); (conv => whnf))
      refine Cmp.cases (fun y1 => ?_) (fun y1 => ?_)
      · have y1 : smallOf F[k].1 = lenN := y1
        rw [if_pos y1] at ha
        rw [if_neg (by rw [y1]; decide), List.append_nil] at hb
        (conv => whnf); repeat ((first | refine tk1 ?_ | refine tk2 ?_ | refine tk3 ?_ | refine tk12 (fun _ => ?_) | refine tk4 ?_ | refine tk5 ?_ | refine tk6 ?_ | refine tk7 ?_ | refine tk8 ?_ | refine tk9 ?_ | refine tk10 (fun _ _ => ?_) | refine tk11 (fun _ => ?_)); (conv => whnf))
        exact ⟨k + 1, by omega, by dsimp only; rw [ha, hb, List.length_append]; rfl, (by repeat' (first | exact List.Sublist.refl _ | exact List.nil_sublist _ | apply List.Sublist.cons_cons | apply List.Sublist.cons)), by dsimp only; omega⟩
      · have y1 : ¬ smallOf F[k].1 = lenN := y1
        rw [if_neg y1, List.append_nil] at ha
        (conv => whnf); repeat ((first | refine tk1 ?_ | refine tk2 ?_ | refine tk3 ?_ | refine tk12 (fun _ => ?_) | refine tk4 ?_ | refine tk5 ?_ | refine tk6 ?_ | refine tk7 ?_ | refine tk8 ?_ | refine tk9 ?_ | refine tk10 (fun _ _ => ?_) | refine tk11 (fun _ => ?_)); (conv => whnf))
        refine Cmp.cases (fun y2 => ?_) (fun y2 => ?_)
        · have y2 : smallOf F[k].1 = codN := y2
          rw [if_pos y2] at hb
          (conv => whnf); repeat ((first | refine tk1 ?_ | refine tk2 ?_ | refine tk3 ?_ | refine tk12 (fun _ => ?_) | refine tk4 ?_ | refine tk5 ?_ | refine tk6 ?_ | refine tk7 ?_ | refine tk8 ?_ | refine tk9 ?_ | refine tk10 (fun _ _ => ?_) | refine tk11 (fun _ => ?_)); (conv => whnf))
          exact ⟨k + 1, by omega, by dsimp only; rw [ha, hb, List.length_append]; rfl, (by repeat' (first | exact List.Sublist.refl _ | exact List.nil_sublist _ | apply List.Sublist.cons_cons | apply List.Sublist.cons)), by dsimp only; omega⟩
        · have y2 : ¬ smallOf F[k].1 = codN := y2
          rw [if_neg y2, List.append_nil] at hb
          (conv => whnf); repeat ((first | refine tk1 ?_ | refine tk2 ?_ | refine tk3 ?_ | refine tk12 (fun _ => ?_) | refine tk4 ?_ | refine tk5 ?_ | refine tk6 ?_ | refine tk7 ?_ | refine tk8 ?_ | refine tk9 ?_ | refine tk10 (fun _ _ => ?_) | refine tk11 (fun _ => ?_)); (conv => whnf))
          exact ⟨k + 1, by omega, by dsimp only; rw [ha, hb]; rfl, (by repeat' (first | exact List.Sublist.refl _ | exact List.nil_sublist _ | apply List.Sublist.cons_cons | apply List.Sublist.cons)), by dsimp only; omega⟩
    · rw [List.take_of_length_le (by omega)]
      (conv => whnf); repeat ((first | refine tk1 ?_ | refine tk2 ?_ | refine tk3 ?_ | refine tk12 (fun _ => ?_) | refine tk4 ?_ | refine tk5 ?_ | refine tk6 ?_ | refine tk7 ?_ | refine tk8 ?_ | refine tk9 ?_ | refine tk10 (fun _ _ => ?_) | refine tk11 (fun _ => ?_)); (conv => whnf))
      refine CallK.fn (Small_r n (by omega)) ?_
      (conv => whnf); repeat ((first | refine tk1 ?_ | refine tk2 ?_ | refine tk3 ?_ | refine tk12 (fun _ => ?_) | refine tk4 ?_ | refine tk5 ?_ | refine tk6 ?_ | refine tk7 ?_ | refine tk8 ?_ | refine tk9 ?_ | refine tk10 (fun _ _ => ?_) | refine tk11 (fun _ => ?_)); (conv => whnf))
      refine Cmp.cases (fun y1 => ?_) (fun y1 => ?_)
      · (conv => whnf); repeat ((first | refine tk1 ?_ | refine tk2 ?_ | refine tk3 ?_ | refine tk12 (fun _ => ?_) | refine tk4 ?_ | refine tk5 ?_ | refine tk6 ?_ | refine tk7 ?_ | refine tk8 ?_ | refine tk9 ?_ | refine tk10 (fun _ _ => ?_) | refine tk11 (fun _ => ?_)); (conv => whnf))
        exact fun w' _ => rfl
      (conv => whnf); repeat ((first | refine tk1 ?_ | refine tk2 ?_ | refine tk3 ?_ | refine tk12 (fun _ => ?_) | refine tk4 ?_ | refine tk5 ?_ | refine tk6 ?_ | refine tk7 ?_ | refine tk8 ?_ | refine tk9 ?_ | refine tk10 (fun _ _ => ?_) | refine tk11 (fun _ => ?_)); (conv => whnf))
      refine Cmp.cases (fun y2 => ?_) (fun y2 => ?_)
      · (conv => whnf); repeat ((first | refine tk1 ?_ | refine tk2 ?_ | refine tk3 ?_ | refine tk12 (fun _ => ?_) | refine tk4 ?_ | refine tk5 ?_ | refine tk6 ?_ | refine tk7 ?_ | refine tk8 ?_ | refine tk9 ?_ | refine tk10 (fun _ _ => ?_) | refine tk11 (fun _ => ?_)); (conv => whnf))
        exact fun w' _ => rfl
      (conv => whnf); repeat ((first | refine tk1 ?_ | refine tk2 ?_ | refine tk3 ?_ | refine tk12 (fun _ => ?_) | refine tk4 ?_ | refine tk5 ?_ | refine tk6 ?_ | refine tk7 ?_ | refine tk8 ?_ | refine tk9 ?_ | refine tk10 (fun _ _ => ?_) | refine tk11 (fun _ => ?_)); (conv => whnf))
      refine Cmp.cases (fun y3 => ?_) (fun y3 => ?_)
      · (conv => whnf); repeat ((first | refine tk1 ?_ | refine tk2 ?_ | refine tk3 ?_ | refine tk12 (fun _ => ?_) | refine tk4 ?_ | refine tk5 ?_ | refine tk6 ?_ | refine tk7 ?_ | refine tk8 ?_ | refine tk9 ?_ | refine tk10 (fun _ _ => ?_) | refine tk11 (fun _ => ?_)); (conv => whnf))
        exact fun w' _ => rfl
      have hcs : sizeOf ((n, x) :: F) v = (2, 0, 200) := by rw [sizeOf_cons (n, x) F v y1 y2 y3, hs]
      have hsn : sizeOf (F ++ [(n, x)]) v = (2, 0, 200) := by rw [sizeOf_snoc (n, x) F v y1 y2 y3, hs]
      (conv => whnf); repeat ((first | refine tk1 ?_ | refine tk2 ?_ | refine tk3 ?_ | refine tk12 (fun _ => ?_) | refine tk4 ?_ | refine tk5 ?_ | refine tk6 ?_ | refine tk7 ?_ | refine tk8 ?_ | refine tk9 ?_ | refine tk10 (fun _ _ => ?_) | refine tk11 (fun _ => ?_)); (conv => whnf))
      refine DrawS.join (fun (y : Nat × Nat) u => [u 0, u 1, .pointer (some ⟨p2, 0, none⟩), .pointer (some ⟨p3, 0, none⟩), u 4, .bool true, .int .u8 2, .int .i64 0, .int .i64 200, u 9, u 10, u 11, u 12, .pointer (some ⟨y.1, 0, none⟩), .pointer (some ⟨y.2, 0, none⟩), u 15, u 16, u 17, u 18, u 19, u 20, u 21, u 22, u 23, u 24, u 25, u 26, u 27, u 28, u 29, u 30, u 31, u 32, u 33, u 34, u 35, u 36, u 37, u 38, u 39, u 40, u 41, u 42, u 43, u 44, u 45, u 46, u 47, u 48, u 49, u 50, u 51, u 52, u 53, u 54, u 55, u 56, u 57, u 58, u 59, u 60, u 61, u 62, u 63, u 64, u 65, u 66, u 67, u 68, u 69, u 70, u 71, u 72, u 73, u 74, u 75, u 76, u 77, u 78, u 79, u 80, u 81, u 82, u 83, u 84, u 85, u 86, u 87, u 88, u 89, u 90, u 91, u 92, u 93, u 94, u 95, u 96, u 97, u 98, u 99, u 100, u 101, u 102, u 103, u 104, u 105, u 106, u 107, u 108, u 109, u 110, u 111, u 112, u 113, u 114, u 115, u 116, u 117, u 118, u 119, u 120, u 121, u 122, u 123, u 124, u 125, u 126, u 127, u 128, u 129, u 130, u 131, u 132, u 133, u 134, u 135, u 136, u 137, u 138, u 139, u 140, u 141, u 142, u 143, u 144, u 145, u 146, u 147, u 148, u 149, u 150, u 151, u 152, u 153, u 154, u 155, u 156, u 157, u 158, u 159, u 160, u 161, u 162, u 163, u 164, u 165, u 166, u 167, u 168, u 169, u 170, u 171, u 172, u 173, u 174, u 175, u 176, u 177, u 178, u 179, u 180, u 181, u 182, u 183, u 184])
        (fun y => [.box y.1 [str m, str p, str q, .int .i64 v, .slice A F.length cp, .slice C bn bc] 28, .box y.2 [str m, str p, str q, .int .i64 v, .slice A F.length cp, .slice C bn bc] 28, .box p3 [str n, str x] 39, .box p2 [str m, str p, str q, .int .i64 v, .slice A F.length cp, .slice C bn bc] 28])
        [] (.q 0 (.ch 1 (.ch 2 (.a 3 (.a 4 (.a 5 (.nil)))) (.ch 3 (.a 2 (.a 4 (.a 5 (.nil)))) (.stop))) (.ch 2 (.ch 1 (.a 3 (.a 4 (.a 5 (.nil)))) (.ch 3 (.ch 1 (.a 4 (.a 5 (.nil))) (.ch 4 (.q 1 (.a 5 (.nil))) (.stop))) (.stop))) (.ch 3 (.ch 1 (.a 2 (.a 4 (.a 5 (.nil)))) (.ch 2 (.ch 1 (.a 4 (.a 5 (.nil))) (.ch 4 (.q 1 (.a 5 (.nil))) (.stop))) (.stop))) (.stop))))) tys_ok mixed (by kernel_rfl) ?_ ?_
      · (repeat' ((conv => whnf); first | (first | refine tk1 ?_ | refine tk2 ?_ | refine tk3 ?_ | refine tk12 (fun _ => ?_) | refine tk4 ?_ | refine tk5 ?_ | refine tk6 ?_ | refine tk7 ?_ | refine tk8 ?_ | refine tk9 ?_ | refine tk10 (fun _ _ => ?_) | refine tk11 (fun _ => ?_)) | refine And.intro ?_ ?_ | exact trivial | exact ⟨(_, _), rfl, (by repeat' (first | exact Cov.nil | refine Cov.cons (by first | exact Pick.here | exact Pick.here.skip | exact Pick.here.skip.skip | exact Pick.here.skip.skip.skip | exact Pick.here.skip.skip.skip.skip | exact Pick.here.skip.skip.skip.skip.skip | exact Pick.here.skip.skip.skip.skip.skip.skip) ?_))⟩ | fail))
      rintro ⟨b13, b14⟩ u
      dsimp only
      (conv => whnf); repeat ((first | refine tk1 ?_ | refine tk2 ?_ | refine tk3 ?_ | refine tk12 (fun _ => ?_) | refine tk4 ?_ | refine tk5 ?_ | refine tk6 ?_ | refine tk7 ?_ | refine tk8 ?_ | refine tk9 ?_ | refine tk10 (fun _ _ => ?_) | refine tk11 (fun _ => ?_)); (conv => whnf))
      refine AppS.tc (m := F.length) (news := fcells F) SrcK.tc (by rw [fcells_length]; omega) (fcells_one F) (by decide) (by omega) (by omega) (zs := fcells ((n, x) :: F)) rfl (fun B1 c1 => ?_)
      rw [show 1 + F.length = ((n, x) :: F).length by simp; omega]
      (conv => whnf); repeat ((first | refine tk1 ?_ | refine tk2 ?_ | refine tk3 ?_ | refine tk12 (fun _ => ?_) | refine tk4 ?_ | refine tk5 ?_ | refine tk6 ?_ | refine tk7 ?_ | refine tk8 ?_ | refine tk9 ?_ | refine tk10 (fun _ _ => ?_) | refine tk11 (fun _ => ?_)); (conv => whnf))
      refine DrawS.join (fun (y : Option Addr × Nat) u => [u 0, u 1, u 2, u 3, u 4, .bool true, .int .u8 2, .int .i64 0, .int .i64 200, u 9, u 10, u 11, u 12, .pointer (some ⟨b13, 0, none⟩), .pointer (some ⟨b14, 0, none⟩), u 15, u 16, u 17, u 18, u 19, u 20, u 21, u 22, u 23, u 24, u 25, u 26, u 27, u 28, u 29, u 30, u 31, u 32, u 33, u 34, u 35, u 36, u 37, u 38, u 39, u 40, u 41, u 42, u 43, u 44, u 45, u 46, u 47, u 48, u 49, u 50, u 51, u 52, u 53, u 54, u 55, u 56, u 57, u 58, u 59, u 60, u 61, u 62, u 63, u 64, u 65, u 66, u 67, u 68, u 69, u 70, u 71, u 72, u 73, u 74, u 75, u 76, u 77, u 78, u 79, u 80, u 81, u 82, u 83, u 84, u 85, u 86, u 87, u 88, u 89, u 90, u 91, u 92, u 93, u 94, u 95, u 96, u 97, u 98, u 99, u 100, u 101, u 102, u 103, u 104, u 105, u 106, u 107, u 108, u 109, u 110, u 111, u 112, u 113, u 114, u 115, u 116, u 117, u 118, u 119, u 120, u 121, u 122, u 123, u 124, u 125, u 126, u 127, u 128, u 129, u 130, u 131, u 132, u 133, u 134, u 135, u 136, u 137, u 138, u 139, u 140, u 141, u 142, u 143, u 144, u 145, u 146, u 147, u 148, u 149, u 150, u 151, u 152, u 153, u 154, u 155, u 156, u 157, u 158, u 159, u 160, u 161, u 162, u 163, u 164, u 165, u 166, u 167, u 168, u 169, u 170, u 171, u 172, u 173, u 174, u 175, u 176, u 177, u 178, u 179, u 180, u 181, u 182, u 183, u 184])
        (fun y => [.box b13 [str m, str p, str q, .int .i64 v, .slice B1 ((n, x) :: F).length c1, .slice C bn bc] 28, .box b14 [str m, str p, str q, .int .i64 v, .slice y.1 (F ++ [(n, x)]).length y.2, .slice C bn bc] 28, .row (.slice B1 ((n, x) :: F).length c1) 39 2 ((n, x) :: F).length (fcells ((n, x) :: F)), .row (.slice y.1 (F ++ [(n, x)]).length y.2) 39 2 (F ++ [(n, x)]).length (fcells (F ++ [(n, x)]))])
        [] (.q 0 (.q 1 (.ch 2 (.q 3 (.a 4 (.a 5 (.q 6 (.a 7 (.nil)))))) (.ch 3 (.ch 2 (.a 4 (.a 5 (.q 6 (.a 7 (.nil))))) (.ch 4 (.a 2 (.a 5 (.q 6 (.a 7 (.nil))))) (.stop))) (.stop))))) tys_ok mixed (by kernel_rfl) ?_ ?_
      · (repeat' ((conv => whnf); first | (first | refine tk1 ?_ | refine tk2 ?_ | refine tk3 ?_ | refine tk12 (fun _ => ?_) | refine tk4 ?_ | refine tk5 ?_ | refine tk6 ?_ | refine tk7 ?_ | refine tk8 ?_ | refine tk9 ?_ | refine tk10 (fun _ _ => ?_) | refine tk11 (fun _ => ?_)) | refine And.intro ?_ ?_ | exact trivial | exact ⟨(_, _), rfl, (by repeat' (first | exact Cov.nil | refine Cov.cons (by first | exact Pick.here | exact Pick.here.skip | exact Pick.here.skip.skip | exact Pick.here.skip.skip.skip | exact Pick.here.skip.skip.skip.skip | exact Pick.here.skip.skip.skip.skip.skip | exact Pick.here.skip.skip.skip.skip.skip.skip) ?_))⟩ | (refine AppS.t0 (m := F.length) (news := fcells F) SrcK.tc (by rw [fcells_length]; omega) (fcells_one F) (by decide) (by omega) (by omega) (fun B2 c2 => ?_)) | (refine AppS.tc (m := 1) (news := [str n, str x]) SrcK.tc rfl (by simp [Value.oneCell']) (by decide) (by omega) (by omega) (zs := fcells (F ++ [(n, x)])) (by rw [fcells_app]; rfl) (fun B3 c3 => ?_); rw [show F.length + 1 = (F ++ [(n, x)]).length by simp])))
      rintro ⟨B3, c3⟩ u
      dsimp only
      (conv => whnf); repeat ((first | refine tk1 ?_ | refine tk2 ?_ | refine tk3 ?_ | refine tk12 (fun _ => ?_) | refine tk4 ?_ | refine tk5 ?_ | refine tk6 ?_ | refine tk7 ?_ | refine tk8 ?_ | refine tk9 ?_ | refine tk10 (fun _ _ => ?_) | refine tk11 (fun _ => ?_)); (conv => whnf))
      refine CallK.fnR (Of_s m p q v B1 c1 ((n, x) :: F) (.slice C bn bc) zc hv hcs) ⟨RdA.ok, trivial⟩ ?_
      (conv => whnf); repeat ((first | refine tk1 ?_ | refine tk2 ?_ | refine tk3 ?_ | refine tk12 (fun _ => ?_) | refine tk4 ?_ | refine tk5 ?_ | refine tk6 ?_ | refine tk7 ?_ | refine tk8 ?_ | refine tk9 ?_ | refine tk10 (fun _ _ => ?_) | refine tk11 (fun _ => ?_)); (conv => whnf))
      refine CallK.fnR (Of_s m p q v B3 c3 (F ++ [(n, x)]) (.slice C bn bc) zs hv hsn) ⟨RdA.ok, trivial⟩ ?_
      (conv => whnf); repeat ((first | refine tk1 ?_ | refine tk2 ?_ | refine tk3 ?_ | refine tk12 (fun _ => ?_) | refine tk4 ?_ | refine tk5 ?_ | refine tk6 ?_ | refine tk7 ?_ | refine tk8 ?_ | refine tk9 ?_ | refine tk10 (fun _ _ => ?_) | refine tk11 (fun _ => ?_)); (conv => whnf))
      exact fun w' _ => rfl
  · have g1 : (allOf F codN).length = 0 := by rw [h1]; rfl
    have g2 : 0 < (allOf F lenN).length := List.length_pos_iff.2 h2
    refine CallK.fnR (Of_s m p q v A cp F (.slice C bn bc) (by omega) hv hs) ⟨RdA.ok, trivial⟩ ?_
    (conv => whnf); repeat ((first | refine tk1 ?_ | refine tk2 ?_ | refine tk3 ?_ | refine tk12 (fun _ => ?_) | refine tk4 ?_ | refine tk5 ?_ | refine tk6 ?_ | refine tk7 ?_ | refine tk8 ?_ | refine tk9 ?_ | refine tk10 (fun _ _ => ?_) | refine tk11 (fun _ => ?_)); (conv => whnf))
    refine LoopS.lp tys_ok (fun (k : Nat) u => [u 0, u 1, .pointer (some ⟨p2, 0, none⟩), .pointer (some ⟨p3, 0, none⟩), u 4, .bool true, .int .u8 1, .int .i64 N, .int .i64 200, .int .i64 (allOf (F.take k) lenN).length, .int .i64 (allOf (F.take k) codN).length, .int .i64 (k : Nat), u 12, u 13, u 14, u 15, u 16, u 17, u 18, u 19, u 20, u 21, u 22, u 23, u 24, u 25, u 26, u 27, u 28, u 29, u 30, u 31, u 32, u 33, u 34, u 35, u 36, u 37, u 38, u 39, u 40, u 41, u 42, u 43, u 44, u 45, u 46, u 47, u 48, u 49, u 50, u 51, u 52, u 53, u 54, u 55, u 56, u 57, u 58, u 59, u 60, u 61, u 62, u 63, u 64, u 65, u 66, u 67, u 68, u 69, u 70, u 71, u 72, u 73, u 74, u 75, u 76, u 77, u 78, u 79, u 80, u 81, u 82, u 83, u 84, u 85, u 86, u 87, u 88, u 89, u 90, u 91, u 92, u 93, u 94, u 95, u 96, u 97, u 98, u 99, u 100, u 101, u 102, u 103, u 104, u 105, u 106, u 107, u 108, u 109, u 110, u 111, u 112, u 113, u 114, u 115, u 116, u 117, u 118, u 119, u 120, u 121, u 122, u 123, u 124, u 125, u 126, u 127, u 128, u 129, u 130, u 131, u 132, u 133, u 134, u 135, u 136, u 137, u 138, u 139, u 140, u 141, u 142, u 143, u 144, u 145, u 146, u 147, u 148, u 149, u 150, u 151, u 152, u 153, u 154, u 155, u 156, u 157, u 158, u 159, u 160, u 161, u 162, u 163, u 164, u 165, u 166, u 167, u 168, u 169, u 170, u 171, u 172, u 173, u 174, u 175, u 176, u 177, u 178, u 179, u 180, u 181, u 182, u 183, u 184])
      (fun _ => [.box p3 [str n, str x] 39, .box p2 [str m, str p, str q, .int .i64 v, .slice A F.length cp, .slice C bn bc] 28])
      (fun k => k ≤ F.length) (fun k => F.length - k) 0 (Nat.zero_le _) rfl (by repeat' (first | exact List.Sublist.refl _ | exact List.nil_sublist _ | apply List.Sublist.cons_cons | apply List.Sublist.cons)) ?_
    intro k u hk
    (conv => whnf); repeat ((first | refine tk1 ?_ | refine tk2 ?_ | refine tk3 ?_ | refine tk12 (fun _ => ?_) | refine tk4 ?_ | refine tk5 ?_ | refine tk6 ?_ | refine tk7 ?_ | refine tk8 ?_ | refine tk9 ?_ | refine tk10 (fun _ _ => ?_) | refine tk11 (fun _ => ?_)); (conv => whnf))
    refine Cmp.cases (fun hlt => ?_) (fun hlt => ?_)
    · have hlt' : k < F.length := by omega
      have ha := allOf_take F lenN k hlt'
      have hb := allOf_take F codN k hlt'
      rw [show smallOf lenN = lenN by decide] at ha
      rw [show smallOf codN = codN by decide] at hb
      have z4 := allOf_le (F.take k) lenN
      have z5 := allOf_le (F.take k) codN
      rw [List.length_take] at z4 z5
      (conv => whnf); repeat ((first | refine tk1 ?_ | refine tk2 ?_ | refine tk3 ?_ | refine tk12 (fun _ => ?_) | refine tk4 ?_ | refine tk5 ?_ | refine tk6 ?_ | refine tk7 ?_ | refine tk8 ?_ | refine tk9 ?_ | refine tk10 (fun _ _ => ?_) | refine tk11 (fun _ => ?_)); (conv => whnf))
      refine IdxA.tc (by rw [fcells_length]; omega) (by omega) (by omega) ?_
      (conv => whnf); repeat ((first | refine tk1 ?_ | refine tk2 ?_ | refine tk3 ?_ | refine tk12 (fun _ => ?_) | refine tk4 ?_ | refine tk5 ?_ | refine tk6 ?_ | refine tk7 ?_ | refine tk8 ?_ | refine tk9 ?_ | refine tk10 (fun _ _ => ?_) | refine tk11 (fun _ => ?_)); (conv => whnf))
      refine Ld.taF (fcells_0 F k hlt') ?_
      (conv => whnf); repeat ((first | refine tk1 ?_ | refine tk2 ?_ | refine tk3 ?_ | refine tk12 (fun _ => ?_) | refine tk4 ?_ | refine tk5 ?_ | refine tk6 ?_ | refine tk7 ?_ | refine tk8 ?_ | refine tk9 ?_ | refine tk10 (fun _ _ => ?_) | refine tk11 (fun _ => ?_)); (conv => whnf))
      refine CallK.fn (Small_r F[k].1 (by have := fsum_mem (List.getElem_mem hlt'); omega)) ?_
      (conv => whnf); repeat ((first | refine tk1 ?_ | refine tk2 ?_ | refine tk3 ?_ | refine tk12 (fun _ => ?_) | refine tk4 ?_ | refine tk5 ?_ | refine tk6 ?_ | refine tk7 ?_ | refine tk8 ?_ | refine tk9 ?_ | refine tk10 (fun _ _ => ?_) | refine tk11 (fun _ => ?_)); (conv => whnf))
      refine Cmp.cases (fun y1 => ?_) (fun y1 => ?_)
      · have y1 : smallOf F[k].1 = lenN := y1
        rw [if_pos y1] at ha
        rw [if_neg (by rw [y1]; decide), List.append_nil] at hb
        (conv => whnf); repeat ((first | refine tk1 ?_ | refine tk2 ?_ | refine tk3 ?_ | refine tk12 (fun _ => ?_) | refine tk4 ?_ | refine tk5 ?_ | refine tk6 ?_ | refine tk7 ?_ | refine tk8 ?_ | refine tk9 ?_ | refine tk10 (fun _ _ => ?_) | refine tk11 (fun _ => ?_)); (conv => whnf))
        exact ⟨k + 1, by omega, by dsimp only; rw [ha, hb, List.length_append]; rfl, (by repeat' (first | exact List.Sublist.refl _ | exact List.nil_sublist _ | apply List.Sublist.cons_cons | apply List.Sublist.cons)), by dsimp only; omega⟩
      · have y1 : ¬ smallOf F[k].1 = lenN := y1
        rw [if_neg y1, List.append_nil] at ha
        (conv => whnf); repeat ((first | refine tk1 ?_ | refine tk2 ?_ | refine tk3 ?_ | refine tk12 (fun _ => ?_) | refine tk4 ?_ | refine tk5 ?_ | refine tk6 ?_ | refine tk7 ?_ | refine tk8 ?_ | refine tk9 ?_ | refine tk10 (fun _ _ => ?_) | refine tk11 (fun _ => ?_)); (conv => whnf))
        refine Cmp.cases (fun y2 => ?_) (fun y2 => ?_)
        · have y2 : smallOf F[k].1 = codN := y2
          rw [if_pos y2] at hb
          (conv => whnf); repeat ((first | refine tk1 ?_ | refine tk2 ?_ | refine tk3 ?_ | refine tk12 (fun _ => ?_) | refine tk4 ?_ | refine tk5 ?_ | refine tk6 ?_ | refine tk7 ?_ | refine tk8 ?_ | refine tk9 ?_ | refine tk10 (fun _ _ => ?_) | refine tk11 (fun _ => ?_)); (conv => whnf))
          exact ⟨k + 1, by omega, by dsimp only; rw [ha, hb, List.length_append]; rfl, (by repeat' (first | exact List.Sublist.refl _ | exact List.nil_sublist _ | apply List.Sublist.cons_cons | apply List.Sublist.cons)), by dsimp only; omega⟩
        · have y2 : ¬ smallOf F[k].1 = codN := y2
          rw [if_neg y2, List.append_nil] at hb
          (conv => whnf); repeat ((first | refine tk1 ?_ | refine tk2 ?_ | refine tk3 ?_ | refine tk12 (fun _ => ?_) | refine tk4 ?_ | refine tk5 ?_ | refine tk6 ?_ | refine tk7 ?_ | refine tk8 ?_ | refine tk9 ?_ | refine tk10 (fun _ _ => ?_) | refine tk11 (fun _ => ?_)); (conv => whnf))
          exact ⟨k + 1, by omega, by dsimp only; rw [ha, hb]; rfl, (by repeat' (first | exact List.Sublist.refl _ | exact List.nil_sublist _ | apply List.Sublist.cons_cons | apply List.Sublist.cons)), by dsimp only; omega⟩
    · rw [List.take_of_length_le (by omega)]
      (conv => whnf); repeat ((first | refine tk1 ?_ | refine tk2 ?_ | refine tk3 ?_ | refine tk12 (fun _ => ?_) | refine tk4 ?_ | refine tk5 ?_ | refine tk6 ?_ | refine tk7 ?_ | refine tk8 ?_ | refine tk9 ?_ | refine tk10 (fun _ _ => ?_) | refine tk11 (fun _ => ?_)); (conv => whnf))
      refine CallK.fn (Small_r n (by omega)) ?_
      (conv => whnf); repeat ((first | refine tk1 ?_ | refine tk2 ?_ | refine tk3 ?_ | refine tk12 (fun _ => ?_) | refine tk4 ?_ | refine tk5 ?_ | refine tk6 ?_ | refine tk7 ?_ | refine tk8 ?_ | refine tk9 ?_ | refine tk10 (fun _ _ => ?_) | refine tk11 (fun _ => ?_)); (conv => whnf))
      refine Cmp.cases (fun y1 => ?_) (fun y1 => ?_)
      · (conv => whnf); repeat ((first | refine tk1 ?_ | refine tk2 ?_ | refine tk3 ?_ | refine tk12 (fun _ => ?_) | refine tk4 ?_ | refine tk5 ?_ | refine tk6 ?_ | refine tk7 ?_ | refine tk8 ?_ | refine tk9 ?_ | refine tk10 (fun _ _ => ?_) | refine tk11 (fun _ => ?_)); (conv => whnf))
        exact fun w' _ => rfl
      (conv => whnf); repeat ((first | refine tk1 ?_ | refine tk2 ?_ | refine tk3 ?_ | refine tk12 (fun _ => ?_) | refine tk4 ?_ | refine tk5 ?_ | refine tk6 ?_ | refine tk7 ?_ | refine tk8 ?_ | refine tk9 ?_ | refine tk10 (fun _ _ => ?_) | refine tk11 (fun _ => ?_)); (conv => whnf))
      refine Cmp.cases (fun y2 => ?_) (fun y2 => ?_)
      · (conv => whnf); repeat ((first | refine tk1 ?_ | refine tk2 ?_ | refine tk3 ?_ | refine tk12 (fun _ => ?_) | refine tk4 ?_ | refine tk5 ?_ | refine tk6 ?_ | refine tk7 ?_ | refine tk8 ?_ | refine tk9 ?_ | refine tk10 (fun _ _ => ?_) | refine tk11 (fun _ => ?_)); (conv => whnf))
        exact fun w' _ => rfl
      (conv => whnf); repeat ((first | refine tk1 ?_ | refine tk2 ?_ | refine tk3 ?_ | refine tk12 (fun _ => ?_) | refine tk4 ?_ | refine tk5 ?_ | refine tk6 ?_ | refine tk7 ?_ | refine tk8 ?_ | refine tk9 ?_ | refine tk10 (fun _ _ => ?_) | refine tk11 (fun _ => ?_)); (conv => whnf))
      refine Cmp.cases (fun y3 => ?_) (fun y3 => ?_)
      · (conv => whnf); repeat ((first | refine tk1 ?_ | refine tk2 ?_ | refine tk3 ?_ | refine tk12 (fun _ => ?_) | refine tk4 ?_ | refine tk5 ?_ | refine tk6 ?_ | refine tk7 ?_ | refine tk8 ?_ | refine tk9 ?_ | refine tk10 (fun _ _ => ?_) | refine tk11 (fun _ => ?_)); (conv => whnf))
        exact fun w' _ => rfl
      have hcs : sizeOf ((n, x) :: F) v = (1, N, 200) := by rw [sizeOf_cons (n, x) F v y1 y2 y3, hs]
      have hsn : sizeOf (F ++ [(n, x)]) v = (1, N, 200) := by rw [sizeOf_snoc (n, x) F v y1 y2 y3, hs]
      (conv => whnf); repeat ((first | refine tk1 ?_ | refine tk2 ?_ | refine tk3 ?_ | refine tk12 (fun _ => ?_) | refine tk4 ?_ | refine tk5 ?_ | refine tk6 ?_ | refine tk7 ?_ | refine tk8 ?_ | refine tk9 ?_ | refine tk10 (fun _ _ => ?_) | refine tk11 (fun _ => ?_)); (conv => whnf))
      refine DrawS.join (fun (y : Nat × Nat) u => [u 0, u 1, .pointer (some ⟨p2, 0, none⟩), .pointer (some ⟨p3, 0, none⟩), u 4, .bool true, .int .u8 1, .int .i64 N, .int .i64 200, u 9, u 10, u 11, u 12, .pointer (some ⟨y.1, 0, none⟩), .pointer (some ⟨y.2, 0, none⟩), u 15, u 16, u 17, u 18, u 19, u 20, u 21, u 22, u 23, u 24, u 25, u 26, u 27, u 28, u 29, u 30, u 31, u 32, u 33, u 34, u 35, u 36, u 37, u 38, u 39, u 40, u 41, u 42, u 43, u 44, u 45, u 46, u 47, u 48, u 49, u 50, u 51, u 52, u 53, u 54, u 55, u 56, u 57, u 58, u 59, u 60, u 61, u 62, u 63, u 64, u 65, u 66, u 67, u 68, u 69, u 70, u 71, u 72, u 73, u 74, u 75, u 76, u 77, u 78, u 79, u 80, u 81, u 82, u 83, u 84, u 85, u 86, u 87, u 88, u 89, u 90, u 91, u 92, u 93, u 94, u 95, u 96, u 97, u 98, u 99, u 100, u 101, u 102, u 103, u 104, u 105, u 106, u 107, u 108, u 109, u 110, u 111, u 112, u 113, u 114, u 115, u 116, u 117, u 118, u 119, u 120, u 121, u 122, u 123, u 124, u 125, u 126, u 127, u 128, u 129, u 130, u 131, u 132, u 133, u 134, u 135, u 136, u 137, u 138, u 139, u 140, u 141, u 142, u 143, u 144, u 145, u 146, u 147, u 148, u 149, u 150, u 151, u 152, u 153, u 154, u 155, u 156, u 157, u 158, u 159, u 160, u 161, u 162, u 163, u 164, u 165, u 166, u 167, u 168, u 169, u 170, u 171, u 172, u 173, u 174, u 175, u 176, u 177, u 178, u 179, u 180, u 181, u 182, u 183, u 184])
        (fun y => [.box y.1 [str m, str p, str q, .int .i64 v, .slice A F.length cp, .slice C bn bc] 28, .box y.2 [str m, str p, str q, .int .i64 v, .slice A F.length cp, .slice C bn bc] 28, .box p3 [str n, str x] 39, .box p2 [str m, str p, str q, .int .i64 v, .slice A F.length cp, .slice C bn bc] 28])
        [] (.q 0 (.ch 1 (.ch 2 (.a 3 (.a 4 (.a 5 (.nil)))) (.ch 3 (.a 2 (.a 4 (.a 5 (.nil)))) (.stop))) (.ch 2 (.ch 1 (.a 3 (.a 4 (.a 5 (.nil)))) (.ch 3 (.ch 1 (.a 4 (.a 5 (.nil))) (.ch 4 (.q 1 (.a 5 (.nil))) (.stop))) (.stop))) (.ch 3 (.ch 1 (.a 2 (.a 4 (.a 5 (.nil)))) (.ch 2 (.ch 1 (.a 4 (.a 5 (.nil))) (.ch 4 (.q 1 (.a 5 (.nil))) (.stop))) (.stop))) (.stop))))) tys_ok mixed (by kernel_rfl) ?_ ?_
      · (repeat' ((conv => whnf); first | (first | refine tk1 ?_ | refine tk2 ?_ | refine tk3 ?_ | refine tk12 (fun _ => ?_) | refine tk4 ?_ | refine tk5 ?_ | refine tk6 ?_ | refine tk7 ?_ | refine tk8 ?_ | refine tk9 ?_ | refine tk10 (fun _ _ => ?_) | refine tk11 (fun _ => ?_)) | refine And.intro ?_ ?_ | exact trivial | exact ⟨(_, _), rfl, (by repeat' (first | exact Cov.nil | refine Cov.cons (by first | exact Pick.here | exact Pick.here.skip | exact Pick.here.skip.skip | exact Pick.here.skip.skip.skip | exact Pick.here.skip.skip.skip.skip | exact Pick.here.skip.skip.skip.skip.skip | exact Pick.here.skip.skip.skip.skip.skip.skip) ?_))⟩ | fail))
      rintro ⟨b13, b14⟩ u
      dsimp only
      (conv => whnf); repeat ((first | refine tk1 ?_ | refine tk2 ?_ | refine tk3 ?_ | refine tk12 (fun _ => ?_) | refine tk4 ?_ | refine tk5 ?_ | refine tk6 ?_ | refine tk7 ?_ | refine tk8 ?_ | refine tk9 ?_ | refine tk10 (fun _ _ => ?_) | refine tk11 (fun _ => ?_)); (conv => whnf))
      refine AppS.tc (m := F.length) (news := fcells F) SrcK.tc (by rw [fcells_length]; omega) (fcells_one F) (by decide) (by omega) (by omega) (zs := fcells ((n, x) :: F)) rfl (fun B1 c1 => ?_)
      rw [show 1 + F.length = ((n, x) :: F).length by simp; omega]
      (conv => whnf); repeat ((first | refine tk1 ?_ | refine tk2 ?_ | refine tk3 ?_ | refine tk12 (fun _ => ?_) | refine tk4 ?_ | refine tk5 ?_ | refine tk6 ?_ | refine tk7 ?_ | refine tk8 ?_ | refine tk9 ?_ | refine tk10 (fun _ _ => ?_) | refine tk11 (fun _ => ?_)); (conv => whnf))
      refine DrawS.join (fun (y : Option Addr × Nat) u => [u 0, u 1, u 2, u 3, u 4, .bool true, .int .u8 1, .int .i64 N, .int .i64 200, u 9, u 10, u 11, u 12, .pointer (some ⟨b13, 0, none⟩), .pointer (some ⟨b14, 0, none⟩), u 15, u 16, u 17, u 18, u 19, u 20, u 21, u 22, u 23, u 24, u 25, u 26, u 27, u 28, u 29, u 30, u 31, u 32, u 33, u 34, u 35, u 36, u 37, u 38, u 39, u 40, u 41, u 42, u 43, u 44, u 45, u 46, u 47, u 48, u 49, u 50, u 51, u 52, u 53, u 54, u 55, u 56, u 57, u 58, u 59, u 60, u 61, u 62, u 63, u 64, u 65, u 66, u 67, u 68, u 69, u 70, u 71, u 72, u 73, u 74, u 75, u 76, u 77, u 78, u 79, u 80, u 81, u 82, u 83, u 84, u 85, u 86, u 87, u 88, u 89, u 90, u 91, u 92, u 93, u 94, u 95, u 96, u 97, u 98, u 99, u 100, u 101, u 102, u 103, u 104, u 105, u 106, u 107, u 108, u 109, u 110, u 111, u 112, u 113, u 114, u 115, u 116, u 117, u 118, u 119, u 120, u 121, u 122, u 123, u 124, u 125, u 126, u 127, u 128, u 129, u 130, u 131, u 132, u 133, u 134, u 135, u 136, u 137, u 138, u 139, u 140, u 141, u 142, u 143, u 144, u 145, u 146, u 147, u 148, u 149, u 150, u 151, u 152, u 153, u 154, u 155, u 156, u 157, u 158, u 159, u 160, u 161, u 162, u 163, u 164, u 165, u 166, u 167, u 168, u 169, u 170, u 171, u 172, u 173, u 174, u 175, u 176, u 177, u 178, u 179, u 180, u 181, u 182, u 183, u 184])
        (fun y => [.box b13 [str m, str p, str q, .int .i64 v, .slice B1 ((n, x) :: F).length c1, .slice C bn bc] 28, .box b14 [str m, str p, str q, .int .i64 v, .slice y.1 (F ++ [(n, x)]).length y.2, .slice C bn bc] 28, .row (.slice B1 ((n, x) :: F).length c1) 39 2 ((n, x) :: F).length (fcells ((n, x) :: F)), .row (.slice y.1 (F ++ [(n, x)]).length y.2) 39 2 (F ++ [(n, x)]).length (fcells (F ++ [(n, x)]))])
        [] (.q 0 (.q 1 (.ch 2 (.q 3 (.a 4 (.a 5 (.q 6 (.a 7 (.nil)))))) (.ch 3 (.ch 2 (.a 4 (.a 5 (.q 6 (.a 7 (.nil))))) (.ch 4 (.a 2 (.a 5 (.q 6 (.a 7 (.nil))))) (.stop))) (.stop))))) tys_ok mixed (by kernel_rfl) ?_ ?_
      · (repeat' ((conv => whnf); first | (first | refine tk1 ?_ | refine tk2 ?_ | refine tk3 ?_ | refine tk12 (fun _ => ?_) | refine tk4 ?_ | refine tk5 ?_ | refine tk6 ?_ | refine tk7 ?_ | refine tk8 ?_ | refine tk9 ?_ | refine tk10 (fun _ _ => ?_) | refine tk11 (fun _ => ?_)) | refine And.intro ?_ ?_ | exact trivial | exact ⟨(_, _), rfl, (by repeat' (first | exact Cov.nil | refine Cov.cons (by first | exact Pick.here | exact Pick.here.skip | exact Pick.here.skip.skip | exact Pick.here.skip.skip.skip | exact Pick.here.skip.skip.skip.skip | exact Pick.here.skip.skip.skip.skip.skip | exact Pick.here.skip.skip.skip.skip.skip.skip) ?_))⟩ | (refine AppS.t0 (m := F.length) (news := fcells F) SrcK.tc (by rw [fcells_length]; omega) (fcells_one F) (by decide) (by omega) (by omega) (fun B2 c2 => ?_)) | (refine AppS.tc (m := 1) (news := [str n, str x]) SrcK.tc rfl (by simp [Value.oneCell']) (by decide) (by omega) (by omega) (zs := fcells (F ++ [(n, x)])) (by rw [fcells_app]; rfl) (fun B3 c3 => ?_); rw [show F.length + 1 = (F ++ [(n, x)]).length by simp])))
      rintro ⟨B3, c3⟩ u
      dsimp only
      (conv => whnf); repeat ((first | refine tk1 ?_ | refine tk2 ?_ | refine tk3 ?_ | refine tk12 (fun _ => ?_) | refine tk4 ?_ | refine tk5 ?_ | refine tk6 ?_ | refine tk7 ?_ | refine tk8 ?_ | refine tk9 ?_ | refine tk10 (fun _ _ => ?_) | refine tk11 (fun _ => ?_)); (conv => whnf))
      refine CallK.fnR (Of_s m p q v B1 c1 ((n, x) :: F) (.slice C bn bc) zc hv hcs) ⟨RdA.ok, trivial⟩ ?_
      (conv => whnf); repeat ((first | refine tk1 ?_ | refine tk2 ?_ | refine tk3 ?_ | refine tk12 (fun _ => ?_) | refine tk4 ?_ | refine tk5 ?_ | refine tk6 ?_ | refine tk7 ?_ | refine tk8 ?_ | refine tk9 ?_ | refine tk10 (fun _ _ => ?_) | refine tk11 (fun _ => ?_)); (conv => whnf))
      refine CallK.fnR (Of_s m p q v B3 c3 (F ++ [(n, x)]) (.slice C bn bc) zs hv hsn) ⟨RdA.ok, trivial⟩ ?_
      (conv => whnf); repeat ((first | refine tk1 ?_ | refine tk2 ?_ | refine tk3 ?_ | refine tk12 (fun _ => ?_) | refine tk4 ?_ | refine tk5 ?_ | refine tk6 ?_ | refine tk7 ?_ | refine tk8 ?_ | refine tk9 ?_ | refine tk10 (fun _ _ => ?_) | refine tk11 (fun _ => ?_)); (conv => whnf))
      exact fun w' _ => rfl
end Go.Proofs.YtggokigjnaiokaaDoor.Vex
/- The law SizeLengths, reckoned. -/
namespace Go.Proofs.YtggokigjnaiokaaDoor
open Go.Lib (decDigits)

theorem dec_digit (n : Nat) (h : n < 10) : digB (UInt8.ofNat (48 + n)) = true ∧ (UInt8.ofNat (48 + n)).toNat = 48 + n := by
  have h1 : (UInt8.ofNat (48 + n)).toNat = 48 + n := UInt8.toNat_ofNat_of_lt' (by show 48 + n < 256; omega)
  refine ⟨?_, h1⟩
  unfold digB
  rw [h1]
  simp
  omega
theorem dec_step (n : Nat) : decDigits n = (if n / 10 = 0 then [] else decDigits (n / 10)) ++ [UInt8.ofNat (48 + n % 10)] := by
  rw [decDigits]
  by_cases h : n < 10
  · rw [dif_pos h, if_pos (by omega), Nat.mod_eq_of_lt h]; rfl
  · rw [dif_neg h, if_neg (by omega)]
theorem dec_facts : ∀ (k n : Nat), n < 10 ^ (k + 1) → numF 0 (decDigits n) = n ∧ (decDigits n).all digB = true ∧ 1 ≤ (decDigits n).length ∧ (decDigits n).length ≤ k + 1 := by
  intro k
  induction k with
  | zero =>
    intro n h
    have h : n < 10 := by simpa using h
    rw [decDigits, dif_pos h]
    obtain ⟨h1, h2⟩ := dec_digit n h
    generalize UInt8.ofNat (48 + n) = d at *
    refine ⟨?_, by simp [h1], by simp, by simp⟩
    simp [numF, numStep, h2]
  | succ k ih =>
    intro n h
    by_cases h9 : n < 10
    · rw [decDigits, dif_pos h9]
      obtain ⟨h1, h2⟩ := dec_digit n h9
      generalize UInt8.ofNat (48 + n) = d at *
      refine ⟨?_, by simp [h1], by simp, by simp⟩
      simp [numF, numStep, h2]
    · have h8 : n / 10 < 10 ^ (k + 1) := by
        rw [Nat.div_lt_iff_lt_mul (by omega)]
        rw [Nat.pow_succ] at h
        exact h
      obtain ⟨i1, i2, i3, i4⟩ := ih (n / 10) h8
      obtain ⟨h1, h2⟩ := dec_digit (n % 10) (Nat.mod_lt _ (by omega))
      rw [decDigits, dif_neg h9]
      generalize UInt8.ofNat (48 + n % 10) = d at *
      refine ⟨?_, ?_, by rw [List.length_append]; omega, by rw [List.length_append]; simp; omega⟩
      · unfold numF at i1 ⊢
        rw [List.foldl_append, i1]
        simp only [List.foldl_cons, List.foldl_nil, numStep, h2]
        omega
      · rw [List.all_append, i2]
        simp [h1]
theorem dec_num {n : Nat} (h : n ≤ 999999999) : numOK (decDigits n) = true ∧ numN (decDigits n) = n := by
  obtain ⟨h1, h2, h3, h4⟩ := dec_facts 8 n (by omega)
  have hok : numOK (decDigits n) = true := by
    unfold numOK
    rw [h2, decide_eq_true h3, decide_eq_true h4]
    rfl
  refine ⟨hok, ?_⟩
  unfold numN
  rw [if_pos hok]
  unfold numV
  rw [h1]
theorem splitB_no (c : UInt8) : ∀ l : List UInt8, c ∉ l → splitB c l = [l]
  | [], _ => rfl
  | x :: r, h => by
    have h1 : ¬ x = c := fun e => h (by rw [e]; simp)
    have h2 := splitB_no c r (fun e => h (by simp [e]))
    unfold splitB
    rw [if_neg h1, h2]
theorem splitB_at2 (c : UInt8) : ∀ (a b : List UInt8), c ∉ a → splitB c (a ++ [c] ++ b) = a :: splitB c b
  | [], b, _ => by simp [splitB]
  | x :: r, b, h => by
    have h1 : ¬ x = c := fun e => h (by rw [e]; simp)
    have h2 := splitB_at2 c r b (fun e => h (by simp [e]))
    show splitB c (x :: (r ++ [c] ++ b)) = _
    rw [splitB, if_neg h1, h2]
theorem dig_plain {l : List UInt8} (h : l.all digB = true) : (44 : UInt8) ∉ l ∧ ∀ x ∈ l, ([32, 9] : List UInt8).contains x = false := by
  rw [List.all_eq_true] at h
  refine ⟨fun h1 => absurd (h _ h1) (by decide), fun x hx => ?_⟩
  have h2 := h x hx
  have : ∀ n : Fin 256, digB (UInt8.ofNat n.val) = true → ([32, 9] : List UInt8).contains (UInt8.ofNat n.val) = false := by decide +kernel
  have h3 := this ⟨x.toNat, x.toNat_lt⟩
  simp only [UInt8.ofNat_toNat] at h3
  exact h3 h2
theorem dropWhile_no (p : UInt8 → Bool) : ∀ l : List UInt8, (∀ x ∈ l, p x = false) → l.dropWhile p = l
  | [], _ => rfl
  | a :: r, h => by rw [List.dropWhile_cons, if_neg (by rw [h a (by simp)]; simp)]
theorem trimB_plain (l : List UInt8) (h : ∀ x ∈ l, ([32, 9] : List UInt8).contains x = false) : trimB l = l := by
  unfold trimB Lib.trimS Lib.trimLeftS Lib.trimRightS
  rw [dropWhile_no _ l.reverse (fun x hx => h x (List.mem_reverse.1 hx)), List.reverse_reverse, dropWhile_no _ l h]
theorem items_dig {a : List UInt8} (h : a.all digB = true) (h0 : 1 ≤ a.length) : itemsOf a = [a] := by
  obtain ⟨h1, h2⟩ := dig_plain h
  unfold itemsOf
  rw [splitB_no 44 a h1, List.map_cons, List.map_nil, trimB_plain a h2, List.filter_cons, if_pos]
  · rfl
  · cases a with
    | nil => simp at h0
    | cons => rfl
theorem items_two {a b : List UInt8} (h : a.all digB = true) (h0 : 1 ≤ a.length) (k : b.all digB = true) (k0 : 1 ≤ b.length) : itemsOf (a ++ [44] ++ b) = [a, b] := by
  obtain ⟨h1, h2⟩ := dig_plain h
  obtain ⟨k1, k2⟩ := dig_plain k
  unfold itemsOf
  have e1 : (!a.isEmpty) = true := by cases a with | nil => simp at h0 | cons => rfl
  have e2 : (!b.isEmpty) = true := by cases b with | nil => simp at k0 | cons => rfl
  rw [splitB_at2 44 a b h1, splitB_no 44 b k1, List.map_cons, List.map_cons, List.map_nil, trimB_plain a h2, trimB_plain b k2, List.filter_cons, if_pos e1, List.filter_cons, if_pos e2]
  rfl
theorem size_one (s : List UInt8) : sizeOf [(hostN, [104]), (lenN, s)] 1 = lenGo none (itemsOf s) := by
  have : sizeOf [(hostN, [104]), (lenN, s)] 1 = lenGo none (itemsOf s ++ []) := by kernel_rfl
  rw [this, List.append_nil]
theorem size_two (s t : List UInt8) : sizeOf [(hostN, [104]), (lenN, s), (lenN, t)] 1 = lenGo none (itemsOf s ++ itemsOf t) := by
  have : sizeOf [(hostN, [104]), (lenN, s), (lenN, t)] 1 = lenGo none (itemsOf s ++ (itemsOf t ++ [])) := by kernel_rfl
  rw [this, List.append_nil]
end Go.Proofs.YtggokigjnaiokaaDoor
namespace Go.Proofs.YtggokigjnaiokaaDoor.Vex
open Go Go.RowKit
open Go.Lib (decDigits)
set_option maxRecDepth 100000
set_option linter.unusedSectionVars false
variable {gI : GI} [HasMax gI]

theorem DivS.rem10 {x : Nat} {K : Value → Prop} (k : K (.int .i64 ((x % 10 : Nat) : Int))) : DivS .rem .i64 (x : Nat) 10 K := ⟨by decide, .inr ⟨rfl, _, (Int.ofNat_tmod x 10), k⟩⟩
theorem DivS.quo10 {x : Nat} {K : Value → Prop} (h : x ≤ 9223372036854775807) (k : K (.int .i64 ((x / 10 : Nat) : Int))) : DivS .quo .i64 (x : Nat) 10 K := ⟨by decide, .inl ⟨rfl, _, by
  have e : ((x : Int).tdiv 10) = ((x / 10 : Nat) : Int) := (Int.ofNat_tdiv x 10).symm
  rw [e, IntKind.wrap]
  simp [IntKind.bits, IntKind.signed]
  omega, k⟩⟩
theorem digits_f (n : Nat) (hn : n ≤ 1000000000000) : Fn Tryd.prog gI 24 [.int .i64 (n : Nat)] (str (decDigits n)) := by
  refine Fn.of tys_ok Tryd.func24 rfl (by kernel_rfl) rfl rfl ?_; intro w hG
  (conv => whnf); repeat ((first | refine tk1 ?_ | refine tk2 ?_ | refine tk3 ?_ | refine tk12 (fun _ => ?_) | refine tk4 ?_ | refine tk5 ?_ | refine tk6 ?_ | refine tk7 ?_ | refine tk8 ?_ | refine tk9 ?_ | refine tk10 (fun _ _ => ?_) | refine tk11 (fun _ => ?_)); (conv => whnf))
  refine LoopS.lp tys_ok (fun (x : Nat × List UInt8) u => [.int .i64 (x.1 : Nat), u 1, u 2, str x.2, u 4, u 5, u 6, u 7, u 8, u 9, u 10, u 11, u 12, u 13, u 14, u 15, u 16, u 17, u 18, u 19, u 20]) (fun _ => [])
    (fun x => x.1 ≤ n ∧ x.2.length ≤ n + 1 - x.1 ∧ ((x.2 = [] ∧ x.1 = n) ∨ (x.2 ≠ [] ∧ (if x.1 = 0 then [] else decDigits x.1) ++ x.2 = decDigits n))) (fun x => x.1 + (if x.2 = [] then 1 else 0)) (n, []) ⟨Nat.le_refl _, by simp, .inl ⟨rfl, rfl⟩⟩ rfl (by repeat' (first | exact List.Sublist.refl _ | exact List.nil_sublist _ | apply List.Sublist.cons_cons | apply List.Sublist.cons)) ?_
  rintro ⟨m, s⟩ u ⟨hm, hl, hI⟩
  dsimp only at hm hl hI ⊢
  have next : ∀ d : UInt8, d = UInt8.ofNat (48 + m % 10) → (s = [] ∨ 0 < m) → (if m / 10 = 0 then [] else decDigits (m / 10)) ++ (d :: s) = decDigits n := by
    intro d hd h
    have hs := dec_step m
    rw [← hd] at hs
    rcases hI with ⟨h1, h2⟩ | ⟨h1, h2⟩
    · rw [h1, ← h2, hs]
    · rw [if_neg (show ¬ m = 0 by rcases h with h | h; exact absurd h h1; omega), hs, List.append_assoc] at h2
      exact h2
  obtain ⟨d, hd⟩ : ∃ d, d = UInt8.ofNat (48 + m % 10) := ⟨_, rfl⟩
  have hdv : [Value.int .u8 (48 + ((m % 10 : Nat) : Int))] = [d].map byteV := by
    have h2 := (dec_digit (m % 10) (Nat.mod_lt _ (by omega))).2
    rw [← hd] at h2
    show _ = [Value.int .u8 d.toNat]
    rw [h2]
    rfl
  have nx := next d hd
  (conv => whnf); repeat ((first | refine tk1 ?_ | refine tk2 ?_ | refine tk3 ?_ | refine tk12 (fun _ => ?_) | refine tk4 ?_ | refine tk5 ?_ | refine tk6 ?_ | refine tk7 ?_ | refine tk8 ?_ | refine tk9 ?_ | refine tk10 (fun _ _ => ?_) | refine tk11 (fun _ => ?_)); (conv => whnf))
  refine Cmp.cases (fun q1 => ?_) (fun q1 => ?_)
  · have q1 : s = [] := q1
    have q0 : s.length = 0 := by rw [q1]; rfl
    (conv => whnf); repeat ((first | refine tk1 ?_ | refine tk2 ?_ | refine tk3 ?_ | refine tk12 (fun _ => ?_) | refine tk4 ?_ | refine tk5 ?_ | refine tk6 ?_ | refine tk7 ?_ | refine tk8 ?_ | refine tk9 ?_ | refine tk10 (fun _ _ => ?_) | refine tk11 (fun _ => ?_)); (conv => whnf))
    refine DivS.rem10 ?_
    (conv => whnf); repeat ((first | refine tk1 ?_ | refine tk2 ?_ | refine tk3 ?_ | refine tk12 (fun _ => ?_) | refine tk4 ?_ | refine tk5 ?_ | refine tk6 ?_ | refine tk7 ?_ | refine tk8 ?_ | refine tk9 ?_ | refine tk10 (fun _ _ => ?_) | refine tk11 (fun _ => ?_)); (conv => whnf))
    refine Ar.in8 (by omega) (by omega) ?_
    (conv => whnf); repeat ((first | refine tk1 ?_ | refine tk2 ?_ | refine tk3 ?_ | refine tk12 (fun _ => ?_) | refine tk4 ?_ | refine tk5 ?_ | refine tk6 ?_ | refine tk7 ?_ | refine tk8 ?_ | refine tk9 ?_ | refine tk10 (fun _ _ => ?_) | refine tk11 (fun _ => ?_)); (conv => whnf))
    refine B2S.tc (l := [d]) hdv rfl ?_
    (conv => whnf); repeat ((first | refine tk1 ?_ | refine tk2 ?_ | refine tk3 ?_ | refine tk12 (fun _ => ?_) | refine tk4 ?_ | refine tk5 ?_ | refine tk6 ?_ | refine tk7 ?_ | refine tk8 ?_ | refine tk9 ?_ | refine tk10 (fun _ _ => ?_) | refine tk11 (fun _ => ?_)); (conv => whnf))
    refine CatS.at (by simp; omega) ?_
    (conv => whnf); repeat ((first | refine tk1 ?_ | refine tk2 ?_ | refine tk3 ?_ | refine tk12 (fun _ => ?_) | refine tk4 ?_ | refine tk5 ?_ | refine tk6 ?_ | refine tk7 ?_ | refine tk8 ?_ | refine tk9 ?_ | refine tk10 (fun _ _ => ?_) | refine tk11 (fun _ => ?_)); (conv => whnf))
    refine DivS.quo10 (by omega) ?_
    (conv => whnf); repeat ((first | refine tk1 ?_ | refine tk2 ?_ | refine tk3 ?_ | refine tk12 (fun _ => ?_) | refine tk4 ?_ | refine tk5 ?_ | refine tk6 ?_ | refine tk7 ?_ | refine tk8 ?_ | refine tk9 ?_ | refine tk10 (fun _ _ => ?_) | refine tk11 (fun _ => ?_)); (conv => whnf))
    exact ⟨(m / 10, d :: s), ⟨by dsimp only; omega, by dsimp only; rw [List.length_cons]; omega, .inr ⟨by simp, nx (.inl q1)⟩⟩, rfl, (by repeat' (first | exact List.Sublist.refl _ | exact List.nil_sublist _ | apply List.Sublist.cons_cons | apply List.Sublist.cons)), by dsimp only; simp [q1]; omega⟩
  · (conv => whnf); repeat ((first | refine tk1 ?_ | refine tk2 ?_ | refine tk3 ?_ | refine tk12 (fun _ => ?_) | refine tk4 ?_ | refine tk5 ?_ | refine tk6 ?_ | refine tk7 ?_ | refine tk8 ?_ | refine tk9 ?_ | refine tk10 (fun _ _ => ?_) | refine tk11 (fun _ => ?_)); (conv => whnf))
    refine Cmp.cases (fun q2 => ?_) (fun q2 => ?_)
    · have q1 : ¬ s = [] := q1
      (conv => whnf); repeat ((first | refine tk1 ?_ | refine tk2 ?_ | refine tk3 ?_ | refine tk12 (fun _ => ?_) | refine tk4 ?_ | refine tk5 ?_ | refine tk6 ?_ | refine tk7 ?_ | refine tk8 ?_ | refine tk9 ?_ | refine tk10 (fun _ _ => ?_) | refine tk11 (fun _ => ?_)); (conv => whnf))
      refine DivS.rem10 ?_
      (conv => whnf); repeat ((first | refine tk1 ?_ | refine tk2 ?_ | refine tk3 ?_ | refine tk12 (fun _ => ?_) | refine tk4 ?_ | refine tk5 ?_ | refine tk6 ?_ | refine tk7 ?_ | refine tk8 ?_ | refine tk9 ?_ | refine tk10 (fun _ _ => ?_) | refine tk11 (fun _ => ?_)); (conv => whnf))
      refine Ar.in8 (by omega) (by omega) ?_
      (conv => whnf); repeat ((first | refine tk1 ?_ | refine tk2 ?_ | refine tk3 ?_ | refine tk12 (fun _ => ?_) | refine tk4 ?_ | refine tk5 ?_ | refine tk6 ?_ | refine tk7 ?_ | refine tk8 ?_ | refine tk9 ?_ | refine tk10 (fun _ _ => ?_) | refine tk11 (fun _ => ?_)); (conv => whnf))
      refine B2S.tc (l := [d]) hdv rfl ?_
      (conv => whnf); repeat ((first | refine tk1 ?_ | refine tk2 ?_ | refine tk3 ?_ | refine tk12 (fun _ => ?_) | refine tk4 ?_ | refine tk5 ?_ | refine tk6 ?_ | refine tk7 ?_ | refine tk8 ?_ | refine tk9 ?_ | refine tk10 (fun _ _ => ?_) | refine tk11 (fun _ => ?_)); (conv => whnf))
      refine CatS.at (by simp; omega) ?_
      (conv => whnf); repeat ((first | refine tk1 ?_ | refine tk2 ?_ | refine tk3 ?_ | refine tk12 (fun _ => ?_) | refine tk4 ?_ | refine tk5 ?_ | refine tk6 ?_ | refine tk7 ?_ | refine tk8 ?_ | refine tk9 ?_ | refine tk10 (fun _ _ => ?_) | refine tk11 (fun _ => ?_)); (conv => whnf))
      refine DivS.quo10 (by omega) ?_
      (conv => whnf); repeat ((first | refine tk1 ?_ | refine tk2 ?_ | refine tk3 ?_ | refine tk12 (fun _ => ?_) | refine tk4 ?_ | refine tk5 ?_ | refine tk6 ?_ | refine tk7 ?_ | refine tk8 ?_ | refine tk9 ?_ | refine tk10 (fun _ _ => ?_) | refine tk11 (fun _ => ?_)); (conv => whnf))
      exact ⟨(m / 10, d :: s), ⟨by dsimp only; omega, by dsimp only; rw [List.length_cons]; omega, .inr ⟨by simp, nx (.inr (by omega))⟩⟩, rfl, (by repeat' (first | exact List.Sublist.refl _ | exact List.nil_sublist _ | apply List.Sublist.cons_cons | apply List.Sublist.cons)), by dsimp only; simp [q1]; omega⟩
    · obtain rfl : m = 0 := by omega
      rcases hI with ⟨h1, h2⟩ | ⟨h1, h2⟩
      · exact absurd h1 q1
      · simp only [if_true, List.nil_append] at h2
        (conv => whnf); repeat ((first | refine tk1 ?_ | refine tk2 ?_ | refine tk3 ?_ | refine tk12 (fun _ => ?_) | refine tk4 ?_ | refine tk5 ?_ | refine tk6 ?_ | refine tk7 ?_ | refine tk8 ?_ | refine tk9 ?_ | refine tk10 (fun _ _ => ?_) | refine tk11 (fun _ => ?_)); (conv => whnf))
        rw [h2]
end Go.Proofs.YtggokigjnaiokaaDoor.Vex
/- The law SizeLengths, reckoned, second part. -/
namespace Go.Proofs.YtggokigjnaiokaaDoor.Vex
open Go Go.RowKit
open Go.Lib (decDigits)
set_option maxRecDepth 100000
set_option linter.unusedSectionVars false
variable {gI : GI} [HasMax gI]

theorem is_yes (k n st : Int) (A : Option Addr) (cp : Nat) (l : List Fld) (b : Bool) (hl : fsum l ≤ 1000000) (h : decide (sizeOf ((hostN, [104]) :: l) 1 = (k, n, st)) = b) :
    FnR Tryd.prog gI 26 [.int .u8 k, .int .i64 n, .int .i64 st, .slice A l.length cp] [(A, fcells l)] (.bool b) := (is_f k n st A cp l hl).toV (by rw [h])
theorem len_one {a : List UInt8} {n : Int} (h : numOK a = true) (hn : numN a = n) : lenGo none [a] = (1, n, 200) := by
  rw [lenGo_cons, if_pos ⟨h, .inl rfl⟩, hn]; rfl
theorem len_two {a b : List UInt8} {n m : Int} (h : numOK a = true) (hn : numN a = n) (h2 : numOK b = true) (hm : numN b = m) : lenGo none [a, b] = if n = m then (1, m, 200) else (0, 0, 400) := by
  rw [lenGo_cons, if_pos ⟨h, .inl rfl⟩, hn, lenGo_cons]
  by_cases e : n = m
  · rw [if_pos e, if_pos ⟨h2, .inr (by rw [hm, e])⟩, hm]; rfl
  · rw [if_neg e, if_neg]
    rintro ⟨_, h9 | h9⟩
    · cases h9
    · rw [hm] at h9
      exact e (Option.some.inj h9)
theorem SizeLengths_v (n m : Int) (h0 : -9223372036854775808 ≤ n ∧ n ≤ 9223372036854775807) (h1 : -9223372036854775808 ≤ m ∧ m ≤ 9223372036854775807) : Fn Tryd.prog gI 7 [.int .i64 n, .int .i64 m] (.bool true) := by
  refine Fn.of tys_ok Tryd.func7 rfl (by kernel_rfl) rfl rfl ?_; intro w hG
  (conv => whnf); repeat ((first | refine tk1 ?_ | refine tk2 ?_ | refine tk3 ?_ | refine tk12 (fun _ => ?_) | refine tk4 ?_ | refine tk5 ?_ | refine tk6 ?_ | refine tk7 ?_ | refine tk8 ?_ | refine tk9 ?_ | refine tk10 (fun _ _ => ?_) | refine tk11 (fun _ => ?_)); (conv => whnf))
  refine CallK.fn alive21_f ?_
  (conv => whnf); repeat ((first | refine tk1 ?_ | refine tk2 ?_ | refine tk3 ?_ | refine tk12 (fun _ => ?_) | refine tk4 ?_ | refine tk5 ?_ | refine tk6 ?_ | refine tk7 ?_ | refine tk8 ?_ | refine tk9 ?_ | refine tk10 (fun _ _ => ?_) | refine tk11 (fun _ => ?_)); (conv => whnf))
  refine Cmp.cases (fun q1 => ?_) (fun q1 => ?_)
  · (conv => whnf); repeat ((first | refine tk1 ?_ | refine tk2 ?_ | refine tk3 ?_ | refine tk12 (fun _ => ?_) | refine tk4 ?_ | refine tk5 ?_ | refine tk6 ?_ | refine tk7 ?_ | refine tk8 ?_ | refine tk9 ?_ | refine tk10 (fun _ _ => ?_) | refine tk11 (fun _ => ?_)); (conv => whnf))
  (conv => whnf); repeat ((first | refine tk1 ?_ | refine tk2 ?_ | refine tk3 ?_ | refine tk12 (fun _ => ?_) | refine tk4 ?_ | refine tk5 ?_ | refine tk6 ?_ | refine tk7 ?_ | refine tk8 ?_ | refine tk9 ?_ | refine tk10 (fun _ _ => ?_) | refine tk11 (fun _ => ?_)); (conv => whnf))
  refine Cmp.cases (fun q2 => ?_) (fun q2 => ?_)
  · (conv => whnf); repeat ((first | refine tk1 ?_ | refine tk2 ?_ | refine tk3 ?_ | refine tk12 (fun _ => ?_) | refine tk4 ?_ | refine tk5 ?_ | refine tk6 ?_ | refine tk7 ?_ | refine tk8 ?_ | refine tk9 ?_ | refine tk10 (fun _ _ => ?_) | refine tk11 (fun _ => ?_)); (conv => whnf))
  (conv => whnf); repeat ((first | refine tk1 ?_ | refine tk2 ?_ | refine tk3 ?_ | refine tk12 (fun _ => ?_) | refine tk4 ?_ | refine tk5 ?_ | refine tk6 ?_ | refine tk7 ?_ | refine tk8 ?_ | refine tk9 ?_ | refine tk10 (fun _ _ => ?_) | refine tk11 (fun _ => ?_)); (conv => whnf))
  refine Cmp.cases (fun q3 => ?_) (fun q3 => ?_)
  · (conv => whnf); repeat ((first | refine tk1 ?_ | refine tk2 ?_ | refine tk3 ?_ | refine tk12 (fun _ => ?_) | refine tk4 ?_ | refine tk5 ?_ | refine tk6 ?_ | refine tk7 ?_ | refine tk8 ?_ | refine tk9 ?_ | refine tk10 (fun _ _ => ?_) | refine tk11 (fun _ => ?_)); (conv => whnf))
  (conv => whnf); repeat ((first | refine tk1 ?_ | refine tk2 ?_ | refine tk3 ?_ | refine tk12 (fun _ => ?_) | refine tk4 ?_ | refine tk5 ?_ | refine tk6 ?_ | refine tk7 ?_ | refine tk8 ?_ | refine tk9 ?_ | refine tk10 (fun _ _ => ?_) | refine tk11 (fun _ => ?_)); (conv => whnf))
  refine Cmp.cases (fun q4 => ?_) (fun q4 => ?_)
  · (conv => whnf); repeat ((first | refine tk1 ?_ | refine tk2 ?_ | refine tk3 ?_ | refine tk12 (fun _ => ?_) | refine tk4 ?_ | refine tk5 ?_ | refine tk6 ?_ | refine tk7 ?_ | refine tk8 ?_ | refine tk9 ?_ | refine tk10 (fun _ _ => ?_) | refine tk11 (fun _ => ?_)); (conv => whnf))
  obtain ⟨n, rfl⟩ := Int.eq_ofNat_of_zero_le (show 0 ≤ n by omega)
  obtain ⟨m, rfl⟩ := Int.eq_ofNat_of_zero_le (show 0 ≤ m by omega)
  obtain ⟨a, ha⟩ : ∃ a, decDigits n = a := ⟨_, rfl⟩
  obtain ⟨b, hb⟩ : ∃ b, decDigits m = b := ⟨_, rfl⟩
  obtain ⟨na, va⟩ := dec_num (n := n) (by omega)
  obtain ⟨nb, vb⟩ := dec_num (n := m) (by omega)
  obtain ⟨_, da, la, ka⟩ := dec_facts 8 n (by omega)
  obtain ⟨_, db, lb, kb⟩ := dec_facts 8 m (by omega)
  rw [ha] at na va da la ka
  rw [hb] at nb vb db lb kb
  have ia := items_dig da la
  have ib := items_dig db lb
  have iaa := items_two da la da la
  have iab := items_two da la db lb
  have f1 : fsum [(lenN, a)] ≤ 1000000 := by simp [fsum, lenN]; omega
  have f2 : fsum [(lenN, a), (lenN, a)] ≤ 1000000 := by simp [fsum, lenN]; omega
  have f3 : fsum [(lenN, a ++ [44] ++ a)] ≤ 1000000 := by simp [fsum, lenN]; omega
  have f4 : fsum [(lenN, a), (lenN, b)] ≤ 1000000 := by simp [fsum, lenN]; omega
  have f5 : fsum [(lenN, a ++ [44] ++ b)] ≤ 1000000 := by simp [fsum, lenN]; omega
  have s1 : decide (sizeOf [(hostN, [104]), (lenN, a)] 1 = (1, (n : Int), 200)) = true := decide_eq_true (by rw [size_one, ia, len_one na va])
  have s2 : decide (sizeOf [(hostN, [104]), (lenN, a), (lenN, a)] 1 = (1, (n : Int), 200)) = true := decide_eq_true (by rw [size_two, ia]; show lenGo none [a, a] = _; rw [len_two na va na va, if_pos rfl])
  have s3 : decide (sizeOf [(hostN, [104]), (lenN, a ++ [44] ++ a)] 1 = (1, (n : Int), 200)) = true := decide_eq_true (by rw [size_one, iaa, len_two na va na va, if_pos rfl])
  (conv => whnf); repeat ((first | refine tk1 ?_ | refine tk2 ?_ | refine tk3 ?_ | refine tk12 (fun _ => ?_) | refine tk4 ?_ | refine tk5 ?_ | refine tk6 ?_ | refine tk7 ?_ | refine tk8 ?_ | refine tk9 ?_ | refine tk10 (fun _ _ => ?_) | refine tk11 (fun _ => ?_)); (conv => whnf))
  refine CallK.fn (digits_f n (by omega)) ?_
  rw [ha]
  (conv => whnf); repeat ((first | refine tk1 ?_ | refine tk2 ?_ | refine tk3 ?_ | refine tk12 (fun _ => ?_) | refine tk4 ?_ | refine tk5 ?_ | refine tk6 ?_ | refine tk7 ?_ | refine tk8 ?_ | refine tk9 ?_ | refine tk10 (fun _ _ => ?_) | refine tk11 (fun _ => ?_)); (conv => whnf))
  refine CallK.fn (digits_f m (by omega)) ?_
  rw [hb]
  (conv => whnf); repeat ((first | refine tk1 ?_ | refine tk2 ?_ | refine tk3 ?_ | refine tk12 (fun _ => ?_) | refine tk4 ?_ | refine tk5 ?_ | refine tk6 ?_ | refine tk7 ?_ | refine tk8 ?_ | refine tk9 ?_ | refine tk10 (fun _ _ => ?_) | refine tk11 (fun _ => ?_)); (conv => whnf))
  refine CallK.fn (Number_f a (by omega)) ?_
  rw [na, va]
  (conv => whnf); repeat ((first | refine tk1 ?_ | refine tk2 ?_ | refine tk3 ?_ | refine tk12 (fun _ => ?_) | refine tk4 ?_ | refine tk5 ?_ | refine tk6 ?_ | refine tk7 ?_ | refine tk8 ?_ | refine tk9 ?_ | refine tk10 (fun _ _ => ?_) | refine tk11 (fun _ => ?_)); (conv => whnf))
  refine CallK.fn (length21_f a) ?_
  (conv => whnf); repeat ((first | refine tk1 ?_ | refine tk2 ?_ | refine tk3 ?_ | refine tk12 (fun _ => ?_) | refine tk4 ?_ | refine tk5 ?_ | refine tk6 ?_ | refine tk7 ?_ | refine tk8 ?_ | refine tk9 ?_ | refine tk10 (fun _ _ => ?_) | refine tk11 (fun _ => ?_)); (conv => whnf))
  refine CallK.fnR (is_yes 1 n 200 _ 1 [(lenN, a)] true f1 s1) ⟨RdA.ok, trivial⟩ ?_
  (conv => whnf); repeat ((first | refine tk1 ?_ | refine tk2 ?_ | refine tk3 ?_ | refine tk12 (fun _ => ?_) | refine tk4 ?_ | refine tk5 ?_ | refine tk6 ?_ | refine tk7 ?_ | refine tk8 ?_ | refine tk9 ?_ | refine tk10 (fun _ _ => ?_) | refine tk11 (fun _ => ?_)); (conv => whnf))
  refine CatS.at (by simp; omega) ?_
  (conv => whnf); repeat ((first | refine tk1 ?_ | refine tk2 ?_ | refine tk3 ?_ | refine tk12 (fun _ => ?_) | refine tk4 ?_ | refine tk5 ?_ | refine tk6 ?_ | refine tk7 ?_ | refine tk8 ?_ | refine tk9 ?_ | refine tk10 (fun _ _ => ?_) | refine tk11 (fun _ => ?_)); (conv => whnf))
  refine CatS.at (by simp; omega) ?_
  (conv => whnf); repeat ((first | refine tk1 ?_ | refine tk2 ?_ | refine tk3 ?_ | refine tk12 (fun _ => ?_) | refine tk4 ?_ | refine tk5 ?_ | refine tk6 ?_ | refine tk7 ?_ | refine tk8 ?_ | refine tk9 ?_ | refine tk10 (fun _ _ => ?_) | refine tk11 (fun _ => ?_)); (conv => whnf))
  refine CallK.fn (length21_f (a ++ [44] ++ a)) ?_
  (conv => whnf); repeat ((first | refine tk1 ?_ | refine tk2 ?_ | refine tk3 ?_ | refine tk12 (fun _ => ?_) | refine tk4 ?_ | refine tk5 ?_ | refine tk6 ?_ | refine tk7 ?_ | refine tk8 ?_ | refine tk9 ?_ | refine tk10 (fun _ _ => ?_) | refine tk11 (fun _ => ?_)); (conv => whnf))
  refine CallK.fnR (is_yes 1 n 200 _ 1 [(lenN, a ++ [44] ++ a)] true f3 s3) ⟨RdA.ok, trivial⟩ ?_
  (conv => whnf); repeat ((first | refine tk1 ?_ | refine tk2 ?_ | refine tk3 ?_ | refine tk12 (fun _ => ?_) | refine tk4 ?_ | refine tk5 ?_ | refine tk6 ?_ | refine tk7 ?_ | refine tk8 ?_ | refine tk9 ?_ | refine tk10 (fun _ _ => ?_) | refine tk11 (fun _ => ?_)); (conv => whnf))
  refine CallK.fn (length21_f a) ?_
  (conv => whnf); repeat ((first | refine tk1 ?_ | refine tk2 ?_ | refine tk3 ?_ | refine tk12 (fun _ => ?_) | refine tk4 ?_ | refine tk5 ?_ | refine tk6 ?_ | refine tk7 ?_ | refine tk8 ?_ | refine tk9 ?_ | refine tk10 (fun _ _ => ?_) | refine tk11 (fun _ => ?_)); (conv => whnf))
  refine CallK.fn (length21_f a) ?_
  (conv => whnf); repeat ((first | refine tk1 ?_ | refine tk2 ?_ | refine tk3 ?_ | refine tk12 (fun _ => ?_) | refine tk4 ?_ | refine tk5 ?_ | refine tk6 ?_ | refine tk7 ?_ | refine tk8 ?_ | refine tk9 ?_ | refine tk10 (fun _ _ => ?_) | refine tk11 (fun _ => ?_)); (conv => whnf))
  refine CallK.fnR (is_yes 1 n 200 _ 2 [(lenN, a), (lenN, a)] true f2 s2) ⟨RdA.ok, trivial⟩ ?_
  (conv => whnf); repeat ((first | refine tk1 ?_ | refine tk2 ?_ | refine tk3 ?_ | refine tk12 (fun _ => ?_) | refine tk4 ?_ | refine tk5 ?_ | refine tk6 ?_ | refine tk7 ?_ | refine tk8 ?_ | refine tk9 ?_ | refine tk10 (fun _ _ => ?_) | refine tk11 (fun _ => ?_)); (conv => whnf))
  refine Cmp.cases (fun q5 => ?_) (fun q5 => ?_)
  · (conv => whnf); repeat ((first | refine tk1 ?_ | refine tk2 ?_ | refine tk3 ?_ | refine tk12 (fun _ => ?_) | refine tk4 ?_ | refine tk5 ?_ | refine tk6 ?_ | refine tk7 ?_ | refine tk8 ?_ | refine tk9 ?_ | refine tk10 (fun _ _ => ?_) | refine tk11 (fun _ => ?_)); (conv => whnf))
  have s4 : decide (sizeOf [(hostN, [104]), (lenN, a), (lenN, b)] 1 = (0, 0, 400)) = true := decide_eq_true (by rw [size_two, ia, ib]; show lenGo none [a, b] = _; rw [len_two na va nb vb, if_neg q5])
  have s5 : decide (sizeOf [(hostN, [104]), (lenN, a ++ [44] ++ b)] 1 = (0, 0, 400)) = true := decide_eq_true (by rw [size_one, iab, len_two na va nb vb, if_neg q5])
  (conv => whnf); repeat ((first | refine tk1 ?_ | refine tk2 ?_ | refine tk3 ?_ | refine tk12 (fun _ => ?_) | refine tk4 ?_ | refine tk5 ?_ | refine tk6 ?_ | refine tk7 ?_ | refine tk8 ?_ | refine tk9 ?_ | refine tk10 (fun _ _ => ?_) | refine tk11 (fun _ => ?_)); (conv => whnf))
  refine CatS.at (by simp; omega) ?_
  (conv => whnf); repeat ((first | refine tk1 ?_ | refine tk2 ?_ | refine tk3 ?_ | refine tk12 (fun _ => ?_) | refine tk4 ?_ | refine tk5 ?_ | refine tk6 ?_ | refine tk7 ?_ | refine tk8 ?_ | refine tk9 ?_ | refine tk10 (fun _ _ => ?_) | refine tk11 (fun _ => ?_)); (conv => whnf))
  refine CatS.at (by simp; omega) ?_
  (conv => whnf); repeat ((first | refine tk1 ?_ | refine tk2 ?_ | refine tk3 ?_ | refine tk12 (fun _ => ?_) | refine tk4 ?_ | refine tk5 ?_ | refine tk6 ?_ | refine tk7 ?_ | refine tk8 ?_ | refine tk9 ?_ | refine tk10 (fun _ _ => ?_) | refine tk11 (fun _ => ?_)); (conv => whnf))
  refine CallK.fn (length21_f (a ++ [44] ++ b)) ?_
  (conv => whnf); repeat ((first | refine tk1 ?_ | refine tk2 ?_ | refine tk3 ?_ | refine tk12 (fun _ => ?_) | refine tk4 ?_ | refine tk5 ?_ | refine tk6 ?_ | refine tk7 ?_ | refine tk8 ?_ | refine tk9 ?_ | refine tk10 (fun _ _ => ?_) | refine tk11 (fun _ => ?_)); (conv => whnf))
  refine CallK.fnR (is_yes 0 0 400 _ 1 [(lenN, a ++ [44] ++ b)] true f5 s5) ⟨RdA.ok, trivial⟩ ?_
  (conv => whnf); repeat ((first | refine tk1 ?_ | refine tk2 ?_ | refine tk3 ?_ | refine tk12 (fun _ => ?_) | refine tk4 ?_ | refine tk5 ?_ | refine tk6 ?_ | refine tk7 ?_ | refine tk8 ?_ | refine tk9 ?_ | refine tk10 (fun _ _ => ?_) | refine tk11 (fun _ => ?_)); (conv => whnf))
  refine CallK.fn (length21_f a) ?_
  (conv => whnf); repeat ((first | refine tk1 ?_ | refine tk2 ?_ | refine tk3 ?_ | refine tk12 (fun _ => ?_) | refine tk4 ?_ | refine tk5 ?_ | refine tk6 ?_ | refine tk7 ?_ | refine tk8 ?_ | refine tk9 ?_ | refine tk10 (fun _ _ => ?_) | refine tk11 (fun _ => ?_)); (conv => whnf))
  refine CallK.fn (length21_f b) ?_
  (conv => whnf); repeat ((first | refine tk1 ?_ | refine tk2 ?_ | refine tk3 ?_ | refine tk12 (fun _ => ?_) | refine tk4 ?_ | refine tk5 ?_ | refine tk6 ?_ | refine tk7 ?_ | refine tk8 ?_ | refine tk9 ?_ | refine tk10 (fun _ _ => ?_) | refine tk11 (fun _ => ?_)); (conv => whnf))
  refine CallK.fnR (is_yes 0 0 400 _ 2 [(lenN, a), (lenN, b)] true f4 s4) ⟨RdA.ok, trivial⟩ ?_
  (conv => whnf); repeat ((first | refine tk1 ?_ | refine tk2 ?_ | refine tk3 ?_ | refine tk12 (fun _ => ?_) | refine tk4 ?_ | refine tk5 ?_ | refine tk6 ?_ | refine tk7 ?_ | refine tk8 ?_ | refine tk9 ?_ | refine tk10 (fun _ _ => ?_) | refine tk11 (fun _ => ?_)); (conv => whnf))
end Go.Proofs.YtggokigjnaiokaaDoor.Vex
namespace Go.Proofs.YtggokigjnaiokaaDoor.sizeLengths
open Go.ChangeShapes Go.WideShapes Go.ChangeAt Go.RowKit

set_option maxRecDepth 100000 in
theorem contract (H : Type) (enc : TypeId × Value → H) (W : World) (base : Nat) (args : Array Value) (ds gs : List (DataW H)) (before : List MemPlace)
    (hval : ∀ (j : Nat) t v, Tryd.f7.params[j]? = some t → args[j]? = some v → Value.okWide Tryd.prog W .any base t v)
    (hW : DataW.Whole enc Tryd.prog Tryd.f7.params.toList Rows.sizeLengthsSpec.vars false W args.toList ds gs before) (_hL : laidMetH Tryd.prog Rows.sizeLengthsRow.laid W) (hS : W.ShapedOpen Tryd.prog) :
    Calls Tryd.prog 7 args W fun e W' => ∃ v, e = .returned v ∧ Rows.sizeLengthsSpec.post enc Tryd.prog Tryd.f7 false true false false W args v W' := by
  have hW' := hW
  obtain ⟨p, q, hA, hV, rfl, hfz, hnd⟩ := hW
  rw [Tryd.params7] at hA hval
  obtain ⟨v0, vs0, d0, ds0, p0, q0, hargs, rfl, rfl, h0, r0⟩ := trodAll_cons hA
  obtain ⟨v1, vs1, d1, ds1, p1, q1, rfl, rfl, rfl, h1, r1⟩ := trodAll_cons r0
  obtain ⟨rfl, rfl, rfl⟩ := trodAll_nil r1
  obtain rfl : args = #[v0, v1] := by rw [← Array.toList_inj]; exact hargs
  obtain ⟨rfl, rfl⟩ := trodVars_none hV
  obtain ⟨x0, e0, k0, z0⟩ := Vex.open_cell Vex.opens_i64 (by rw [Tryd.underlying3]) (hval 0 3 v0 rfl rfl) h0
  obtain rfl := (List.cons.inj e0).1
  obtain ⟨x1, e1, k1, z1⟩ := Vex.open_cell Vex.opens_i64 (by rw [Tryd.underlying3]) (hval 1 3 v1 rfl rfl) h1
  obtain rfl := (List.cons.inj e1).1
  have hG := Vex.gB_of hS
  refine (Vex.done_F (Vex.SizeLengths_v x0 x1 k0 k1) hG).mono fun e W' ⟨he, hb⟩ => ?_
  exact ⟨_, he, law_post laidOut rfl hW' (by kernel_rfl) (by kernel_rfl) Tryd.underlying4 (by kernel_rfl) hb⟩

abbrev start : Array Value := #[.int .i64 0, .int .i64 0]
theorem laid_met (os : Os) : laidMet Tryd.prog Rows.sizeLengthsRow.laid ((laidWorld os start).forCall (fun _ _ => 0) ⟨#[], start, []⟩).memory :=
  laidMet_of_run' 8 (by kernel_rfl) (by kernel_rfl)
theorem reads (os : Os) {H : Type} (enc : TypeId × Value → H) : ∃ places, DataW.whole enc Tryd.prog ((laidWorld os start).forCall (fun _ _ => 0) ⟨#[], start, []⟩).memory Tryd.f7.params.toList Rows.sizeLengthsSpec.vars false start.toList 8 = some ([.lit (.int .i64 0), .lit (.int .i64 0)], [], places) :=
  ⟨[], by kernel_rfl⟩

set_option maxRecDepth 100000 in
theorem lifted (os : Os) (started : os.Started) (H : Type) (enc : TypeId × Value → H) (F : Stop.Interp) :
    ReturnsInHanded {} Tryd.checked os 7 .any ((OpenSpec.ofChange Rows.sizeLengthsSpec).preRow enc Tryd.prog Tryd.f7 Rows.sizeLengthsRow.domain false Rows.sizeLengthsRow.laid) (((OpenSpec.ofChange Rows.sizeLengthsSpec).at F).post enc Tryd.prog Tryd.f7 false true false false) := by
  obtain ⟨places, hx⟩ := reads os enc
  refine returnsInHanded_of_row (C := Tryd.checked) (s := OpenSpec.ofChange Rows.sizeLengthsSpec) own started (by kernel_rfl) Tryd.func7
    (witness_row_atRef (enc := enc) (C := Tryd.checked) false (laidWorld os start) start rfl (by kernel_rfl) (by kernel_rfl) (by kernel_rfl)
      (OpenSpec.preRow_of_cond 8 hx (by kernel_rfl) (fun k hk => by cases hk) (by kernel_rfl) (laid_met os))) ?_
  intro W base args ds gs before hval hW _ _ _ hL hS _
  exact contract H enc W base args ds gs before hval hW hL hS

theorem said : Rows.SizeLengthsSaid :=
  OpenClaim.holds_of_cond 7 Tryd.f7 rfl rfl rfl rfl rfl rfl rfl ⟨rfl, rfl, rfl, rfl, rfl⟩ rfl rfl rfl rfl rfl (by kernel_rfl) Tryd.func7 (by kernel_rfl)
    (of_decide_eq_true (by kernel_rfl)) (by unfold Func.isWrapper; first | (rw [if_pos (by decide +kernel)]; kernel_rfl) | (rw [if_neg (by decide +kernel)]; exact ⟨rfl, rfl⟩))
    (fun os started H enc _ F => by rw [OpenClaim.pre_eq_preRow]; exact lifted os started H enc F)

/-- No parameter wants a stand-in; the program's own looks. -/
theorem plain (f : FuncId) (fn : Func) (hf : Tryd.pinned.checked.prog.funcNamed "bellows/bellowslaw21.SizeLengths" = some f) (hfn : Tryd.pinned.checked.prog.funcs[f]? = some fn) :
    true = Tryd.pinned.checked.prog.looks [] ∧ ∀ (j : Nat) t, fn.params[j]? = some t → Tryd.pinned.checked.prog.wantsStandIn t = false := by
  obtain rfl : f = 7 := Option.some.inj ((show Tryd.prog.funcNamed "bellows/bellowslaw21.SizeLengths" = some 7 by kernel_rfl).symm.trans hf) |>.symm
  obtain rfl : fn = Tryd.f7 := (Option.some.inj (Tryd.func7.symm.trans hfn)).symm
  refine ⟨by kernel_rfl, fun j t ht => ?_⟩
  have hall : (Tryd.f7.params.toList.all fun t => !Tryd.prog.wantsStandIn t) = true := by kernel_rfl
  have := List.all_eq_true.1 hall t (Array.mem_toList_iff.2 (Array.mem_of_getElem? ht))
  exact (show Tryd.prog.wantsStandIn t = false by simpa using this)

theorem proved : Rows.SizeLengthsCardSaid :=
  Claim7.holds_tied_plain_at .later [] _ _ _ _ said (fun _ h => by cases h) (by kernel_rfl) (fun _ h => by cases h) sizeLengths_row_tie rfl ⟨rfl, rfl⟩ (by kernel_rfl) rfl plain (by kernel_rfl)
end Go.Proofs.YtggokigjnaiokaaDoor.sizeLengths
