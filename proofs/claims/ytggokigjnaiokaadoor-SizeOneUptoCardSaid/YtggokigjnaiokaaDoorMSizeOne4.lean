/- For every request and field, together of bulk at most uptoSmall, SizeOne returns true; the arguments read behind the call as they read before. -/
import Derived.Test.YtggokigjnaiokaaDoorMSizeOne3
/- The law SizeOne, reckoned. -/
namespace Go.Proofs.YtggokigjnaiokaaDoor.Vex
open Go Go.RowKit
set_option maxRecDepth 100000
set_option linter.unusedSectionVars false
variable {gI : GI} [HasMax gI]

theorem sizeOf_cases (F : List Fld) (v : Int) : (sizeOf F v = (0, 0, 400) ∨ sizeOf F v = (0, 0, 501) ∨ (sizeOf F v = (0, 0, 200) ∧ allOf F codN = []) ∨ (sizeOf F v = (2, 0, 200) ∧ allOf F codN ≠ [] ∧ allOf F lenN = [] ∧ v ≠ 0) ∨ ∃ n, sizeOf F v = (1, n, 200) ∧ allOf F codN = [] ∧ allOf F lenN ≠ [] ∧ 0 ≤ n ∧ n < 1000000000) := by
  have go : ∀ (l : List (List UInt8)) (x : Option Int), (∀ n, x = some n → 0 ≤ n ∧ n < 1000000000) → lenGo x l = (0, 0, 400) ∨ ∃ n, lenGo x l = (1, n, 200) ∧ 0 ≤ n ∧ n < 1000000000 := by
    intro l
    induction l with
    | nil =>
      intro x hx
      cases x with
      | none => exact .inl rfl
      | some n => exact .inr ⟨n, rfl, hx n rfl⟩
    | cons s r ih =>
      intro x hx
      rw [lenGo_cons]
      split
      · exact ih _ (fun n hn => by cases hn; exact numN_range s)
      · exact .inl rfl
  unfold sizeOf
  split
  · exact .inl rfl
  · split
    · rename_i hc
      unfold codS
      split
      · exact .inl rfl
      · rename_i h
        split
        · exact .inr (.inl rfl)
        · refine .inr (.inr (.inr (.inl ⟨rfl, hc, ?_, fun h1 => h (.inl h1)⟩)))
          by_cases h2 : allOf F lenN = []
          · exact h2
          · exact absurd (.inr (.inl (decide_eq_true h2))) h
    · rename_i hc
      have hc : allOf F codN = [] := by simpa using hc
      split
      · rename_i hl
        rcases go (itemsAll (allOf F lenN)) none (fun n hn => by cases hn) with h | ⟨n, h, h1⟩
        · exact .inl h
        · exact .inr (.inr (.inr (.inr ⟨n, h, hc, hl, h1⟩)))
      · exact .inr (.inr (.inl ⟨rfl, hc⟩))
theorem allOf_cons (p : Fld) (F : List Fld) (s : List UInt8) (h : smallOf p.1 ≠ smallOf s) : allOf (p :: F) s = allOf F s := by
  unfold allOf
  rw [List.filter_cons, if_neg (by simpa using h)]
theorem allOf_snoc (p : Fld) (F : List Fld) (s : List UInt8) (h : smallOf p.1 ≠ smallOf s) : allOf (F ++ [p]) s = allOf F s := by
  unfold allOf
  rw [List.filter_append, List.filter_cons, if_neg (by simpa using h)]
  simp
theorem sizeOf_cons (p : Fld) (F : List Fld) (v : Int) (h1 : smallOf p.1 ≠ hostN) (h2 : smallOf p.1 ≠ lenN) (h3 : smallOf p.1 ≠ codN) : sizeOf (p :: F) v = sizeOf F v := by
  unfold sizeOf
  rw [allOf_cons p F hostN h1, allOf_cons p F lenN h2, allOf_cons p F codN h3]
theorem sizeOf_snoc (p : Fld) (F : List Fld) (v : Int) (h1 : smallOf p.1 ≠ hostN) (h2 : smallOf p.1 ≠ lenN) (h3 : smallOf p.1 ≠ codN) : sizeOf (F ++ [p]) v = sizeOf F v := by
  unfold sizeOf
  rw [allOf_snoc p F hostN h1, allOf_snoc p F lenN h2, allOf_snoc p F codN h3]
theorem is_f (k n st : Int) (A : Option Addr) (cp : Nat) (l : List Fld) (hl : fsum l ≤ 1000000) :
    FnR Tryd.prog gI 26 [.int .u8 k, .int .i64 n, .int .i64 st, .slice A l.length cp] [(A, fcells l)] (.bool (decide (sizeOf ((hostN, [104]) :: l) 1 = (k, n, st)))) := by
  have z := fsum_length l
  have zz : fsum ((hostN, [104]) :: l) ≤ 2000000 := by rw [fsum_cons]; simp [hostN]; omega
  refine FnE.of tys_ok Tryd.func26 rfl (by kernel_rfl) rfl rfl ?_; intro w hG hP
  have hR : ∀ H, RdA (mkC Tryd.prog gI w hG) H A (fcells l) := fun H => ⟨hP.1.now⟩
  (conv => whnf); repeat ((first | refine tk1 ?_ | refine tk2 ?_ | refine tk3 ?_ | refine tk12 (fun _ => ?_) | refine tk4 ?_ | refine tk5 ?_ | refine tk6 ?_ | refine tk7 ?_ | refine tk8 ?_ | refine tk9 ?_ | refine tk10 (fun _ _ => ?_) | refine tk11 (fun _ => ?_)); (conv => whnf))
  refine AppS.tc (m := l.length) (news := fcells l) SrcK.tc (by rw [fcells_length]; omega) (fcells_one l) (by decide) (by omega) (by omega) (zs := fcells ((hostN, [104]) :: l)) rfl (fun B cq => ?_)
  rw [show 1 + l.length = ((hostN, [104]) :: l).length by simp; omega]
  (conv => whnf); repeat ((first | refine tk1 ?_ | refine tk2 ?_ | refine tk3 ?_ | refine tk12 (fun _ => ?_) | refine tk4 ?_ | refine tk5 ?_ | refine tk6 ?_ | refine tk7 ?_ | refine tk8 ?_ | refine tk9 ?_ | refine tk10 (fun _ _ => ?_) | refine tk11 (fun _ => ?_)); (conv => whnf))
  refine CallK.fnR (Of_f [] [] [] 1 B cq ((hostN, [104]) :: l) (.slice none 0 0) zz (by decide)) ⟨RdA.ok, trivial⟩ ?_
  obtain ⟨s, hs⟩ : ∃ s, sizeOf ((hostN, [104]) :: l) 1 = s := ⟨_, rfl⟩
  rw [hs]
  obtain ⟨s1, s2, s3⟩ := s
  dsimp only
  (conv => whnf); repeat ((first | refine tk1 ?_ | refine tk2 ?_ | refine tk3 ?_ | refine tk12 (fun _ => ?_) | refine tk4 ?_ | refine tk5 ?_ | refine tk6 ?_ | refine tk7 ?_ | refine tk8 ?_ | refine tk9 ?_ | refine tk10 (fun _ _ => ?_) | refine tk11 (fun _ => ?_)); (conv => whnf))
  refine Cmp.cases (fun h1 => ?_) (fun h1 => ?_)
  · (conv => whnf); repeat ((first | refine tk1 ?_ | refine tk2 ?_ | refine tk3 ?_ | refine tk12 (fun _ => ?_) | refine tk4 ?_ | refine tk5 ?_ | refine tk6 ?_ | refine tk7 ?_ | refine tk8 ?_ | refine tk9 ?_ | refine tk10 (fun _ _ => ?_) | refine tk11 (fun _ => ?_)); (conv => whnf))
    refine Cmp.cases (fun h2 => ?_) (fun h2 => ?_)
    · (conv => whnf); repeat ((first | refine tk1 ?_ | refine tk2 ?_ | refine tk3 ?_ | refine tk12 (fun _ => ?_) | refine tk4 ?_ | refine tk5 ?_ | refine tk6 ?_ | refine tk7 ?_ | refine tk8 ?_ | refine tk9 ?_ | refine tk10 (fun _ _ => ?_) | refine tk11 (fun _ => ?_)); (conv => whnf))
      refine Cmp.cases (fun h3 => ?_) (fun h3 => ?_)
      · (conv => whnf); repeat ((first | refine tk1 ?_ | refine tk2 ?_ | refine tk3 ?_ | refine tk12 (fun _ => ?_) | refine tk4 ?_ | refine tk5 ?_ | refine tk6 ?_ | refine tk7 ?_ | refine tk8 ?_ | refine tk9 ?_ | refine tk10 (fun _ _ => ?_) | refine tk11 (fun _ => ?_)); (conv => whnf))
        intro w' _
        rw [decide_eq_true (by simp_all)]
      · (conv => whnf); repeat ((first | refine tk1 ?_ | refine tk2 ?_ | refine tk3 ?_ | refine tk12 (fun _ => ?_) | refine tk4 ?_ | refine tk5 ?_ | refine tk6 ?_ | refine tk7 ?_ | refine tk8 ?_ | refine tk9 ?_ | refine tk10 (fun _ _ => ?_) | refine tk11 (fun _ => ?_)); (conv => whnf))
        intro w' _
        rw [decide_eq_false (by simp_all)]
    · (conv => whnf); repeat ((first | refine tk1 ?_ | refine tk2 ?_ | refine tk3 ?_ | refine tk12 (fun _ => ?_) | refine tk4 ?_ | refine tk5 ?_ | refine tk6 ?_ | refine tk7 ?_ | refine tk8 ?_ | refine tk9 ?_ | refine tk10 (fun _ _ => ?_) | refine tk11 (fun _ => ?_)); (conv => whnf))
      intro w' _
      rw [decide_eq_false (by simp_all)]
  · (conv => whnf); repeat ((first | refine tk1 ?_ | refine tk2 ?_ | refine tk3 ?_ | refine tk12 (fun _ => ?_) | refine tk4 ?_ | refine tk5 ?_ | refine tk6 ?_ | refine tk7 ?_ | refine tk8 ?_ | refine tk9 ?_ | refine tk10 (fun _ _ => ?_) | refine tk11 (fun _ => ?_)); (conv => whnf))
    intro w' _
    rw [decide_eq_false (by simp_all)]
theorem length21_f (s : List UInt8) : Fn Tryd.prog gI 27 [str s] (.agg ⟨[str lenN, str s]⟩) := by
  refine Fn.of tys_ok Tryd.func27 rfl (by kernel_rfl) rfl rfl ?_; intro w hG
  (conv => whnf); repeat ((first | refine tk1 ?_ | refine tk2 ?_ | refine tk3 ?_ | refine tk12 (fun _ => ?_) | refine tk4 ?_ | refine tk5 ?_ | refine tk6 ?_ | refine tk7 ?_ | refine tk8 ?_ | refine tk9 ?_ | refine tk10 (fun _ _ => ?_) | refine tk11 (fun _ => ?_)); (conv => whnf))
  rfl
theorem coding21_f (s : List UInt8) : Fn Tryd.prog gI 47 [str s] (.agg ⟨[str codN, str s]⟩) := by
  refine Fn.of tys_ok Tryd.func47 rfl (by kernel_rfl) rfl rfl ?_; intro w hG
  (conv => whnf); repeat ((first | refine tk1 ?_ | refine tk2 ?_ | refine tk3 ?_ | refine tk12 (fun _ => ?_) | refine tk4 ?_ | refine tk5 ?_ | refine tk6 ?_ | refine tk7 ?_ | refine tk8 ?_ | refine tk9 ?_ | refine tk10 (fun _ _ => ?_) | refine tk11 (fun _ => ?_)); (conv => whnf))
  rfl
theorem alive21_f : Fn Tryd.prog gI 20 [] (.bool true) := by
  refine Fn.of tys_ok Tryd.func20 rfl (by kernel_rfl) rfl rfl ?_; intro w hG
  (conv => whnf); repeat ((first | refine tk1 ?_ | refine tk2 ?_ | refine tk3 ?_ | refine tk12 (fun _ => ?_) | refine tk4 ?_ | refine tk5 ?_ | refine tk6 ?_ | refine tk7 ?_ | refine tk8 ?_ | refine tk9 ?_ | refine tk10 (fun _ _ => ?_) | refine tk11 (fun _ => ?_)); (conv => whnf))
  refine CallK.fnR ((is_f 0 0 200 none 0 [] (by decide)).toV (v' := .bool true) (by kernel_rfl)) ⟨RdS.nil, trivial⟩ ?_
  (conv => whnf); repeat ((first | refine tk1 ?_ | refine tk2 ?_ | refine tk3 ?_ | refine tk12 (fun _ => ?_) | refine tk4 ?_ | refine tk5 ?_ | refine tk6 ?_ | refine tk7 ?_ | refine tk8 ?_ | refine tk9 ?_ | refine tk10 (fun _ _ => ?_) | refine tk11 (fun _ => ?_)); (conv => whnf))
  refine CallK.fn (length21_f [49, 50]) ?_
  (conv => whnf); repeat ((first | refine tk1 ?_ | refine tk2 ?_ | refine tk3 ?_ | refine tk12 (fun _ => ?_) | refine tk4 ?_ | refine tk5 ?_ | refine tk6 ?_ | refine tk7 ?_ | refine tk8 ?_ | refine tk9 ?_ | refine tk10 (fun _ _ => ?_) | refine tk11 (fun _ => ?_)); (conv => whnf))
  refine CallK.fnR ((is_f 1 12 200 _ 1 [(lenN, [49, 50])] (by decide)).toV (v' := .bool true) (by kernel_rfl)) ⟨RdA.ok, trivial⟩ ?_
  (conv => whnf); repeat ((first | refine tk1 ?_ | refine tk2 ?_ | refine tk3 ?_ | refine tk12 (fun _ => ?_) | refine tk4 ?_ | refine tk5 ?_ | refine tk6 ?_ | refine tk7 ?_ | refine tk8 ?_ | refine tk9 ?_ | refine tk10 (fun _ _ => ?_) | refine tk11 (fun _ => ?_)); (conv => whnf))
  refine CallK.fn (coding21_f chunkedN) ?_
  (conv => whnf); repeat ((first | refine tk1 ?_ | refine tk2 ?_ | refine tk3 ?_ | refine tk12 (fun _ => ?_) | refine tk4 ?_ | refine tk5 ?_ | refine tk6 ?_ | refine tk7 ?_ | refine tk8 ?_ | refine tk9 ?_ | refine tk10 (fun _ _ => ?_) | refine tk11 (fun _ => ?_)); (conv => whnf))
  refine CallK.fnR ((is_f 2 0 200 _ 1 [(codN, chunkedN)] (by decide)).toV (v' := .bool true) (by kernel_rfl)) ⟨RdA.ok, trivial⟩ ?_
  (conv => whnf); repeat ((first | refine tk1 ?_ | refine tk2 ?_ | refine tk3 ?_ | refine tk12 (fun _ => ?_) | refine tk4 ?_ | refine tk5 ?_ | refine tk6 ?_ | refine tk7 ?_ | refine tk8 ?_ | refine tk9 ?_ | refine tk10 (fun _ _ => ?_) | refine tk11 (fun _ => ?_)); (conv => whnf))
theorem Of_s (m p q : List UInt8) (v : Int) (A : Option Addr) (cp : Nat) (F : List Fld) (c5 : Value) (hF : fsum F ≤ 2000000) (hv : -9223372036854775808 ≤ v ∧ v ≤ 9223372036854775807) {k n st : Int} (h : sizeOf F v = (k, n, st)) :
    FnR Tryd.prog gI 22 [.agg ⟨[str m, str p, str q, .int .i64 v, .slice A F.length cp, c5]⟩] [(A, fcells F)] (.tuple #[.int .u8 k, .int .i64 n, .int .i64 st]) := by
  have := Of_f (gI := gI) m p q v A cp F c5 hF hv
  rw [h] at this
  exact this
theorem Great18_b (A : Option Addr) (cp : Nat) (l : List Fld) : FnE Tryd.prog gI 21 [.slice A l.length cp] (fun w => Rdw w A (fcells l)) fun _ v _ => ∃ b, v = .bool b :=
  ⟨(Great_r (gI := gI) A cp l).can, fun w hG hp => ((Great_r A cp l).ok w hG ⟨hp, trivial⟩).mono fun _ _ ⟨v, he, hv, hr⟩ => ⟨v, he, ⟨_, hv⟩, hr⟩⟩
set_option maxHeartbeats 4000000 in
theorem SizeOne_v (m p q : List UInt8) (v : Int) (A : Option Addr) (cp : Nat) (F : List Fld) (C : Option Addr) (bn bc : Nat) (n x : List UInt8) (hF : fsum F + n.length + x.length ≤ 1100000) (hv : -9223372036854775808 ≤ v ∧ v ≤ 9223372036854775807) :
    FnR Tryd.prog gI 6 [.agg ⟨[str m, str p, str q, .int .i64 v, .slice A F.length cp, .slice C bn bc]⟩, .agg ⟨[str n, str x]⟩] [(A, fcells F)] (.bool true) := by
  have z := fsum_length F
  have zc : fsum ((n, x) :: F) ≤ 2000000 := by rw [fsum_cons]; dsimp only; omega
  have zs : fsum (F ++ [(n, x)]) ≤ 2000000 := by
    rw [fsum_append]
    have : fsum [(n, x)] = n.length + x.length + 3 := by simp [fsum]
    omega
  refine FnE.of tys_ok Tryd.func6 rfl (by kernel_rfl) rfl rfl ?_; intro w hG hP
  have hR : ∀ H, RdA (mkC Tryd.prog gI w hG) H A (fcells F) := fun H => ⟨hP.1.now⟩
  (conv => whnf); repeat ((first | refine tk1 ?_ | refine tk2 ?_ | refine tk3 ?_ | refine tk12 (fun _ => ?_) | refine tk4 ?_ | refine tk5 ?_ | refine tk6 ?_ | refine tk7 ?_ | refine tk8 ?_ | refine tk9 ?_ | refine tk10 (fun _ _ => ?_) | refine tk11 (fun _ => ?_)); (conv => whnf))
  refine CallK.fn alive21_f ?_
  (conv => whnf); repeat ((first | refine tk1 ?_ | refine tk2 ?_ | refine tk3 ?_ | refine tk12 (fun _ => ?_) | refine tk4 ?_ | refine tk5 ?_ | refine tk6 ?_ | refine tk7 ?_ | refine tk8 ?_ | refine tk9 ?_ | refine tk10 (fun _ _ => ?_) | refine tk11 (fun _ => ?_)); (conv => whnf))
  rename_i p2 p3 _
  refine AppS.tc (m := F.length) (news := fcells F) SrcK.tc (by rw [fcells_length]; omega) (fcells_one F) (by decide) (by omega) (by omega) (zs := fcells ((n, x) :: F)) rfl (fun B cq => ?_)
  rw [show 1 + F.length = ((n, x) :: F).length by simp; omega]
  (conv => whnf); repeat ((first | refine tk1 ?_ | refine tk2 ?_ | refine tk3 ?_ | refine tk12 (fun _ => ?_) | refine tk4 ?_ | refine tk5 ?_ | refine tk6 ?_ | refine tk7 ?_ | refine tk8 ?_ | refine tk9 ?_ | refine tk10 (fun _ _ => ?_) | refine tk11 (fun _ => ?_)); (conv => whnf))
  refine CallK.fnAny (Great18_b B cq ((n, x) :: F)) (fun w1 hw1 => RdA.ok (self := inferInstance) w1 hw1) (fun b => ?_)
  cases b
  rotate_left
  · (conv => whnf); repeat ((first | refine tk1 ?_ | refine tk2 ?_ | refine tk3 ?_ | refine tk12 (fun _ => ?_) | refine tk4 ?_ | refine tk5 ?_ | refine tk6 ?_ | refine tk7 ?_ | refine tk8 ?_ | refine tk9 ?_ | refine tk10 (fun _ _ => ?_) | refine tk11 (fun _ => ?_)); (conv => whnf))
    exact fun w' _ => rfl
  have hnz : ∀ (k : Nat) (h : k < F.length), F[k].1.length ≤ 140737488355328 := fun k h => by have := fsum_mem (List.getElem_mem h); omega
  have z2 := allOf_le F codN
  have z3 := allOf_le F lenN
  (conv => whnf); repeat ((first | refine tk1 ?_ | refine tk2 ?_ | refine tk3 ?_ | refine tk12 (fun _ => ?_) | refine tk4 ?_ | refine tk5 ?_ | refine tk6 ?_ | refine tk7 ?_ | refine tk8 ?_ | refine tk9 ?_ | refine tk10 (fun _ _ => ?_) | refine tk11 (fun _ => ?_)); (conv => whnf))
  rcases sizeOf_cases F v with hs | hs | ⟨hs, h1⟩ | ⟨hs, h1, h2, h3⟩ | ⟨N, hs, h1, h2, h3⟩
  · refine CallK.fnR (Of_s m p q v A cp F (.slice C bn bc) (by omega) hv hs) ⟨RdA.ok, trivial⟩ ?_
    (conv => whnf); repeat ((first | refine tk1 ?_ | refine tk2 ?_ | refine tk3 ?_ | refine tk12 (fun _ => ?_) | refine tk4 ?_ | refine tk5 ?_ | refine tk6 ?_ | refine tk7 ?_ | refine tk8 ?_ | refine tk9 ?_ | refine tk10 (fun _ _ => ?_) | refine tk11 (fun _ => ?_)); (conv => whnf))
    refine LoopS.lp tys_ok (fun (k : Nat) u => [u 0, u 1, .pointer (some ⟨p2, 0, none⟩), .pointer (some ⟨p3, 0, none⟩), u 4, .bool true, .int .u8 0, .int .i64 0, .int .i64 400, .int .i64 (allOf (F.take k) lenN).length, .int .i64 (allOf (F.take k) codN).length, .int .i64 (k : Nat), u 12, u 13, u 14, u 15, u 16, u 17, u 18, u 19, u 20, u 21, u 22, u 23, u 24, u 25, u 26, u 27, u 28, u 29, u 30, u 31, u 32, u 33, u 34, u 35, u 36, u 37, u 38, u 39, u 40, u 41, u 42, u 43, u 44, u 45, u 46, u 47, u 48, u 49, u 50, u 51, u 52, u 53, u 54, u 55, u 56, u 57, u 58, u 59, u 60, u 61, u 62, u 63, u 64, u 65, u 66, u 67, u 68, u 69, u 70, u 71, u 72, u 73, u 74, u 75, u 76, u 77, u 78, u 79, u 80, u 81, u 82, u 83, u 84, u 85, u 86, u 87, u 88, u 89, u 90, u 91, u 92, u 93, u 94, u 95, u 96, u 97, u 98, u 99, u 100, u 101, u 102, u 103, u 104, u 105, u 106, u 107, u 108, u 109, u 110, u 111, u 112, u 113, u 114, u 115, u 116, u 117, u 118, u 119, u 120, u 121, u 122, u 123, u 124, u 125, u 126, u 127, u 128, u 129, u 130, u 131, u 132, u 133, u 134, u 135, u 136, u 137, u 138, u 139, u 140, u 141, u 142, u 143, u 144, u 145, u 146, u 147, u 148, u 149, u 150, u 151, u 152, u 153, u 154, u 155, u 156, u 157, u 158, u 159, u 160, u 161, u 162, u 163, u 164, u 165, u 166, u 167, u 168, u 169, u 170, u 171, u 172, u 173, u 174, u 175, u 176, u 177, u 178, u 179, u 180, u 181, u 182, u 183, u 184])
      (fun _ => [.box p3 [str n, str x] 39, .box p2 [str m, str p, str q, .int .i64 v, .slice A F.length cp, .slice C bn bc] 28])
      (fun k => k ≤ F.length) (fun k => F.length - k) 0 (Nat.zero_le _) rfl (by repeat' (first | exact List.Sublist.refl _ | exact List.nil_sublist _ | apply List.Sublist.cons_cons | apply List.Sublist.cons)) ?_
    intro k u hk
    (conv => whnf); repeat ((first | refine tk1 ?_ | refine tk2 ?_ | refine tk3 ?_ | refine tk12 (fun _ => ?_) | refine tk4 ?_ | refine tk5 ?_ | refine tk6 ?_ | refine tk7 ?_ | refine tk8 ?_ | refine tk9 ?_ | refine tk10 (fun _ _ => ?_) | refine tk11 (fun _ => ?_)); (conv => whnf))
    refine Cmp.cases (fun hlt => ?_) (fun hlt => ?_)
    · have hlt' : k < F.length := by omega
      have ha := allOf_take F lenN k hlt'
      have hb := allOf_take F codN k hlt'
      rw [show smallOf lenN = lenN by decide] at ha
      rw [show smallOf codN = codN by decide] at hb
      have z4 := allOf_le (F.take k) lenN
      have z5 := allOf_le (F.take k) codN
      rw [List.length_take] at z4 z5
      (conv => whnf); repeat ((first | refine tk1 ?_ | refine tk2 ?_ | refine tk3 ?_ | refine tk12 (fun _ => ?_) | refine tk4 ?_ | refine tk5 ?_ | refine tk6 ?_ | refine tk7 ?_ | refine tk8 ?_ | refine tk9 ?_ | refine tk10 (fun _ _ => ?_) | refine tk11 (fun _ => ?_)); (conv => whnf))
      refine IdxA.tc (by rw [fcells_length]; omega) (by omega) (by omega) ?_
      (conv => whnf); repeat ((first | refine tk1 ?_ | refine tk2 ?_ | refine tk3 ?_ | refine tk12 (fun _ => ?_) | refine tk4 ?_ | refine tk5 ?_ | refine tk6 ?_ | refine tk7 ?_ | refine tk8 ?_ | refine tk9 ?_ | refine tk10 (fun _ _ => ?_) | refine tk11 (fun _ => ?_)); (conv => whnf))
      refine Ld.taF (fcells_0 F k hlt') ?_
      (conv => whnf); repeat ((first | refine tk1 ?_ | refine tk2 ?_ | refine tk3 ?_ | refine tk12 (fun _ => ?_) | refine tk4 ?_ | refine tk5 ?_ | refine tk6 ?_ | refine tk7 ?_ | refine tk8 ?_ | refine tk9 ?_ | refine tk10 (fun _ _ => ?_) | refine tk11 (fun _ => ?_)); (conv => whnf))
      refine CallK.fn (Small_r F[k].1 (by have := fsum_mem (List.getElem_mem hlt'); omega)) ?_
      (conv => whnf); repeat ((first | refine tk1 ?_ | refine tk2 ?_ | refine tk3 ?_ | refine tk12 (fun _ => ?_) | refine tk4 ?_ | refine tk5 ?_ | refine tk6 ?_ | refine tk7 ?_ | refine tk8 ?_ | refine tk9 ?_ | refine tk10 (fun _ _ => ?_) | refine tk11 (fun _ => ?_)); (conv => whnf))
      refine Cmp.cases (fun y1 => ?_) (fun y1 => ?_)
      · have y1 : smallOf F[k].1 = lenN := y1
        rw [if_pos y1] at ha
        rw [if_neg (by rw [y1]; decide), List.append_nil] at hb
        (conv => whnf); repeat ((first | refine tk1 ?_ | refine tk2 ?_ | refine tk3 ?_ | refine tk12 (fun _ => ?_) | refine tk4 ?_ | refine tk5 ?_ | refine tk6 ?_ | refine tk7 ?_ | refine tk8 ?_ | refine tk9 ?_ | refine tk10 (fun _ _ => ?_) | refine tk11 (fun _ => ?_)); (conv => whnf))
        exact ⟨k + 1, by omega, by dsimp only; rw [ha, hb, List.length_append]; rfl, (by repeat' (first | exact List.Sublist.refl _ | exact List.nil_sublist _ | apply List.Sublist.cons_cons | apply List.Sublist.cons)), by dsimp only; omega⟩
      · have y1 : ¬ smallOf F[k].1 = lenN := y1
        rw [if_neg y1, List.append_nil] at ha
        (conv => whnf); repeat ((first | refine tk1 ?_ | refine tk2 ?_ | refine tk3 ?_ | refine tk12 (fun _ => ?_) | refine tk4 ?_ | refine tk5 ?_ | refine tk6 ?_ | refine tk7 ?_ | refine tk8 ?_ | refine tk9 ?_ | refine tk10 (fun _ _ => ?_) | refine tk11 (fun _ => ?_)); (conv => whnf))
        refine Cmp.cases (fun y2 => ?_) (fun y2 => ?_)
        · have y2 : smallOf F[k].1 = codN := y2
          rw [if_pos y2] at hb
          (conv => whnf); repeat ((first | refine tk1 ?_ | refine tk2 ?_ | refine tk3 ?_ | refine tk12 (fun _ => ?_) | refine tk4 ?_ | refine tk5 ?_ | refine tk6 ?_ | refine tk7 ?_ | refine tk8 ?_ | refine tk9 ?_ | refine tk10 (fun _ _ => ?_) | refine tk11 (fun _ => ?_)); (conv => whnf))
          exact ⟨k + 1, by omega, by dsimp only; rw [ha, hb, List.length_append]; rfl, (by repeat' (first | exact List.Sublist.refl _ | exact List.nil_sublist _ | apply List.Sublist.cons_cons | apply List.Sublist.cons)), by dsimp only; omega⟩
        · have y2 : ¬ smallOf F[k].1 = codN := y2
          rw [if_neg y2, List.append_nil] at hb
          (conv => whnf); repeat ((first | refine tk1 ?_ | refine tk2 ?_ | refine tk3 ?_ | refine tk12 (fun _ => ?_) | refine tk4 ?_ | refine tk5 ?_ | refine tk6 ?_ | refine tk7 ?_ | refine tk8 ?_ | refine tk9 ?_ | refine tk10 (fun _ _ => ?_) | refine tk11 (fun _ => ?_)); (conv => whnf))
          exact ⟨k + 1, by omega, by dsimp only; rw [ha, hb]; rfl, (by repeat' (first | exact List.Sublist.refl _ | exact List.nil_sublist _ | apply List.Sublist.cons_cons | apply List.Sublist.cons)), by dsimp only; omega⟩
    · rw [List.take_of_length_le (by omega)]
      (conv => whnf); repeat ((first | refine tk1 ?_ | refine tk2 ?_ | refine tk3 ?_ | refine tk12 (fun _ => ?_) | refine tk4 ?_ | refine tk5 ?_ | refine tk6 ?_ | refine tk7 ?_ | refine tk8 ?_ | refine tk9 ?_ | refine tk10 (fun _ _ => ?_) | refine tk11 (fun _ => ?_)); (conv => whnf))
      refine CallK.fn (Small_r n (by omega)) ?_
      (conv => whnf); repeat ((first | refine tk1 ?_ | refine tk2 ?_ | refine tk3 ?_ | refine tk12 (fun _ => ?_) | refine tk4 ?_ | refine tk5 ?_ | refine tk6 ?_ | refine tk7 ?_ | refine tk8 ?_ | refine tk9 ?_ | refine tk10 (fun _ _ => ?_) | refine tk11 (fun _ => ?_)); (conv => whnf))
      refine Cmp.cases (fun y1 => ?_) (fun y1 => ?_)
      · (conv => whnf); repeat ((first | refine tk1 ?_ | refine tk2 ?_ | refine tk3 ?_ | refine tk12 (fun _ => ?_) | refine tk4 ?_ | refine tk5 ?_ | refine tk6 ?_ | refine tk7 ?_ | refine tk8 ?_ | refine tk9 ?_ | refine tk10 (fun _ _ => ?_) | refine tk11 (fun _ => ?_)); (conv => whnf))
        exact fun w' _ => rfl
      (conv => whnf); repeat ((first | refine tk1 ?_ | refine tk2 ?_ | refine tk3 ?_ | refine tk12 (fun _ => ?_) | refine tk4 ?_ | refine tk5 ?_ | refine tk6 ?_ | refine tk7 ?_ | refine tk8 ?_ | refine tk9 ?_ | refine tk10 (fun _ _ => ?_) | refine tk11 (fun _ => ?_)); (conv => whnf))
      refine Cmp.cases (fun y2 => ?_) (fun y2 => ?_)
      · (conv => whnf); repeat ((first | refine tk1 ?_ | refine tk2 ?_ | refine tk3 ?_ | refine tk12 (fun _ => ?_) | refine tk4 ?_ | refine tk5 ?_ | refine tk6 ?_ | refine tk7 ?_ | refine tk8 ?_ | refine tk9 ?_ | refine tk10 (fun _ _ => ?_) | refine tk11 (fun _ => ?_)); (conv => whnf))
        exact fun w' _ => rfl
      (conv => whnf); repeat ((first | refine tk1 ?_ | refine tk2 ?_ | refine tk3 ?_ | refine tk12 (fun _ => ?_) | refine tk4 ?_ | refine tk5 ?_ | refine tk6 ?_ | refine tk7 ?_ | refine tk8 ?_ | refine tk9 ?_ | refine tk10 (fun _ _ => ?_) | refine tk11 (fun _ => ?_)); (conv => whnf))
      refine Cmp.cases (fun y3 => ?_) (fun y3 => ?_)
      · (conv => whnf); repeat ((first | refine tk1 ?_ | refine tk2 ?_ | refine tk3 ?_ | refine tk12 (fun _ => ?_) | refine tk4 ?_ | refine tk5 ?_ | refine tk6 ?_ | refine tk7 ?_ | refine tk8 ?_ | refine tk9 ?_ | refine tk10 (fun _ _ => ?_) | refine tk11 (fun _ => ?_)); (conv => whnf))
        exact fun w' _ => rfl
      have hcs : sizeOf ((n, x) :: F) v = (0, 0, 400) := by rw [sizeOf_cons (n, x) F v y1 y2 y3, hs]
      have hsn : sizeOf (F ++ [(n, x)]) v = (0, 0, 400) := by rw [sizeOf_snoc (n, x) F v y1 y2 y3, hs]
      (conv => whnf); repeat ((first | refine tk1 ?_ | refine tk2 ?_ | refine tk3 ?_ | refine tk12 (fun _ => ?_) | refine tk4 ?_ | refine tk5 ?_ | refine tk6 ?_ | refine tk7 ?_ | refine tk8 ?_ | refine tk9 ?_ | refine tk10 (fun _ _ => ?_) | refine tk11 (fun _ => ?_)); (conv => whnf))
      refine DrawS.join (fun (y : Nat × Nat) u => [u 0, u 1, .pointer (some ⟨p2, 0, none⟩), .pointer (some ⟨p3, 0, none⟩), u 4, .bool true, .int .u8 0, .int .i64 0, .int .i64 400, u 9, u 10, u 11, u 12, .pointer (some ⟨y.1, 0, none⟩), .pointer (some ⟨y.2, 0, none⟩), u 15, u 16, u 17, u 18, u 19, u 20, u 21, u 22, u 23, u 24, u 25, u 26, u 27, u 28, u 29, u 30, u 31, u 32, u 33, u 34, u 35, u 36, u 37, u 38, u 39, u 40, u 41, u 42, u 43, u 44, u 45, u 46, u 47, u 48, u 49, u 50, u 51, u 52, u 53, u 54, u 55, u 56, u 57, u 58, u 59, u 60, u 61, u 62, u 63, u 64, u 65, u 66, u 67, u 68, u 69, u 70, u 71, u 72, u 73, u 74, u 75, u 76, u 77, u 78, u 79, u 80, u 81, u 82, u 83, u 84, u 85, u 86, u 87, u 88, u 89, u 90, u 91, u 92, u 93, u 94, u 95, u 96, u 97, u 98, u 99, u 100, u 101, u 102, u 103, u 104, u 105, u 106, u 107, u 108, u 109, u 110, u 111, u 112, u 113, u 114, u 115, u 116, u 117, u 118, u 119, u 120, u 121, u 122, u 123, u 124, u 125, u 126, u 127, u 128, u 129, u 130, u 131, u 132, u 133, u 134, u 135, u 136, u 137, u 138, u 139, u 140, u 141, u 142, u 143, u 144, u 145, u 146, u 147, u 148, u 149, u 150, u 151, u 152, u 153, u 154, u 155, u 156, u 157, u 158, u 159, u 160, u 161, u 162, u 163, u 164, u 165, u 166, u 167, u 168, u 169, u 170, u 171, u 172, u 173, u 174, u 175, u 176, u 177, u 178, u 179, u 180, u 181, u 182, u 183, u 184])
        (fun y => [.box y.1 [str m, str p, str q, .int .i64 v, .slice A F.length cp, .slice C bn bc] 28, .box y.2 [str m, str p, str q, .int .i64 v, .slice A F.length cp, .slice C bn bc] 28, .box p3 [str n, str x] 39, .box p2 [str m, str p, str q, .int .i64 v, .slice A F.length cp, .slice C bn bc] 28])
        [] (.q 0 (.ch 1 (.ch 2 (.a 3 (.a 4 (.a 5 (.nil)))) (.ch 3 (.a 2 (.a 4 (.a 5 (.nil)))) (.stop))) (.ch 2 (.ch 1 (.a 3 (.a 4 (.a 5 (.nil)))) (.ch 3 (.ch 1 (.a 4 (.a 5 (.nil))) (.ch 4 (.q 1 (.a 5 (.nil))) (.stop))) (.stop))) (.ch 3 (.ch 1 (.a 2 (.a 4 (.a 5 (.nil)))) (.ch 2 (.ch 1 (.a 4 (.a 5 (.nil))) (.ch 4 (.q 1 (.a 5 (.nil))) (.stop))) (.stop))) (.stop))))) tys_ok mixed (by kernel_rfl) ?_ ?_
      · (repeat' ((conv => whnf); first | (first | refine tk1 ?_ | refine tk2 ?_ | refine tk3 ?_ | refine tk12 (fun _ => ?_) | refine tk4 ?_ | refine tk5 ?_ | refine tk6 ?_ | refine tk7 ?_ | refine tk8 ?_ | refine tk9 ?_ | refine tk10 (fun _ _ => ?_) | refine tk11 (fun _ => ?_)) | refine And.intro ?_ ?_ | exact trivial | exact ⟨(_, _), rfl, (by repeat' (first | exact Cov.nil | refine Cov.cons (by first | exact Pick.here | exact Pick.here.skip | exact Pick.here.skip.skip | exact Pick.here.skip.skip.skip | exact Pick.here.skip.skip.skip.skip | exact Pick.here.skip.skip.skip.skip.skip | exact Pick.here.skip.skip.skip.skip.skip.skip) ?_))⟩ | fail))
      rintro ⟨b13, b14⟩ u
      dsimp only
      (conv => whnf); repeat ((first | refine tk1 ?_ | refine tk2 ?_ | refine tk3 ?_ | refine tk12 (fun _ => ?_) | refine tk4 ?_ | refine tk5 ?_ | refine tk6 ?_ | refine tk7 ?_ | refine tk8 ?_ | refine tk9 ?_ | refine tk10 (fun _ _ => ?_) | refine tk11 (fun _ => ?_)); (conv => whnf))
      refine AppS.tc (m := F.length) (news := fcells F) SrcK.tc (by rw [fcells_length]; omega) (fcells_one F) (by decide) (by omega) (by omega) (zs := fcells ((n, x) :: F)) rfl (fun B1 c1 => ?_)
      rw [show 1 + F.length = ((n, x) :: F).length by simp; omega]
      (conv => whnf); repeat ((first | refine tk1 ?_ | refine tk2 ?_ | refine tk3 ?_ | refine tk12 (fun _ => ?_) | refine tk4 ?_ | refine tk5 ?_ | refine tk6 ?_ | refine tk7 ?_ | refine tk8 ?_ | refine tk9 ?_ | refine tk10 (fun _ _ => ?_) | refine tk11 (fun _ => ?_)); (conv => whnf))
      refine DrawS.join (fun (y : Option Addr × Nat) u => [u 0, u 1, u 2, u 3, u 4, .bool true, .int .u8 0, .int .i64 0, .int .i64 400, u 9, u 10, u 11, u 12, .pointer (some ⟨b13, 0, none⟩), .pointer (some ⟨b14, 0, none⟩), u 15, u 16, u 17, u 18, u 19, u 20, u 21, u 22, u 23, u 24, u 25, u 26, u 27, u 28, u 29, u 30, u 31, u 32, u 33, u 34, u 35, u 36, u 37, u 38, u 39, u 40, u 41, u 42, u 43, u 44, u 45, u 46, u 47, u 48, u 49, u 50, u 51, u 52, u 53, u 54, u 55, u 56, u 57, u 58, u 59, u 60, u 61, u 62, u 63, u 64, u 65, u 66, u 67, u 68, u 69, u 70, u 71, u 72, u 73, u 74, u 75, u 76, u 77, u 78, u 79, u 80, u 81, u 82, u 83, u 84, u 85, u 86, u 87, u 88, u 89, u 90, u 91, u 92, u 93, u 94, u 95, u 96, u 97, u 98, u 99, u 100, u 101, u 102, u 103, u 104, u 105, u 106, u 107, u 108, u 109, u 110, u 111, u 112, u 113, u 114, u 115, u 116, u 117, u 118, u 119, u 120, u 121, u 122, u 123, u 124, u 125, u 126, u 127, u 128, u 129, u 130, u 131, u 132, u 133, u 134, u 135, u 136, u 137, u 138, u 139, u 140, u 141, u 142, u 143, u 144, u 145, u 146, u 147, u 148, u 149, u 150, u 151, u 152, u 153, u 154, u 155, u 156, u 157, u 158, u 159, u 160, u 161, u 162, u 163, u 164, u 165, u 166, u 167, u 168, u 169, u 170, u 171, u 172, u 173, u 174, u 175, u 176, u 177, u 178, u 179, u 180, u 181, u 182, u 183, u 184])
        (fun y => [.box b13 [str m, str p, str q, .int .i64 v, .slice B1 ((n, x) :: F).length c1, .slice C bn bc] 28, .box b14 [str m, str p, str q, .int .i64 v, .slice y.1 (F ++ [(n, x)]).length y.2, .slice C bn bc] 28, .row (.slice B1 ((n, x) :: F).length c1) 39 2 ((n, x) :: F).length (fcells ((n, x) :: F)), .row (.slice y.1 (F ++ [(n, x)]).length y.2) 39 2 (F ++ [(n, x)]).length (fcells (F ++ [(n, x)]))])
        [] (.q 0 (.q 1 (.ch 2 (.q 3 (.a 4 (.a 5 (.q 6 (.a 7 (.nil)))))) (.ch 3 (.ch 2 (.a 4 (.a 5 (.q 6 (.a 7 (.nil))))) (.ch 4 (.a 2 (.a 5 (.q 6 (.a 7 (.nil))))) (.stop))) (.stop))))) tys_ok mixed (by kernel_rfl) ?_ ?_
      · (repeat' ((conv => whnf); first | (first | refine tk1 ?_ | refine tk2 ?_ | refine tk3 ?_ | refine tk12 (fun _ => ?_) | refine tk4 ?_ | refine tk5 ?_ | refine tk6 ?_ | refine tk7 ?_ | refine tk8 ?_ | refine tk9 ?_ | refine tk10 (fun _ _ => ?_) | refine tk11 (fun _ => ?_)) | refine And.intro ?_ ?_ | exact trivial | exact ⟨(_, _), rfl, (by repeat' (first | exact Cov.nil | refine Cov.cons (by first | exact Pick.here | exact Pick.here.skip | exact Pick.here.skip.skip | exact Pick.here.skip.skip.skip | exact Pick.here.skip.skip.skip.skip | exact Pick.here.skip.skip.skip.skip.skip | exact Pick.here.skip.skip.skip.skip.skip.skip) ?_))⟩ | (refine AppS.t0 (m := F.length) (news := fcells F) SrcK.tc (by rw [fcells_length]; omega) (fcells_one F) (by decide) (by omega) (by omega) (fun B2 c2 => ?_)) | (refine AppS.tc (m := 1) (news := [str n, str x]) SrcK.tc rfl (by simp [Value.oneCell']) (by decide) (by omega) (by omega) (zs := fcells (F ++ [(n, x)])) (by rw [fcells_app]; rfl) (fun B3 c3 => ?_); rw [show F.length + 1 = (F ++ [(n, x)]).length by simp])))
      rintro ⟨B3, c3⟩ u
      dsimp only
      (conv => whnf); repeat ((first | refine tk1 ?_ | refine tk2 ?_ | refine tk3 ?_ | refine tk12 (fun _ => ?_) | refine tk4 ?_ | refine tk5 ?_ | refine tk6 ?_ | refine tk7 ?_ | refine tk8 ?_ | refine tk9 ?_ | refine tk10 (fun _ _ => ?_) | refine tk11 (fun _ => ?_)); (conv => whnf))
      refine CallK.fnR (Of_s m p q v B1 c1 ((n, x) :: F) (.slice C bn bc) zc hv hcs) ⟨RdA.ok, trivial⟩ ?_
      (conv => whnf); repeat ((first | refine tk1 ?_ | refine tk2 ?_ | refine tk3 ?_ | refine tk12 (fun _ => ?_) | refine tk4 ?_ | refine tk5 ?_ | refine tk6 ?_ | refine tk7 ?_ | refine tk8 ?_ | refine tk9 ?_ | refine tk10 (fun _ _ => ?_) | refine tk11 (fun _ => ?_)); (conv => whnf))
      refine CallK.fnR (Of_s m p q v B3 c3 (F ++ [(n, x)]) (.slice C bn bc) zs hv hsn) ⟨RdA.ok, trivial⟩ ?_
      (conv => whnf); repeat ((first | refine tk1 ?_ | refine tk2 ?_ | refine tk3 ?_ | refine tk12 (fun _ => ?_) | refine tk4 ?_ | refine tk5 ?_ | refine tk6 ?_ | refine tk7 ?_ | refine tk8 ?_ | refine tk9 ?_ | refine tk10 (fun _ _ => ?_) | refine tk11 (fun _ => ?_)); (conv => whnf))
      exact fun w' _ => rfl
  · refine CallK.fnR (Of_s m p q v A cp F (.slice C bn bc) (by omega) hv hs) ⟨RdA.ok, trivial⟩ ?_
    (conv => whnf); repeat ((first | refine tk1 ?_ | refine tk2 ?_ | refine tk3 ?_ | refine tk12 (fun _ => ?_) | refine tk4 ?_ | refine tk5 ?_ | refine tk6 ?_ | refine tk7 ?_ | refine tk8 ?_ | refine tk9 ?_ | refine tk10 (fun _ _ => ?_) | refine tk11 (fun _ => ?_)); (conv => whnf))
    refine LoopS.lp tys_ok (fun (k : Nat) u => [u 0, u 1, .pointer (some ⟨p2, 0, none⟩), .pointer (some ⟨p3, 0, none⟩), u 4, .bool true, .int .u8 0, .int .i64 0, .int .i64 501, .int .i64 (allOf (F.take k) lenN).length, .int .i64 (allOf (F.take k) codN).length, .int .i64 (k : Nat), u 12, u 13, u 14, u 15, u 16, u 17, u 18, u 19, u 20, u 21, u 22, u 23, u 24, u 25, u 26, u 27, u 28, u 29, u 30, u 31, u 32, u 33, u 34, u 35, u 36, u 37, u 38, u 39, u 40, u 41, u 42, u 43, u 44, u 45, u 46, u 47, u 48, u 49, u 50, u 51, u 52, u 53, u 54, u 55, u 56, u 57, u 58, u 59, u 60, u 61, u 62, u 63, u 64, u 65, u 66, u 67, u 68, u 69, u 70, u 71, u 72, u 73, u 74, u 75, u 76, u 77, u 78, u 79, u 80, u 81, u 82, u 83, u 84, u 85, u 86, u 87, u 88, u 89, u 90, u 91, u 92, u 93, u 94, u 95, u 96, u 97, u 98, u 99, u 100, u 101, u 102, u 103, u 104, u 105, u 106, u 107, u 108, u 109, u 110, u 111, u 112, u 113, u 114, u 115, u 116, u 117, u 118, u 119, u 120, u 121, u 122, u 123, u 124, u 125, u 126, u 127, u 128, u 129, u 130, u 131, u 132, u 133, u 134, u 135, u 136, u 137, u 138, u 139, u 140, u 141, u 142, u 143, u 144, u 145, u 146, u 147, u 148, u 149, u 150, u 151, u 152, u 153, u 154, u 155, u 156, u 157, u 158, u 159, u 160, u 161, u 162, u 163, u 164, u 165, u 166, u 167, u 168, u 169, u 170, u 171, u 172, u 173, u 174, u 175, u 176, u 177, u 178, u 179, u 180, u 181, u 182, u 183, u 184])
      (fun _ => [.box p3 [str n, str x] 39, .box p2 [str m, str p, str q, .int .i64 v, .slice A F.length cp, .slice C bn bc] 28])
      (fun k => k ≤ F.length) (fun k => F.length - k) 0 (Nat.zero_le _) rfl (by repeat' (first | exact List.Sublist.refl _ | exact List.nil_sublist _ | apply List.Sublist.cons_cons | apply List.Sublist.cons)) ?_
    intro k u hk
    (conv => whnf); repeat ((first | refine tk1 ?_ | refine tk2 ?_ | refine tk3 ?_ | refine tk12 (fun _ => ?_) | refine tk4 ?_ | refine tk5 ?_ | refine tk6 ?_ | refine tk7 ?_ | refine tk8 ?_ | refine tk9 ?_ | refine tk10 (fun _ _ => ?_) | refine tk11 (fun _ => ?_)); (conv => whnf))
    refine Cmp.cases (fun hlt => ?_) (fun hlt => ?_)
    · have hlt' : k < F.length := by omega
      have ha := allOf_take F lenN k hlt'
      have hb := allOf_take F codN k hlt'
      rw [show smallOf lenN = lenN by decide] at ha
      rw [show smallOf codN = codN by decide] at hb
      have z4 := allOf_le (F.take k) lenN
      have z5 := allOf_le (F.take k) codN
      rw [List.length_take] at z4 z5
      (conv => whnf); repeat ((first | refine tk1 ?_ | refine tk2 ?_ | refine tk3 ?_ | refine tk12 (fun _ => ?_) | refine tk4 ?_ | refine tk5 ?_ | refine tk6 ?_ | refine tk7 ?_ | refine tk8 ?_ | refine tk9 ?_ | refine tk10 (fun _ _ => ?_) | refine tk11 (fun _ => ?_)); (conv => whnf))
      refine IdxA.tc (by rw [fcells_length]; omega) (by omega) (by omega) ?_
      (conv => whnf); repeat ((first | refine tk1 ?_ | refine tk2 ?_ | refine tk3 ?_ | refine tk12 (fun _ => ?_) | refine tk4 ?_ | refine tk5 ?_ | refine tk6 ?_ | refine tk7 ?_ | refine tk8 ?_ | refine tk9 ?_ | refine tk10 (fun _ _ => ?_) | refine tk11 (fun _ => ?_)); (conv => whnf))
      refine Ld.taF (fcells_0 F k hlt') ?_
      (conv => whnf); repeat ((first | refine tk1 ?_ | refine tk2 ?_ | refine tk3 ?_ | refine tk12 (fun _ => ?_) | refine tk4 ?_ | refine tk5 ?_ | refine tk6 ?_ | refine tk7 ?_ | refine tk8 ?_ | refine tk9 ?_ | refine tk10 (fun _ _ => ?_) | refine tk11 (fun _ => ?_)); (conv => whnf))
      refine CallK.fn (Small_r F[k].1 (by have := fsum_mem (List.getElem_mem hlt'); omega)) ?_
      (conv => whnf); repeat ((first | refine tk1 ?_ | refine tk2 ?_ | refine tk3 ?_ | refine tk12 (fun _ => ?_) | refine tk4 ?_ | refine tk5 ?_ | refine tk6 ?_ | refine tk7 ?_ | refine tk8 ?_ | refine tk9 ?_ | refine tk10 (fun _ _ => ?_) | refine tk11 (fun _ => ?_)); (conv => whnf))
      refine Cmp.cases (fun y1 => ?_) (fun y1 => ?_)
      · have y1 : smallOf F[k].1 = lenN := y1
        rw [if_pos y1] at ha
        rw [if_neg (by rw [y1]; decide), List.append_nil] at hb
        (conv => whnf); repeat ((first | refine tk1 ?_ | refine tk2 ?_ | refine tk3 ?_ | refine tk12 (fun _ => ?_) | refine tk4 ?_ | refine tk5 ?_ | refine tk6 ?_ | refine tk7 ?_ | refine tk8 ?_ | refine tk9 ?_ | refine tk10 (fun _ _ => ?_) | refine tk11 (fun _ => ?_)); (conv => whnf))
        exact ⟨k + 1, by omega, by dsimp only; rw [ha, hb, List.length_append]; rfl, (by repeat' (first | exact List.Sublist.refl _ | exact List.nil_sublist _ | apply List.Sublist.cons_cons | apply List.Sublist.cons)), by dsimp only; omega⟩
      · have y1 : ¬ smallOf F[k].1 = lenN := y1
        rw [if_neg y1, List.append_nil] at ha
        (conv => whnf); repeat ((first | refine tk1 ?_ | refine tk2 ?_ | refine tk3 ?_ | refine tk12 (fun _ => ?_) | refine tk4 ?_ | refine tk5 ?_ | refine tk6 ?_ | refine tk7 ?_ | refine tk8 ?_ | refine tk9 ?_ | refine tk10 (fun _ _ => ?_) | refine tk11 (fun _ => ?_)); (conv => whnf))
        refine Cmp.cases (fun y2 => ?_) (fun y2 => ?_)
        · have y2 : smallOf F[k].1 = codN := y2
          rw [if_pos y2] at hb
          (conv => whnf); repeat ((first | refine tk1 ?_ | refine tk2 ?_ | refine tk3 ?_ | refine tk12 (fun _ => ?_) | refine tk4 ?_ | refine tk5 ?_ | refine tk6 ?_ | refine tk7 ?_ | refine tk8 ?_ | refine tk9 ?_ | refine tk10 (fun _ _ => ?_) | refine tk11 (fun _ => ?_)); (conv => whnf))
          exact ⟨k + 1, by omega, by dsimp only; rw [ha, hb, List.length_append]; rfl, (by repeat' (first | exact List.Sublist.refl _ | exact List.nil_sublist _ | apply List.Sublist.cons_cons | apply List.Sublist.cons)), by dsimp only; omega⟩
        · have y2 : ¬ smallOf F[k].1 = codN := y2
          rw [if_neg y2, List.append_nil] at hb
          (conv => whnf); repeat ((first | refine tk1 ?_ | refine tk2 ?_ | refine tk3 ?_ | refine tk12 (fun _ => ?_) | refine tk4 ?_ | refine tk5 ?_ | refine tk6 ?_ | refine tk7 ?_ | refine tk8 ?_ | refine tk9 ?_ | refine tk10 (fun _ _ => ?_) | refine tk11 (fun _ => ?_)); (conv => whnf))
          exact ⟨k + 1, by omega, by dsimp only; rw [ha, hb]; rfl, (by repeat' (first | exact List.Sublist.refl _ | exact List.nil_sublist _ | apply List.Sublist.cons_cons | apply List.Sublist.cons)), by dsimp only; omega⟩
    · rw [List.take_of_length_le (by omega)]
      (conv => whnf); repeat ((first | refine tk1 ?_ | refine tk2 ?_ | refine tk3 ?_ | refine tk12 (fun _ => ?_) | refine tk4 ?_ | refine tk5 ?_ | refine tk6 ?_ | refine tk7 ?_ | refine tk8 ?_ | refine tk9 ?_ | refine tk10 (fun _ _ => ?_) | refine tk11 (fun _ => ?_)); (conv => whnf))
      refine CallK.fn (Small_r n (by omega)) ?_
      (conv => whnf); repeat ((first | refine tk1 ?_ | refine tk2 ?_ | refine tk3 ?_ | refine tk12 (fun _ => ?_) | refine tk4 ?_ | refine tk5 ?_ | refine tk6 ?_ | refine tk7 ?_ | refine tk8 ?_ | refine tk9 ?_ | refine tk10 (fun _ _ => ?_) | refine tk11 (fun _ => ?_)); (conv => whnf))
      refine Cmp.cases (fun y1 => ?_) (fun y1 => ?_)
      · (conv => whnf); repeat ((first | refine tk1 ?_ | refine tk2 ?_ | refine tk3 ?_ | refine tk12 (fun _ => ?_) | refine tk4 ?_ | refine tk5 ?_ | refine tk6 ?_ | refine tk7 ?_ | refine tk8 ?_ | refine tk9 ?_ | refine tk10 (fun _ _ => ?_) | refine tk11 (fun _ => ?_)); (conv => whnf))
        exact fun w' _ => rfl
      (conv => whnf); repeat ((first | refine tk1 ?_ | refine tk2 ?_ | refine tk3 ?_ | refine tk12 (fun _ => ?_) | refine tk4 ?_ | refine tk5 ?_ | refine tk6 ?_ | refine tk7 ?_ | refine tk8 ?_ | refine tk9 ?_ | refine tk10 (fun _ _ => ?_) | refine tk11 (fun _ => ?_)); (conv => whnf))
      refine Cmp.cases (fun y2 => ?_) (fun y2 => ?_)
      · (conv => whnf); repeat ((first | refine tk1 ?_ | refine tk2 ?_ | refine tk3 ?_ | refine tk12 (fun _ => ?_) | refine tk4 ?_ | refine tk5 ?_ | refine tk6 ?_ | refine tk7 ?_ | refine tk8 ?_ | refine tk9 ?_ | refine tk10 (fun _ _ => ?_) | refine tk11 (fun _ => ?_)); (conv => whnf))
        exact fun w' _ => rfl
      (conv => whnf); repeat ((first | refine tk1 ?_ | refine tk2 ?_ | refine tk3 ?_ | refine tk12 (fun _ => ?_) | refine tk4 ?_ | refine tk5 ?_ | refine tk6 ?_ | refine tk7 ?_ | refine tk8 ?_ | refine tk9 ?_ | refine tk10 (fun _ _ => ?_) | refine tk11 (fun _ => ?_)); (conv => whnf))
      refine Cmp.cases (fun y3 => ?_) (fun y3 => ?_)
      · (conv => whnf); repeat ((first | refine tk1 ?_ | refine tk2 ?_ | refine tk3 ?_ | refine tk12 (fun _ => ?_) | refine tk4 ?_ | refine tk5 ?_ | refine tk6 ?_ | refine tk7 ?_ | refine tk8 ?_ | refine tk9 ?_ | refine tk10 (fun _ _ => ?_) | refine tk11 (fun _ => ?_)); (conv => whnf))
        exact fun w' _ => rfl
      have hcs : sizeOf ((n, x) :: F) v = (0, 0, 501) := by rw [sizeOf_cons (n, x) F v y1 y2 y3, hs]
      have hsn : sizeOf (F ++ [(n, x)]) v = (0, 0, 501) := by rw [sizeOf_snoc (n, x) F v y1 y2 y3, hs]
      (conv => whnf); repeat ((first | refine tk1 ?_ | refine tk2 ?_ | refine tk3 ?_ | refine tk12 (fun _ => ?_) | refine tk4 ?_ | refine tk5 ?_ | refine tk6 ?_ | refine tk7 ?_ | refine tk8 ?_ | refine tk9 ?_ | refine tk10 (fun _ _ => ?_) | refine tk11 (fun _ => ?_)); (conv => whnf))
      refine DrawS.join (fun (y : Nat × Nat) u => [u 0, u 1, .pointer (some ⟨p2, 0, none⟩), .pointer (some ⟨p3, 0, none⟩), u 4, .bool true, .int .u8 0, .int .i64 0, .int .i64 501, u 9, u 10, u 11, u 12, .pointer (some ⟨y.1, 0, none⟩), .pointer (some ⟨y.2, 0, none⟩), u 15, u 16, u 17, u 18, u 19, u 20, u 21, u 22, u 23, u 24, u 25, u 26, u 27, u 28, u 29, u 30, u 31, u 32, u 33, u 34, u 35, u 36, u 37, u 38, u 39, u 40, u 41, u 42, u 43, u 44, u 45, u 46, u 47, u 48, u 49, u 50, u 51, u 52, u 53, u 54, u 55, u 56, u 57, u 58, u 59, u 60, u 61, u 62, u 63, u 64, u 65, u 66, u 67, u 68, u 69, u 70, u 71, u 72, u 73, u 74, u 75, u 76, u 77, u 78, u 79, u 80, u 81, u 82, u 83, u 84, u 85, u 86, u 87, u 88, u 89, u 90, u 91, u 92, u 93, u 94, u 95, u 96, u 97, u 98, u 99, u 100, u 101, u 102, u 103, u 104, u 105, u 106, u 107, u 108, u 109, u 110, u 111, u 112, u 113, u 114, u 115, u 116, u 117, u 118, u 119, u 120, u 121, u 122, u 123, u 124, u 125, u 126, u 127, u 128, u 129, u 130, u 131, u 132, u 133, u 134, u 135, u 136, u 137, u 138, u 139, u 140, u 141, u 142, u 143, u 144, u 145, u 146, u 147, u 148, u 149, u 150, u 151, u 152, u 153, u 154, u 155, u 156, u 157, u 158, u 159, u 160, u 161, u 162, u 163, u 164, u 165, u 166, u 167, u 168, u 169, u 170, u 171, u 172, u 173, u 174, u 175, u 176, u 177, u 178, u 179, u 180, u 181, u 182, u 183, u 184])
        (fun y => [.box y.1 [str m, str p, str q, .int .i64 v, .slice A F.length cp, .slice C bn bc] 28, .box y.2 [str m, str p, str q, .int .i64 v, .slice A F.length cp, .slice C bn bc] 28, .box p3 [str n, str x] 39, .box p2 [str m, str p, str q, .int .i64 v, .slice A F.length cp, .slice C bn bc] 28])
        [] (.q 0 (.ch 1 (.ch 2 (.a 3 (.a 4 (.a 5 (.nil)))) (.ch 3 (.a 2 (.a 4 (.a 5 (.nil)))) (.stop))) (.ch 2 (.ch 1 (.a 3 (.a 4 (.a 5 (.nil)))) (.ch 3 (.ch 1 (.a 4 (.a 5 (.nil))) (.ch 4 (.q 1 (.a 5 (.nil))) (.stop))) (.stop))) (.ch 3 (.ch 1 (.a 2 (.a 4 (.a 5 (.nil)))) (.ch 2 (.ch 1 (.a 4 (.a 5 (.nil))) (.ch 4 (.q 1 (.a 5 (.nil))) (.stop))) (.stop))) (.stop))))) tys_ok mixed (by kernel_rfl) ?_ ?_
      · (repeat' ((conv => whnf); first | (first | refine tk1 ?_ | refine tk2 ?_ | refine tk3 ?_ | refine tk12 (fun _ => ?_) | refine tk4 ?_ | refine tk5 ?_ | refine tk6 ?_ | refine tk7 ?_ | refine tk8 ?_ | refine tk9 ?_ | refine tk10 (fun _ _ => ?_) | refine tk11 (fun _ => ?_)) | refine And.intro ?_ ?_ | exact trivial | exact ⟨(_, _), rfl, (by repeat' (first | exact Cov.nil | refine Cov.cons (by first | exact Pick.here | exact Pick.here.skip | exact Pick.here.skip.skip | exact Pick.here.skip.skip.skip | exact Pick.here.skip.skip.skip.skip | exact Pick.here.skip.skip.skip.skip.skip | exact Pick.here.skip.skip.skip.skip.skip.skip) ?_))⟩ | fail))
      rintro ⟨b13, b14⟩ u
      dsimp only
      (conv => whnf); repeat ((first | refine tk1 ?_ | refine tk2 ?_ | refine tk3 ?_ | refine tk12 (fun _ => ?_) | refine tk4 ?_ | refine tk5 ?_ | refine tk6 ?_ | refine tk7 ?_ | refine tk8 ?_ | refine tk9 ?_ | refine tk10 (fun _ _ => ?_) | refine tk11 (fun _ => ?_)); (conv => whnf))
      refine AppS.tc (m := F.length) (news := fcells F) SrcK.tc (by rw [fcells_length]; omega) (fcells_one F) (by decide) (by omega) (by omega) (zs := fcells ((n, x) :: F)) rfl (fun B1 c1 => ?_)
      rw [show 1 + F.length = ((n, x) :: F).length by simp; omega]
      (conv => whnf); repeat ((first | refine tk1 ?_ | refine tk2 ?_ | refine tk3 ?_ | refine tk12 (fun _ => ?_) | refine tk4 ?_ | refine tk5 ?_ | refine tk6 ?_ | refine tk7 ?_ | refine tk8 ?_ | refine tk9 ?_ | refine tk10 (fun _ _ => ?_) | refine tk11 (fun _ => ?_)); (conv => whnf))
      refine DrawS.join (fun (y : Option Addr × Nat) u => [u 0, u 1, u 2, u 3, u 4, .bool true, .int .u8 0, .int .i64 0, .int .i64 501, u 9, u 10, u 11, u 12, .pointer (some ⟨b13, 0, none⟩), .pointer (some ⟨b14, 0, none⟩), u 15, u 16, u 17, u 18, u 19, u 20, u 21, u 22, u 23, u 24, u 25, u 26, u 27, u 28, u 29, u 30, u 31, u 32, u 33, u 34, u 35, u 36, u 37, u 38, u 39, u 40, u 41, u 42, u 43, u 44, u 45, u 46, u 47, u 48, u 49, u 50, u 51, u 52, u 53, u 54, u 55, u 56, u 57, u 58, u 59, u 60, u 61, u 62, u 63, u 64, u 65, u 66, u 67, u 68, u 69, u 70, u 71, u 72, u 73, u 74, u 75, u 76, u 77, u 78, u 79, u 80, u 81, u 82, u 83, u 84, u 85, u 86, u 87, u 88, u 89, u 90, u 91, u 92, u 93, u 94, u 95, u 96, u 97, u 98, u 99, u 100, u 101, u 102, u 103, u 104, u 105, u 106, u 107, u 108, u 109, u 110, u 111, u 112, u 113, u 114, u 115, u 116, u 117, u 118, u 119, u 120, u 121, u 122, u 123, u 124, u 125, u 126, u 127, u 128, u 129, u 130, u 131, u 132, u 133, u 134, u 135, u 136, u 137, u 138, u 139, u 140, u 141, u 142, u 143, u 144, u 145, u 146, u 147, u 148, u 149, u 150, u 151, u 152, u 153, u 154, u 155, u 156, u 157, u 158, u 159, u 160, u 161, u 162, u 163, u 164, u 165, u 166, u 167, u 168, u 169, u 170, u 171, u 172, u 173, u 174, u 175, u 176, u 177, u 178, u 179, u 180, u 181, u 182, u 183, u 184])
        (fun y => [.box b13 [str m, str p, str q, .int .i64 v, .slice B1 ((n, x) :: F).length c1, .slice C bn bc] 28, .box b14 [str m, str p, str q, .int .i64 v, .slice y.1 (F ++ [(n, x)]).length y.2, .slice C bn bc] 28, .row (.slice B1 ((n, x) :: F).length c1) 39 2 ((n, x) :: F).length (fcells ((n, x) :: F)), .row (.slice y.1 (F ++ [(n, x)]).length y.2) 39 2 (F ++ [(n, x)]).length (fcells (F ++ [(n, x)]))])
        [] (.q 0 (.q 1 (.ch 2 (.q 3 (.a 4 (.a 5 (.q 6 (.a 7 (.nil)))))) (.ch 3 (.ch 2 (.a 4 (.a 5 (.q 6 (.a 7 (.nil))))) (.ch 4 (.a 2 (.a 5 (.q 6 (.a 7 (.nil))))) (.stop))) (.stop))))) tys_ok mixed (by kernel_rfl) ?_ ?_
      · (repeat' ((conv => whnf); first | (first | refine tk1 ?_ | refine tk2 ?_ | refine tk3 ?_ | refine tk12 (fun _ => ?_) | refine tk4 ?_ | refine tk5 ?_ | refine tk6 ?_ | refine tk7 ?_ | refine tk8 ?_ | refine tk9 ?_ | refine tk10 (fun _ _ => ?_) | refine tk11 (fun _ => ?_)) | refine And.intro ?_ ?_ | exact trivial | exact ⟨(_, _), rfl, (by repeat' (first | exact Cov.nil | refine Cov.cons (by first | exact Pick.here | exact Pick.here.skip | exact Pick.here.skip.skip | exact Pick.here.skip.skip.skip | exact Pick.here.skip.skip.skip.skip | exact Pick.here.skip.skip.skip.skip.skip | exact Pick.here.skip.skip.skip.skip.skip.skip) ?_))⟩ | (refine AppS.t0 (m := F.length) (news := fcells F) SrcK.tc (by rw [fcells_length]; omega) (fcells_one F) (by decide) (by omega) (by omega) (fun B2 c2 => ?_)) | (refine AppS.tc (m := 1) (news := [str n, str x]) SrcK.tc rfl (by simp [Value.oneCell']) (by decide) (by omega) (by omega) (zs := fcells (F ++ [(n, x)])) (by rw [fcells_app]; rfl) (fun B3 c3 => ?_); rw [show F.length + 1 = (F ++ [(n, x)]).length by simp])))
      rintro ⟨B3, c3⟩ u
      dsimp only
      (conv => whnf); repeat ((first | refine tk1 ?_ | refine tk2 ?_ | refine tk3 ?_ | refine tk12 (fun _ => ?_) | refine tk4 ?_ | refine tk5 ?_ | refine tk6 ?_ | refine tk7 ?_ | refine tk8 ?_ | refine tk9 ?_ | refine tk10 (fun _ _ => ?_) | refine tk11 (fun _ => ?_)); (conv => whnf))
      refine CallK.fnR (Of_s m p q v B1 c1 ((n, x) :: F) (.slice C bn bc) zc hv hcs) ⟨RdA.ok, trivial⟩ ?_
      (conv => whnf); repeat ((first | refine tk1 ?_ | refine tk2 ?_ | refine tk3 ?_ | refine tk12 (fun _ => ?_) | refine tk4 ?_ | refine tk5 ?_ | refine tk6 ?_ | refine tk7 ?_ | refine tk8 ?_ | refine tk9 ?_ | refine tk10 (fun _ _ => ?_) | refine tk11 (fun _ => ?_)); (conv => whnf))
      refine CallK.fnR (Of_s m p q v B3 c3 (F ++ [(n, x)]) (.slice C bn bc) zs hv hsn) ⟨RdA.ok, trivial⟩ ?_
      (conv => whnf); repeat ((first | refine tk1 ?_ | refine tk2 ?_ | refine tk3 ?_ | refine tk12 (fun _ => ?_) | refine tk4 ?_ | refine tk5 ?_ | refine tk6 ?_ | refine tk7 ?_ | refine tk8 ?_ | refine tk9 ?_ | refine tk10 (fun _ _ => ?_) | refine tk11 (fun _ => ?_)); (conv => whnf))
      exact fun w' _ => rfl
  · have g1 : (allOf F codN).length = 0 := by rw [h1]; rfl
    refine CallK.fnR (Of_s m p q v A cp F (.slice C bn bc) (by omega) hv hs) ⟨RdA.ok, trivial⟩ ?_
    (conv => whnf); repeat ((first | refine tk1 ?_ | refine tk2 ?_ | refine tk3 ?_ | refine tk12 (fun _ => ?_) | refine tk4 ?_ | refine tk5 ?_ | refine tk6 ?_ | refine tk7 ?_ | refine tk8 ?_ | refine tk9 ?_ | refine tk10 (fun _ _ => ?_) | refine tk11 (fun _ => ?_)); (conv => whnf))
    refine LoopS.lp tys_ok (fun (k : Nat) u => [u 0, u 1, .pointer (some ⟨p2, 0, none⟩), .pointer (some ⟨p3, 0, none⟩), u 4, .bool true, .int .u8 0, .int .i64 0, .int .i64 200, .int .i64 (allOf (F.take k) lenN).length, .int .i64 (allOf (F.take k) codN).length, .int .i64 (k : Nat), u 12, u 13, u 14, u 15, u 16, u 17, u 18, u 19, u 20, u 21, u 22, u 23, u 24, u 25, u 26, u 27, u 28, u 29, u 30, u 31, u 32, u 33, u 34, u 35, u 36, u 37, u 38, u 39, u 40, u 41, u 42, u 43, u 44, u 45, u 46, u 47, u 48, u 49, u 50, u 51, u 52, u 53, u 54, u 55, u 56, u 57, u 58, u 59, u 60, u 61, u 62, u 63, u 64, u 65, u 66, u 67, u 68, u 69, u 70, u 71, u 72, u 73, u 74, u 75, u 76, u 77, u 78, u 79, u 80, u 81, u 82, u 83, u 84, u 85, u 86, u 87, u 88, u 89, u 90, u 91, u 92, u 93, u 94, u 95, u 96, u 97, u 98, u 99, u 100, u 101, u 102, u 103, u 104, u 105, u 106, u 107, u 108, u 109, u 110, u 111, u 112, u 113, u 114, u 115, u 116, u 117, u 118, u 119, u 120, u 121, u 122, u 123, u 124, u 125, u 126, u 127, u 128, u 129, u 130, u 131, u 132, u 133, u 134, u 135, u 136, u 137, u 138, u 139, u 140, u 141, u 142, u 143, u 144, u 145, u 146, u 147, u 148, u 149, u 150, u 151, u 152, u 153, u 154, u 155, u 156, u 157, u 158, u 159, u 160, u 161, u 162, u 163, u 164, u 165, u 166, u 167, u 168, u 169, u 170, u 171, u 172, u 173, u 174, u 175, u 176, u 177, u 178, u 179, u 180, u 181, u 182, u 183, u 184])
      (fun _ => [.box p3 [str n, str x] 39, .box p2 [str m, str p, str q, .int .i64 v, .slice A F.length cp, .slice C bn bc] 28])
      (fun k => k ≤ F.length) (fun k => F.length - k) 0 (Nat.zero_le _) rfl (by repeat' (first | exact List.Sublist.refl _ | exact List.nil_sublist _ | apply List.Sublist.cons_cons | apply List.Sublist.cons)) ?_
    intro k u hk
    (conv => whnf); repeat ((first | refine tk1 ?_ | refine tk2 ?_ | refine tk3 ?_ | refine tk12 (fun _ => ?_) | refine tk4 ?_ | refine tk5 ?_ | refine tk6 ?_ | refine tk7 ?_ | refine tk8 ?_ | refine tk9 ?_ | refine tk10 (fun _ _ => ?_) | refine tk11 (fun _ => ?_)); (conv => whnf))
    refine Cmp.cases (fun hlt => ?_) (fun hlt => ?_)
    · have hlt' : k < F.length := by omega
      have ha := allOf_take F lenN k hlt'
      have hb := allOf_take F codN k hlt'
      rw [show smallOf lenN = lenN by decide] at ha
      rw [show smallOf codN = codN by decide] at hb
      have z4 := allOf_le (F.take k) lenN
      have z5 := allOf_le (F.take k) codN
      rw [List.length_take] at z4 z5
      (conv => whnf); repeat ((first | refine tk1 ?_ | refine tk2 ?_ | refine tk3 ?_ | refine tk12 (fun _ => ?_) | refine tk4 ?_ | refine tk5 ?_ | refine tk6 ?_ | refine tk7 ?_ | refine tk8 ?_ | refine tk9 ?_ | refine tk10 (fun _ _ => ?_) | refine tk11 (fun _ => ?_)); (conv => whnf))
      refine IdxA.tc (by rw [fcells_length]; omega) (by omega) (by omega) ?_
      (conv => whnf); repeat ((first | refine tk1 ?_ | refine tk2 ?_ | refine tk3 ?_ | refine tk12 (fun _ => ?_) | refine tk4 ?_ | refine tk5 ?_ | refine tk6 ?_ | refine tk7 ?_ | refine tk8 ?_ | refine tk9 ?_ | refine tk10 (fun _ _ => ?_) | refine tk11 (fun _ => ?_)); (conv => whnf))
      refine Ld.taF (fcells_0 F k hlt') ?_
      (conv => whnf); repeat ((first | refine tk1 ?_ | refine tk2 ?_ | refine tk3 ?_ | refine tk12 (fun _ => ?_) | refine tk4 ?_ | refine tk5 ?_ | refine tk6 ?_ | refine tk7 ?_ | refine tk8 ?_ | refine tk9 ?_ | refine tk10 (fun _ _ => ?_) | refine tk11 (fun _ => ?_)); (conv => whnf))
      refine CallK.fn (Small_r F[k].1 (by have := fsum_mem (List.getElem_mem hlt'); omega)) ?_
      (conv => whnf); repeat ((first | refine tk1 ?_ | refine tk2 ?_ | refine tk3 ?_ | refine tk12 (fun _ => ?_) | refine tk4 ?_ | refine tk5 ?_ | refine tk6 ?_ | refine tk7 ?_ | refine tk8 ?_ | refine tk9 ?_ | refine tk10 (fun _ _ => ?_) | refine tk11 (fun _ => ?_)); (conv => whnf))
      refine Cmp.cases (fun y1 => ?_) (fun y1 => ?_)
      · have y1 : smallOf F[k].1 = lenN := y1
        rw [if_pos y1] at ha
        rw [if_neg (by rw [y1]; decide), List.append_nil] at hb
        (conv => whnf); repeat ((first | refine tk1 ?_ | refine tk2 ?_ | refine tk3 ?_ | refine tk12 (fun _ => ?_) | refine tk4 ?_ | refine tk5 ?_ | refine tk6 ?_ | refine tk7 ?_ | refine tk8 ?_ | refine tk9 ?_ | refine tk10 (fun _ _ => ?_) | refine tk11 (fun _ => ?_)); (conv => whnf))
        exact ⟨k + 1, by omega, by dsimp only; rw [ha, hb, List.length_append]; rfl, (by repeat' (first | exact List.Sublist.refl _ | exact List.nil_sublist _ | apply List.Sublist.cons_cons | apply List.Sublist.cons)), by dsimp only; omega⟩
      · have y1 : ¬ smallOf F[k].1 = lenN := y1
        rw [if_neg y1, List.append_nil] at ha
        (conv => whnf); repeat ((first | refine tk1 ?_ | refine tk2 ?_ | refine tk3 ?_ | refine tk12 (fun _ => ?_) | refine tk4 ?_ | refine tk5 ?_ | refine tk6 ?_ | refine tk7 ?_ | refine tk8 ?_ | refine tk9 ?_ | refine tk10 (fun _ _ => ?_) | refine tk11 (fun _ => ?_)); (conv => whnf))
        refine Cmp.cases (fun y2 => ?_) (fun y2 => ?_)
        · have y2 : smallOf F[k].1 = codN := y2
          rw [if_pos y2] at hb
          (conv => whnf); repeat ((first | refine tk1 ?_ | refine tk2 ?_ | refine tk3 ?_ | refine tk12 (fun _ => ?_) | refine tk4 ?_ | refine tk5 ?_ | refine tk6 ?_ | refine tk7 ?_ | refine tk8 ?_ | refine tk9 ?_ | refine tk10 (fun _ _ => ?_) | refine tk11 (fun _ => ?_)); (conv => whnf))
          exact ⟨k + 1, by omega, by dsimp only; rw [ha, hb, List.length_append]; rfl, (by repeat' (first | exact List.Sublist.refl _ | exact List.nil_sublist _ | apply List.Sublist.cons_cons | apply List.Sublist.cons)), by dsimp only; omega⟩
        · have y2 : ¬ smallOf F[k].1 = codN := y2
          rw [if_neg y2, List.append_nil] at hb
          (conv => whnf); repeat ((first | refine tk1 ?_ | refine tk2 ?_ | refine tk3 ?_ | refine tk12 (fun _ => ?_) | refine tk4 ?_ | refine tk5 ?_ | refine tk6 ?_ | refine tk7 ?_ | refine tk8 ?_ | refine tk9 ?_ | refine tk10 (fun _ _ => ?_) | refine tk11 (fun _ => ?_)); (conv => whnf))
          exact ⟨k + 1, by omega, by dsimp only; rw [ha, hb]; rfl, (by repeat' (first | exact List.Sublist.refl _ | exact List.nil_sublist _ | apply List.Sublist.cons_cons | apply List.Sublist.cons)), by dsimp only; omega⟩
    · rw [List.take_of_length_le (by omega)]
      (conv => whnf); repeat ((first | refine tk1 ?_ | refine tk2 ?_ | refine tk3 ?_ | refine tk12 (fun _ => ?_) | refine tk4 ?_ | refine tk5 ?_ | refine tk6 ?_ | refine tk7 ?_ | refine tk8 ?_ | refine tk9 ?_ | refine tk10 (fun _ _ => ?_) | refine tk11 (fun _ => ?_)); (conv => whnf))
      refine CallK.fn (Small_r n (by omega)) ?_
      (conv => whnf); repeat ((first | refine tk1 ?_ | refine tk2 ?_ | refine tk3 ?_ | refine tk12 (fun _ => ?_) | refine tk4 ?_ | refine tk5 ?_ | refine tk6 ?_ | refine tk7 ?_ | refine tk8 ?_ | refine tk9 ?_ | refine tk10 (fun _ _ => ?_) | refine tk11 (fun _ => ?_)); (conv => whnf))
      refine Cmp.cases (fun y1 => ?_) (fun y1 => ?_)
      · (conv => whnf); repeat ((first | refine tk1 ?_ | refine tk2 ?_ | refine tk3 ?_ | refine tk12 (fun _ => ?_) | refine tk4 ?_ | refine tk5 ?_ | refine tk6 ?_ | refine tk7 ?_ | refine tk8 ?_ | refine tk9 ?_ | refine tk10 (fun _ _ => ?_) | refine tk11 (fun _ => ?_)); (conv => whnf))
        exact fun w' _ => rfl
      (conv => whnf); repeat ((first | refine tk1 ?_ | refine tk2 ?_ | refine tk3 ?_ | refine tk12 (fun _ => ?_) | refine tk4 ?_ | refine tk5 ?_ | refine tk6 ?_ | refine tk7 ?_ | refine tk8 ?_ | refine tk9 ?_ | refine tk10 (fun _ _ => ?_) | refine tk11 (fun _ => ?_)); (conv => whnf))
      refine Cmp.cases (fun y2 => ?_) (fun y2 => ?_)
      · (conv => whnf); repeat ((first | refine tk1 ?_ | refine tk2 ?_ | refine tk3 ?_ | refine tk12 (fun _ => ?_) | refine tk4 ?_ | refine tk5 ?_ | refine tk6 ?_ | refine tk7 ?_ | refine tk8 ?_ | refine tk9 ?_ | refine tk10 (fun _ _ => ?_) | refine tk11 (fun _ => ?_)); (conv => whnf))
        exact fun w' _ => rfl
      (conv => whnf); repeat ((first | refine tk1 ?_ | refine tk2 ?_ | refine tk3 ?_ | refine tk12 (fun _ => ?_) | refine tk4 ?_ | refine tk5 ?_ | refine tk6 ?_ | refine tk7 ?_ | refine tk8 ?_ | refine tk9 ?_ | refine tk10 (fun _ _ => ?_) | refine tk11 (fun _ => ?_)); (conv => whnf))
      refine Cmp.cases (fun y3 => ?_) (fun y3 => ?_)
      · (conv => whnf); repeat ((first | refine tk1 ?_ | refine tk2 ?_ | refine tk3 ?_ | refine tk12 (fun _ => ?_) | refine tk4 ?_ | refine tk5 ?_ | refine tk6 ?_ | refine tk7 ?_ | refine tk8 ?_ | refine tk9 ?_ | refine tk10 (fun _ _ => ?_) | refine tk11 (fun _ => ?_)); (conv => whnf))
        exact fun w' _ => rfl
      have hcs : sizeOf ((n, x) :: F) v = (0, 0, 200) := by rw [sizeOf_cons (n, x) F v y1 y2 y3, hs]
      have hsn : sizeOf (F ++ [(n, x)]) v = (0, 0, 200) := by rw [sizeOf_snoc (n, x) F v y1 y2 y3, hs]
      (conv => whnf); repeat ((first | refine tk1 ?_ | refine tk2 ?_ | refine tk3 ?_ | refine tk12 (fun _ => ?_) | refine tk4 ?_ | refine tk5 ?_ | refine tk6 ?_ | refine tk7 ?_ | refine tk8 ?_ | refine tk9 ?_ | refine tk10 (fun _ _ => ?_) | refine tk11 (fun _ => ?_)); (conv => whnf))
      refine DrawS.join (fun (y : Nat × Nat) u => [u 0, u 1, .pointer (some ⟨p2, 0, none⟩), .pointer (some ⟨p3, 0, none⟩), u 4, .bool true, .int .u8 0, .int .i64 0, .int .i64 200, u 9, u 10, u 11, u 12, .pointer (some ⟨y.1, 0, none⟩), .pointer (some ⟨y.2, 0, none⟩), u 15, u 16, u 17, u 18, u 19, u 20, u 21, u 22, u 23, u 24, u 25, u 26, u 27, u 28, u 29, u 30, u 31, u 32, u 33, u 34, u 35, u 36, u 37, u 38, u 39, u 40, u 41, u 42, u 43, u 44, u 45, u 46, u 47, u 48, u 49, u 50, u 51, u 52, u 53, u 54, u 55, u 56, u 57, u 58, u 59, u 60, u 61, u 62, u 63, u 64, u 65, u 66, u 67, u 68, u 69, u 70, u 71, u 72, u 73, u 74, u 75, u 76, u 77, u 78, u 79, u 80, u 81, u 82, u 83, u 84, u 85, u 86, u 87, u 88, u 89, u 90, u 91, u 92, u 93, u 94, u 95, u 96, u 97, u 98, u 99, u 100, u 101, u 102, u 103, u 104, u 105, u 106, u 107, u 108, u 109, u 110, u 111, u 112, u 113, u 114, u 115, u 116, u 117, u 118, u 119, u 120, u 121, u 122, u 123, u 124, u 125, u 126, u 127, u 128, u 129, u 130, u 131, u 132, u 133, u 134, u 135, u 136, u 137, u 138, u 139, u 140, u 141, u 142, u 143, u 144, u 145, u 146, u 147, u 148, u 149, u 150, u 151, u 152, u 153, u 154, u 155, u 156, u 157, u 158, u 159, u 160, u 161, u 162, u 163, u 164, u 165, u 166, u 167, u 168, u 169, u 170, u 171, u 172, u 173, u 174, u 175, u 176, u 177, u 178, u 179, u 180, u 181, u 182, u 183, u 184])
        (fun y => [.box y.1 [str m, str p, str q, .int .i64 v, .slice A F.length cp, .slice C bn bc] 28, .box y.2 [str m, str p, str q, .int .i64 v, .slice A F.length cp, .slice C bn bc] 28, .box p3 [str n, str x] 39, .box p2 [str m, str p, str q, .int .i64 v, .slice A F.length cp, .slice C bn bc] 28])
        [] (.q 0 (.ch 1 (.ch 2 (.a 3 (.a 4 (.a 5 (.nil)))) (.ch 3 (.a 2 (.a 4 (.a 5 (.nil)))) (.stop))) (.ch 2 (.ch 1 (.a 3 (.a 4 (.a 5 (.nil)))) (.ch 3 (.ch 1 (.a 4 (.a 5 (.nil))) (.ch 4 (.q 1 (.a 5 (.nil))) (.stop))) (.stop))) (.ch 3 (.ch 1 (.a 2 (.a 4 (.a 5 (.nil)))) (.ch 2 (.ch 1 (.a 4 (.a 5 (.nil))) (.ch 4 (.q 1 (.a 5 (.nil))) (.stop))) (.stop))) (.stop))))) tys_ok mixed (by kernel_rfl) ?_ ?_
      · (repeat' ((conv => whnf); first | (first | refine tk1 ?_ | refine tk2 ?_ | refine tk3 ?_ | refine tk12 (fun _ => ?_) | refine tk4 ?_ | refine tk5 ?_ | refine tk6 ?_ | refine tk7 ?_ | refine tk8 ?_ | refine tk9 ?_ | refine tk10 (fun _ _ => ?_) | refine tk11 (fun _ => ?_)) | refine And.intro ?_ ?_ | exact trivial | exact ⟨(_, _), rfl, (by repeat' (first | exact Cov.nil | refine Cov.cons (by first | exact Pick.here | exact Pick.here.skip | exact Pick.here.skip.skip | exact Pick.here.skip.skip.skip | exact Pick.here.skip.skip.skip.skip | exact Pick.here.skip.skip.skip.skip.skip | exact Pick.here.skip.skip.skip.skip.skip.skip) ?_))⟩ | fail))
      rintro ⟨b13, b14⟩ u
      dsimp only
      (conv => whnf); repeat ((first | refine tk1 ?_ | refine tk2 ?_ | refine tk3 ?_ | refine tk12 (fun _ => ?_) | refine tk4 ?_ | refine tk5 ?_ | refine tk6 ?_ | refine tk7 ?_ | refine tk8 ?_ | refine tk9 ?_ | refine tk10 (fun _ _ => ?_) | refine tk11 (fun _ => ?_)); (conv => whnf))
      refine AppS.tc (m := F.length) (news := fcells F) SrcK.tc (by rw [fcells_length]; omega) (fcells_one F) (by decide) (by omega) (by omega) (zs := fcells ((n, x) :: F)) rfl (fun B1 c1 => ?_)
      rw [show 1 + F.length = ((n, x) :: F).length by simp; omega]
      (conv => whnf); repeat ((first | refine tk1 ?_ | refine tk2 ?_ | refine tk3 ?_ | refine tk12 (fun _ => ?_) | refine tk4 ?_ | refine tk5 ?_ | refine tk6 ?_ | refine tk7 ?_ | refine tk8 ?_ | refine tk9 ?_ | refine tk10 (fun _ _ => ?_) | refine tk11 (fun _ => ?_)); (conv => whnf))
      refine DrawS.join (fun (y : Option Addr × Nat) u => [u 0, u 1, u 2, u 3, u 4, .bool true, .int .u8 0, .int .i64 0, .int .i64 200, u 9, u 10, u 11, u 12, .pointer (some ⟨b13, 0, none⟩), .pointer (some ⟨b14, 0, none⟩), u 15, u 16, u 17, u 18, u 19, u 20, u 21, u 22, u 23, u 24, u 25, u 26, u 27, u 28, u 29, u 30, u 31, u 32, u 33, u 34, u 35, u 36, u 37, u 38, u 39, u 40, u 41, u 42, u 43, u 44, u 45, u 46, u 47, u 48, u 49, u 50, u 51, u 52, u 53, u 54, u 55, u 56, u 57, u 58, u 59, u 60, u 61, u 62, u 63, u 64, u 65, u 66, u 67, u 68, u 69, u 70, u 71, u 72, u 73, u 74, u 75, u 76, u 77, u 78, u 79, u 80, u 81, u 82, u 83, u 84, u 85, u 86, u 87, u 88, u 89, u 90, u 91, u 92, u 93, u 94, u 95, u 96, u 97, u 98, u 99, u 100, u 101, u 102, u 103, u 104, u 105, u 106, u 107, u 108, u 109, u 110, u 111, u 112, u 113, u 114, u 115, u 116, u 117, u 118, u 119, u 120, u 121, u 122, u 123, u 124, u 125, u 126, u 127, u 128, u 129, u 130, u 131, u 132, u 133, u 134, u 135, u 136, u 137, u 138, u 139, u 140, u 141, u 142, u 143, u 144, u 145, u 146, u 147, u 148, u 149, u 150, u 151, u 152, u 153, u 154, u 155, u 156, u 157, u 158, u 159, u 160, u 161, u 162, u 163, u 164, u 165, u 166, u 167, u 168, u 169, u 170, u 171, u 172, u 173, u 174, u 175, u 176, u 177, u 178, u 179, u 180, u 181, u 182, u 183, u 184])
        (fun y => [.box b13 [str m, str p, str q, .int .i64 v, .slice B1 ((n, x) :: F).length c1, .slice C bn bc] 28, .box b14 [str m, str p, str q, .int .i64 v, .slice y.1 (F ++ [(n, x)]).length y.2, .slice C bn bc] 28, .row (.slice B1 ((n, x) :: F).length c1) 39 2 ((n, x) :: F).length (fcells ((n, x) :: F)), .row (.slice y.1 (F ++ [(n, x)]).length y.2) 39 2 (F ++ [(n, x)]).length (fcells (F ++ [(n, x)]))])
        [] (.q 0 (.q 1 (.ch 2 (.q 3 (.a 4 (.a 5 (.q 6 (.a 7 (.nil)))))) (.ch 3 (.ch 2 (.a 4 (.a 5 (.q 6 (.a 7 (.nil))))) (.ch 4 (.a 2 (.a 5 (.q 6 (.a 7 (.nil))))) (.stop))) (.stop))))) tys_ok mixed (by kernel_rfl) ?_ ?_
      · (repeat' ((conv => whnf); first | (first | refine tk1 ?_ | refine tk2 ?_ | refine tk3 ?_ | refine tk12 (fun _ => ?_) | refine tk4 ?_ | refine tk5 ?_ | refine tk6 ?_ | refine tk7 ?_ | refine tk8 ?_ | refine tk9 ?_ | refine tk10 (fun _ _ => ?_) | refine tk11 (fun _ => ?_)) | refine And.intro ?_ ?_ | exact trivial | exact ⟨(_, _), rfl, (by repeat' (first | exact Cov.nil | refine Cov.cons (by first | exact Pick.here | exact Pick.here.skip | exact Pick.here.skip.skip | exact Pick.here.skip.skip.skip | exact Pick.here.skip.skip.skip.skip | exact Pick.here.skip.skip.skip.skip.skip | exact Pick.here.skip.skip.skip.skip.skip.skip) ?_))⟩ | (refine AppS.t0 (m := F.length) (news := fcells F) SrcK.tc (by rw [fcells_length]; omega) (fcells_one F) (by decide) (by omega) (by omega) (fun B2 c2 => ?_)) | (refine AppS.tc (m := 1) (news := [str n, str x]) SrcK.tc rfl (by simp [Value.oneCell']) (by decide) (by omega) (by omega) (zs := fcells (F ++ [(n, x)])) (by rw [fcells_app]; rfl) (fun B3 c3 => ?_); rw [show F.length + 1 = (F ++ [(n, x)]).length by simp])))
      rintro ⟨B3, c3⟩ u
      dsimp only
      (conv => whnf); repeat ((first | refine tk1 ?_ | refine tk2 ?_ | refine tk3 ?_ | refine tk12 (fun _ => ?_) | refine tk4 ?_ | refine tk5 ?_ | refine tk6 ?_ | refine tk7 ?_ | refine tk8 ?_ | refine tk9 ?_ | refine tk10 (fun _ _ => ?_) | refine tk11 (fun _ => ?_)); (conv => whnf))
      refine CallK.fnR (Of_s m p q v B1 c1 ((n, x) :: F) (.slice C bn bc) zc hv hcs) ⟨RdA.ok, trivial⟩ ?_
      (conv => whnf); repeat ((first | refine tk1 ?_ | refine tk2 ?_ | refine tk3 ?_ | refine tk12 (fun _ => ?_) | refine tk4 ?_ | refine tk5 ?_ | refine tk6 ?_ | refine tk7 ?_ | refine tk8 ?_ | refine tk9 ?_ | refine tk10 (fun _ _ => ?_) | refine tk11 (fun _ => ?_)); (conv => whnf))
      refine CallK.fnR (Of_s m p q v B3 c3 (F ++ [(n, x)]) (.slice C bn bc) zs hv hsn) ⟨RdA.ok, trivial⟩ ?_
      (conv => whnf); repeat ((first | refine tk1 ?_ | refine tk2 ?_ | refine tk3 ?_ | refine tk12 (fun _ => ?_) | refine tk4 ?_ | refine tk5 ?_ | refine tk6 ?_ | refine tk7 ?_ | refine tk8 ?_ | refine tk9 ?_ | refine tk10 (fun _ _ => ?_) | refine tk11 (fun _ => ?_)); (conv => whnf))
      exact fun w' _ => rfl
  · have g1 : 0 < (allOf F codN).length := List.length_pos_iff.2 h1
    have g2 : (allOf F lenN).length = 0 := by rw [h2]; rfl
    refine CallK.fnR (Of_s m p q v A cp F (.slice C bn bc) (by omega) hv hs) ⟨RdA.ok, trivial⟩ ?_
    (conv => whnf); repeat ((first | refine tk1 ?_ | refine tk2 ?_ | refine tk3 ?_ | refine tk12 (fun _ => ?_) | refine tk4 ?_ | refine tk5 ?_ | refine tk6 ?_ | refine tk7 ?_ | refine tk8 ?_ | refine tk9 ?_ | refine tk10 (fun _ _ => ?_) | refine tk11 (fun _ => ?_)); (conv => whnf))
    refine LoopS.lp tys_ok (fun (k : Nat) u => [u 0, u 1, .pointer (some ⟨p2, 0, none⟩), .pointer (some ⟨p3, 0, none⟩), u 4, .bool true, .int .u8 2, .int .i64 0, .int .i64 200, .int .i64 (allOf (F.take k) lenN).length, .int .i64 (allOf (F.take k) codN).length, .int .i64 (k : Nat), u 12, u 13, u 14, u 15, u 16, u 17, u 18, u 19, u 20, u 21, u 22, u 23, u 24, u 25, u 26, u 27, u 28, u 29, u 30, u 31, u 32, u 33, u 34, u 35, u 36, u 37, u 38, u 39, u 40, u 41, u 42, u 43, u 44, u 45, u 46, u 47, u 48, u 49, u 50, u 51, u 52, u 53, u 54, u 55, u 56, u 57, u 58, u 59, u 60, u 61, u 62, u 63, u 64, u 65, u 66, u 67, u 68, u 69, u 70, u 71, u 72, u 73, u 74, u 75, u 76, u 77, u 78, u 79, u 80, u 81, u 82, u 83, u 84, u 85, u 86, u 87, u 88, u 89, u 90, u 91, u 92, u 93, u 94, u 95, u 96, u 97, u 98, u 99, u 100, u 101, u 102, u 103, u 104, u 105, u 106, u 107, u 108, u 109, u 110, u 111, u 112, u 113, u 114, u 115, u 116, u 117, u 118, u 119, u 120, u 121, u 122, u 123, u 124, u 125, u 126, u 127, u 128, u 129, u 130, u 131, u 132, u 133, u 134, u 135, u 136, u 137, u 138, u 139, u 140, u 141, u 142, u 143, u 144, u 145, u 146, u 147, u 148, u 149, u 150, u 151, u 152, u 153, u 154, u 155, u 156, u 157, u 158, u 159, u 160, u 161, u 162, u 163, u 164, u 165, u 166, u 167, u 168, u 169, u 170, u 171, u 172, u 173, u 174, u 175, u 176, u 177, u 178, u 179, u 180, u 181, u 182, u 183, u 184])
      (fun _ => [.box p3 [str n, str x] 39, .box p2 [str m, str p, str q, .int .i64 v, .slice A F.length cp, .slice C bn bc] 28])
      (fun k => k ≤ F.length) (fun k => F.length - k) 0 (Nat.zero_le _) rfl (by repeat' (first | exact List.Sublist.refl _ | exact List.nil_sublist _ | apply List.Sublist.cons_cons | apply List.Sublist.cons)) ?_
    intro k u hk
    (conv => whnf); repeat ((first | refine tk1 ?_ | refine tk2 ?_ | refine tk3 ?_ | refine tk12 (fun _ => ?_) | refine tk4 ?_ | refine tk5 ?_ | refine tk6 ?_ | refine tk7 ?_ | refine tk8 ?_ | refine tk9 ?_ | refine tk10 (fun _ _ => ?_) | refine tk11 (fun _ => ?_)); (conv => whnf))
    refine Cmp.cases (fun hlt => ?_) (fun hlt => ?_)
    · have hlt' : k < F.length := by omega
      have ha := allOf_take F lenN k hlt'
      have hb := allOf_take F codN k hlt'
      rw [show smallOf lenN = lenN by decide] at ha
      rw [show smallOf codN = codN by decide] at hb
      have z4 := allOf_le (F.take k) lenN
      have z5 := allOf_le (F.take k) codN
      rw [List.length_take] at z4 z5
      (conv => whnf); repeat ((first | refine tk1 ?_ | refine tk2 ?_ | refine tk3 ?_ | refine tk12 (fun _ => ?_) | refine tk4 ?_ | refine tk5 ?_ | refine tk6 ?_ | refine tk7 ?_ | refine tk8 ?_ | refine tk9 ?_ | refine tk10 (fun _ _ => ?_) | refine tk11 (fun _ => ?_)); (conv => whnf))
      refine IdxA.tc (by rw [fcells_length]; omega) (by omega) (by omega) ?_
      (conv => whnf); repeat ((first | refine tk1 ?_ | refine tk2 ?_ | refine tk3 ?_ | refine tk12 (fun _ => ?_) | refine tk4 ?_ | refine tk5 ?_ | refine tk6 ?_ | refine tk7 ?_ | refine tk8 ?_ | refine tk9 ?_ | refine tk10 (fun _ _ => ?_) | refine tk11 (fun _ => ?_)); (conv => whnf))
      refine Ld.taF (fcells_0 F k hlt') ?_
      (conv => whnf); repeat ((first | refine tk1 ?_ | refine tk2 ?_ | refine tk3 ?_ | refine tk12 (fun _ => ?_) | refine tk4 ?_ | refine tk5 ?_ | refine tk6 ?_ | refine tk7 ?_ | refine tk8 ?_ | refine tk9 ?_ | refine tk10 (fun _ _ => ?_) | refine tk11 (fun _ => ?_)); (conv => whnf))
      refine CallK.fn (Small_r F[k].1 (by have := fsum_mem (List.getElem_mem hlt'); omega)) ?_
      (conv => whnf); repeat ((first | refine tk1 ?_ | refine tk2 ?_ | refine tk3 ?_ | refine tk12 (fun _ => ?_) | refine tk4 ?_ | refine tk5 ?_ | refine tk6 ?_ | refine tk7 ?_ | refine tk8 ?_ | refine tk9 ?_ | refine tk10 (fun _ _ => ?_) | refine tk11 (fun _ => ?_)); (conv => whnf))
      refine Cmp.cases (fun y1 => ?_) (fun y1 => ?_)
      · have y1 : smallOf F[k].1 = lenN := y1
        rw [if_pos y1] at ha
        rw [if_neg (by rw [y1]; decide), List.append_nil] at hb
        (conv => whnf); repeat ((first | refine tk1 ?_ | refine tk2 ?_ | refine tk3 ?_ | refine tk12 (fun _ => ?_) | refine tk4 ?_ | refine tk5 ?_ | refine tk6 ?_ | refine tk7 ?_ | refine tk8 ?_ | refine tk9 ?_ | refine tk10 (fun _ _ => ?_) | refine tk11 (fun _ => ?_)); (conv => whnf))
        exact ⟨k + 1, by omega, by dsimp only; rw [ha, hb, List.length_append]; rfl, (by repeat' (first | exact List.Sublist.refl _ | exact List.nil_sublist _ | apply List.Sublist.cons_cons | apply List.Sublist.cons)), by dsimp only; omega⟩
      · have y1 : ¬ smallOf F[k].1 = lenN := y1
        rw [if_neg y1, List.append_nil] at ha
        (conv => whnf); repeat ((first | refine tk1 ?_ | refine tk2 ?_ | refine tk3 ?_ | refine tk12 (fun _ => ?_) | refine tk4 ?_ | refine tk5 ?_ | refine tk6 ?_ | refine tk7 ?_ | refine tk8 ?_ | refine tk9 ?_ | refine tk10 (fun _ _ => ?_) | refine tk11 (fun _ => ?_)); (conv => whnf))
        refine Cmp.cases (fun y2 => ?_) (fun y2 => ?_)
        · have y2 : smallOf F[k].1 = codN := y2
          rw [if_pos y2] at hb
          (conv => whnf); repeat ((first | refine tk1 ?_ | refine tk2 ?_ | refine tk3 ?_ | refine tk12 (fun _ => ?_) | refine tk4 ?_ | refine tk5 ?_ | refine tk6 ?_ | refine tk7 ?_ | refine tk8 ?_ | refine tk9 ?_ | refine tk10 (fun _ _ => ?_) | refine tk11 (fun _ => ?_)); (conv => whnf))
          exact ⟨k + 1, by omega, by dsimp only; rw [ha, hb, List.length_append]; rfl, (by repeat' (first | exact List.Sublist.refl _ | exact List.nil_sublist _ | apply List.Sublist.cons_cons | apply List.Sublist.cons)), by dsimp only; omega⟩
        · have y2 : ¬ smallOf F[k].1 = codN := y2
          rw [if_neg y2, List.append_nil] at hb
          (conv => whnf); repeat ((first | refine tk1 ?_ | refine tk2 ?_ | refine tk3 ?_ | refine tk12 (fun _ => ?_) | refine tk4 ?_ | refine tk5 ?_ | refine tk6 ?_ | refine tk7 ?_ | refine tk8 ?_ | refine tk9 ?_ | refine tk10 (fun _ _ => ?_) | refine tk11 (fun _ => ?_)); (conv => whnf))
          exact ⟨k + 1, by omega, by dsimp only; rw [ha, hb]; rfl, (by repeat' (first | exact List.Sublist.refl _ | exact List.nil_sublist _ | apply List.Sublist.cons_cons | apply List.Sublist.cons)), by dsimp only; omega⟩
    · rw [List.take_of_length_le (by omega)]
      (conv => whnf); repeat ((first | refine tk1 ?_ | refine tk2 ?_ | refine tk3 ?_ | refine tk12 (fun _ => ?_) | refine tk4 ?_ | refine tk5 ?_ | refine tk6 ?_ | refine tk7 ?_ | refine tk8 ?_ | refine tk9 ?_ | refine tk10 (fun _ _ => ?_) | refine tk11 (fun _ => ?_)); (conv => whnf))
      refine CallK.fn (Small_r n (by omega)) ?_
      (conv => whnf); repeat ((first | refine tk1 ?_ | refine tk2 ?_ | refine tk3 ?_ | refine tk12 (fun _ => ?_) | refine tk4 ?_ | refine tk5 ?_ | refine tk6 ?_ | refine tk7 ?_ | refine tk8 ?_ | refine tk9 ?_ | refine tk10 (fun _ _ => ?_) | refine tk11 (fun _ => ?_)); (conv => whnf))
      refine Cmp.cases (fun y1 => ?_) (fun y1 => ?_)
      · (conv => whnf); repeat ((first | refine tk1 ?_ | refine tk2 ?_ | refine tk3 ?_ | refine tk12 (fun _ => ?_) | refine tk4 ?_ | refine tk5 ?_ | refine tk6 ?_ | refine tk7 ?_ | refine tk8 ?_ | refine tk9 ?_ | refine tk10 (fun _ _ => ?_) | refine tk11 (fun _ => ?_)); (conv => whnf))
        exact fun w' _ => rfl
      (conv => whnf); repeat ((first | refine tk1 ?_ | refine tk2 ?_ | refine tk3 ?_ | refine tk12 (fun _ => ?_) | refine tk4 ?_ | refine tk5 ?_ | refine tk6 ?_ | refine tk7 ?_ | refine tk8 ?_ | refine tk9 ?_ | refine tk10 (fun _ _ => ?_) | refine tk11 (fun _ => ?_)); (conv => whnf))
      refine Cmp.cases (fun y2 => ?_) (fun y2 => ?_)
      · (conv => whnf); repeat ((first | refine tk1 ?_ | refine tk2 ?_ | refine tk3 ?_ | refine tk12 (fun _ => ?_) | refine tk4 ?_ | refine tk5 ?_ | refine tk6 ?_ | refine tk7 ?_ | refine tk8 ?_ | refine tk9 ?_ | refine tk10 (fun _ _ => ?_) | refine tk11 (fun _ => ?_)); (conv => whnf))
        exact fun w' _ => rfl
      (conv => whnf); repeat ((first | refine tk1 ?_ | refine tk2 ?_ | refine tk3 ?_ | refine tk12 (fun _ => ?_) | refine tk4 ?_ | refine tk5 ?_ | refine tk6 ?_ | refine tk7 ?_ | refine tk8 ?_ | refine tk9 ?_ | refine tk10 (fun _ _ => ?_) | refine tk11 (fun _ => ?_)); (conv => whnf))
      refine Cmp.cases (fun y3 => ?_) (fun y3 => ?_)
      · (conv => whnf); repeat ((first | refine tk1 ?_ | refine tk2 ?_ | refine tk3 ?_ | refine tk12 (fun _ => ?_) | refine tk4 ?_ | refine tk5 ?_ | refine tk6 ?_ | refine tk7 ?_ | refine tk8 ?_ | refine tk9 ?_ | refine tk10 (fun _ _ => ?_) | refine tk11 (fun _ => ?_)); (conv => whnf))
        exact fun w' _ => rfl
      have hcs : sizeOf ((n, x) :: F) v = (2, 0, 200) := by rw [sizeOf_cons (n, x) F v y1 y2 y3, hs]
      have hsn : sizeOf (F ++ [(n, x)]) v = (2, 0, 200) := by rw [sizeOf_snoc (n, x) F v y1 y2 y3, hs]
      (conv => whnf); repeat ((first | refine tk1 ?_ | refine tk2 ?_ | refine tk3 ?_ | refine tk12 (fun _ => ?_) | refine tk4 ?_ | refine tk5 ?_ | refine tk6 ?_ | refine tk7 ?_ | refine tk8 ?_ | refine tk9 ?_ | refine tk10 (fun _ _ => ?_) | refine tk11 (fun _ => ?_)); (conv => whnf))
      refine DrawS.join (fun (y : Nat × Nat) u => [u 0, u 1, .pointer (some ⟨p2, 0, none⟩), .pointer (some ⟨p3, 0, none⟩), u 4, .bool true, .int .u8 2, .int .i64 0, .int .i64 200, u 9, u 10, u 11, u 12, .pointer (some ⟨y.1, 0, none⟩), .pointer (some ⟨y.2, 0, none⟩), u 15, u 16, u 17, u 18, u 19, u 20, u 21, u 22, u 23, u 24, u 25, u 26, u 27, u 28, u 29, u 30, u 31, u 32, u 33, u 34, u 35, u 36, u 37, u 38, u 39, u 40, u 41, u 42, u 43, u 44, u 45, u 46, u 47, u 48, u 49, u 50, u 51, u 52, u 53, u 54, u 55, u 56, u 57, u 58, u 59, u 60, u 61, u 62, u 63, u 64, u 65, u 66, u 67, u 68, u 69, u 70, u 71, u 72, u 73, u 74, u 75, u 76, u 77, u 78, u 79, u 80, u 81, u 82, u 83, u 84, u 85, u 86, u 87, u 88, u 89, u 90, u 91, u 92, u 93, u 94, u 95, u 96, u 97, u 98, u 99, u 100, u 101, u 102, u 103, u 104, u 105, u 106, u 107, u 108, u 109, u 110, u 111, u 112, u 113, u 114, u 115, u 116, u 117, u 118, u 119, u 120, u 121, u 122, u 123, u 124, u 125, u 126, u 127, u 128, u 129, u 130, u 131, u 132, u 133, u 134, u 135, u 136, u 137, u 138, u 139, u 140, u 141, u 142, u 143, u 144, u 145, u 146, u 147, u 148, u 149, u 150, u 151, u 152, u 153, u 154, u 155, u 156, u 157, u 158, u 159, u 160, u 161, u 162, u 163, u 164, u 165, u 166, u 167, u 168, u 169, u 170, u 171, u 172, u 173, u 174, u 175, u 176, u 177, u 178, u 179, u 180, u 181, u 182, u 183, u 184])
        (fun y => [.box y.1 [str m, str p, str q, .int .i64 v, .slice A F.length cp, .slice C bn bc] 28, .box y.2 [str m, str p, str q, .int .i64 v, .slice A F.length cp, .slice C bn bc] 28, .box p3 [str n, str x] 39, .box p2 [str m, str p, str q, .int .i64 v, .slice A F.length cp, .slice C bn bc] 28])
        [] (.q 0 (.ch 1 (.ch 2 (.a 3 (.a 4 (.a 5 (.nil)))) (.ch 3 (.a 2 (.a 4 (.a 5 (.nil)))) (.stop))) (.ch 2 (.ch 1 (.a 3 (.a 4 (.a 5 (.nil)))) (.ch 3 (.ch 1 (.a 4 (.a 5 (.nil))) (.ch 4 (.q 1 (.a 5 (.nil))) (.stop))) (.stop))) (.ch 3 (.ch 1 (.a 2 (.a 4 (.a 5 (.nil)))) (.ch 2 (.ch 1 (.a 4 (.a 5 (.nil))) (.ch 4 (.q 1 (.a 5 (.nil))) (.stop))) (.stop))) (.stop))))) tys_ok mixed (by kernel_rfl) ?_ ?_
      · (repeat' ((conv => whnf); first | (first | refine tk1 ?_ | refine tk2 ?_ | refine tk3 ?_ | refine tk12 (fun _ => ?_) | refine tk4 ?_ | refine tk5 ?_ | refine tk6 ?_ | refine tk7 ?_ | refine tk8 ?_ | refine tk9 ?_ | refine tk10 (fun _ _ => ?_) | refine tk11 (fun _ => ?_)) | refine And.intro ?_ ?_ | exact trivial | exact ⟨(_, _), rfl, (by repeat' (first | exact Cov.nil | refine Cov.cons (by first | exact Pick.here | exact Pick.here.skip | exact Pick.here.skip.skip | exact Pick.here.skip.skip.skip | exact Pick.here.skip.skip.skip.skip | exact Pick.here.skip.skip.skip.skip.skip | exact Pick.here.skip.skip.skip.skip.skip.skip) ?_))⟩ | fail))
      rintro ⟨b13, b14⟩ u
      dsimp only
      (conv => whnf); repeat ((first | refine tk1 ?_ | refine tk2 ?_ | refine tk3 ?_ | refine tk12 (fun _ => ?_) | refine tk4 ?_ | refine tk5 ?_ | refine tk6 ?_ | refine tk7 ?_ | refine tk8 ?_ | refine tk9 ?_ | refine tk10 (fun _ _ => ?_) | refine tk11 (fun _ => ?_)); (conv => whnf))
      refine AppS.tc (m := F.length) (news := fcells F) SrcK.tc (by rw [fcells_length]; omega) (fcells_one F) (by decide) (by omega) (by omega) (zs := fcells ((n, x) :: F)) rfl (fun B1 c1 => ?_)
      rw [show 1 + F.length = ((n, x) :: F).length by simp; omega]
      (conv => whnf); repeat ((first | refine tk1 ?_ | refine tk2 ?_ | refine tk3 ?_ | refine tk12 (fun _ => ?_) | refine tk4 ?_ | refine tk5 ?_ | refine tk6 ?_ | refine tk7 ?_ | refine tk8 ?_ | refine tk9 ?_ | refine tk10 (fun _ _ => ?_) | refine tk11 (fun _ => ?_)); (conv => whnf))
      refine DrawS.join (fun (y : Option Addr × Nat) u => [u 0, u 1, u 2, u 3, u 4, .bool true, .int .u8 2, .int .i64 0, .int .i64 200, u 9, u 10, u 11, u 12, .pointer (some ⟨b13, 0, none⟩), .pointer (some ⟨b14, 0, none⟩), u 15, u 16, u 17, u 18, u 19, u 20, u 21, u 22, u 23, u 24, u 25, u 26, u 27, u 28, u 29, u 30, u 31, u 32, u 33, u 34, u 35, u 36, u 37, u 38, u 39, u 40, u 41, u 42, u 43, u 44, u 45, u 46, u 47, u 48, u 49, u 50, u 51, u 52, u 53, u 54, u 55, u 56, u 57, u 58, u 59, u 60, u 61, u 62, u 63, u 64, u 65, u 66, u 67, u 68, u 69, u 70, u 71, u 72, u 73, u 74, u 75, u 76, u 77, u 78, u 79, u 80, u 81, u 82, u 83, u 84, u 85, u 86, u 87, u 88, u 89, u 90, u 91, u 92, u 93, u 94, u 95, u 96, u 97, u 98, u 99, u 100, u 101, u 102, u 103, u 104, u 105, u 106, u 107, u 108, u 109, u 110, u 111, u 112, u 113, u 114, u 115, u 116, u 117, u 118, u 119, u 120, u 121, u 122, u 123, u 124, u 125, u 126, u 127, u 128, u 129, u 130, u 131, u 132, u 133, u 134, u 135, u 136, u 137, u 138, u 139, u 140, u 141, u 142, u 143, u 144, u 145, u 146, u 147, u 148, u 149, u 150, u 151, u 152, u 153, u 154, u 155, u 156, u 157, u 158, u 159, u 160, u 161, u 162, u 163, u 164, u 165, u 166, u 167, u 168, u 169, u 170, u 171, u 172, u 173, u 174, u 175, u 176, u 177, u 178, u 179, u 180, u 181, u 182, u 183, u 184])
        (fun y => [.box b13 [str m, str p, str q, .int .i64 v, .slice B1 ((n, x) :: F).length c1, .slice C bn bc] 28, .box b14 [str m, str p, str q, .int .i64 v, .slice y.1 (F ++ [(n, x)]).length y.2, .slice C bn bc] 28, .row (.slice B1 ((n, x) :: F).length c1) 39 2 ((n, x) :: F).length (fcells ((n, x) :: F)), .row (.slice y.1 (F ++ [(n, x)]).length y.2) 39 2 (F ++ [(n, x)]).length (fcells (F ++ [(n, x)]))])
        [] (.q 0 (.q 1 (.ch 2 (.q 3 (.a 4 (.a 5 (.q 6 (.a 7 (.nil)))))) (.ch 3 (.ch 2 (.a 4 (.a 5 (.q 6 (.a 7 (.nil))))) (.ch 4 (.a 2 (.a 5 (.q 6 (.a 7 (.nil))))) (.stop))) (.stop))))) tys_ok mixed (by kernel_rfl) ?_ ?_
      · (repeat' ((conv => whnf); first | (first | refine tk1 ?_ | refine tk2 ?_ | refine tk3 ?_ | refine tk12 (fun _ => ?_) | refine tk4 ?_ | refine tk5 ?_ | refine tk6 ?_ | refine tk7 ?_ | refine tk8 ?_ | refine tk9 ?_ | refine tk10 (fun _ _ => ?_) | refine tk11 (fun _ => ?_)) | refine And.intro ?_ ?_ | exact trivial | exact ⟨(_, _), rfl, (by repeat' (first | exact Cov.nil | refine Cov.cons (by first | exact Pick.here | exact Pick.here.skip | exact Pick.here.skip.skip | exact Pick.here.skip.skip.skip | exact Pick.here.skip.skip.skip.skip | exact Pick.here.skip.skip.skip.skip.skip | exact Pick.here.skip.skip.skip.skip.skip.skip) ?_))⟩ | (refine AppS.t0 (m := F.length) (news := fcells F) SrcK.tc (by rw [fcells_length]; omega) (fcells_one F) (by decide) (by omega) (by omega) (fun B2 c2 => ?_)) | (refine AppS.tc (m := 1) (news := [str n, str x]) SrcK.tc rfl (by simp [Value.oneCell']) (by decide) (by omega) (by omega) (zs := fcells (F ++ [(n, x)])) (by rw [fcells_app]; rfl) (fun B3 c3 => ?_); rw [show F.length + 1 = (F ++ [(n, x)]).length by simp])))
      rintro ⟨B3, c3⟩ u
      dsimp only
      (conv => whnf); repeat ((first | refine tk1 ?_ | refine tk2 ?_ | refine tk3 ?_ | refine tk12 (fun _ => ?_) | refine tk4 ?_ | refine tk5 ?_ | refine tk6 ?_ | refine tk7 ?_ | refine tk8 ?_ | refine tk9 ?_ | refine tk10 (fun _ _ => ?_) | refine tk11 (fun _ => ?_)); (conv => whnf))
      refine CallK.fnR (Of_s m p q v B1 c1 ((n, x) :: F) (.slice C bn bc) zc hv hcs) ⟨RdA.ok, trivial⟩ ?_
      (conv => whnf); repeat ((first | refine tk1 ?_ | refine tk2 ?_ | refine tk3 ?_ | refine tk12 (fun _ => ?_) | refine tk4 ?_ | refine tk5 ?_ | refine tk6 ?_ | refine tk7 ?_ | refine tk8 ?_ | refine tk9 ?_ | refine tk10 (fun _ _ => ?_) | refine tk11 (fun _ => ?_)); (conv => whnf))
      refine CallK.fnR (Of_s m p q v B3 c3 (F ++ [(n, x)]) (.slice C bn bc) zs hv hsn) ⟨RdA.ok, trivial⟩ ?_
      (conv => whnf); repeat ((first | refine tk1 ?_ | refine tk2 ?_ | refine tk3 ?_ | refine tk12 (fun _ => ?_) | refine tk4 ?_ | refine tk5 ?_ | refine tk6 ?_ | refine tk7 ?_ | refine tk8 ?_ | refine tk9 ?_ | refine tk10 (fun _ _ => ?_) | refine tk11 (fun _ => ?_)); (conv => whnf))
      exact fun w' _ => rfl
  · have g1 : (allOf F codN).length = 0 := by rw [h1]; rfl
    have g2 : 0 < (allOf F lenN).length := List.length_pos_iff.2 h2
    refine CallK.fnR (Of_s m p q v A cp F (.slice C bn bc) (by omega) hv hs) ⟨RdA.ok, trivial⟩ ?_
    (conv => whnf); repeat ((first | refine tk1 ?_ | refine tk2 ?_ | refine tk3 ?_ | refine tk12 (fun _ => ?_) | refine tk4 ?_ | refine tk5 ?_ | refine tk6 ?_ | refine tk7 ?_ | refine tk8 ?_ | refine tk9 ?_ | refine tk10 (fun _ _ => ?_) | refine tk11 (fun _ => ?_)); (conv => whnf))
    refine LoopS.lp tys_ok (fun (k : Nat) u => [u 0, u 1, .pointer (some ⟨p2, 0, none⟩), .pointer (some ⟨p3, 0, none⟩), u 4, .bool true, .int .u8 1, .int .i64 N, .int .i64 200, .int .i64 (allOf (F.take k) lenN).length, .int .i64 (allOf (F.take k) codN).length, .int .i64 (k : Nat), u 12, u 13, u 14, u 15, u 16, u 17, u 18, u 19, u 20, u 21, u 22, u 23, u 24, u 25, u 26, u 27, u 28, u 29, u 30, u 31, u 32, u 33, u 34, u 35, u 36, u 37, u 38, u 39, u 40, u 41, u 42, u 43, u 44, u 45, u 46, u 47, u 48, u 49, u 50, u 51, u 52, u 53, u 54, u 55, u 56, u 57, u 58, u 59, u 60, u 61, u 62, u 63, u 64, u 65, u 66, u 67, u 68, u 69, u 70, u 71, u 72, u 73, u 74, u 75, u 76, u 77, u 78, u 79, u 80, u 81, u 82, u 83, u 84, u 85, u 86, u 87, u 88, u 89, u 90, u 91, u 92, u 93, u 94, u 95, u 96, u 97, u 98, u 99, u 100, u 101, u 102, u 103, u 104, u 105, u 106, u 107, u 108, u 109, u 110, u 111, u 112, u 113, u 114, u 115, u 116, u 117, u 118, u 119, u 120, u 121, u 122, u 123, u 124, u 125, u 126, u 127, u 128, u 129, u 130, u 131, u 132, u 133, u 134, u 135, u 136, u 137, u 138, u 139, u 140, u 141, u 142, u 143, u 144, u 145, u 146, u 147, u 148, u 149, u 150, u 151, u 152, u 153, u 154, u 155, u 156, u 157, u 158, u 159, u 160, u 161, u 162, u 163, u 164, u 165, u 166, u 167, u 168, u 169, u 170, u 171, u 172, u 173, u 174, u 175, u 176, u 177, u 178, u 179, u 180, u 181, u 182, u 183, u 184])
      (fun _ => [.box p3 [str n, str x] 39, .box p2 [str m, str p, str q, .int .i64 v, .slice A F.length cp, .slice C bn bc] 28])
      (fun k => k ≤ F.length) (fun k => F.length - k) 0 (Nat.zero_le _) rfl (by repeat' (first | exact List.Sublist.refl _ | exact List.nil_sublist _ | apply List.Sublist.cons_cons | apply List.Sublist.cons)) ?_
    intro k u hk
    (conv => whnf); repeat ((first | refine tk1 ?_ | refine tk2 ?_ | refine tk3 ?_ | refine tk12 (fun _ => ?_) | refine tk4 ?_ | refine tk5 ?_ | refine tk6 ?_ | refine tk7 ?_ | refine tk8 ?_ | refine tk9 ?_ | refine tk10 (fun _ _ => ?_) | refine tk11 (fun _ => ?_)); (conv => whnf))
    refine Cmp.cases (fun hlt => ?_) (fun hlt => ?_)
    · have hlt' : k < F.length := by omega
      have ha := allOf_take F lenN k hlt'
      have hb := allOf_take F codN k hlt'
      rw [show smallOf lenN = lenN by decide] at ha
      rw [show smallOf codN = codN by decide] at hb
      have z4 := allOf_le (F.take k) lenN
      have z5 := allOf_le (F.take k) codN
      rw [List.length_take] at z4 z5
      (conv => whnf); repeat ((first | refine tk1 ?_ | refine tk2 ?_ | refine tk3 ?_ | refine tk12 (fun _ => ?_) | refine tk4 ?_ | refine tk5 ?_ | refine tk6 ?_ | refine tk7 ?_ | refine tk8 ?_ | refine tk9 ?_ | refine tk10 (fun _ _ => ?_) | refine tk11 (fun _ => ?_)); (conv => whnf))
      refine IdxA.tc (by rw [fcells_length]; omega) (by omega) (by omega) ?_
      (conv => whnf); repeat ((first | refine tk1 ?_ | refine tk2 ?_ | refine tk3 ?_ | refine tk12 (fun _ => ?_) | refine tk4 ?_ | refine tk5 ?_ | refine tk6 ?_ | refine tk7 ?_ | refine tk8 ?_ | refine tk9 ?_ | refine tk10 (fun _ _ => ?_) | refine tk11 (fun _ => ?_)); (conv => whnf))
      refine Ld.taF (fcells_0 F k hlt') ?_
      (conv => whnf); repeat ((first | refine tk1 ?_ | refine tk2 ?_ | refine tk3 ?_ | refine tk12 (fun _ => ?_) | refine tk4 ?_ | refine tk5 ?_ | refine tk6 ?_ | refine tk7 ?_ | refine tk8 ?_ | refine tk9 ?_ | refine tk10 (fun _ _ => ?_) | refine tk11 (fun _ => ?_)); (conv => whnf))
      refine CallK.fn (Small_r F[k].1 (by have := fsum_mem (List.getElem_mem hlt'); omega)) ?_
      (conv => whnf); repeat ((first | refine tk1 ?_ | refine tk2 ?_ | refine tk3 ?_ | refine tk12 (fun _ => ?_) | refine tk4 ?_ | refine tk5 ?_ | refine tk6 ?_ | refine tk7 ?_ | refine tk8 ?_ | refine tk9 ?_ | refine tk10 (fun _ _ => ?_) | refine tk11 (fun _ => ?_)); (conv => whnf))
      refine Cmp.cases (fun y1 => ?_) (fun y1 => ?_)
      · have y1 : smallOf F[k].1 = lenN := y1
        rw [if_pos y1] at ha
        rw [if_neg (by rw [y1]; decide), List.append_nil] at hb
        (conv => whnf); repeat ((first | refine tk1 ?_ | refine tk2 ?_ | refine tk3 ?_ | refine tk12 (fun _ => ?_) | refine tk4 ?_ | refine tk5 ?_ | refine tk6 ?_ | refine tk7 ?_ | refine tk8 ?_ | refine tk9 ?_ | refine tk10 (fun _ _ => ?_) | refine tk11 (fun _ => ?_)); (conv => whnf))
        exact ⟨k + 1, by omega, by dsimp only; rw [ha, hb, List.length_append]; rfl, (by repeat' (first | exact List.Sublist.refl _ | exact List.nil_sublist _ | apply List.Sublist.cons_cons | apply List.Sublist.cons)), by dsimp only; omega⟩
      · have y1 : ¬ smallOf F[k].1 = lenN := y1
        rw [if_neg y1, List.append_nil] at ha
        (conv => whnf); repeat ((first | refine tk1 ?_ | refine tk2 ?_ | refine tk3 ?_ | refine tk12 (fun _ => ?_) | refine tk4 ?_ | refine tk5 ?_ | refine tk6 ?_ | refine tk7 ?_ | refine tk8 ?_ | refine tk9 ?_ | refine tk10 (fun _ _ => ?_) | refine tk11 (fun _ => ?_)); (conv => whnf))
        refine Cmp.cases (fun y2 => ?_) (fun y2 => ?_)
        · have y2 : smallOf F[k].1 = codN := y2
          rw [if_pos y2] at hb
          (conv => whnf); repeat ((first | refine tk1 ?_ | refine tk2 ?_ | refine tk3 ?_ | refine tk12 (fun _ => ?_) | refine tk4 ?_ | refine tk5 ?_ | refine tk6 ?_ | refine tk7 ?_ | refine tk8 ?_ | refine tk9 ?_ | refine tk10 (fun _ _ => ?_) | refine tk11 (fun _ => ?_)); (conv => whnf))
          exact ⟨k + 1, by omega, by dsimp only; rw [ha, hb, List.length_append]; rfl, (by repeat' (first | exact List.Sublist.refl _ | exact List.nil_sublist _ | apply List.Sublist.cons_cons | apply List.Sublist.cons)), by dsimp only; omega⟩
        · have y2 : ¬ smallOf F[k].1 = codN := y2
          rw [if_neg y2, List.append_nil] at hb
          (conv => whnf); repeat ((first | refine tk1 ?_ | refine tk2 ?_ | refine tk3 ?_ | refine tk12 (fun _ => ?_) | refine tk4 ?_ | refine tk5 ?_ | refine tk6 ?_ | refine tk7 ?_ | refine tk8 ?_ | refine tk9 ?_ | refine tk10 (fun _ _ => ?_) | refine tk11 (fun _ => ?_)); (conv => whnf))
          exact ⟨k + 1, by omega, by dsimp only; rw [ha, hb]; rfl, (by repeat' (first | exact List.Sublist.refl _ | exact List.nil_sublist _ | apply List.Sublist.cons_cons | apply List.Sublist.cons)), by dsimp only; omega⟩
    · rw [List.take_of_length_le (by omega)]
      (conv => whnf); repeat ((first | refine tk1 ?_ | refine tk2 ?_ | refine tk3 ?_ | refine tk12 (fun _ => ?_) | refine tk4 ?_ | refine tk5 ?_ | refine tk6 ?_ | refine tk7 ?_ | refine tk8 ?_ | refine tk9 ?_ | refine tk10 (fun _ _ => ?_) | refine tk11 (fun _ => ?_)); (conv => whnf))
      refine CallK.fn (Small_r n (by omega)) ?_
      (conv => whnf); repeat ((first | refine tk1 ?_ | refine tk2 ?_ | refine tk3 ?_ | refine tk12 (fun _ => ?_) | refine tk4 ?_ | refine tk5 ?_ | refine tk6 ?_ | refine tk7 ?_ | refine tk8 ?_ | refine tk9 ?_ | refine tk10 (fun _ _ => ?_) | refine tk11 (fun _ => ?_)); (conv => whnf))
      refine Cmp.cases (fun y1 => ?_) (fun y1 => ?_)
      · (conv => whnf); repeat ((first | refine tk1 ?_ | refine tk2 ?_ | refine tk3 ?_ | refine tk12 (fun _ => ?_) | refine tk4 ?_ | refine tk5 ?_ | refine tk6 ?_ | refine tk7 ?_ | refine tk8 ?_ | refine tk9 ?_ | refine tk10 (fun _ _ => ?_) | refine tk11 (fun _ => ?_)); (conv => whnf))
        exact fun w' _ => rfl
      (conv => whnf); repeat ((first | refine tk1 ?_ | refine tk2 ?_ | refine tk3 ?_ | refine tk12 (fun _ => ?_) | refine tk4 ?_ | refine tk5 ?_ | refine tk6 ?_ | refine tk7 ?_ | refine tk8 ?_ | refine tk9 ?_ | refine tk10 (fun _ _ => ?_) | refine tk11 (fun _ => ?_)); (conv => whnf))
      refine Cmp.cases (fun y2 => ?_) (fun y2 => ?_)
      · (conv => whnf); repeat ((first | refine tk1 ?_ | refine tk2 ?_ | refine tk3 ?_ | refine tk12 (fun _ => ?_) | refine tk4 ?_ | refine tk5 ?_ | refine tk6 ?_ | refine tk7 ?_ | refine tk8 ?_ | refine tk9 ?_ | refine tk10 (fun _ _ => ?_) | refine tk11 (fun _ => ?_)); (conv => whnf))
        exact fun w' _ => rfl
      (conv => whnf); repeat ((first | refine tk1 ?_ | refine tk2 ?_ | refine tk3 ?_ | refine tk12 (fun _ => ?_) | refine tk4 ?_ | refine tk5 ?_ | refine tk6 ?_ | refine tk7 ?_ | refine tk8 ?_ | refine tk9 ?_ | refine tk10 (fun _ _ => ?_) | refine tk11 (fun _ => ?_)); (conv => whnf))
      refine Cmp.cases (fun y3 => ?_) (fun y3 => ?_)
      · (conv => whnf); repeat ((first | refine tk1 ?_ | refine tk2 ?_ | refine tk3 ?_ | refine tk12 (fun _ => ?_) | refine tk4 ?_ | refine tk5 ?_ | refine tk6 ?_ | refine tk7 ?_ | refine tk8 ?_ | refine tk9 ?_ | refine tk10 (fun _ _ => ?_) | refine tk11 (fun _ => ?_)); (conv => whnf))
        exact fun w' _ => rfl
      have hcs : sizeOf ((n, x) :: F) v = (1, N, 200) := by rw [sizeOf_cons (n, x) F v y1 y2 y3, hs]
      have hsn : sizeOf (F ++ [(n, x)]) v = (1, N, 200) := by rw [sizeOf_snoc (n, x) F v y1 y2 y3, hs]
      (conv => whnf); repeat ((first | refine tk1 ?_ | refine tk2 ?_ | refine tk3 ?_ | refine tk12 (fun _ => ?_) | refine tk4 ?_ | refine tk5 ?_ | refine tk6 ?_ | refine tk7 ?_ | refine tk8 ?_ | refine tk9 ?_ | refine tk10 (fun _ _ => ?_) | refine tk11 (fun _ => ?_)); (conv => whnf))
      refine DrawS.join (fun (y : Nat × Nat) u => [u 0, u 1, .pointer (some ⟨p2, 0, none⟩), .pointer (some ⟨p3, 0, none⟩), u 4, .bool true, .int .u8 1, .int .i64 N, .int .i64 200, u 9, u 10, u 11, u 12, .pointer (some ⟨y.1, 0, none⟩), .pointer (some ⟨y.2, 0, none⟩), u 15, u 16, u 17, u 18, u 19, u 20, u 21, u 22, u 23, u 24, u 25, u 26, u 27, u 28, u 29, u 30, u 31, u 32, u 33, u 34, u 35, u 36, u 37, u 38, u 39, u 40, u 41, u 42, u 43, u 44, u 45, u 46, u 47, u 48, u 49, u 50, u 51, u 52, u 53, u 54, u 55, u 56, u 57, u 58, u 59, u 60, u 61, u 62, u 63, u 64, u 65, u 66, u 67, u 68, u 69, u 70, u 71, u 72, u 73, u 74, u 75, u 76, u 77, u 78, u 79, u 80, u 81, u 82, u 83, u 84, u 85, u 86, u 87, u 88, u 89, u 90, u 91, u 92, u 93, u 94, u 95, u 96, u 97, u 98, u 99, u 100, u 101, u 102, u 103, u 104, u 105, u 106, u 107, u 108, u 109, u 110, u 111, u 112, u 113, u 114, u 115, u 116, u 117, u 118, u 119, u 120, u 121, u 122, u 123, u 124, u 125, u 126, u 127, u 128, u 129, u 130, u 131, u 132, u 133, u 134, u 135, u 136, u 137, u 138, u 139, u 140, u 141, u 142, u 143, u 144, u 145, u 146, u 147, u 148, u 149, u 150, u 151, u 152, u 153, u 154, u 155, u 156, u 157, u 158, u 159, u 160, u 161, u 162, u 163, u 164, u 165, u 166, u 167, u 168, u 169, u 170, u 171, u 172, u 173, u 174, u 175, u 176, u 177, u 178, u 179, u 180, u 181, u 182, u 183, u 184])
        (fun y => [.box y.1 [str m, str p, str q, .int .i64 v, .slice A F.length cp, .slice C bn bc] 28, .box y.2 [str m, str p, str q, .int .i64 v, .slice A F.length cp, .slice C bn bc] 28, .box p3 [str n, str x] 39, .box p2 [str m, str p, str q, .int .i64 v, .slice A F.length cp, .slice C bn bc] 28])
        [] (.q 0 (.ch 1 (.ch 2 (.a 3 (.a 4 (.a 5 (.nil)))) (.ch 3 (.a 2 (.a 4 (.a 5 (.nil)))) (.stop))) (.ch 2 (.ch 1 (.a 3 (.a 4 (.a 5 (.nil)))) (.ch 3 (.ch 1 (.a 4 (.a 5 (.nil))) (.ch 4 (.q 1 (.a 5 (.nil))) (.stop))) (.stop))) (.ch 3 (.ch 1 (.a 2 (.a 4 (.a 5 (.nil)))) (.ch 2 (.ch 1 (.a 4 (.a 5 (.nil))) (.ch 4 (.q 1 (.a 5 (.nil))) (.stop))) (.stop))) (.stop))))) tys_ok mixed (by kernel_rfl) ?_ ?_
      · (repeat' ((conv => whnf); first | (first | refine tk1 ?_ | refine tk2 ?_ | refine tk3 ?_ | refine tk12 (fun _ => ?_) | refine tk4 ?_ | refine tk5 ?_ | refine tk6 ?_ | refine tk7 ?_ | refine tk8 ?_ | refine tk9 ?_ | refine tk10 (fun _ _ => ?_) | refine tk11 (fun _ => ?_)) | refine And.intro ?_ ?_ | exact trivial | exact ⟨(_, _), rfl, (by repeat' (first | exact Cov.nil | refine Cov.cons (by first | exact Pick.here | exact Pick.here.skip | exact Pick.here.skip.skip | exact Pick.here.skip.skip.skip | exact Pick.here.skip.skip.skip.skip | exact Pick.here.skip.skip.skip.skip.skip | exact Pick.here.skip.skip.skip.skip.skip.skip) ?_))⟩ | fail))
      rintro ⟨b13, b14⟩ u
      dsimp only
      (conv => whnf); repeat ((first | refine tk1 ?_ | refine tk2 ?_ | refine tk3 ?_ | refine tk12 (fun _ => ?_) | refine tk4 ?_ | refine tk5 ?_ | refine tk6 ?_ | refine tk7 ?_ | refine tk8 ?_ | refine tk9 ?_ | refine tk10 (fun _ _ => ?_) | refine tk11 (fun _ => ?_)); (conv => whnf))
      refine AppS.tc (m := F.length) (news := fcells F) SrcK.tc (by rw [fcells_length]; omega) (fcells_one F) (by decide) (by omega) (by omega) (zs := fcells ((n, x) :: F)) rfl (fun B1 c1 => ?_)
      rw [show 1 + F.length = ((n, x) :: F).length by simp; omega]
      (conv => whnf); repeat ((first | refine tk1 ?_ | refine tk2 ?_ | refine tk3 ?_ | refine tk12 (fun _ => ?_) | refine tk4 ?_ | refine tk5 ?_ | refine tk6 ?_ | refine tk7 ?_ | refine tk8 ?_ | refine tk9 ?_ | refine tk10 (fun _ _ => ?_) | refine tk11 (fun _ => ?_)); (conv => whnf))
      refine DrawS.join (fun (y : Option Addr × Nat) u => [u 0, u 1, u 2, u 3, u 4, .bool true, .int .u8 1, .int .i64 N, .int .i64 200, u 9, u 10, u 11, u 12, .pointer (some ⟨b13, 0, none⟩), .pointer (some ⟨b14, 0, none⟩), u 15, u 16, u 17, u 18, u 19, u 20, u 21, u 22, u 23, u 24, u 25, u 26, u 27, u 28, u 29, u 30, u 31, u 32, u 33, u 34, u 35, u 36, u 37, u 38, u 39, u 40, u 41, u 42, u 43, u 44, u 45, u 46, u 47, u 48, u 49, u 50, u 51, u 52, u 53, u 54, u 55, u 56, u 57, u 58, u 59, u 60, u 61, u 62, u 63, u 64, u 65, u 66, u 67, u 68, u 69, u 70, u 71, u 72, u 73, u 74, u 75, u 76, u 77, u 78, u 79, u 80, u 81, u 82, u 83, u 84, u 85, u 86, u 87, u 88, u 89, u 90, u 91, u 92, u 93, u 94, u 95, u 96, u 97, u 98, u 99, u 100, u 101, u 102, u 103, u 104, u 105, u 106, u 107, u 108, u 109, u 110, u 111, u 112, u 113, u 114, u 115, u 116, u 117, u 118, u 119, u 120, u 121, u 122, u 123, u 124, u 125, u 126, u 127, u 128, u 129, u 130, u 131, u 132, u 133, u 134, u 135, u 136, u 137, u 138, u 139, u 140, u 141, u 142, u 143, u 144, u 145, u 146, u 147, u 148, u 149, u 150, u 151, u 152, u 153, u 154, u 155, u 156, u 157, u 158, u 159, u 160, u 161, u 162, u 163, u 164, u 165, u 166, u 167, u 168, u 169, u 170, u 171, u 172, u 173, u 174, u 175, u 176, u 177, u 178, u 179, u 180, u 181, u 182, u 183, u 184])
        (fun y => [.box b13 [str m, str p, str q, .int .i64 v, .slice B1 ((n, x) :: F).length c1, .slice C bn bc] 28, .box b14 [str m, str p, str q, .int .i64 v, .slice y.1 (F ++ [(n, x)]).length y.2, .slice C bn bc] 28, .row (.slice B1 ((n, x) :: F).length c1) 39 2 ((n, x) :: F).length (fcells ((n, x) :: F)), .row (.slice y.1 (F ++ [(n, x)]).length y.2) 39 2 (F ++ [(n, x)]).length (fcells (F ++ [(n, x)]))])
        [] (.q 0 (.q 1 (.ch 2 (.q 3 (.a 4 (.a 5 (.q 6 (.a 7 (.nil)))))) (.ch 3 (.ch 2 (.a 4 (.a 5 (.q 6 (.a 7 (.nil))))) (.ch 4 (.a 2 (.a 5 (.q 6 (.a 7 (.nil))))) (.stop))) (.stop))))) tys_ok mixed (by kernel_rfl) ?_ ?_
      · (repeat' ((conv => whnf); first | (first | refine tk1 ?_ | refine tk2 ?_ | refine tk3 ?_ | refine tk12 (fun _ => ?_) | refine tk4 ?_ | refine tk5 ?_ | refine tk6 ?_ | refine tk7 ?_ | refine tk8 ?_ | refine tk9 ?_ | refine tk10 (fun _ _ => ?_) | refine tk11 (fun _ => ?_)) | refine And.intro ?_ ?_ | exact trivial | exact ⟨(_, _), rfl, (by repeat' (first | exact Cov.nil | refine Cov.cons (by first | exact Pick.here | exact Pick.here.skip | exact Pick.here.skip.skip | exact Pick.here.skip.skip.skip | exact Pick.here.skip.skip.skip.skip | exact Pick.here.skip.skip.skip.skip.skip | exact Pick.here.skip.skip.skip.skip.skip.skip) ?_))⟩ | (refine AppS.t0 (m := F.length) (news := fcells F) SrcK.tc (by rw [fcells_length]; omega) (fcells_one F) (by decide) (by omega) (by omega) (fun B2 c2 => ?_)) | (refine AppS.tc (m := 1) (news := [str n, str x]) SrcK.tc rfl (by simp [Value.oneCell']) (by decide) (by omega) (by omega) (zs := fcells (F ++ [(n, x)])) (by rw [fcells_app]; rfl) (fun B3 c3 => ?_); rw [show F.length + 1 = (F ++ [(n, x)]).length by simp])))
      rintro ⟨B3, c3⟩ u
      dsimp only
      (conv => whnf); repeat ((first | refine tk1 ?_ | refine tk2 ?_ | refine tk3 ?_ | refine tk12 (fun _ => ?_) | refine tk4 ?_ | refine tk5 ?_ | refine tk6 ?_ | refine tk7 ?_ | refine tk8 ?_ | refine tk9 ?_ | refine tk10 (fun _ _ => ?_) | refine tk11 (fun _ => ?_)); (conv => whnf))
      refine CallK.fnR (Of_s m p q v B1 c1 ((n, x) :: F) (.slice C bn bc) zc hv hcs) ⟨RdA.ok, trivial⟩ ?_
      (conv => whnf); repeat ((first | refine tk1 ?_ | refine tk2 ?_ | refine tk3 ?_ | refine tk12 (fun _ => ?_) | refine tk4 ?_ | refine tk5 ?_ | refine tk6 ?_ | refine tk7 ?_ | refine tk8 ?_ | refine tk9 ?_ | refine tk10 (fun _ _ => ?_) | refine tk11 (fun _ => ?_)); (conv => whnf))
      refine CallK.fnR (Of_s m p q v B3 c3 (F ++ [(n, x)]) (.slice C bn bc) zs hv hsn) ⟨RdA.ok, trivial⟩ ?_
      (conv => whnf); repeat ((first | refine tk1 ?_ | refine tk2 ?_ | refine tk3 ?_ | refine tk12 (fun _ => ?_) | refine tk4 ?_ | refine tk5 ?_ | refine tk6 ?_ | refine tk7 ?_ | refine tk8 ?_ | refine tk9 ?_ | refine tk10 (fun _ _ => ?_) | refine tk11 (fun _ => ?_)); (conv => whnf))
      exact fun w' _ => rfl
end Go.Proofs.YtggokigjnaiokaaDoor.Vex
namespace Go.Proofs.YtggokigjnaiokaaDoor.sizeOne
open Go.ChangeShapes Go.WideShapes Go.ChangeAt Go.RowKit

set_option maxRecDepth 100000 in
theorem contract (H : Type) (enc : TypeId × Value → H) (W : World) (base : Nat) (args : Array Value) (ds gs : List (DataW H)) (before : List MemPlace)
    (hval : ∀ (j : Nat) t v, Tryd.f6.params[j]? = some t → args[j]? = some v → Value.okWide Tryd.prog W .any base t v)
    (hW : DataW.Whole enc Tryd.prog Tryd.f6.params.toList Rows.sizeOneSpec.vars false W args.toList ds gs before) (_hL : laidMetH Tryd.prog Rows.sizeOneUptoRow.laid W) (hS : W.ShapedOpen Tryd.prog) (hK : Rows.uptoSmall H (ds ++ gs) = true) :
    Calls Tryd.prog 6 args W fun e W' => ∃ v, e = .returned v ∧ Rows.sizeOneSpec.post enc Tryd.prog Tryd.f6 false true false false W args v W' := by
  have hW' := hW
  obtain ⟨p, q, hA, hV, rfl, hfz, hnd⟩ := hW
  rw [Tryd.params6] at hA hval
  obtain ⟨v0, vs0, d0, ds0, p0, q0, hargs, rfl, rfl, h0, r0⟩ := trodAll_cons hA
  obtain ⟨v1, vs1, d1, ds1, p1, q1, rfl, rfl, rfl, h1, r1⟩ := trodAll_cons r0
  obtain ⟨rfl, rfl, rfl⟩ := trodAll_nil r1
  obtain rfl : args = #[v0, v1] := by rw [← Array.toList_inj]; exact hargs
  obtain ⟨rfl, rfl⟩ := trodVars_none hV
  obtain ⟨x0, rfl, k0, z0⟩ := Vex.open_whole Vex.opens_request Tryd.underlying28 (hval 0 28 v0 rfl rfl) h0
  obtain ⟨x1, rfl, k1, z1⟩ := Vex.open_whole Vex.opens_field Tryd.underlying39 (hval 1 39 v1 rfl rfl) h1
  have hB := Vex.bulk_of2 hK
  simp only [List.append_nil, List.cons_append, List.nil_append, Rows.uptoBulkAll, Nat.add_zero] at hB
  have hG := Vex.gB_of hS
  refine (Vex.done_E (Vex.SizeOne_v x0.m x0.p x0.q x0.v x0.F.A x0.F.cp x0.F.l x0.B.A x0.B.l.length x0.B.cp x1.1 x1.2 (by have a := Vex.req_fsum x0; have b := Vex.fld_len x1; omega) k0.1) hG ⟨Vex.rd_fields k0.2.1, trivial⟩).mono fun e W' ⟨he, hb⟩ => ?_
  exact ⟨_, he, law_post laidOut rfl hW' (by kernel_rfl) (by kernel_rfl) Tryd.underlying4 (by kernel_rfl) hb⟩

abbrev start : Array Value := #[.agg #[.string ⟨#[]⟩, .string ⟨#[]⟩, .string ⟨#[]⟩, .int .i64 0, .slice none 0 0, .slice none 0 0], .agg #[.string ⟨#[]⟩, .string ⟨#[]⟩]]
theorem laid_met (os : Os) : laidMet Tryd.prog Rows.sizeOneUptoRow.laid ((laidWorld os start).forCall (fun _ _ => 0) ⟨#[], start, []⟩).memory :=
  laidMet_of_run' 8 (by kernel_rfl) (by kernel_rfl)
theorem reads (os : Os) {H : Type} (enc : TypeId × Value → H) : ∃ places, DataW.whole enc Tryd.prog ((laidWorld os start).forCall (fun _ _ => 0) ⟨#[], start, []⟩).memory Tryd.f6.params.toList Rows.sizeOneSpec.vars false start.toList 8 = some ([.agg [.lit (.string []), .lit (.string []), .lit (.string []), .lit (.int .i64 0), .nil, .nil], .agg [.lit (.string []), .lit (.string [])]], [], places) :=
  ⟨[], by kernel_rfl⟩

set_option maxRecDepth 100000 in
theorem lifted (os : Os) (started : os.Started) (H : Type) (enc : TypeId × Value → H) (F : Stop.Interp) :
    ReturnsInHanded {} Tryd.checked os 6 .any ((Rows.OpenSpec.upto Rows.sizeOneSpec).preRow enc Tryd.prog Tryd.f6 Rows.sizeOneUptoRow.domain false Rows.sizeOneUptoRow.laid) (((Rows.OpenSpec.upto Rows.sizeOneSpec).at F).post enc Tryd.prog Tryd.f6 false true false false) := by
  obtain ⟨places, hx⟩ := reads os enc
  refine returnsInHanded_of_row (C := Tryd.checked) (s := Rows.OpenSpec.upto Rows.sizeOneSpec) own started (by kernel_rfl) Tryd.func6
    (witness_row_atRef (enc := enc) (C := Tryd.checked) false (laidWorld os start) start rfl (by kernel_rfl) (by kernel_rfl) (by kernel_rfl)
      (OpenSpec.preRow_of_cond 8 hx (by kernel_rfl) (fun k hk => by cases hk; kernel_rfl) (by kernel_rfl) (laid_met os))) ?_
  intro W base args ds gs before hval hW _ hB _ hL hS _
  exact contract H enc W base args ds gs before hval hW hL hS (hB _ rfl)

theorem said : Rows.SizeOneUptoSaid :=
  OpenClaim.holds_of_cond 6 Tryd.f6 rfl rfl rfl rfl rfl rfl rfl ⟨rfl, rfl, rfl, rfl, rfl⟩ rfl rfl rfl rfl rfl (by kernel_rfl) Tryd.func6 (by kernel_rfl)
    (of_decide_eq_true (by kernel_rfl)) (by unfold Func.isWrapper; first | (rw [if_pos (by decide +kernel)]; kernel_rfl) | (rw [if_neg (by decide +kernel)]; exact ⟨rfl, rfl⟩))
    (fun os started H enc _ F => by rw [OpenClaim.pre_eq_preRow]; exact lifted os started H enc F)

/-- No parameter wants a stand-in; the program's own looks. -/
theorem plain (f : FuncId) (fn : Func) (hf : Tryd.pinned.checked.prog.funcNamed "bellows/bellowslaw21.SizeOne" = some f) (hfn : Tryd.pinned.checked.prog.funcs[f]? = some fn) :
    true = Tryd.pinned.checked.prog.looks [] ∧ ∀ (j : Nat) t, fn.params[j]? = some t → Tryd.pinned.checked.prog.wantsStandIn t = false := by
  obtain rfl : f = 6 := Option.some.inj ((show Tryd.prog.funcNamed "bellows/bellowslaw21.SizeOne" = some 6 by kernel_rfl).symm.trans hf) |>.symm
  obtain rfl : fn = Tryd.f6 := (Option.some.inj (Tryd.func6.symm.trans hfn)).symm
  refine ⟨by kernel_rfl, fun j t ht => ?_⟩
  have hall : (Tryd.f6.params.toList.all fun t => !Tryd.prog.wantsStandIn t) = true := by kernel_rfl
  have := List.all_eq_true.1 hall t (Array.mem_toList_iff.2 (Array.mem_of_getElem? ht))
  exact (show Tryd.prog.wantsStandIn t = false by simpa using this)

theorem proved : Rows.SizeOneUptoCardSaid :=
  Claim7.holds_tied_plain_at .later [] _ _ _ _ said (fun _ h => by cases h) (by kernel_rfl) (fun _ h => by cases h) sizeOneUpto_row_tie rfl ⟨rfl, rfl⟩ (by kernel_rfl) rfl plain (by kernel_rfl)
end Go.Proofs.YtggokigjnaiokaaDoor.sizeOne
