/- Plain laws on fields: a field's line tells it. No program in sight. -/
import Derived.Test.YtmdmmncoigeijaaGreatDoorMPageAnswers2
import Derived.Test.YtmdmmncoigeijaaGreatDoorRows
import Derived.Lib.LaidU8
import Derived.LaidLaws
import Derived.MakeChecks
namespace Go.Proofs.YtmdmmncoigeijaaGreatDoor

theorem tok_no_colon (x : UInt8) (h : tokB x = true) : ¬ x.toNat = 58 := by
  intro h58
  have : x = 58 := b8 (n := 58) (by decide) h58
  subst this
  revert h
  decide
theorem cutC_token (n r : List UInt8) (h : n.all tokB = true) : cutC (n ++ 58 :: r) = (n, r, true) := by
  induction n with
  | nil => rw [List.nil_append, cutC, if_pos (by decide)]
  | cons x n ih =>
    rw [List.all_cons, Bool.and_eq_true] at h
    rw [List.cons_append, cutC, if_neg (tok_no_colon x h.1), ih h.2]
theorem fieldOK_parts {n v : List UInt8} (h : fieldOK n v = true) : n.length ≤ 4096 ∧ v.length ≤ 4096 ∧ tokenOf n = true ∧ smallOf n = n ∧ valueOf v = true := by
  unfold fieldOK at h
  simpa using h
theorem token_all {n : List UInt8} (h : tokenOf n = true) : n.all tokB = true := by
  unfold tokenOf at h
  rw [Bool.and_eq_true] at h
  exact h.2
theorem value_trim {v : List UInt8} (h : valueOf v = true) : trimB v = v := by
  unfold valueOf at h
  rw [Bool.and_eq_true, beq_iff_eq] at h
  exact h.1
theorem trimB_front (x : UInt8) (l : List UInt8) (h : blankB x = true) : trimB (x :: l) = trimB l := by rw [trimB_eq, trimB_eq, trimLB_blank x l h]
theorem trimB_back (x : UInt8) (l : List UInt8) (h : blankB x = true) : trimB (l ++ [x]) = trimB l := by
  unfold trimB Lib.trimS
  have : Lib.trimRightS (l ++ [x]) [32, 9] = Lib.trimRightS l [32, 9] := trimRB_blank x l h
  rw [this]
theorem trimB_blanks (k : Nat) (l : List UInt8) : trimB (List.replicate k 32 ++ l) = trimB l := by
  induction k with
  | zero => rfl
  | succ k ih => rw [List.replicate_succ, List.cons_append, trimB_front _ _ (by decide), ih]
/-- A line of a field, with blanks about its value, is read as that field. -/
theorem parse_line (n v l : List UInt8) (h : fieldOK n v = true) (hl : (n ++ 58 :: l).length ≤ 4096) (ht : trimB l = v) : parseOK (n ++ 58 :: l) = true ∧ parseN (n ++ 58 :: l) = n ∧ parseV (n ++ 58 :: l) = v := by
  obtain ⟨_, _, h3, h4, h5⟩ := fieldOK_parts h
  have hc := cutC_token n l (token_all h3)
  have hok : parseOK (n ++ 58 :: l) = true := by
    unfold parseOK
    rw [hc]
    simp only [Bool.and_eq_true, decide_eq_true_eq]
    exact ⟨hl, trivial, by rw [h4, ht]; exact h⟩
  refine ⟨hok, ?_, ?_⟩
  · unfold parseN; rw [if_pos hok, hc]; exact h4
  · unfold parseV; rw [if_pos hok, hc]; exact ht
theorem parse_plain (n v : List UInt8) (h : fieldOK n v = true) (hl : n.length + v.length ≤ 4000) : parseOK (lineOf n v) = true ∧ parseN (lineOf n v) = n ∧ parseV (lineOf n v) = v := by
  have e : lineOf n v = n ++ 58 :: (32 :: v) := by unfold lineOf; rw [if_pos h]; simp
  rw [e]
  exact parse_line n v _ h (by simp; omega) (by rw [trimB_front _ _ (by decide), value_trim (fieldOK_parts h).2.2.2.2])
theorem parse_wide (n v : List UInt8) (k : Nat) (h : fieldOK n v = true) (hl : n.length + v.length ≤ 4000) (hk : k ≤ 9) :
    parseOK (n ++ [58] ++ List.replicate k 32 ++ v ++ [9]) = true ∧ parseN (n ++ [58] ++ List.replicate k 32 ++ v ++ [9]) = n ∧ parseV (n ++ [58] ++ List.replicate k 32 ++ v ++ [9]) = v := by
  have e : n ++ [58] ++ List.replicate k 32 ++ v ++ [9] = n ++ 58 :: (List.replicate k 32 ++ (v ++ [9])) := by simp
  rw [e]
  refine parse_line n v _ h (by simp; omega) ?_
  rw [trimB_blanks, trimB_back _ _ (by decide), value_trim (fieldOK_parts h).2.2.2.2]
theorem cutC_length : ∀ l : List UInt8, (cutC l).1.length + (cutC l).2.1.length ≤ l.length
  | [] => by simp [cutC]
  | x :: l => by
    have ih := cutC_length l
    rw [cutC]
    split
    · simp
    · simp only [List.length_cons]; omega
theorem trimB_length (l : List UInt8) : (trimB l).length ≤ l.length := by
  rw [trimB_eq]
  exact Nat.le_trans (trimRB_short _) (trimLB_short _)
theorem parse_field {l : List UInt8} (h : parseOK l = true) : fieldOK (parseN l) (parseV l) = true ∧ (parseN l).length + (parseV l).length ≤ l.length := by
  have hN : parseN l = smallOf (cutC l).1 := by unfold parseN; rw [if_pos h]
  have hV : parseV l = trimB (cutC l).2.1 := by unfold parseV; rw [if_pos h]
  rw [hN, hV]
  constructor
  · unfold parseOK at h
    rw [Bool.and_eq_true, Bool.and_eq_true] at h
    exact h.2.2
  · have h1 := cutC_length l
    have h2 := trimB_length (cutC l).2.1
    rw [smallOf_length]
    omega
end Go.Proofs.YtmdmmncoigeijaaGreatDoor
/- The program's functions on fields, reckoned. -/
namespace Go.Proofs.YtmdmmncoigeijaaGreatDoor.Vex
open Go Go.RowKit
set_option maxRecDepth 100000
set_option linter.unusedSectionVars false
variable {gI : GI} [HasMax gI]

theorem small_f (x : Int) : Fn Tryz.prog gI 114 [.int .u8 x] (.bool (smallI x)) := by
  refine Fn.of tys_ok Tryz.func114 rfl (by kernel_rfl) rfl rfl ?_; intro w hG
  repeat' ((conv => whnf); first | (first | refine tk1 ?_ | refine tk2 ?_ | refine tk3 ?_ | refine tk12 (fun _ => ?_) | refine tk4 ?_ | refine tk5 ?_ | refine tk6 ?_ | refine tk7 ?_ | refine tk8 ?_ | refine tk9 ?_ | refine tk10 (fun _ _ => ?_) | refine tk11 (fun _ => ?_) | refine tk13 ?_ | refine tk14 ?_) | refine Cmp.cases (fun _ => ?_) (fun _ => ?_)); all_goals (conv => whnf)
  all_goals first | rfl | (refine congrArg Value.bool ?_; first | (simp [smallI, *]; done) | (rw [Bool.eq_iff_iff]; simp [smallI]; omega) | (rw [Bool.eq_iff_iff]; simp [smallI, *]; done) | (rw [Bool.eq_iff_iff]; simp [smallI, *]; omega))
theorem great_f (x : Int) : Fn Tryz.prog gI 115 [.int .u8 x] (.bool (greatI x)) := by
  refine Fn.of tys_ok Tryz.func115 rfl (by kernel_rfl) rfl rfl ?_; intro w hG
  repeat' ((conv => whnf); first | (first | refine tk1 ?_ | refine tk2 ?_ | refine tk3 ?_ | refine tk12 (fun _ => ?_) | refine tk4 ?_ | refine tk5 ?_ | refine tk6 ?_ | refine tk7 ?_ | refine tk8 ?_ | refine tk9 ?_ | refine tk10 (fun _ _ => ?_) | refine tk11 (fun _ => ?_) | refine tk13 ?_ | refine tk14 ?_) | refine Cmp.cases (fun _ => ?_) (fun _ => ?_)); all_goals (conv => whnf)
  all_goals first | rfl | (refine congrArg Value.bool ?_; first | (simp [greatI, *]; done) | (rw [Bool.eq_iff_iff]; simp [greatI]; omega) | (rw [Bool.eq_iff_iff]; simp [greatI, *]; done) | (rw [Bool.eq_iff_iff]; simp [greatI, *]; omega))
theorem Value1_f (x : Int) : Fn Tryz.prog gI 118 [.int .u8 x] (.bool (valI x)) := by
  refine Fn.of tys_ok Tryz.func118 rfl (by kernel_rfl) rfl rfl ?_; intro w hG
  repeat' ((conv => whnf); first | (first | refine tk1 ?_ | refine tk2 ?_ | refine tk3 ?_ | refine tk12 (fun _ => ?_) | refine tk4 ?_ | refine tk5 ?_ | refine tk6 ?_ | refine tk7 ?_ | refine tk8 ?_ | refine tk9 ?_ | refine tk10 (fun _ _ => ?_) | refine tk11 (fun _ => ?_) | refine tk13 ?_ | refine tk14 ?_) | refine Cmp.cases (fun _ => ?_) (fun _ => ?_)); all_goals (conv => whnf)
  all_goals first | rfl | (refine congrArg Value.bool ?_; first | (simp [valI, *]; done) | (rw [Bool.eq_iff_iff]; simp [valI]; omega) | (rw [Bool.eq_iff_iff]; simp [valI, *]; done) | (rw [Bool.eq_iff_iff]; simp [valI, *]; omega))
theorem Token1_f (x : Int) (h0 : 0 ≤ x) (h1 : x ≤ 255) : Fn Tryz.prog gI 113 [.int .u8 x] (.bool (tokI x)) := by
  have hm := marks_index x h0 h1
  refine Fn.of tys_ok Tryz.func113 rfl (by kernel_rfl) rfl rfl ?_; intro w hG
  (conv => whnf); repeat ((first | refine tk1 ?_ | refine tk2 ?_ | refine tk3 ?_ | refine tk12 (fun _ => ?_) | refine tk4 ?_ | refine tk5 ?_ | refine tk6 ?_ | refine tk7 ?_ | refine tk8 ?_ | refine tk9 ?_ | refine tk10 (fun _ _ => ?_) | refine tk11 (fun _ => ?_) | refine tk13 ?_ | refine tk14 ?_); (conv => whnf))
  refine CallK.fn (small_f _) ?_
  cases hs : smallI x
  · (conv => whnf); repeat ((first | refine tk1 ?_ | refine tk2 ?_ | refine tk3 ?_ | refine tk12 (fun _ => ?_) | refine tk4 ?_ | refine tk5 ?_ | refine tk6 ?_ | refine tk7 ?_ | refine tk8 ?_ | refine tk9 ?_ | refine tk10 (fun _ _ => ?_) | refine tk11 (fun _ => ?_) | refine tk13 ?_ | refine tk14 ?_); (conv => whnf))
    refine CallK.fn (great_f _) ?_
    cases hg : greatI x
    · (conv => whnf); repeat ((first | refine tk1 ?_ | refine tk2 ?_ | refine tk3 ?_ | refine tk12 (fun _ => ?_) | refine tk4 ?_ | refine tk5 ?_ | refine tk6 ?_ | refine tk7 ?_ | refine tk8 ?_ | refine tk9 ?_ | refine tk10 (fun _ _ => ?_) | refine tk11 (fun _ => ?_) | refine tk13 ?_ | refine tk14 ?_); (conv => whnf))
      refine CallK.fn (IndexByte_f _ _) ?_
      (conv => whnf); repeat ((first | refine tk1 ?_ | refine tk2 ?_ | refine tk3 ?_ | refine tk12 (fun _ => ?_) | refine tk4 ?_ | refine tk5 ?_ | refine tk6 ?_ | refine tk7 ?_ | refine tk8 ?_ | refine tk9 ?_ | refine tk10 (fun _ _ => ?_) | refine tk11 (fun _ => ?_) | refine tk13 ?_ | refine tk14 ?_); (conv => whnf))
      refine Cmp.of (markI x) (by rw [← hm]; simp [marksL]) ?_
      (conv => whnf); repeat ((first | refine tk1 ?_ | refine tk2 ?_ | refine tk3 ?_ | refine tk12 (fun _ => ?_) | refine tk4 ?_ | refine tk5 ?_ | refine tk6 ?_ | refine tk7 ?_ | refine tk8 ?_ | refine tk9 ?_ | refine tk10 (fun _ _ => ?_) | refine tk11 (fun _ => ?_) | refine tk13 ?_ | refine tk14 ?_); (conv => whnf))
      first | rfl | (refine congrArg Value.bool ?_; first | (simp [tokI, *]; done) | (rw [Bool.eq_iff_iff]; simp [tokI]; omega) | (rw [Bool.eq_iff_iff]; simp [tokI, *]; done) | (rw [Bool.eq_iff_iff]; simp [tokI, *]; omega))
    · (conv => whnf); repeat ((first | refine tk1 ?_ | refine tk2 ?_ | refine tk3 ?_ | refine tk12 (fun _ => ?_) | refine tk4 ?_ | refine tk5 ?_ | refine tk6 ?_ | refine tk7 ?_ | refine tk8 ?_ | refine tk9 ?_ | refine tk10 (fun _ _ => ?_) | refine tk11 (fun _ => ?_) | refine tk13 ?_ | refine tk14 ?_); (conv => whnf))
      first | rfl | (refine congrArg Value.bool ?_; first | (simp [tokI, *]; done) | (rw [Bool.eq_iff_iff]; simp [tokI]; omega) | (rw [Bool.eq_iff_iff]; simp [tokI, *]; done) | (rw [Bool.eq_iff_iff]; simp [tokI, *]; omega))
  · (conv => whnf); repeat ((first | refine tk1 ?_ | refine tk2 ?_ | refine tk3 ?_ | refine tk12 (fun _ => ?_) | refine tk4 ?_ | refine tk5 ?_ | refine tk6 ?_ | refine tk7 ?_ | refine tk8 ?_ | refine tk9 ?_ | refine tk10 (fun _ _ => ?_) | refine tk11 (fun _ => ?_) | refine tk13 ?_ | refine tk14 ?_); (conv => whnf))
    first | rfl | (refine congrArg Value.bool ?_; first | (simp [tokI, *]; done) | (rw [Bool.eq_iff_iff]; simp [tokI]; omega) | (rw [Bool.eq_iff_iff]; simp [tokI, *]; done) | (rw [Bool.eq_iff_iff]; simp [tokI, *]; omega))
theorem all_f (f : Nat) (p : Int → Bool) (hf : ∀ x, 0 ≤ x → x ≤ 255 → Fn Tryz.prog gI f [.int .u8 x] (.bool (p x))) (l : List UInt8) (hl : l.length ≤ 1000000000000) :
    Fn Tryz.prog gI 112 [str l, .func (.func f) #[] #[]] (.bool (l.all fun x => p x.toNat)) := by
  refine Fn.of tys_ok Tryz.func112 rfl (by kernel_rfl) rfl rfl ?_; intro w hG
  (conv => whnf); repeat ((first | refine tk1 ?_ | refine tk2 ?_ | refine tk3 ?_ | refine tk12 (fun _ => ?_) | refine tk4 ?_ | refine tk5 ?_ | refine tk6 ?_ | refine tk7 ?_ | refine tk8 ?_ | refine tk9 ?_ | refine tk10 (fun _ _ => ?_) | refine tk11 (fun _ => ?_) | refine tk13 ?_ | refine tk14 ?_); (conv => whnf))
  refine LoopS.lp tys_ok (fun k u => [str l, .func (.func f) #[] #[], u 2, u 3, u 4, u 5, u 6, .int .i64 l.length, .int .i64 (k : Nat), u 9, u 10, u 11, u 12, u 13, u 14, u 15, u 16, u 17]) (fun _ => [])
    (fun k => k ≤ l.length ∧ (l.all fun x => p x.toNat) = ((l.drop k).all fun x => p x.toNat)) (fun k => l.length - k) 0 ⟨Nat.zero_le _, rfl⟩ rfl (by repeat' (first | exact List.Sublist.refl _ | exact List.nil_sublist _ | apply List.Sublist.cons_cons | apply List.Sublist.cons)) ?_
  intro k u ⟨hk, hI⟩
  (conv => whnf); repeat ((first | refine tk1 ?_ | refine tk2 ?_ | refine tk3 ?_ | refine tk12 (fun _ => ?_) | refine tk4 ?_ | refine tk5 ?_ | refine tk6 ?_ | refine tk7 ?_ | refine tk8 ?_ | refine tk9 ?_ | refine tk10 (fun _ _ => ?_) | refine tk11 (fun _ => ?_) | refine tk13 ?_ | refine tk14 ?_); (conv => whnf))
  refine Cmp.cases (fun hlt => ?_) (fun hlt => ?_)
  · have hd : l.drop k = l[k]'(by omega) :: l.drop (k + 1) := List.drop_eq_getElem_cons (by omega)
    (conv => whnf); repeat ((first | refine tk1 ?_ | refine tk2 ?_ | refine tk3 ?_ | refine tk12 (fun _ => ?_) | refine tk4 ?_ | refine tk5 ?_ | refine tk6 ?_ | refine tk7 ?_ | refine tk8 ?_ | refine tk9 ?_ | refine tk10 (fun _ _ => ?_) | refine tk11 (fun _ => ?_) | refine tk13 ?_ | refine tk14 ?_); (conv => whnf))
    refine IdxS.at (l[k]'(by omega)) (List.getElem?_eq_getElem _) (by omega) ?_
    (conv => whnf); repeat ((first | refine tk1 ?_ | refine tk2 ?_ | refine tk3 ?_ | refine tk12 (fun _ => ?_) | refine tk4 ?_ | refine tk5 ?_ | refine tk6 ?_ | refine tk7 ?_ | refine tk8 ?_ | refine tk9 ?_ | refine tk10 (fun _ _ => ?_) | refine tk11 (fun _ => ?_) | refine tk13 ?_ | refine tk14 ?_); (conv => whnf))
    refine CallK.fn (hf _ (by omega) (by have := (l[k]'(by omega)).toNat_lt; omega)) ?_
    cases hq : p (l[k]'(by omega)).toNat
    · (conv => whnf); repeat ((first | refine tk1 ?_ | refine tk2 ?_ | refine tk3 ?_ | refine tk12 (fun _ => ?_) | refine tk4 ?_ | refine tk5 ?_ | refine tk6 ?_ | refine tk7 ?_ | refine tk8 ?_ | refine tk9 ?_ | refine tk10 (fun _ _ => ?_) | refine tk11 (fun _ => ?_) | refine tk13 ?_ | refine tk14 ?_); (conv => whnf))
      rw [hI, hd, List.all_cons, hq]; rfl
    · (conv => whnf); repeat ((first | refine tk1 ?_ | refine tk2 ?_ | refine tk3 ?_ | refine tk12 (fun _ => ?_) | refine tk4 ?_ | refine tk5 ?_ | refine tk6 ?_ | refine tk7 ?_ | refine tk8 ?_ | refine tk9 ?_ | refine tk10 (fun _ _ => ?_) | refine tk11 (fun _ => ?_) | refine tk13 ?_ | refine tk14 ?_); (conv => whnf))
      exact ⟨k + 1, ⟨by omega, by rw [hI, hd, List.all_cons, hq]; rfl⟩, rfl, (by repeat' (first | exact List.Sublist.refl _ | exact List.nil_sublist _ | apply List.Sublist.cons_cons | apply List.Sublist.cons)), by dsimp only; omega⟩
  · (conv => whnf); repeat ((first | refine tk1 ?_ | refine tk2 ?_ | refine tk3 ?_ | refine tk12 (fun _ => ?_) | refine tk4 ?_ | refine tk5 ?_ | refine tk6 ?_ | refine tk7 ?_ | refine tk8 ?_ | refine tk9 ?_ | refine tk10 (fun _ _ => ?_) | refine tk11 (fun _ => ?_) | refine tk13 ?_ | refine tk14 ?_); (conv => whnf))
    rw [hI, List.drop_eq_nil_of_le (by omega)]
    rfl
theorem Token_f (l : List UInt8) (hl : l.length ≤ 1000000000000) : Fn Tryz.prog gI 79 [str l] (.bool (tokenOf l)) := by
  refine Fn.of tys_ok Tryz.func79 rfl (by kernel_rfl) rfl rfl ?_; intro w hG
  (conv => whnf); repeat ((first | refine tk1 ?_ | refine tk2 ?_ | refine tk3 ?_ | refine tk12 (fun _ => ?_) | refine tk4 ?_ | refine tk5 ?_ | refine tk6 ?_ | refine tk7 ?_ | refine tk8 ?_ | refine tk9 ?_ | refine tk10 (fun _ _ => ?_) | refine tk11 (fun _ => ?_) | refine tk13 ?_ | refine tk14 ?_); (conv => whnf))
  refine Cmp.cases (fun h => ?_) (fun h => ?_)
  · (conv => whnf); repeat ((first | refine tk1 ?_ | refine tk2 ?_ | refine tk3 ?_ | refine tk12 (fun _ => ?_) | refine tk4 ?_ | refine tk5 ?_ | refine tk6 ?_ | refine tk7 ?_ | refine tk8 ?_ | refine tk9 ?_ | refine tk10 (fun _ _ => ?_) | refine tk11 (fun _ => ?_) | refine tk13 ?_ | refine tk14 ?_); (conv => whnf))
    refine CallK.fn (all_f _ tokI Token1_f l hl) ?_
    (conv => whnf); repeat ((first | refine tk1 ?_ | refine tk2 ?_ | refine tk3 ?_ | refine tk12 (fun _ => ?_) | refine tk4 ?_ | refine tk5 ?_ | refine tk6 ?_ | refine tk7 ?_ | refine tk8 ?_ | refine tk9 ?_ | refine tk10 (fun _ _ => ?_) | refine tk11 (fun _ => ?_) | refine tk13 ?_ | refine tk14 ?_); (conv => whnf))
    cases l with
    | nil => exact absurd rfl h
    | cons a r => rfl
  · (conv => whnf); repeat ((first | refine tk1 ?_ | refine tk2 ?_ | refine tk3 ?_ | refine tk12 (fun _ => ?_) | refine tk4 ?_ | refine tk5 ?_ | refine tk6 ?_ | refine tk7 ?_ | refine tk8 ?_ | refine tk9 ?_ | refine tk10 (fun _ _ => ?_) | refine tk11 (fun _ => ?_) | refine tk13 ?_ | refine tk14 ?_); (conv => whnf))
    obtain rfl : l = [] := by simpa using h
    rfl
theorem Value_f (l : List UInt8) (hl : l.length ≤ 1000000000000) : Fn Tryz.prog gI 81 [str l] (.bool (valueOf l)) := by
  refine Fn.of tys_ok Tryz.func81 rfl (by kernel_rfl) rfl rfl ?_; intro w hG
  (conv => whnf); repeat ((first | refine tk1 ?_ | refine tk2 ?_ | refine tk3 ?_ | refine tk12 (fun _ => ?_) | refine tk4 ?_ | refine tk5 ?_ | refine tk6 ?_ | refine tk7 ?_ | refine tk8 ?_ | refine tk9 ?_ | refine tk10 (fun _ _ => ?_) | refine tk11 (fun _ => ?_) | refine tk13 ?_ | refine tk14 ?_); (conv => whnf))
  refine CallK.fn (Trim_f l (by omega)) ?_
  (conv => whnf); repeat ((first | refine tk1 ?_ | refine tk2 ?_ | refine tk3 ?_ | refine tk12 (fun _ => ?_) | refine tk4 ?_ | refine tk5 ?_ | refine tk6 ?_ | refine tk7 ?_ | refine tk8 ?_ | refine tk9 ?_ | refine tk10 (fun _ _ => ?_) | refine tk11 (fun _ => ?_) | refine tk13 ?_ | refine tk14 ?_); (conv => whnf))
  refine Cmp.cases (fun h => ?_) (fun h => ?_)
  · (conv => whnf); repeat ((first | refine tk1 ?_ | refine tk2 ?_ | refine tk3 ?_ | refine tk12 (fun _ => ?_) | refine tk4 ?_ | refine tk5 ?_ | refine tk6 ?_ | refine tk7 ?_ | refine tk8 ?_ | refine tk9 ?_ | refine tk10 (fun _ _ => ?_) | refine tk11 (fun _ => ?_) | refine tk13 ?_ | refine tk14 ?_); (conv => whnf))
    refine CallK.fn (all_f _ valI (fun x _ _ => Value1_f x) l hl) ?_
    (conv => whnf); repeat ((first | refine tk1 ?_ | refine tk2 ?_ | refine tk3 ?_ | refine tk12 (fun _ => ?_) | refine tk4 ?_ | refine tk5 ?_ | refine tk6 ?_ | refine tk7 ?_ | refine tk8 ?_ | refine tk9 ?_ | refine tk10 (fun _ _ => ?_) | refine tk11 (fun _ => ?_) | refine tk13 ?_ | refine tk14 ?_); (conv => whnf))
    simp [valueOf, h]
    rfl
  · (conv => whnf); repeat ((first | refine tk1 ?_ | refine tk2 ?_ | refine tk3 ?_ | refine tk12 (fun _ => ?_) | refine tk4 ?_ | refine tk5 ?_ | refine tk6 ?_ | refine tk7 ?_ | refine tk8 ?_ | refine tk9 ?_ | refine tk10 (fun _ _ => ?_) | refine tk11 (fun _ => ?_) | refine tk13 ?_ | refine tk14 ?_); (conv => whnf))
    simp [valueOf, h]

/-- A text of which the first k letters have been made small. -/
theorem midl (l : List UInt8) (k : Nat) (h : k < l.length) : (mid l k)[k]? = some l[k] ∧ mid l (k + 1) = (mid l k).set k (lowB l[k]) :=
  ⟨mid_at ⟨⟨l⟩⟩ k h, mid_next ⟨⟨l⟩⟩ k h⟩
theorem byteV_map_set (l : List UInt8) (k : Nat) (x : UInt8) : (l.map byteV).set k (byteV x) = (l.set k x).map byteV := by rw [List.map_set]
theorem Small_f (l : List UInt8) (hl : l.length ≤ 140737488355328) : Fn Tryz.prog gI 80 [str l] (str (smallOf l)) := by
  refine Fn.of tys_ok Tryz.func80 rfl (by kernel_rfl) rfl rfl ?_; intro w hG
  (conv => whnf); repeat ((first | refine tk1 ?_ | refine tk2 ?_ | refine tk3 ?_ | refine tk12 (fun _ => ?_) | refine tk4 ?_ | refine tk5 ?_ | refine tk6 ?_ | refine tk7 ?_ | refine tk8 ?_ | refine tk9 ?_ | refine tk10 (fun _ _ => ?_) | refine tk11 (fun _ => ?_) | refine tk13 ?_ | refine tk14 ?_); (conv => whnf))
  rename_i b cp
  refine LoopS.lp tys_ok (fun k u => [u 0, u 1, u 2, .slice (some ⟨b, 0, none⟩) l.length cp, u 4, u 5, u 6, u 7, .slice (some ⟨b, 0, none⟩) l.length cp, .int .i64 l.length, .int .i64 (k : Nat), u 11, u 12, u 13, u 14, u 15, u 16, u 17, u 18, u 19, u 20, u 21, u 22, u 23, u 24, u 25])
    (fun k => [.row (.slice (some ⟨b, 0, none⟩) l.length cp) 5 1 l.length ((mid l k).map byteV)]) (fun k => k ≤ l.length) (fun k => l.length - k) 0 (Nat.zero_le _) rfl (by repeat' (first | exact List.Sublist.refl _ | exact List.nil_sublist _ | apply List.Sublist.cons_cons | apply List.Sublist.cons)) ?_
  intro k u hk
  (conv => whnf); repeat ((first | refine tk1 ?_ | refine tk2 ?_ | refine tk3 ?_ | refine tk12 (fun _ => ?_) | refine tk4 ?_ | refine tk5 ?_ | refine tk6 ?_ | refine tk7 ?_ | refine tk8 ?_ | refine tk9 ?_ | refine tk10 (fun _ _ => ?_) | refine tk11 (fun _ => ?_) | refine tk13 ?_ | refine tk14 ?_); (conv => whnf))
  refine Cmp.cases (fun hlt => ?_) (fun hlt => ?_)
  · have hlt' : k < l.length := by omega
    obtain ⟨m1, m2⟩ := midl l k hlt'
    (conv => whnf); repeat ((first | refine tk1 ?_ | refine tk2 ?_ | refine tk3 ?_ | refine tk12 (fun _ => ?_) | refine tk4 ?_ | refine tk5 ?_ | refine tk6 ?_ | refine tk7 ?_ | refine tk8 ?_ | refine tk9 ?_ | refine tk10 (fun _ _ => ?_) | refine tk11 (fun _ => ?_) | refine tk13 ?_ | refine tk14 ?_); (conv => whnf))
    refine IdxA.rd (by repeat' (first | exact RdS.here | apply RdS.skip)) (by simp [mid_length]; omega) (by omega) (by omega) ?_
    (conv => whnf); repeat ((first | refine tk1 ?_ | refine tk2 ?_ | refine tk3 ?_ | refine tk12 (fun _ => ?_) | refine tk4 ?_ | refine tk5 ?_ | refine tk6 ?_ | refine tk7 ?_ | refine tk8 ?_ | refine tk9 ?_ | refine tk10 (fun _ _ => ?_) | refine tk11 (fun _ => ?_) | refine tk13 ?_ | refine tk14 ?_); (conv => whnf))
    refine Ld.rd (by repeat' (first | exact RdS.here | apply RdS.skip)) (v := .int .u8 (l[k].toNat : Int)) (by simp [m1, byteV]) ?_
    (conv => whnf); repeat ((first | refine tk1 ?_ | refine tk2 ?_ | refine tk3 ?_ | refine tk12 (fun _ => ?_) | refine tk4 ?_ | refine tk5 ?_ | refine tk6 ?_ | refine tk7 ?_ | refine tk8 ?_ | refine tk9 ?_ | refine tk10 (fun _ _ => ?_) | refine tk11 (fun _ => ?_) | refine tk13 ?_ | refine tk14 ?_); (conv => whnf))
    refine CallK.fn (great_f _) ?_
    cases hq : greatI l[k].toNat
    · have m3 : mid l (k + 1) = mid l k := mid_same ⟨⟨l⟩⟩ k hlt' hq
      (conv => whnf); repeat ((first | refine tk1 ?_ | refine tk2 ?_ | refine tk3 ?_ | refine tk12 (fun _ => ?_) | refine tk4 ?_ | refine tk5 ?_ | refine tk6 ?_ | refine tk7 ?_ | refine tk8 ?_ | refine tk9 ?_ | refine tk10 (fun _ _ => ?_) | refine tk11 (fun _ => ?_) | refine tk13 ?_ | refine tk14 ?_); (conv => whnf))
      exact ⟨k + 1, by omega, rfl, by dsimp only; rw [m3]; exact List.Sublist.refl _, by dsimp only; omega⟩
    · have hg2 : 65 ≤ ((l[k].toNat : Nat) : Int) ∧ ((l[k].toNat : Nat) : Int) ≤ 90 := by simpa [greatI] using hq
      (conv => whnf); repeat ((first | refine tk1 ?_ | refine tk2 ?_ | refine tk3 ?_ | refine tk12 (fun _ => ?_) | refine tk4 ?_ | refine tk5 ?_ | refine tk6 ?_ | refine tk7 ?_ | refine tk8 ?_ | refine tk9 ?_ | refine tk10 (fun _ _ => ?_) | refine tk11 (fun _ => ?_) | refine tk13 ?_ | refine tk14 ?_); (conv => whnf))
      refine Ar.in8 (by omega) (by omega) ?_
      (conv => whnf); repeat ((first | refine tk1 ?_ | refine tk2 ?_ | refine tk3 ?_ | refine tk12 (fun _ => ?_) | refine tk4 ?_ | refine tk5 ?_ | refine tk6 ?_ | refine tk7 ?_ | refine tk8 ?_ | refine tk9 ?_ | refine tk10 (fun _ _ => ?_) | refine tk11 (fun _ => ?_) | refine tk13 ?_ | refine tk14 ?_); (conv => whnf))
      refine Ar.in8 (by omega) (by omega) ?_
      (conv => whnf); repeat ((first | refine tk1 ?_ | refine tk2 ?_ | refine tk3 ?_ | refine tk12 (fun _ => ?_) | refine tk4 ?_ | refine tk5 ?_ | refine tk6 ?_ | refine tk7 ?_ | refine tk8 ?_ | refine tk9 ?_ | refine tk10 (fun _ _ => ?_) | refine tk11 (fun _ => ?_) | refine tk13 ?_ | refine tk14 ?_); (conv => whnf))
      refine IdxA.rd (by repeat' (first | exact RdS.here | apply RdS.skip)) (by simp [mid_length]; omega) (by omega) (by omega) ?_
      (conv => whnf)
      have hv : (Value.int .u8 (((l[k].toNat : Nat) : Int) + 97 - 65)) = byteV (lowB l[k]) := by
        unfold byteV
        rw [lowB_toNat, lowI, if_pos hq]
        congr 1; omega
      rw [hv]
      refine Sto.row (by simp [mid_length]; omega) rfl ?_
      (conv => whnf); repeat ((first | refine tk1 ?_ | refine tk2 ?_ | refine tk3 ?_ | refine tk12 (fun _ => ?_) | refine tk4 ?_ | refine tk5 ?_ | refine tk6 ?_ | refine tk7 ?_ | refine tk8 ?_ | refine tk9 ?_ | refine tk10 (fun _ _ => ?_) | refine tk11 (fun _ => ?_) | refine tk13 ?_ | refine tk14 ?_); (conv => whnf))
      exact ⟨k + 1, by omega, rfl, by dsimp only; rw [m2, ← byteV_map_set, Int.toNat_natCast, Nat.mul_one]; exact List.Sublist.refl _, by dsimp only; omega⟩
  · have hk' : k = l.length := by omega
    subst hk'
    (conv => whnf); repeat ((first | refine tk1 ?_ | refine tk2 ?_ | refine tk3 ?_ | refine tk12 (fun _ => ?_) | refine tk4 ?_ | refine tk5 ?_ | refine tk6 ?_ | refine tk7 ?_ | refine tk8 ?_ | refine tk9 ?_ | refine tk10 (fun _ _ => ?_) | refine tk11 (fun _ => ?_) | refine tk13 ?_ | refine tk14 ?_); (conv => whnf))
    refine B2S.rd (by repeat' (first | exact RdS.here | apply RdS.skip)) (mid_length _ _) ?_
    (conv => whnf); repeat ((first | refine tk1 ?_ | refine tk2 ?_ | refine tk3 ?_ | refine tk12 (fun _ => ?_) | refine tk4 ?_ | refine tk5 ?_ | refine tk6 ?_ | refine tk7 ?_ | refine tk8 ?_ | refine tk9 ?_ | refine tk10 (fun _ _ => ?_) | refine tk11 (fun _ => ?_) | refine tk13 ?_ | refine tk14 ?_); (conv => whnf))
    unfold mid
    simp

theorem Check_f (n v : List UInt8) (hn : n.length ≤ 1000000000000) : Fn Tryz.prog gI 44 [.agg ⟨[str n, str v]⟩] (.int .i64 (fieldE n v)) := by
  refine Fn.of tys_ok Tryz.func44 rfl (by kernel_rfl) rfl rfl ?_; intro w hG
  (conv => whnf); repeat ((first | refine tk1 ?_ | refine tk2 ?_ | refine tk3 ?_ | refine tk12 (fun _ => ?_) | refine tk4 ?_ | refine tk5 ?_ | refine tk6 ?_ | refine tk7 ?_ | refine tk8 ?_ | refine tk9 ?_ | refine tk10 (fun _ _ => ?_) | refine tk11 (fun _ => ?_) | refine tk13 ?_ | refine tk14 ?_); (conv => whnf))
  refine DrawS.go (qs 30) tys_ok mixed (by kernel_rfl) ?_
  (conv => whnf); repeat ((first | refine tk1 ?_ | refine tk2 ?_ | refine tk3 ?_ | refine tk12 (fun _ => ?_) | refine tk4 ?_ | refine tk5 ?_ | refine tk6 ?_ | refine tk7 ?_ | refine tk8 ?_ | refine tk9 ?_ | refine tk10 (fun _ _ => ?_) | refine tk11 (fun _ => ?_) | refine tk13 ?_ | refine tk14 ?_); (conv => whnf))
  refine Cmp.cases (fun h1 => ?_) (fun h1 => ?_)
  · (conv => whnf); repeat ((first | refine tk1 ?_ | refine tk2 ?_ | refine tk3 ?_ | refine tk12 (fun _ => ?_) | refine tk4 ?_ | refine tk5 ?_ | refine tk6 ?_ | refine tk7 ?_ | refine tk8 ?_ | refine tk9 ?_ | refine tk10 (fun _ _ => ?_) | refine tk11 (fun _ => ?_) | refine tk13 ?_ | refine tk14 ?_); (conv => whnf))
    simp [fieldE, fieldOK]; omega
  (conv => whnf); repeat ((first | refine tk1 ?_ | refine tk2 ?_ | refine tk3 ?_ | refine tk12 (fun _ => ?_) | refine tk4 ?_ | refine tk5 ?_ | refine tk6 ?_ | refine tk7 ?_ | refine tk8 ?_ | refine tk9 ?_ | refine tk10 (fun _ _ => ?_) | refine tk11 (fun _ => ?_) | refine tk13 ?_ | refine tk14 ?_); (conv => whnf))
  refine Cmp.cases (fun h2 => ?_) (fun h2 => ?_)
  · (conv => whnf); repeat ((first | refine tk1 ?_ | refine tk2 ?_ | refine tk3 ?_ | refine tk12 (fun _ => ?_) | refine tk4 ?_ | refine tk5 ?_ | refine tk6 ?_ | refine tk7 ?_ | refine tk8 ?_ | refine tk9 ?_ | refine tk10 (fun _ _ => ?_) | refine tk11 (fun _ => ?_) | refine tk13 ?_ | refine tk14 ?_); (conv => whnf))
    simp [fieldE, fieldOK]; omega
  (conv => whnf); repeat ((first | refine tk1 ?_ | refine tk2 ?_ | refine tk3 ?_ | refine tk12 (fun _ => ?_) | refine tk4 ?_ | refine tk5 ?_ | refine tk6 ?_ | refine tk7 ?_ | refine tk8 ?_ | refine tk9 ?_ | refine tk10 (fun _ _ => ?_) | refine tk11 (fun _ => ?_) | refine tk13 ?_ | refine tk14 ?_); (conv => whnf))
  refine CallQ.fn (Token_f n (by omega)) ?_
  cases h3 : tokenOf n
  · (conv => whnf); repeat ((first | refine tk1 ?_ | refine tk2 ?_ | refine tk3 ?_ | refine tk12 (fun _ => ?_) | refine tk4 ?_ | refine tk5 ?_ | refine tk6 ?_ | refine tk7 ?_ | refine tk8 ?_ | refine tk9 ?_ | refine tk10 (fun _ _ => ?_) | refine tk11 (fun _ => ?_) | refine tk13 ?_ | refine tk14 ?_); (conv => whnf))
    simp [fieldE, fieldOK, h3]
  (conv => whnf); repeat ((first | refine tk1 ?_ | refine tk2 ?_ | refine tk3 ?_ | refine tk12 (fun _ => ?_) | refine tk4 ?_ | refine tk5 ?_ | refine tk6 ?_ | refine tk7 ?_ | refine tk8 ?_ | refine tk9 ?_ | refine tk10 (fun _ _ => ?_) | refine tk11 (fun _ => ?_) | refine tk13 ?_ | refine tk14 ?_); (conv => whnf))
  refine CallQ.fn (Small_f n (by omega)) ?_
  (conv => whnf); repeat ((first | refine tk1 ?_ | refine tk2 ?_ | refine tk3 ?_ | refine tk12 (fun _ => ?_) | refine tk4 ?_ | refine tk5 ?_ | refine tk6 ?_ | refine tk7 ?_ | refine tk8 ?_ | refine tk9 ?_ | refine tk10 (fun _ _ => ?_) | refine tk11 (fun _ => ?_) | refine tk13 ?_ | refine tk14 ?_); (conv => whnf))
  refine Cmp.cases (fun h4 => ?_) (fun h4 => ?_)
  · (conv => whnf); repeat ((first | refine tk1 ?_ | refine tk2 ?_ | refine tk3 ?_ | refine tk12 (fun _ => ?_) | refine tk4 ?_ | refine tk5 ?_ | refine tk6 ?_ | refine tk7 ?_ | refine tk8 ?_ | refine tk9 ?_ | refine tk10 (fun _ _ => ?_) | refine tk11 (fun _ => ?_) | refine tk13 ?_ | refine tk14 ?_); (conv => whnf))
    simp [fieldE, fieldOK, h4]
  (conv => whnf); repeat ((first | refine tk1 ?_ | refine tk2 ?_ | refine tk3 ?_ | refine tk12 (fun _ => ?_) | refine tk4 ?_ | refine tk5 ?_ | refine tk6 ?_ | refine tk7 ?_ | refine tk8 ?_ | refine tk9 ?_ | refine tk10 (fun _ _ => ?_) | refine tk11 (fun _ => ?_) | refine tk13 ?_ | refine tk14 ?_); (conv => whnf))
  refine CallQ.fn (Value_f v (by omega)) ?_
  have h4' : smallOf n = n := by simpa using h4
  cases h5 : valueOf v
  · (conv => whnf); repeat ((first | refine tk1 ?_ | refine tk2 ?_ | refine tk3 ?_ | refine tk12 (fun _ => ?_) | refine tk4 ?_ | refine tk5 ?_ | refine tk6 ?_ | refine tk7 ?_ | refine tk8 ?_ | refine tk9 ?_ | refine tk10 (fun _ _ => ?_) | refine tk11 (fun _ => ?_) | refine tk13 ?_ | refine tk14 ?_); (conv => whnf))
    simp [fieldE, fieldOK, h5]
  · (conv => whnf); repeat ((first | refine tk1 ?_ | refine tk2 ?_ | refine tk3 ?_ | refine tk12 (fun _ => ?_) | refine tk4 ?_ | refine tk5 ?_ | refine tk6 ?_ | refine tk7 ?_ | refine tk8 ?_ | refine tk9 ?_ | refine tk10 (fun _ _ => ?_) | refine tk11 (fun _ => ?_) | refine tk13 ?_ | refine tk14 ?_); (conv => whnf))
    have e1 : n.length ≤ 4096 := by omega
    have e2 : v.length ≤ 4096 := by omega
    simp [fieldE, fieldOK, h3, h4', h5, e1, e2]
end Go.Proofs.YtmdmmncoigeijaaGreatDoor.Vex
/- The program's functions on fields, reckoned. -/
namespace Go.Proofs.YtmdmmncoigeijaaGreatDoor.Vex
open Go Go.RowKit
set_option maxRecDepth 100000
set_option linter.unusedSectionVars false
variable {gI : GI} [HasMax gI]

theorem Parse_f (l : List UInt8) (hl : l.length < 4294967281) : Fn Tryz.prog gI 102 [str l] (.tuple #[.agg ⟨[str (parseN l), str (parseV l)]⟩, .int .i64 (parseE l)]) := by
  have hz := cutC_length l
  have ht := trimB_length (cutC l).2.1
  have hsm := smallOf_length (cutC l).1
  refine Fn.of tys_ok Tryz.func102 rfl (by kernel_rfl) rfl rfl ?_; intro w hG
  (conv => whnf); repeat ((first | refine tk1 ?_ | refine tk2 ?_ | refine tk3 ?_ | refine tk12 (fun _ => ?_) | refine tk4 ?_ | refine tk5 ?_ | refine tk6 ?_ | refine tk7 ?_ | refine tk8 ?_ | refine tk9 ?_ | refine tk10 (fun _ _ => ?_) | refine tk11 (fun _ => ?_) | refine tk13 ?_ | refine tk14 ?_); (conv => whnf))
  refine CallK.fn (Cut_f l [58] hl) ?_
  rw [cut_colon]
  (conv => whnf); repeat ((first | refine tk1 ?_ | refine tk2 ?_ | refine tk3 ?_ | refine tk12 (fun _ => ?_) | refine tk4 ?_ | refine tk5 ?_ | refine tk6 ?_ | refine tk7 ?_ | refine tk8 ?_ | refine tk9 ?_ | refine tk10 (fun _ _ => ?_) | refine tk11 (fun _ => ?_) | refine tk13 ?_ | refine tk14 ?_); (conv => whnf))
  refine CallK.fn (Small_f _ (by omega)) ?_
  (conv => whnf); repeat ((first | refine tk1 ?_ | refine tk2 ?_ | refine tk3 ?_ | refine tk12 (fun _ => ?_) | refine tk4 ?_ | refine tk5 ?_ | refine tk6 ?_ | refine tk7 ?_ | refine tk8 ?_ | refine tk9 ?_ | refine tk10 (fun _ _ => ?_) | refine tk11 (fun _ => ?_) | refine tk13 ?_ | refine tk14 ?_); (conv => whnf))
  refine CallK.fn (Trim_f _ (by omega)) ?_
  (conv => whnf); repeat ((first | refine tk1 ?_ | refine tk2 ?_ | refine tk3 ?_ | refine tk12 (fun _ => ?_) | refine tk4 ?_ | refine tk5 ?_ | refine tk6 ?_ | refine tk7 ?_ | refine tk8 ?_ | refine tk9 ?_ | refine tk10 (fun _ _ => ?_) | refine tk11 (fun _ => ?_) | refine tk13 ?_ | refine tk14 ?_); (conv => whnf))
  refine Cmp.cases (fun h1 => ?_) (fun h1 => ?_)
  · (conv => whnf); repeat ((first | refine tk1 ?_ | refine tk2 ?_ | refine tk3 ?_ | refine tk12 (fun _ => ?_) | refine tk4 ?_ | refine tk5 ?_ | refine tk6 ?_ | refine tk7 ?_ | refine tk8 ?_ | refine tk9 ?_ | refine tk10 (fun _ _ => ?_) | refine tk11 (fun _ => ?_) | refine tk13 ?_ | refine tk14 ?_); (conv => whnf))
    simp [parseN, parseV, parseE, parseOK]; omega
  cases h2 : (cutC l).2.2
  · (conv => whnf); repeat ((first | refine tk1 ?_ | refine tk2 ?_ | refine tk3 ?_ | refine tk12 (fun _ => ?_) | refine tk4 ?_ | refine tk5 ?_ | refine tk6 ?_ | refine tk7 ?_ | refine tk8 ?_ | refine tk9 ?_ | refine tk10 (fun _ _ => ?_) | refine tk11 (fun _ => ?_) | refine tk13 ?_ | refine tk14 ?_); (conv => whnf))
    simp [parseN, parseV, parseE, parseOK, h2]
  (conv => whnf); repeat ((first | refine tk1 ?_ | refine tk2 ?_ | refine tk3 ?_ | refine tk12 (fun _ => ?_) | refine tk4 ?_ | refine tk5 ?_ | refine tk6 ?_ | refine tk7 ?_ | refine tk8 ?_ | refine tk9 ?_ | refine tk10 (fun _ _ => ?_) | refine tk11 (fun _ => ?_) | refine tk13 ?_ | refine tk14 ?_); (conv => whnf))
  refine CallK.fn (Check_f _ _ (by omega)) ?_
  have e1 : l.length ≤ 4096 := by omega
  cases h3 : fieldOK (smallOf (cutC l).1) (trimB (cutC l).2.1)
  · simp only [fieldE, h3, if_true, Bool.false_eq_true, if_false]
    (conv => whnf); repeat ((first | refine tk1 ?_ | refine tk2 ?_ | refine tk3 ?_ | refine tk12 (fun _ => ?_) | refine tk4 ?_ | refine tk5 ?_ | refine tk6 ?_ | refine tk7 ?_ | refine tk8 ?_ | refine tk9 ?_ | refine tk10 (fun _ _ => ?_) | refine tk11 (fun _ => ?_) | refine tk13 ?_ | refine tk14 ?_); (conv => whnf))
    simp [parseN, parseV, parseE, parseOK, h2, h3]
  · simp only [fieldE, h3, if_true, Bool.false_eq_true, if_false]
    (conv => whnf); repeat ((first | refine tk1 ?_ | refine tk2 ?_ | refine tk3 ?_ | refine tk12 (fun _ => ?_) | refine tk4 ?_ | refine tk5 ?_ | refine tk6 ?_ | refine tk7 ?_ | refine tk8 ?_ | refine tk9 ?_ | refine tk10 (fun _ _ => ?_) | refine tk11 (fun _ => ?_) | refine tk13 ?_ | refine tk14 ?_); (conv => whnf))
    simp [parseN, parseV, parseE, parseOK, h2, h3, e1]
end Go.Proofs.YtmdmmncoigeijaaGreatDoor.Vex
/- The references' functions on texts, reckoned. -/
namespace Go.Proofs.YtmdmmncoigeijaaGreatDoor.Vex
open Go Go.RowKit
set_option maxRecDepth 100000
set_option linter.unusedSectionVars false
variable {gI : GI} [HasMax gI]

theorem byte_le (x : UInt8) : ((x.toNat : Nat) : Int) ≤ 255 := by have := x.toNat_lt; omega
theorem Letter_r (x : Int) : Fn Tryz.prog gI 145 [.int .u8 x] (.bool (smallI x || greatI x)) := by
  refine Fn.of tys_ok Tryz.func145 rfl (by kernel_rfl) rfl rfl ?_; intro w hG
  repeat' ((conv => whnf); first | (first | refine tk1 ?_ | refine tk2 ?_ | refine tk3 ?_ | refine tk12 (fun _ => ?_) | refine tk4 ?_ | refine tk5 ?_ | refine tk6 ?_ | refine tk7 ?_ | refine tk8 ?_ | refine tk9 ?_ | refine tk10 (fun _ _ => ?_) | refine tk11 (fun _ => ?_) | refine tk13 ?_ | refine tk14 ?_) | refine Cmp.cases (fun _ => ?_) (fun _ => ?_)); all_goals (conv => whnf)
  all_goals first | rfl | (refine congrArg Value.bool ?_; first | (simp [smallI, greatI, *]; done) | (rw [Bool.eq_iff_iff]; simp [smallI, greatI]; omega) | (rw [Bool.eq_iff_iff]; simp [smallI, greatI, *]; done) | (rw [Bool.eq_iff_iff]; simp [smallI, greatI, *]; omega))
theorem Blank_r (x : Int) : Fn Tryz.prog gI 147 [.int .u8 x] (.bool (x == 32 || x == 9)) := by
  refine Fn.of tys_ok Tryz.func147 rfl (by kernel_rfl) rfl rfl ?_; intro w hG
  repeat' ((conv => whnf); first | (first | refine tk1 ?_ | refine tk2 ?_ | refine tk3 ?_ | refine tk12 (fun _ => ?_) | refine tk4 ?_ | refine tk5 ?_ | refine tk6 ?_ | refine tk7 ?_ | refine tk8 ?_ | refine tk9 ?_ | refine tk10 (fun _ _ => ?_) | refine tk11 (fun _ => ?_) | refine tk13 ?_ | refine tk14 ?_) | refine Cmp.cases (fun _ => ?_) (fun _ => ?_)); all_goals (conv => whnf)
  all_goals first | rfl | (refine congrArg Value.bool ?_; first | (simp [*]; done) | (rw [Bool.eq_iff_iff]; simp; omega))
theorem blank_is (x : UInt8) : (((x.toNat : Nat) : Int) == 32 || ((x.toNat : Nat) : Int) == 9) = blankB x := by
  unfold blankB blankI
  rw [Bool.eq_iff_iff]
theorem mark_r (x : Int) : Fn Tryz.prog gI 146 [.int .u8 x] (.bool (markI x)) := by
  refine Fn.of tys_ok Tryz.func146 rfl (by kernel_rfl) rfl rfl ?_; intro w hG
  (conv => whnf); repeat ((first | refine tk1 ?_ | refine tk2 ?_ | refine tk3 ?_ | refine tk12 (fun _ => ?_) | refine tk4 ?_ | refine tk5 ?_ | refine tk6 ?_ | refine tk7 ?_ | refine tk8 ?_ | refine tk9 ?_ | refine tk10 (fun _ _ => ?_) | refine tk11 (fun _ => ?_) | refine tk13 ?_ | refine tk14 ?_); (conv => whnf))
  refine LoopS.lp tys_ok (fun k u => [.int .u8 x, u 1, u 2, str marksL, .int .i64 (k : Nat), u 5, u 6, u 7, u 8, u 9, u 10, u 11, u 12, u 13, u 14, u 15]) (fun _ => [])
    (fun k => k ≤ 15 ∧ markI x = ((marksL.drop k).any fun m => ((m.toNat : Nat) : Int) == x)) (fun k => 15 - k) 0 ⟨by omega, rfl⟩ rfl (by repeat' (first | exact List.Sublist.refl _ | exact List.nil_sublist _ | apply List.Sublist.cons_cons | apply List.Sublist.cons)) ?_
  intro k u ⟨hk, hI⟩
  have hz : marksL.length = 15 := rfl
  (conv => whnf); repeat ((first | refine tk1 ?_ | refine tk2 ?_ | refine tk3 ?_ | refine tk12 (fun _ => ?_) | refine tk4 ?_ | refine tk5 ?_ | refine tk6 ?_ | refine tk7 ?_ | refine tk8 ?_ | refine tk9 ?_ | refine tk10 (fun _ _ => ?_) | refine tk11 (fun _ => ?_) | refine tk13 ?_ | refine tk14 ?_); (conv => whnf))
  refine Cmp.cases (fun hlt => ?_) (fun hlt => ?_)
  · have hd : marksL.drop k = marksL[k]'(by omega) :: marksL.drop (k + 1) := List.drop_eq_getElem_cons (by omega)
    (conv => whnf); repeat ((first | refine tk1 ?_ | refine tk2 ?_ | refine tk3 ?_ | refine tk12 (fun _ => ?_) | refine tk4 ?_ | refine tk5 ?_ | refine tk6 ?_ | refine tk7 ?_ | refine tk8 ?_ | refine tk9 ?_ | refine tk10 (fun _ _ => ?_) | refine tk11 (fun _ => ?_) | refine tk13 ?_ | refine tk14 ?_); (conv => whnf))
    refine IdxS.at (marksL[k]'(by omega)) (List.getElem?_eq_getElem _) (by omega) ?_
    (conv => whnf); repeat ((first | refine tk1 ?_ | refine tk2 ?_ | refine tk3 ?_ | refine tk12 (fun _ => ?_) | refine tk4 ?_ | refine tk5 ?_ | refine tk6 ?_ | refine tk7 ?_ | refine tk8 ?_ | refine tk9 ?_ | refine tk10 (fun _ _ => ?_) | refine tk11 (fun _ => ?_) | refine tk13 ?_ | refine tk14 ?_); (conv => whnf))
    refine Cmp.cases (fun hq => ?_) (fun hq => ?_)
    · (conv => whnf); repeat ((first | refine tk1 ?_ | refine tk2 ?_ | refine tk3 ?_ | refine tk12 (fun _ => ?_) | refine tk4 ?_ | refine tk5 ?_ | refine tk6 ?_ | refine tk7 ?_ | refine tk8 ?_ | refine tk9 ?_ | refine tk10 (fun _ _ => ?_) | refine tk11 (fun _ => ?_) | refine tk13 ?_ | refine tk14 ?_); (conv => whnf))
      rw [hI, hd, List.any_cons, hq]; simp
    · (conv => whnf); repeat ((first | refine tk1 ?_ | refine tk2 ?_ | refine tk3 ?_ | refine tk12 (fun _ => ?_) | refine tk4 ?_ | refine tk5 ?_ | refine tk6 ?_ | refine tk7 ?_ | refine tk8 ?_ | refine tk9 ?_ | refine tk10 (fun _ _ => ?_) | refine tk11 (fun _ => ?_) | refine tk13 ?_ | refine tk14 ?_); (conv => whnf))
      exact ⟨k + 1, ⟨by omega, by rw [hI, hd, List.any_cons, beq_false_of_ne hq]; rfl⟩, rfl, (by repeat' (first | exact List.Sublist.refl _ | exact List.nil_sublist _ | apply List.Sublist.cons_cons | apply List.Sublist.cons)), by dsimp only; omega⟩
  · (conv => whnf); repeat ((first | refine tk1 ?_ | refine tk2 ?_ | refine tk3 ?_ | refine tk12 (fun _ => ?_) | refine tk4 ?_ | refine tk5 ?_ | refine tk6 ?_ | refine tk7 ?_ | refine tk8 ?_ | refine tk9 ?_ | refine tk10 (fun _ _ => ?_) | refine tk11 (fun _ => ?_) | refine tk13 ?_ | refine tk14 ?_); (conv => whnf))
    rw [hI, List.drop_eq_nil_of_le (by omega)]
    rfl
theorem Token_r (l : List UInt8) (hl : l.length ≤ 1000000000000) : Fn Tryz.prog gI 108 [str l] (.bool (tokenOf l)) := by
  refine Fn.of tys_ok Tryz.func108 rfl (by kernel_rfl) rfl rfl ?_; intro w hG
  (conv => whnf); repeat ((first | refine tk1 ?_ | refine tk2 ?_ | refine tk3 ?_ | refine tk12 (fun _ => ?_) | refine tk4 ?_ | refine tk5 ?_ | refine tk6 ?_ | refine tk7 ?_ | refine tk8 ?_ | refine tk9 ?_ | refine tk10 (fun _ _ => ?_) | refine tk11 (fun _ => ?_) | refine tk13 ?_ | refine tk14 ?_); (conv => whnf))
  refine LoopS.lp tys_ok (fun k u => [str l, u 1, u 2, .int .i64 (k : Nat), u 4, u 5, u 6, u 7, u 8, u 9, u 10, u 11, u 12, u 13, u 14, u 15, u 16, u 17, u 18, u 19, u 20, u 21, u 22, u 23, u 24]) (fun _ => [])
    (fun k => k ≤ l.length ∧ l.all tokB = (l.drop k).all tokB) (fun k => l.length - k) 0 ⟨Nat.zero_le _, rfl⟩ rfl (by repeat' (first | exact List.Sublist.refl _ | exact List.nil_sublist _ | apply List.Sublist.cons_cons | apply List.Sublist.cons)) ?_
  intro k u ⟨hk, hI⟩
  (conv => whnf); repeat ((first | refine tk1 ?_ | refine tk2 ?_ | refine tk3 ?_ | refine tk12 (fun _ => ?_) | refine tk4 ?_ | refine tk5 ?_ | refine tk6 ?_ | refine tk7 ?_ | refine tk8 ?_ | refine tk9 ?_ | refine tk10 (fun _ _ => ?_) | refine tk11 (fun _ => ?_) | refine tk13 ?_ | refine tk14 ?_); (conv => whnf))
  refine Cmp.cases (fun hlt => ?_) (fun hlt => ?_)
  · have hd : l.drop k = l[k]'(by omega) :: l.drop (k + 1) := List.drop_eq_getElem_cons (by omega)
    have ht : tokB (l[k]'(by omega)) = (smallI (l[k]'(by omega)).toNat || greatI (l[k]'(by omega)).toNat || markI (l[k]'(by omega)).toNat) := rfl
    (conv => whnf); repeat ((first | refine tk1 ?_ | refine tk2 ?_ | refine tk3 ?_ | refine tk12 (fun _ => ?_) | refine tk4 ?_ | refine tk5 ?_ | refine tk6 ?_ | refine tk7 ?_ | refine tk8 ?_ | refine tk9 ?_ | refine tk10 (fun _ _ => ?_) | refine tk11 (fun _ => ?_) | refine tk13 ?_ | refine tk14 ?_); (conv => whnf))
    refine IdxS.at (l[k]'(by omega)) (List.getElem?_eq_getElem _) (by omega) ?_
    (conv => whnf); repeat ((first | refine tk1 ?_ | refine tk2 ?_ | refine tk3 ?_ | refine tk12 (fun _ => ?_) | refine tk4 ?_ | refine tk5 ?_ | refine tk6 ?_ | refine tk7 ?_ | refine tk8 ?_ | refine tk9 ?_ | refine tk10 (fun _ _ => ?_) | refine tk11 (fun _ => ?_) | refine tk13 ?_ | refine tk14 ?_); (conv => whnf))
    refine CallK.fn (Letter_r _) ?_
    cases h1 : (smallI (l[k]'(by omega)).toNat || greatI (l[k]'(by omega)).toNat)
    · (conv => whnf); repeat ((first | refine tk1 ?_ | refine tk2 ?_ | refine tk3 ?_ | refine tk12 (fun _ => ?_) | refine tk4 ?_ | refine tk5 ?_ | refine tk6 ?_ | refine tk7 ?_ | refine tk8 ?_ | refine tk9 ?_ | refine tk10 (fun _ _ => ?_) | refine tk11 (fun _ => ?_) | refine tk13 ?_ | refine tk14 ?_); (conv => whnf))
      refine IdxS.at (l[k]'(by omega)) (List.getElem?_eq_getElem _) (by omega) ?_
      (conv => whnf); repeat ((first | refine tk1 ?_ | refine tk2 ?_ | refine tk3 ?_ | refine tk12 (fun _ => ?_) | refine tk4 ?_ | refine tk5 ?_ | refine tk6 ?_ | refine tk7 ?_ | refine tk8 ?_ | refine tk9 ?_ | refine tk10 (fun _ _ => ?_) | refine tk11 (fun _ => ?_) | refine tk13 ?_ | refine tk14 ?_); (conv => whnf))
      refine CallK.fn (mark_r _) ?_
      cases h2 : markI (l[k]'(by omega)).toNat
      · (conv => whnf); repeat ((first | refine tk1 ?_ | refine tk2 ?_ | refine tk3 ?_ | refine tk12 (fun _ => ?_) | refine tk4 ?_ | refine tk5 ?_ | refine tk6 ?_ | refine tk7 ?_ | refine tk8 ?_ | refine tk9 ?_ | refine tk10 (fun _ _ => ?_) | refine tk11 (fun _ => ?_) | refine tk13 ?_ | refine tk14 ?_); (conv => whnf))
        rw [show tokenOf l = false from by unfold tokenOf; rw [hI, hd, List.all_cons, ht, h1, h2]; exact Bool.and_false _]
      · (conv => whnf); repeat ((first | refine tk1 ?_ | refine tk2 ?_ | refine tk3 ?_ | refine tk12 (fun _ => ?_) | refine tk4 ?_ | refine tk5 ?_ | refine tk6 ?_ | refine tk7 ?_ | refine tk8 ?_ | refine tk9 ?_ | refine tk10 (fun _ _ => ?_) | refine tk11 (fun _ => ?_) | refine tk13 ?_ | refine tk14 ?_); (conv => whnf))
        exact ⟨k + 1, ⟨by omega, by rw [hI, hd, List.all_cons, ht, h1, h2]; rfl⟩, rfl, (by repeat' (first | exact List.Sublist.refl _ | exact List.nil_sublist _ | apply List.Sublist.cons_cons | apply List.Sublist.cons)), by dsimp only; omega⟩
    · (conv => whnf); repeat ((first | refine tk1 ?_ | refine tk2 ?_ | refine tk3 ?_ | refine tk12 (fun _ => ?_) | refine tk4 ?_ | refine tk5 ?_ | refine tk6 ?_ | refine tk7 ?_ | refine tk8 ?_ | refine tk9 ?_ | refine tk10 (fun _ _ => ?_) | refine tk11 (fun _ => ?_) | refine tk13 ?_ | refine tk14 ?_); (conv => whnf))
      exact ⟨k + 1, ⟨by omega, by rw [hI, hd, List.all_cons, ht, h1]; rfl⟩, rfl, (by repeat' (first | exact List.Sublist.refl _ | exact List.nil_sublist _ | apply List.Sublist.cons_cons | apply List.Sublist.cons)), by dsimp only; omega⟩
  · have h0 : l.all tokB = true := by rw [hI, List.drop_eq_nil_of_le (by omega)]; rfl
    (conv => whnf); repeat ((first | refine tk1 ?_ | refine tk2 ?_ | refine tk3 ?_ | refine tk12 (fun _ => ?_) | refine tk4 ?_ | refine tk5 ?_ | refine tk6 ?_ | refine tk7 ?_ | refine tk8 ?_ | refine tk9 ?_ | refine tk10 (fun _ _ => ?_) | refine tk11 (fun _ => ?_) | refine tk13 ?_ | refine tk14 ?_); (conv => whnf))
    refine Cmp.cases (fun hq => ?_) (fun hq => ?_)
    · (conv => whnf); repeat ((first | refine tk1 ?_ | refine tk2 ?_ | refine tk3 ?_ | refine tk12 (fun _ => ?_) | refine tk4 ?_ | refine tk5 ?_ | refine tk6 ?_ | refine tk7 ?_ | refine tk8 ?_ | refine tk9 ?_ | refine tk10 (fun _ _ => ?_) | refine tk11 (fun _ => ?_) | refine tk13 ?_ | refine tk14 ?_); (conv => whnf))
      cases l with
      | nil => simp at hq
      | cons a r => simp [tokenOf, h0]
    · (conv => whnf); repeat ((first | refine tk1 ?_ | refine tk2 ?_ | refine tk3 ?_ | refine tk12 (fun _ => ?_) | refine tk4 ?_ | refine tk5 ?_ | refine tk6 ?_ | refine tk7 ?_ | refine tk8 ?_ | refine tk9 ?_ | refine tk10 (fun _ _ => ?_) | refine tk11 (fun _ => ?_) | refine tk13 ?_ | refine tk14 ?_); (conv => whnf))
      obtain rfl : l = [] := List.eq_nil_of_length_eq_zero (by omega)
      rfl
theorem valB_is (x : UInt8) : valB x = !((decide (((x.toNat : Nat) : Int) < 32) && ((x.toNat : Nat) : Int) != 9) || ((x.toNat : Nat) : Int) == 127) := by
  have : ∀ n : Fin 256, valI ((n.val : Nat) : Int) = !((decide (((n.val : Nat) : Int) < 32) && ((n.val : Nat) : Int) != 9) || ((n.val : Nat) : Int) == 127) := by decide +kernel
  exact this ⟨x.toNat, x.toNat_lt⟩
theorem Value_r (l : List UInt8) (hl : l.length ≤ 1000000000000) : Fn Tryz.prog gI 110 [str l] (.bool (valueOf l)) := by
  refine Fn.of tys_ok Tryz.func110 rfl (by kernel_rfl) rfl rfl ?_; intro w hG
  (conv => whnf); repeat ((first | refine tk1 ?_ | refine tk2 ?_ | refine tk3 ?_ | refine tk12 (fun _ => ?_) | refine tk4 ?_ | refine tk5 ?_ | refine tk6 ?_ | refine tk7 ?_ | refine tk8 ?_ | refine tk9 ?_ | refine tk10 (fun _ _ => ?_) | refine tk11 (fun _ => ?_) | refine tk13 ?_ | refine tk14 ?_); (conv => whnf))
  refine LoopS.lp tys_ok (fun k u => [str l, u 1, u 2, .int .i64 (k : Nat), u 4, u 5, u 6, u 7, u 8, u 9, u 10, u 11, u 12, u 13, u 14, u 15, u 16, u 17, u 18, u 19, u 20, u 21, u 22, u 23, u 24, u 25, u 26, u 27, u 28, u 29, u 30, u 31, u 32, u 33, u 34, u 35, u 36, u 37, u 38, u 39, u 40, u 41, u 42, u 43]) (fun _ => [])
    (fun k => k ≤ l.length ∧ l.all valB = (l.drop k).all valB) (fun k => l.length - k) 0 ⟨Nat.zero_le _, rfl⟩ rfl (by repeat' (first | exact List.Sublist.refl _ | exact List.nil_sublist _ | apply List.Sublist.cons_cons | apply List.Sublist.cons)) ?_
  intro k u ⟨hk, hI⟩
  (conv => whnf); repeat ((first | refine tk1 ?_ | refine tk2 ?_ | refine tk3 ?_ | refine tk12 (fun _ => ?_) | refine tk4 ?_ | refine tk5 ?_ | refine tk6 ?_ | refine tk7 ?_ | refine tk8 ?_ | refine tk9 ?_ | refine tk10 (fun _ _ => ?_) | refine tk11 (fun _ => ?_) | refine tk13 ?_ | refine tk14 ?_); (conv => whnf))
  refine Cmp.cases (fun hlt => ?_) (fun hlt => ?_)
  · have hd : l.drop k = l[k]'(by omega) :: l.drop (k + 1) := List.drop_eq_getElem_cons (by omega)
    have ht := valB_is (l[k]'(by omega))
    have no : valB (l[k]'(by omega)) = false → valueOf l = false := fun h => by unfold valueOf; rw [hI, hd, List.all_cons, h]; exact Bool.and_false _
    have on : valB (l[k]'(by omega)) = true → l.all valB = (l.drop (k + 1)).all valB := fun h => by rw [hI, hd, List.all_cons, h]; rfl
    (conv => whnf); repeat ((first | refine tk1 ?_ | refine tk2 ?_ | refine tk3 ?_ | refine tk12 (fun _ => ?_) | refine tk4 ?_ | refine tk5 ?_ | refine tk6 ?_ | refine tk7 ?_ | refine tk8 ?_ | refine tk9 ?_ | refine tk10 (fun _ _ => ?_) | refine tk11 (fun _ => ?_) | refine tk13 ?_ | refine tk14 ?_); (conv => whnf))
    refine IdxS.at (l[k]'(by omega)) (List.getElem?_eq_getElem _) (by omega) ?_
    (conv => whnf); repeat ((first | refine tk1 ?_ | refine tk2 ?_ | refine tk3 ?_ | refine tk12 (fun _ => ?_) | refine tk4 ?_ | refine tk5 ?_ | refine tk6 ?_ | refine tk7 ?_ | refine tk8 ?_ | refine tk9 ?_ | refine tk10 (fun _ _ => ?_) | refine tk11 (fun _ => ?_) | refine tk13 ?_ | refine tk14 ?_); (conv => whnf))
    refine Cmp.cases (fun h1 => ?_) (fun h1 => ?_)
    · (conv => whnf); repeat ((first | refine tk1 ?_ | refine tk2 ?_ | refine tk3 ?_ | refine tk12 (fun _ => ?_) | refine tk4 ?_ | refine tk5 ?_ | refine tk6 ?_ | refine tk7 ?_ | refine tk8 ?_ | refine tk9 ?_ | refine tk10 (fun _ _ => ?_) | refine tk11 (fun _ => ?_) | refine tk13 ?_ | refine tk14 ?_); (conv => whnf))
      refine IdxS.at (l[k]'(by omega)) (List.getElem?_eq_getElem _) (by omega) ?_
      (conv => whnf); repeat ((first | refine tk1 ?_ | refine tk2 ?_ | refine tk3 ?_ | refine tk12 (fun _ => ?_) | refine tk4 ?_ | refine tk5 ?_ | refine tk6 ?_ | refine tk7 ?_ | refine tk8 ?_ | refine tk9 ?_ | refine tk10 (fun _ _ => ?_) | refine tk11 (fun _ => ?_) | refine tk13 ?_ | refine tk14 ?_); (conv => whnf))
      refine Cmp.cases (fun h2 => ?_) (fun h2 => ?_)
      · (conv => whnf); repeat ((first | refine tk1 ?_ | refine tk2 ?_ | refine tk3 ?_ | refine tk12 (fun _ => ?_) | refine tk4 ?_ | refine tk5 ?_ | refine tk6 ?_ | refine tk7 ?_ | refine tk8 ?_ | refine tk9 ?_ | refine tk10 (fun _ _ => ?_) | refine tk11 (fun _ => ?_) | refine tk13 ?_ | refine tk14 ?_); (conv => whnf))
        rw [no (by rw [ht]; simp; omega)]
      · (conv => whnf); repeat ((first | refine tk1 ?_ | refine tk2 ?_ | refine tk3 ?_ | refine tk12 (fun _ => ?_) | refine tk4 ?_ | refine tk5 ?_ | refine tk6 ?_ | refine tk7 ?_ | refine tk8 ?_ | refine tk9 ?_ | refine tk10 (fun _ _ => ?_) | refine tk11 (fun _ => ?_) | refine tk13 ?_ | refine tk14 ?_); (conv => whnf))
        refine IdxS.at (l[k]'(by omega)) (List.getElem?_eq_getElem _) (by omega) ?_
        (conv => whnf); repeat ((first | refine tk1 ?_ | refine tk2 ?_ | refine tk3 ?_ | refine tk12 (fun _ => ?_) | refine tk4 ?_ | refine tk5 ?_ | refine tk6 ?_ | refine tk7 ?_ | refine tk8 ?_ | refine tk9 ?_ | refine tk10 (fun _ _ => ?_) | refine tk11 (fun _ => ?_) | refine tk13 ?_ | refine tk14 ?_); (conv => whnf))
        exact ⟨k + 1, ⟨by omega, on (by rw [ht]; simp; omega)⟩, rfl, (by repeat' (first | exact List.Sublist.refl _ | exact List.nil_sublist _ | apply List.Sublist.cons_cons | apply List.Sublist.cons)), by dsimp only; omega⟩
    · (conv => whnf); repeat ((first | refine tk1 ?_ | refine tk2 ?_ | refine tk3 ?_ | refine tk12 (fun _ => ?_) | refine tk4 ?_ | refine tk5 ?_ | refine tk6 ?_ | refine tk7 ?_ | refine tk8 ?_ | refine tk9 ?_ | refine tk10 (fun _ _ => ?_) | refine tk11 (fun _ => ?_) | refine tk13 ?_ | refine tk14 ?_); (conv => whnf))
      refine IdxS.at (l[k]'(by omega)) (List.getElem?_eq_getElem _) (by omega) ?_
      (conv => whnf); repeat ((first | refine tk1 ?_ | refine tk2 ?_ | refine tk3 ?_ | refine tk12 (fun _ => ?_) | refine tk4 ?_ | refine tk5 ?_ | refine tk6 ?_ | refine tk7 ?_ | refine tk8 ?_ | refine tk9 ?_ | refine tk10 (fun _ _ => ?_) | refine tk11 (fun _ => ?_) | refine tk13 ?_ | refine tk14 ?_); (conv => whnf))
      refine Cmp.cases (fun h2 => ?_) (fun h2 => ?_)
      · (conv => whnf); repeat ((first | refine tk1 ?_ | refine tk2 ?_ | refine tk3 ?_ | refine tk12 (fun _ => ?_) | refine tk4 ?_ | refine tk5 ?_ | refine tk6 ?_ | refine tk7 ?_ | refine tk8 ?_ | refine tk9 ?_ | refine tk10 (fun _ _ => ?_) | refine tk11 (fun _ => ?_) | refine tk13 ?_ | refine tk14 ?_); (conv => whnf))
        rw [no (by rw [ht]; simp [h2])]
      · (conv => whnf); repeat ((first | refine tk1 ?_ | refine tk2 ?_ | refine tk3 ?_ | refine tk12 (fun _ => ?_) | refine tk4 ?_ | refine tk5 ?_ | refine tk6 ?_ | refine tk7 ?_ | refine tk8 ?_ | refine tk9 ?_ | refine tk10 (fun _ _ => ?_) | refine tk11 (fun _ => ?_) | refine tk13 ?_ | refine tk14 ?_); (conv => whnf))
        exact ⟨k + 1, ⟨by omega, on (by rw [ht]; simp; omega)⟩, rfl, (by repeat' (first | exact List.Sublist.refl _ | exact List.nil_sublist _ | apply List.Sublist.cons_cons | apply List.Sublist.cons)), by dsimp only; omega⟩
  · have h0 : l.all valB = true := by rw [hI, List.drop_eq_nil_of_le (by omega)]; rfl
    (conv => whnf); repeat ((first | refine tk1 ?_ | refine tk2 ?_ | refine tk3 ?_ | refine tk12 (fun _ => ?_) | refine tk4 ?_ | refine tk5 ?_ | refine tk6 ?_ | refine tk7 ?_ | refine tk8 ?_ | refine tk9 ?_ | refine tk10 (fun _ _ => ?_) | refine tk11 (fun _ => ?_) | refine tk13 ?_ | refine tk14 ?_); (conv => whnf))
    refine Cmp.cases (fun hq => ?_) (fun hq => ?_)
    · (conv => whnf); repeat ((first | refine tk1 ?_ | refine tk2 ?_ | refine tk3 ?_ | refine tk12 (fun _ => ?_) | refine tk4 ?_ | refine tk5 ?_ | refine tk6 ?_ | refine tk7 ?_ | refine tk8 ?_ | refine tk9 ?_ | refine tk10 (fun _ _ => ?_) | refine tk11 (fun _ => ?_) | refine tk13 ?_ | refine tk14 ?_); (conv => whnf))
      obtain rfl : l = [] := List.eq_nil_of_length_eq_zero (by omega)
      rfl
    · cases l with
      | nil => simp at hq
      | cons a r =>
        have hlast : (a :: r) = (a :: r).take r.length ++ [(a :: r)[r.length]'(by simp)] := by
          have := List.take_append_drop r.length (a :: r)
          rw [List.drop_eq_getElem_cons (by simp), List.drop_eq_nil_of_le (by simp)] at this
          exact this.symm
        have hv := valueOf_ends a r _ _ hlast
        rw [h0] at hv
        have hl1 : (((a :: r).length : Nat) : Int) = (r.length : Int) + 1 := by simp
        (conv => whnf); repeat ((first | refine tk1 ?_ | refine tk2 ?_ | refine tk3 ?_ | refine tk12 (fun _ => ?_) | refine tk4 ?_ | refine tk5 ?_ | refine tk6 ?_ | refine tk7 ?_ | refine tk8 ?_ | refine tk9 ?_ | refine tk10 (fun _ _ => ?_) | refine tk11 (fun _ => ?_) | refine tk13 ?_ | refine tk14 ?_); (conv => whnf))
        refine IdxS.at a rfl (by omega) ?_
        (conv => whnf); repeat ((first | refine tk1 ?_ | refine tk2 ?_ | refine tk3 ?_ | refine tk12 (fun _ => ?_) | refine tk4 ?_ | refine tk5 ?_ | refine tk6 ?_ | refine tk7 ?_ | refine tk8 ?_ | refine tk9 ?_ | refine tk10 (fun _ _ => ?_) | refine tk11 (fun _ => ?_) | refine tk13 ?_ | refine tk14 ?_); (conv => whnf))
        refine CallK.fn (Blank_r _) ?_
        rw [blank_is]
        cases hb : blankB a
        · (conv => whnf); repeat ((first | refine tk1 ?_ | refine tk2 ?_ | refine tk3 ?_ | refine tk12 (fun _ => ?_) | refine tk4 ?_ | refine tk5 ?_ | refine tk6 ?_ | refine tk7 ?_ | refine tk8 ?_ | refine tk9 ?_ | refine tk10 (fun _ _ => ?_) | refine tk11 (fun _ => ?_) | refine tk13 ?_ | refine tk14 ?_); (conv => whnf))
          refine IdxS.at ((a :: r)[r.length]'(by simp)) (by rw [hl1, show ((r.length : Int) + 1 - 1).toNat = r.length by omega]; exact List.getElem?_eq_getElem _) (by omega) ?_
          (conv => whnf); repeat ((first | refine tk1 ?_ | refine tk2 ?_ | refine tk3 ?_ | refine tk12 (fun _ => ?_) | refine tk4 ?_ | refine tk5 ?_ | refine tk6 ?_ | refine tk7 ?_ | refine tk8 ?_ | refine tk9 ?_ | refine tk10 (fun _ _ => ?_) | refine tk11 (fun _ => ?_) | refine tk13 ?_ | refine tk14 ?_); (conv => whnf))
          refine CallK.fn (Blank_r _) ?_
          rw [blank_is]
          (conv => whnf); repeat ((first | refine tk1 ?_ | refine tk2 ?_ | refine tk3 ?_ | refine tk12 (fun _ => ?_) | refine tk4 ?_ | refine tk5 ?_ | refine tk6 ?_ | refine tk7 ?_ | refine tk8 ?_ | refine tk9 ?_ | refine tk10 (fun _ _ => ?_) | refine tk11 (fun _ => ?_) | refine tk13 ?_ | refine tk14 ?_); (conv => whnf))
          rw [hv, hb]; simp
        · (conv => whnf); repeat ((first | refine tk1 ?_ | refine tk2 ?_ | refine tk3 ?_ | refine tk12 (fun _ => ?_) | refine tk4 ?_ | refine tk5 ?_ | refine tk6 ?_ | refine tk7 ?_ | refine tk8 ?_ | refine tk9 ?_ | refine tk10 (fun _ _ => ?_) | refine tk11 (fun _ => ?_) | refine tk13 ?_ | refine tk14 ?_); (conv => whnf))
          rw [hv, hb]; simp
theorem Small_r (l : List UInt8) (hl : l.length ≤ 1000000000000) : Fn Tryz.prog gI 109 [str l] (str (smallOf l)) := by
  refine Fn.of tys_ok Tryz.func109 rfl (by kernel_rfl) rfl rfl ?_; intro w hG
  (conv => whnf); repeat ((first | refine tk1 ?_ | refine tk2 ?_ | refine tk3 ?_ | refine tk12 (fun _ => ?_) | refine tk4 ?_ | refine tk5 ?_ | refine tk6 ?_ | refine tk7 ?_ | refine tk8 ?_ | refine tk9 ?_ | refine tk10 (fun _ _ => ?_) | refine tk11 (fun _ => ?_) | refine tk13 ?_ | refine tk14 ?_); (conv => whnf))
  refine LoopS.lp tys_ok (fun k u => [str l, u 1, u 2, str (smallOf (l.take k)), .int .i64 (k : Nat), u 5, u 6, u 7, u 8, u 9, u 10, u 11, u 12, u 13, u 14, u 15, u 16, u 17, u 18, u 19, u 20, u 21, u 22, u 23, u 24, u 25, u 26, u 27, u 28]) (fun _ => [])
    (fun k => k ≤ l.length) (fun k => l.length - k) 0 (Nat.zero_le _) rfl (by repeat' (first | exact List.Sublist.refl _ | exact List.nil_sublist _ | apply List.Sublist.cons_cons | apply List.Sublist.cons)) ?_
  intro k u hk
  (conv => whnf); repeat ((first | refine tk1 ?_ | refine tk2 ?_ | refine tk3 ?_ | refine tk12 (fun _ => ?_) | refine tk4 ?_ | refine tk5 ?_ | refine tk6 ?_ | refine tk7 ?_ | refine tk8 ?_ | refine tk9 ?_ | refine tk10 (fun _ _ => ?_) | refine tk11 (fun _ => ?_) | refine tk13 ?_ | refine tk14 ?_); (conv => whnf))
  refine Cmp.cases (fun hlt => ?_) (fun hlt => ?_)
  · have hlt' : k < l.length := by omega
    have hx := byte_le l[k]
    have ht : smallOf (l.take (k + 1)) = smallOf (l.take k) ++ [lowB l[k]] := by
      unfold smallOf
      rw [List.take_succ_eq_append_getElem hlt', List.map_append]; rfl
    have hs9 : (smallOf (l.take k)).length ≤ l.length := by rw [smallOf_length, List.length_take]; omega
    have hv := lowB_toNat l[k]
    unfold lowI greatI at hv
    (conv => whnf); repeat ((first | refine tk1 ?_ | refine tk2 ?_ | refine tk3 ?_ | refine tk12 (fun _ => ?_) | refine tk4 ?_ | refine tk5 ?_ | refine tk6 ?_ | refine tk7 ?_ | refine tk8 ?_ | refine tk9 ?_ | refine tk10 (fun _ _ => ?_) | refine tk11 (fun _ => ?_) | refine tk13 ?_ | refine tk14 ?_); (conv => whnf))
    refine IdxS.at l[k] (List.getElem?_eq_getElem _) (by omega) ?_
    (conv => whnf); repeat ((first | refine tk1 ?_ | refine tk2 ?_ | refine tk3 ?_ | refine tk12 (fun _ => ?_) | refine tk4 ?_ | refine tk5 ?_ | refine tk6 ?_ | refine tk7 ?_ | refine tk8 ?_ | refine tk9 ?_ | refine tk10 (fun _ _ => ?_) | refine tk11 (fun _ => ?_) | refine tk13 ?_ | refine tk14 ?_); (conv => whnf))
    refine Cmp.cases (fun h1 => ?_) (fun h1 => ?_)
    · (conv => whnf); repeat ((first | refine tk1 ?_ | refine tk2 ?_ | refine tk3 ?_ | refine tk12 (fun _ => ?_) | refine tk4 ?_ | refine tk5 ?_ | refine tk6 ?_ | refine tk7 ?_ | refine tk8 ?_ | refine tk9 ?_ | refine tk10 (fun _ _ => ?_) | refine tk11 (fun _ => ?_) | refine tk13 ?_ | refine tk14 ?_); (conv => whnf))
      refine Cmp.cases (fun h2 => ?_) (fun h2 => ?_)
      · (conv => whnf); repeat ((first | refine tk1 ?_ | refine tk2 ?_ | refine tk3 ?_ | refine tk12 (fun _ => ?_) | refine tk4 ?_ | refine tk5 ?_ | refine tk6 ?_ | refine tk7 ?_ | refine tk8 ?_ | refine tk9 ?_ | refine tk10 (fun _ _ => ?_) | refine tk11 (fun _ => ?_) | refine tk13 ?_ | refine tk14 ?_); (conv => whnf))
        refine Ar.in8 (by omega) (by omega) ?_
        (conv => whnf); repeat ((first | refine tk1 ?_ | refine tk2 ?_ | refine tk3 ?_ | refine tk12 (fun _ => ?_) | refine tk4 ?_ | refine tk5 ?_ | refine tk6 ?_ | refine tk7 ?_ | refine tk8 ?_ | refine tk9 ?_ | refine tk10 (fun _ _ => ?_) | refine tk11 (fun _ => ?_) | refine tk13 ?_ | refine tk14 ?_); (conv => whnf))
        rename_i b
        refine B2S.rd (l := [lowB l[k]]) (by rw [show [Value.int .u8 (((l[k].toNat : Nat) : Int) + 32)] = [lowB l[k]].map byteV from by simp [byteV]; rw [hv]; simp; omega]; exact RdS.here) rfl ?_
        (conv => whnf); repeat ((first | refine tk1 ?_ | refine tk2 ?_ | refine tk3 ?_ | refine tk12 (fun _ => ?_) | refine tk4 ?_ | refine tk5 ?_ | refine tk6 ?_ | refine tk7 ?_ | refine tk8 ?_ | refine tk9 ?_ | refine tk10 (fun _ _ => ?_) | refine tk11 (fun _ => ?_) | refine tk13 ?_ | refine tk14 ?_); (conv => whnf))
        refine CatS.at (by simp; omega) ?_
        (conv => whnf); repeat ((first | refine tk1 ?_ | refine tk2 ?_ | refine tk3 ?_ | refine tk12 (fun _ => ?_) | refine tk4 ?_ | refine tk5 ?_ | refine tk6 ?_ | refine tk7 ?_ | refine tk8 ?_ | refine tk9 ?_ | refine tk10 (fun _ _ => ?_) | refine tk11 (fun _ => ?_) | refine tk13 ?_ | refine tk14 ?_); (conv => whnf))
        exact ⟨k + 1, by omega, by dsimp only; rw [ht]; rfl, (by repeat' (first | exact List.Sublist.refl _ | exact List.nil_sublist _ | apply List.Sublist.cons_cons | apply List.Sublist.cons)), by dsimp only; omega⟩
      · (conv => whnf); repeat ((first | refine tk1 ?_ | refine tk2 ?_ | refine tk3 ?_ | refine tk12 (fun _ => ?_) | refine tk4 ?_ | refine tk5 ?_ | refine tk6 ?_ | refine tk7 ?_ | refine tk8 ?_ | refine tk9 ?_ | refine tk10 (fun _ _ => ?_) | refine tk11 (fun _ => ?_) | refine tk13 ?_ | refine tk14 ?_); (conv => whnf))
        refine B2S.rd (l := [lowB l[k]]) (by rw [show [Value.int .u8 ((l[k].toNat : Nat) : Int)] = [lowB l[k]].map byteV from by simp [byteV]; rw [hv]; simp; omega]; exact RdS.here) rfl ?_
        (conv => whnf); repeat ((first | refine tk1 ?_ | refine tk2 ?_ | refine tk3 ?_ | refine tk12 (fun _ => ?_) | refine tk4 ?_ | refine tk5 ?_ | refine tk6 ?_ | refine tk7 ?_ | refine tk8 ?_ | refine tk9 ?_ | refine tk10 (fun _ _ => ?_) | refine tk11 (fun _ => ?_) | refine tk13 ?_ | refine tk14 ?_); (conv => whnf))
        refine CatS.at (by simp; omega) ?_
        (conv => whnf); repeat ((first | refine tk1 ?_ | refine tk2 ?_ | refine tk3 ?_ | refine tk12 (fun _ => ?_) | refine tk4 ?_ | refine tk5 ?_ | refine tk6 ?_ | refine tk7 ?_ | refine tk8 ?_ | refine tk9 ?_ | refine tk10 (fun _ _ => ?_) | refine tk11 (fun _ => ?_) | refine tk13 ?_ | refine tk14 ?_); (conv => whnf))
        exact ⟨k + 1, by omega, by dsimp only; rw [ht]; rfl, (by repeat' (first | exact List.Sublist.refl _ | exact List.nil_sublist _ | apply List.Sublist.cons_cons | apply List.Sublist.cons)), by dsimp only; omega⟩
    · (conv => whnf); repeat ((first | refine tk1 ?_ | refine tk2 ?_ | refine tk3 ?_ | refine tk12 (fun _ => ?_) | refine tk4 ?_ | refine tk5 ?_ | refine tk6 ?_ | refine tk7 ?_ | refine tk8 ?_ | refine tk9 ?_ | refine tk10 (fun _ _ => ?_) | refine tk11 (fun _ => ?_) | refine tk13 ?_ | refine tk14 ?_); (conv => whnf))
      refine B2S.rd (l := [lowB l[k]]) (by rw [show [Value.int .u8 ((l[k].toNat : Nat) : Int)] = [lowB l[k]].map byteV from by simp [byteV]; rw [hv]; simp; omega]; exact RdS.here) rfl ?_
      (conv => whnf); repeat ((first | refine tk1 ?_ | refine tk2 ?_ | refine tk3 ?_ | refine tk12 (fun _ => ?_) | refine tk4 ?_ | refine tk5 ?_ | refine tk6 ?_ | refine tk7 ?_ | refine tk8 ?_ | refine tk9 ?_ | refine tk10 (fun _ _ => ?_) | refine tk11 (fun _ => ?_) | refine tk13 ?_ | refine tk14 ?_); (conv => whnf))
      refine CatS.at (by simp; omega) ?_
      (conv => whnf); repeat ((first | refine tk1 ?_ | refine tk2 ?_ | refine tk3 ?_ | refine tk12 (fun _ => ?_) | refine tk4 ?_ | refine tk5 ?_ | refine tk6 ?_ | refine tk7 ?_ | refine tk8 ?_ | refine tk9 ?_ | refine tk10 (fun _ _ => ?_) | refine tk11 (fun _ => ?_) | refine tk13 ?_ | refine tk14 ?_); (conv => whnf))
      exact ⟨k + 1, by omega, by dsimp only; rw [ht]; rfl, (by repeat' (first | exact List.Sublist.refl _ | exact List.nil_sublist _ | apply List.Sublist.cons_cons | apply List.Sublist.cons)), by dsimp only; omega⟩
  · (conv => whnf); repeat ((first | refine tk1 ?_ | refine tk2 ?_ | refine tk3 ?_ | refine tk12 (fun _ => ?_) | refine tk4 ?_ | refine tk5 ?_ | refine tk6 ?_ | refine tk7 ?_ | refine tk8 ?_ | refine tk9 ?_ | refine tk10 (fun _ _ => ?_) | refine tk11 (fun _ => ?_) | refine tk13 ?_ | refine tk14 ?_); (conv => whnf))
    rw [List.take_of_length_le (by omega)]
theorem last_of (t : List UInt8) (h : 0 < t.length) : t = t.take (t.length - 1) ++ [t[t.length - 1]'(by omega)] := by
  have := List.take_append_drop (t.length - 1) t
  rw [List.drop_eq_getElem_cons (by omega), List.drop_eq_nil_of_le (by omega)] at this
  exact this.symm
end Go.Proofs.YtmdmmncoigeijaaGreatDoor.Vex
/- The references' functions on fields, reckoned. -/
namespace Go.Proofs.YtmdmmncoigeijaaGreatDoor.Vex
open Go Go.RowKit
set_option maxRecDepth 100000
set_option linter.unusedSectionVars false
variable {gI : GI} [HasMax gI]

theorem May_r (n v : List UInt8) : Fn Tryz.prog gI 73 [.agg ⟨[str n, str v]⟩] (.bool (fieldOK n v)) := by
  refine Fn.of tys_ok Tryz.func73 rfl (by kernel_rfl) rfl rfl ?_; intro w hG
  (conv => whnf); repeat ((first | refine tk1 ?_ | refine tk2 ?_ | refine tk3 ?_ | refine tk12 (fun _ => ?_) | refine tk4 ?_ | refine tk5 ?_ | refine tk6 ?_ | refine tk7 ?_ | refine tk8 ?_ | refine tk9 ?_ | refine tk10 (fun _ _ => ?_) | refine tk11 (fun _ => ?_) | refine tk13 ?_ | refine tk14 ?_); (conv => whnf))
  refine DrawS.go (qs 29) tys_ok mixed (by kernel_rfl) ?_
  (conv => whnf); repeat ((first | refine tk1 ?_ | refine tk2 ?_ | refine tk3 ?_ | refine tk12 (fun _ => ?_) | refine tk4 ?_ | refine tk5 ?_ | refine tk6 ?_ | refine tk7 ?_ | refine tk8 ?_ | refine tk9 ?_ | refine tk10 (fun _ _ => ?_) | refine tk11 (fun _ => ?_) | refine tk13 ?_ | refine tk14 ?_); (conv => whnf))
  refine Cmp.cases (fun h1 => ?_) (fun h1 => ?_)
  · (conv => whnf); repeat ((first | refine tk1 ?_ | refine tk2 ?_ | refine tk3 ?_ | refine tk12 (fun _ => ?_) | refine tk4 ?_ | refine tk5 ?_ | refine tk6 ?_ | refine tk7 ?_ | refine tk8 ?_ | refine tk9 ?_ | refine tk10 (fun _ _ => ?_) | refine tk11 (fun _ => ?_) | refine tk13 ?_ | refine tk14 ?_); (conv => whnf))
    refine Cmp.cases (fun h2 => ?_) (fun h2 => ?_)
    · (conv => whnf); repeat ((first | refine tk1 ?_ | refine tk2 ?_ | refine tk3 ?_ | refine tk12 (fun _ => ?_) | refine tk4 ?_ | refine tk5 ?_ | refine tk6 ?_ | refine tk7 ?_ | refine tk8 ?_ | refine tk9 ?_ | refine tk10 (fun _ _ => ?_) | refine tk11 (fun _ => ?_) | refine tk13 ?_ | refine tk14 ?_); (conv => whnf))
      refine CallQ.fn (Token_r n (by omega)) ?_
      have e1 : n.length ≤ 4096 := by omega
      have e2 : v.length ≤ 4096 := by omega
      cases h3 : tokenOf n
      · (conv => whnf); repeat ((first | refine tk1 ?_ | refine tk2 ?_ | refine tk3 ?_ | refine tk12 (fun _ => ?_) | refine tk4 ?_ | refine tk5 ?_ | refine tk6 ?_ | refine tk7 ?_ | refine tk8 ?_ | refine tk9 ?_ | refine tk10 (fun _ _ => ?_) | refine tk11 (fun _ => ?_) | refine tk13 ?_ | refine tk14 ?_); (conv => whnf))
        simp [fieldOK, h3]
      · (conv => whnf); repeat ((first | refine tk1 ?_ | refine tk2 ?_ | refine tk3 ?_ | refine tk12 (fun _ => ?_) | refine tk4 ?_ | refine tk5 ?_ | refine tk6 ?_ | refine tk7 ?_ | refine tk8 ?_ | refine tk9 ?_ | refine tk10 (fun _ _ => ?_) | refine tk11 (fun _ => ?_) | refine tk13 ?_ | refine tk14 ?_); (conv => whnf))
        refine CallQ.fn (Small_r n (by omega)) ?_
        (conv => whnf); repeat ((first | refine tk1 ?_ | refine tk2 ?_ | refine tk3 ?_ | refine tk12 (fun _ => ?_) | refine tk4 ?_ | refine tk5 ?_ | refine tk6 ?_ | refine tk7 ?_ | refine tk8 ?_ | refine tk9 ?_ | refine tk10 (fun _ _ => ?_) | refine tk11 (fun _ => ?_) | refine tk13 ?_ | refine tk14 ?_); (conv => whnf))
        refine Cmp.cases (fun h4 => ?_) (fun h4 => ?_)
        · (conv => whnf); repeat ((first | refine tk1 ?_ | refine tk2 ?_ | refine tk3 ?_ | refine tk12 (fun _ => ?_) | refine tk4 ?_ | refine tk5 ?_ | refine tk6 ?_ | refine tk7 ?_ | refine tk8 ?_ | refine tk9 ?_ | refine tk10 (fun _ _ => ?_) | refine tk11 (fun _ => ?_) | refine tk13 ?_ | refine tk14 ?_); (conv => whnf))
          refine CallQ.fn (Value_r v (by omega)) ?_
          (conv => whnf); repeat ((first | refine tk1 ?_ | refine tk2 ?_ | refine tk3 ?_ | refine tk12 (fun _ => ?_) | refine tk4 ?_ | refine tk5 ?_ | refine tk6 ?_ | refine tk7 ?_ | refine tk8 ?_ | refine tk9 ?_ | refine tk10 (fun _ _ => ?_) | refine tk11 (fun _ => ?_) | refine tk13 ?_ | refine tk14 ?_); (conv => whnf))
          simp [fieldOK, h3, h4, e1, e2]
        · (conv => whnf); repeat ((first | refine tk1 ?_ | refine tk2 ?_ | refine tk3 ?_ | refine tk12 (fun _ => ?_) | refine tk4 ?_ | refine tk5 ?_ | refine tk6 ?_ | refine tk7 ?_ | refine tk8 ?_ | refine tk9 ?_ | refine tk10 (fun _ _ => ?_) | refine tk11 (fun _ => ?_) | refine tk13 ?_ | refine tk14 ?_); (conv => whnf))
          simp [fieldOK, h3, h4]
    · (conv => whnf); repeat ((first | refine tk1 ?_ | refine tk2 ?_ | refine tk3 ?_ | refine tk12 (fun _ => ?_) | refine tk4 ?_ | refine tk5 ?_ | refine tk6 ?_ | refine tk7 ?_ | refine tk8 ?_ | refine tk9 ?_ | refine tk10 (fun _ _ => ?_) | refine tk11 (fun _ => ?_) | refine tk13 ?_ | refine tk14 ?_); (conv => whnf))
      simp [fieldOK]; omega
  · (conv => whnf); repeat ((first | refine tk1 ?_ | refine tk2 ?_ | refine tk3 ?_ | refine tk12 (fun _ => ?_) | refine tk4 ?_ | refine tk5 ?_ | refine tk6 ?_ | refine tk7 ?_ | refine tk8 ?_ | refine tk9 ?_ | refine tk10 (fun _ _ => ?_) | refine tk11 (fun _ => ?_) | refine tk13 ?_ | refine tk14 ?_); (conv => whnf))
    simp [fieldOK]; omega
theorem Line_r (n v : List UInt8) : Fn Tryz.prog gI 53 [.agg ⟨[str n, str v]⟩] (.tuple #[str (lineOf n v), .int .i64 (fieldE n v)]) := by
  refine Fn.of tys_ok Tryz.func53 rfl (by kernel_rfl) rfl rfl ?_; intro w hG
  (conv => whnf); repeat ((first | refine tk1 ?_ | refine tk2 ?_ | refine tk3 ?_ | refine tk12 (fun _ => ?_) | refine tk4 ?_ | refine tk5 ?_ | refine tk6 ?_ | refine tk7 ?_ | refine tk8 ?_ | refine tk9 ?_ | refine tk10 (fun _ _ => ?_) | refine tk11 (fun _ => ?_) | refine tk13 ?_ | refine tk14 ?_); (conv => whnf))
  refine CallK.fn (May_r n v) ?_
  cases h3 : fieldOK n v
  · (conv => whnf); repeat ((first | refine tk1 ?_ | refine tk2 ?_ | refine tk3 ?_ | refine tk12 (fun _ => ?_) | refine tk4 ?_ | refine tk5 ?_ | refine tk6 ?_ | refine tk7 ?_ | refine tk8 ?_ | refine tk9 ?_ | refine tk10 (fun _ _ => ?_) | refine tk11 (fun _ => ?_) | refine tk13 ?_ | refine tk14 ?_); (conv => whnf))
    simp [lineOf, fieldE, h3]
  · have hp := fieldOK_parts h3
    (conv => whnf); repeat ((first | refine tk1 ?_ | refine tk2 ?_ | refine tk3 ?_ | refine tk12 (fun _ => ?_) | refine tk4 ?_ | refine tk5 ?_ | refine tk6 ?_ | refine tk7 ?_ | refine tk8 ?_ | refine tk9 ?_ | refine tk10 (fun _ _ => ?_) | refine tk11 (fun _ => ?_) | refine tk13 ?_ | refine tk14 ?_); (conv => whnf))
    refine CatS.at (by simp; omega) ?_
    (conv => whnf); repeat ((first | refine tk1 ?_ | refine tk2 ?_ | refine tk3 ?_ | refine tk12 (fun _ => ?_) | refine tk4 ?_ | refine tk5 ?_ | refine tk6 ?_ | refine tk7 ?_ | refine tk8 ?_ | refine tk9 ?_ | refine tk10 (fun _ _ => ?_) | refine tk11 (fun _ => ?_) | refine tk13 ?_ | refine tk14 ?_); (conv => whnf))
    refine CatS.at (by simp; omega) ?_
    (conv => whnf); repeat ((first | refine tk1 ?_ | refine tk2 ?_ | refine tk3 ?_ | refine tk12 (fun _ => ?_) | refine tk4 ?_ | refine tk5 ?_ | refine tk6 ?_ | refine tk7 ?_ | refine tk8 ?_ | refine tk9 ?_ | refine tk10 (fun _ _ => ?_) | refine tk11 (fun _ => ?_) | refine tk13 ?_ | refine tk14 ?_); (conv => whnf))
    simp [lineOf, fieldE, h3]
theorem Line_f (n v : List UInt8) (hn : n.length ≤ 1000000000000) : Fn Tryz.prog gI 50 [.agg ⟨[str n, str v]⟩] (.tuple #[str (lineOf n v), .int .i64 (fieldE n v)]) := by
  refine Fn.of tys_ok Tryz.func50 rfl (by kernel_rfl) rfl rfl ?_; intro w hG
  (conv => whnf); repeat ((first | refine tk1 ?_ | refine tk2 ?_ | refine tk3 ?_ | refine tk12 (fun _ => ?_) | refine tk4 ?_ | refine tk5 ?_ | refine tk6 ?_ | refine tk7 ?_ | refine tk8 ?_ | refine tk9 ?_ | refine tk10 (fun _ _ => ?_) | refine tk11 (fun _ => ?_) | refine tk13 ?_ | refine tk14 ?_); (conv => whnf))
  refine CallK.fn (Check_f _ _ hn) ?_
  cases h3 : fieldOK n v
  · simp only [fieldE, h3, Bool.false_eq_true, if_false]
    (conv => whnf); repeat ((first | refine tk1 ?_ | refine tk2 ?_ | refine tk3 ?_ | refine tk12 (fun _ => ?_) | refine tk4 ?_ | refine tk5 ?_ | refine tk6 ?_ | refine tk7 ?_ | refine tk8 ?_ | refine tk9 ?_ | refine tk10 (fun _ _ => ?_) | refine tk11 (fun _ => ?_) | refine tk13 ?_ | refine tk14 ?_); (conv => whnf))
    simp [lineOf, h3]
  · have hp := fieldOK_parts h3
    simp only [fieldE, h3, if_true]
    (conv => whnf); repeat ((first | refine tk1 ?_ | refine tk2 ?_ | refine tk3 ?_ | refine tk12 (fun _ => ?_) | refine tk4 ?_ | refine tk5 ?_ | refine tk6 ?_ | refine tk7 ?_ | refine tk8 ?_ | refine tk9 ?_ | refine tk10 (fun _ _ => ?_) | refine tk11 (fun _ => ?_) | refine tk13 ?_ | refine tk14 ?_); (conv => whnf))
    refine CatS.at (by simp; omega) ?_
    (conv => whnf); repeat ((first | refine tk1 ?_ | refine tk2 ?_ | refine tk3 ?_ | refine tk12 (fun _ => ?_) | refine tk4 ?_ | refine tk5 ?_ | refine tk6 ?_ | refine tk7 ?_ | refine tk8 ?_ | refine tk9 ?_ | refine tk10 (fun _ _ => ?_) | refine tk11 (fun _ => ?_) | refine tk13 ?_ | refine tk14 ?_); (conv => whnf))
    refine CatS.at (by simp; omega) ?_
    (conv => whnf); repeat ((first | refine tk1 ?_ | refine tk2 ?_ | refine tk3 ?_ | refine tk12 (fun _ => ?_) | refine tk4 ?_ | refine tk5 ?_ | refine tk6 ?_ | refine tk7 ?_ | refine tk8 ?_ | refine tk9 ?_ | refine tk10 (fun _ _ => ?_) | refine tk11 (fun _ => ?_) | refine tk13 ?_ | refine tk14 ?_); (conv => whnf))
    simp [lineOf, h3]
end Go.Proofs.YtmdmmncoigeijaaGreatDoor.Vex
/- Functions on lists of fields, reckoned. -/
namespace Go.Proofs.YtmdmmncoigeijaaGreatDoor.Vex
open Go Go.RowKit
set_option maxRecDepth 100000
set_option linter.unusedSectionVars false
variable {gI : GI} [HasMax gI]

abbrev Fld := List UInt8 × List UInt8
/-- The cells of a list of fields. -/
def fcells : List Fld → List Value
  | [] => []
  | p :: r => str p.1 :: str p.2 :: fcells r
theorem fcells_length : ∀ l : List Fld, (fcells l).length = 2 * l.length
  | [] => rfl
  | _ :: r => by simp [fcells, fcells_length r]; omega
theorem fcells_drop : ∀ (l : List Fld) (k : Nat), (fcells l).drop (k * 2) = fcells (l.drop k)
  | l, 0 => by simp
  | [], k + 1 => by simp [fcells]
  | _ :: r, k + 1 => by rw [show (k + 1) * 2 = k * 2 + 2 by omega]; exact fcells_drop r k
theorem fcells_app : ∀ a b : List Fld, fcells (a ++ b) = fcells a ++ fcells b
  | [], _ => rfl
  | p :: a, b => by simp [fcells, fcells_app a b]
theorem fcells_one : ∀ l : List Fld, ∀ u ∈ fcells l, u.oneCell' = true
  | [], _, h => by cases h
  | p :: l, u, h => by
    simp only [fcells, List.mem_cons] at h
    rcases h with rfl | rfl | h
    · rfl
    · rfl
    · exact fcells_one l u h
theorem rdw_nil {w : World} {xs : List Value} (h : Rdw w none xs) : xs = [] := by
  cases xs with
  | nil => rfl
  | cons x r => obtain ⟨a, ha, _⟩ := h 0 x rfl; cases ha
theorem fcells_two (l : List Fld) (k : Nat) (h : k < l.length) : ((fcells l).drop (k * 2)).take 2 = [str l[k].1, str l[k].2] := by
  rw [fcells_drop, List.drop_eq_getElem_cons h]; rfl
theorem fcells_0 (l : List Fld) (k : Nat) (h : k < l.length) : (fcells l)[k * 2 + 0]? = some (str l[k].1) := by
  have := congrArg (·[0]?) (fcells_two l k h)
  simpa [List.getElem?_drop] using this
theorem fcells_1 (l : List Fld) (k : Nat) (h : k < l.length) : (fcells l)[k * 2 + 1]? = some (str l[k].2) := by
  have := congrArg (·[1]?) (fcells_two l k h)
  simpa [List.getElem?_drop] using this
def fw (p : Fld) : Nat := 1 + min p.1.length 100000 + min p.2.length 100000
def gs : List Fld → Nat
  | [] => 0
  | p :: r => fw p + gs r
theorem gs_add : ∀ a b : List Fld, gs (a ++ b) = gs a + gs b
  | [], b => by simp [gs]
  | p :: a, b => by simp [gs, gs_add a b]; omega
theorem gs_take (l : List Fld) (k : Nat) (h : k < l.length) : gs (l.take (k + 1)) = gs (l.take k) + fw l[k] := by
  rw [List.take_succ_eq_append_getElem h, gs_add]; simp [gs]
theorem Great_r (A : Option Addr) (cp : Nat) (l : List Fld) : FnR Tryz.prog gI 32 [.slice A l.length cp] [(A, fcells l)] (.bool (decide (3000 < gs (l.take 1000)))) := by
  refine FnE.of tys_ok Tryz.func32 rfl (by kernel_rfl) rfl rfl ?_; intro w hG hP
  have hR : ∀ H, RdS (mkC Tryz.prog gI w hG) H A (fcells l) := fun H => hP.1.now
  (conv => whnf); repeat ((first | refine tk1 ?_ | refine tk2 ?_ | refine tk3 ?_ | refine tk12 (fun _ => ?_) | refine tk4 ?_ | refine tk5 ?_ | refine tk6 ?_ | refine tk7 ?_ | refine tk8 ?_ | refine tk9 ?_ | refine tk10 (fun _ _ => ?_) | refine tk11 (fun _ => ?_) | refine tk13 ?_ | refine tk14 ?_); (conv => whnf))
  refine LoopS.lp tys_ok (fun k u => [.slice A l.length cp, u 1, u 2, .int .i64 (gs (l.take k) : Nat), .int .i64 (k : Nat), u 5, u 6, u 7, u 8, u 9, u 10, u 11, u 12, u 13, u 14, u 15, u 16, u 17, u 18, u 19, u 20, u 21, u 22, u 23, u 24, u 25, u 26, u 27, u 28, u 29, u 30, u 31, u 32, u 33, u 34]) (fun _ => [])
    (fun k => k ≤ l.length ∧ k ≤ 1000 ∧ gs (l.take k) ≤ k * 200001) (fun k => l.length - k) 0 ⟨Nat.zero_le _, Nat.zero_le _, Nat.zero_le _⟩ rfl (by repeat' (first | exact List.Sublist.refl _ | exact List.nil_sublist _ | apply List.Sublist.cons_cons | apply List.Sublist.cons)) ?_
  intro k u ⟨hk, hk9, hz⟩
  (conv => whnf); repeat ((first | refine tk1 ?_ | refine tk2 ?_ | refine tk3 ?_ | refine tk12 (fun _ => ?_) | refine tk4 ?_ | refine tk5 ?_ | refine tk6 ?_ | refine tk7 ?_ | refine tk8 ?_ | refine tk9 ?_ | refine tk10 (fun _ _ => ?_) | refine tk11 (fun _ => ?_) | refine tk13 ?_ | refine tk14 ?_); (conv => whnf))
  refine Cmp.cases (fun hlt => ?_) (fun hlt => ?_)
  · have hlt' : k < l.length := by omega
    (conv => whnf); repeat ((first | refine tk1 ?_ | refine tk2 ?_ | refine tk3 ?_ | refine tk12 (fun _ => ?_) | refine tk4 ?_ | refine tk5 ?_ | refine tk6 ?_ | refine tk7 ?_ | refine tk8 ?_ | refine tk9 ?_ | refine tk10 (fun _ _ => ?_) | refine tk11 (fun _ => ?_) | refine tk13 ?_ | refine tk14 ?_); (conv => whnf))
    refine Cmp.cases (fun hl9 => ?_) (fun hl9 => ?_)
    · have hs := gs_take l k hlt'
      have hfw : fw l[k] = 1 + min l[k].1.length 100000 + min l[k].2.length 100000 := rfl
      have h0 := fcells_0 l k hlt'
      have h1 := fcells_1 l k hlt'
      (conv => whnf); repeat ((first | refine tk1 ?_ | refine tk2 ?_ | refine tk3 ?_ | refine tk12 (fun _ => ?_) | refine tk4 ?_ | refine tk5 ?_ | refine tk6 ?_ | refine tk7 ?_ | refine tk8 ?_ | refine tk9 ?_ | refine tk10 (fun _ _ => ?_) | refine tk11 (fun _ => ?_) | refine tk13 ?_ | refine tk14 ?_); (conv => whnf))
      refine DrawS.go (qs 19) tys_ok mixed (by kernel_rfl) ?_
      (conv => whnf); repeat ((first | refine tk1 ?_ | refine tk2 ?_ | refine tk3 ?_ | refine tk12 (fun _ => ?_) | refine tk4 ?_ | refine tk5 ?_ | refine tk6 ?_ | refine tk7 ?_ | refine tk8 ?_ | refine tk9 ?_ | refine tk10 (fun _ _ => ?_) | refine tk11 (fun _ => ?_) | refine tk13 ?_ | refine tk14 ?_); (conv => whnf))
      refine IdxA.rd (hR _) (by rw [fcells_length]; omega) (by omega) (by omega) ?_
      (conv => whnf); repeat ((first | refine tk1 ?_ | refine tk2 ?_ | refine tk3 ?_ | refine tk12 (fun _ => ?_) | refine tk4 ?_ | refine tk5 ?_ | refine tk6 ?_ | refine tk7 ?_ | refine tk8 ?_ | refine tk9 ?_ | refine tk10 (fun _ _ => ?_) | refine tk11 (fun _ => ?_) | refine tk13 ?_ | refine tk14 ?_); (conv => whnf))
      refine Ld.rdF (hR _) h0 ?_
      (conv => whnf); repeat ((first | refine tk1 ?_ | refine tk2 ?_ | refine tk3 ?_ | refine tk12 (fun _ => ?_) | refine tk4 ?_ | refine tk5 ?_ | refine tk6 ?_ | refine tk7 ?_ | refine tk8 ?_ | refine tk9 ?_ | refine tk10 (fun _ _ => ?_) | refine tk11 (fun _ => ?_) | refine tk13 ?_ | refine tk14 ?_); (conv => whnf))
      refine OthP.min2 (min (l[k].1.length : Int) 100000) rfl rfl rfl ?_
      (conv => whnf); repeat ((first | refine tk1 ?_ | refine tk2 ?_ | refine tk3 ?_ | refine tk12 (fun _ => ?_) | refine tk4 ?_ | refine tk5 ?_ | refine tk6 ?_ | refine tk7 ?_ | refine tk8 ?_ | refine tk9 ?_ | refine tk10 (fun _ _ => ?_) | refine tk11 (fun _ => ?_) | refine tk13 ?_ | refine tk14 ?_); (conv => whnf))
      refine IdxA.rd (hR _) (by rw [fcells_length]; omega) (by omega) (by omega) ?_
      (conv => whnf); repeat ((first | refine tk1 ?_ | refine tk2 ?_ | refine tk3 ?_ | refine tk12 (fun _ => ?_) | refine tk4 ?_ | refine tk5 ?_ | refine tk6 ?_ | refine tk7 ?_ | refine tk8 ?_ | refine tk9 ?_ | refine tk10 (fun _ _ => ?_) | refine tk11 (fun _ => ?_) | refine tk13 ?_ | refine tk14 ?_); (conv => whnf))
      refine Ld.rdF (hR _) h1 ?_
      (conv => whnf); repeat ((first | refine tk1 ?_ | refine tk2 ?_ | refine tk3 ?_ | refine tk12 (fun _ => ?_) | refine tk4 ?_ | refine tk5 ?_ | refine tk6 ?_ | refine tk7 ?_ | refine tk8 ?_ | refine tk9 ?_ | refine tk10 (fun _ _ => ?_) | refine tk11 (fun _ => ?_) | refine tk13 ?_ | refine tk14 ?_); (conv => whnf))
      refine OthP.min2 (min (l[k].2.length : Int) 100000) rfl rfl rfl ?_
      (conv => whnf); repeat ((first | refine tk1 ?_ | refine tk2 ?_ | refine tk3 ?_ | refine tk12 (fun _ => ?_) | refine tk4 ?_ | refine tk5 ?_ | refine tk6 ?_ | refine tk7 ?_ | refine tk8 ?_ | refine tk9 ?_ | refine tk10 (fun _ _ => ?_) | refine tk11 (fun _ => ?_) | refine tk13 ?_ | refine tk14 ?_); (conv => whnf))
      exact ⟨k + 1, ⟨by omega, by omega, by rw [hs]; omega⟩, by
        dsimp only
        rw [show (((gs (l.take (k + 1)) : Nat) : Int)) = ((gs (l.take k) : Nat) : Int) + 1 + min (l[k].1.length : Int) 100000 + min (l[k].2.length : Int) 100000 by rw [hs, hfw]; omega]; rfl, (by repeat' (first | exact List.Sublist.refl _ | exact List.nil_sublist _ | apply List.Sublist.cons_cons | apply List.Sublist.cons)), by dsimp only; omega⟩
    · obtain rfl : k = 1000 := by omega
      (conv => whnf); repeat ((first | refine tk1 ?_ | refine tk2 ?_ | refine tk3 ?_ | refine tk12 (fun _ => ?_) | refine tk4 ?_ | refine tk5 ?_ | refine tk6 ?_ | refine tk7 ?_ | refine tk8 ?_ | refine tk9 ?_ | refine tk10 (fun _ _ => ?_) | refine tk11 (fun _ => ?_) | refine tk13 ?_ | refine tk14 ?_); (conv => whnf))
      refine Cmp.of (decide (3000 < gs (l.take 1000))) (by simp; omega) ?_
      (conv => whnf); repeat ((first | refine tk1 ?_ | refine tk2 ?_ | refine tk3 ?_ | refine tk12 (fun _ => ?_) | refine tk4 ?_ | refine tk5 ?_ | refine tk6 ?_ | refine tk7 ?_ | refine tk8 ?_ | refine tk9 ?_ | refine tk10 (fun _ _ => ?_) | refine tk11 (fun _ => ?_) | refine tk13 ?_ | refine tk14 ?_); (conv => whnf))
      intro w' _
      rfl
  · have he : l.take k = l.take 1000 := by rw [List.take_of_length_le (by omega), List.take_of_length_le (by omega)]
    (conv => whnf); repeat ((first | refine tk1 ?_ | refine tk2 ?_ | refine tk3 ?_ | refine tk12 (fun _ => ?_) | refine tk4 ?_ | refine tk5 ?_ | refine tk6 ?_ | refine tk7 ?_ | refine tk8 ?_ | refine tk9 ?_ | refine tk10 (fun _ _ => ?_) | refine tk11 (fun _ => ?_) | refine tk13 ?_ | refine tk14 ?_); (conv => whnf))
    refine Cmp.of (decide (3000 < gs (l.take 1000))) (by rw [he]; simp; omega) ?_
    (conv => whnf); repeat ((first | refine tk1 ?_ | refine tk2 ?_ | refine tk3 ?_ | refine tk12 (fun _ => ?_) | refine tk4 ?_ | refine tk5 ?_ | refine tk6 ?_ | refine tk7 ?_ | refine tk8 ?_ | refine tk9 ?_ | refine tk10 (fun _ _ => ?_) | refine tk11 (fun _ => ?_) | refine tk13 ?_ | refine tk14 ?_); (conv => whnf))
    intro w' _
    rfl
/-- A name's values. -/
def allOf (l : List Fld) (s : List UInt8) : List (List UInt8) := (l.filter fun p => smallOf p.1 == smallOf s).map (·.2)
theorem allOf_take (l : List Fld) (s : List UInt8) (k : Nat) (h : k < l.length) : allOf (l.take (k + 1)) s = allOf (l.take k) s ++ (if smallOf l[k].1 = smallOf s then [l[k].2] else []) := by
  unfold allOf
  rw [List.take_succ_eq_append_getElem h, List.filter_append, List.map_append]
  congr 1
  by_cases hq : smallOf l[k].1 = smallOf s <;> simp [hq]
theorem allOf_le (l : List Fld) (s : List UInt8) : (allOf l s).length ≤ l.length := by
  unfold allOf
  rw [List.length_map]
  exact List.length_filter_le _ _
end Go.Proofs.YtmdmmncoigeijaaGreatDoor.Vex
/- Texts between the places of a byte; items of a value. No program in sight. -/
namespace Go.Proofs.YtmdmmncoigeijaaGreatDoor

def splitB (c : UInt8) : List UInt8 → List (List UInt8)
  | [] => [[]]
  | x :: r => if x = c then [] :: splitB c r else (match splitB c r with | [] => [[x]] | p :: q => (x :: p) :: q)
theorem splitB_ne (c : UInt8) (l : List UInt8) : splitB c l ≠ [] := by
  cases l with
  | nil => simp [splitB]
  | cons x r =>
    unfold splitB
    split
    · simp
    · split <;> simp
theorem splitB_app (c : UInt8) : ∀ (a b : List UInt8), c ∉ a → splitB c (a ++ c :: b) = a :: splitB c b
  | [], b, _ => by simp [splitB]
  | x :: a, b, h => by
    have hx : x ≠ c := fun e => h (by simp [e])
    simp only [List.cons_append, splitB, if_neg hx, splitB_app c a b (fun e => h (List.mem_cons_of_mem _ e))]
theorem splitB_none (c : UInt8) : ∀ (l : List UInt8), c ∉ l → splitB c l = [l]
  | [], _ => rfl
  | x :: r, h => by
    have hx : x ≠ c := fun e => h (by simp [e])
    simp only [splitB, if_neg hx, splitB_none c r (fun e => h (List.mem_cons_of_mem _ e))]
theorem splitB_join (c : UInt8) : ∀ (a b : List UInt8), splitB c (a ++ c :: b) = splitB c a ++ splitB c b
  | [], b => by simp [splitB]
  | x :: a, b => by
    simp only [List.cons_append, splitB, splitB_join c a b]
    by_cases hx : x = c
    · simp [hx]
    · simp only [if_neg hx]
      cases h : splitB c a with
      | nil => exact absurd h (splitB_ne c a)
      | cons p q => rfl
theorem splitB_at (c : UInt8) (l : List UInt8) (k : Nat) (h : c ∉ l.take k) (hk : l[k]? = some c) : splitB c l = l.take k :: splitB c (l.drop (k + 1)) := by
  obtain ⟨hlt, he⟩ := List.getElem?_eq_some_iff.1 hk
  conv => lhs; rw [← List.take_append_drop k l, List.drop_eq_getElem_cons hlt, he]
  exact splitB_app c _ _ h
theorem splitB_mem (c : UInt8) : ∀ (l p : List UInt8), p ∈ splitB c l → c ∉ p ∧ p.length ≤ l.length
  | [], p, h => by simp [splitB] at h; subst h; simp
  | x :: r, p, h => by
    unfold splitB at h
    split at h
    · rcases List.mem_cons.1 h with rfl | h
      · simp
      · have := splitB_mem c r p h
        exact ⟨this.1, by simp; omega⟩
    · rename_i hx
      split at h
      · rename_i h0; exact absurd h0 (splitB_ne c r)
      · rename_i q qs hq
        rcases List.mem_cons.1 h with rfl | h
        · have := splitB_mem c r q (by rw [hq]; simp)
          refine ⟨fun hm => ?_, by simp; omega⟩
          rcases List.mem_cons.1 hm with e | e
          · exact hx e.symm
          · exact this.1 e
        · have := splitB_mem c r p (by rw [hq]; exact List.mem_cons_of_mem _ h)
          exact ⟨this.1, by simp; omega⟩
theorem splitB_length (c : UInt8) : ∀ l : List UInt8, (splitB c l).length ≤ l.length + 1
  | [] => by simp [splitB]
  | x :: r => by
    have := splitB_length c r
    unfold splitB
    split
    · simp; omega
    · split
      · simp
      · rename_i h; rw [h] at this; simp at this ⊢; omega
theorem index_one (c : UInt8) : ∀ l : List UInt8, (Lib.index l [c] = -1 ∧ c ∉ l) ∨ ∃ k : Nat, Lib.index l [c] = k ∧ k < l.length ∧ c ∉ l.take k ∧ l[k]? = some c
  | [] => .inl ⟨rfl, by simp⟩
  | x :: r => by
    unfold Lib.index
    by_cases hx : c = x
    · subst hx
      exact .inr ⟨0, by simp [List.isPrefixOf], by simp, by simp, by simp⟩
    · have h0 : ([c] : List UInt8).isPrefixOf (x :: r) = false := by simp [List.isPrefixOf, hx]
      rw [h0]
      rcases index_one c r with ⟨h1, h2⟩ | ⟨k, h1, h2, h3, h4⟩
      · exact .inl ⟨by simp [h1], by simp [hx, h2]⟩
      · refine .inr ⟨k + 1, ?_, by simp; omega, by simp [hx, h3], by simpa using h4⟩
        rw [h1]
        simp only [Bool.false_eq_true, if_false]
        rw [if_neg (by simp)]
        omega
theorem drop_drop_idem (p : UInt8 → Bool) : ∀ l : List UInt8, (l.dropWhile p).dropWhile p = l.dropWhile p
  | [] => rfl
  | x :: r => by
    by_cases h : p x
    · simp [h, drop_drop_idem p r]
    · simp [h]
theorem trimLB_idem (l : List UInt8) : trimLB (trimLB l) = trimLB l := drop_drop_idem _ l
theorem trimRB_idem (l : List UInt8) : trimRB (trimRB l) = trimRB l := by
  unfold trimRB Lib.trimRightS
  rw [List.reverse_reverse, drop_drop_idem]
theorem trimB_idem (l : List UInt8) : trimB (trimB l) = trimB l := by
  rw [trimB_eq (trimB l), trimB_eq l]
  have h : ∀ m, trimLB (trimRB m) = trimRB (trimLB m) := fun m => trim_comm [32, 9] m
  rw [h, trimLB_idem, trimRB_idem]
theorem trimB_sub (x : UInt8) (l : List UInt8) (h : x ∈ trimB l) : x ∈ l := by
  unfold trimB Lib.trimS Lib.trimLeftS Lib.trimRightS at h
  have h1 := (List.dropWhile_sublist _).subset h
  rw [List.mem_reverse] at h1
  have h2 := (List.dropWhile_sublist _).subset h1
  exact List.mem_reverse.1 h2

/-- What stands between commas, trimmed, if anything is left. -/
def itemsOf (l : List UInt8) : List (List UInt8) := ((splitB 44 l).map trimB).filter fun s => !s.isEmpty
def itemOf (p : List UInt8) : List (List UInt8) := if trimB p = [] then [] else [trimB p]
theorem items_cons (l p : List UInt8) (q : List (List UInt8)) (h : splitB 44 l = p :: q) : itemsOf l = itemOf p ++ (q.map trimB).filter fun s => !s.isEmpty := by
  unfold itemsOf itemOf
  rw [h, List.map_cons, List.filter_cons]
  by_cases h0 : trimB p = []
  · simp [h0]
  · rw [if_pos (by simpa using h0), if_neg h0]; rfl
theorem items_at (l : List UInt8) (k : Nat) (h : 44 ∉ l.take k) (hk : l[k]? = some 44) : itemsOf l = itemOf (l.take k) ++ itemsOf (l.drop (k + 1)) :=
  items_cons _ _ _ (splitB_at 44 l k h hk)
theorem items_none (l : List UInt8) (h : 44 ∉ l) : itemsOf l = itemOf l := by
  rw [items_cons _ _ _ (splitB_none 44 l h)]
  simp
theorem items_join (a b : List UInt8) : itemsOf (a ++ 44 :: b) = itemsOf a ++ itemsOf b := by
  unfold itemsOf
  rw [splitB_join, List.map_append, List.filter_append]
theorem items_mem {l s : List UInt8} (h : s ∈ itemsOf l) : s ≠ [] ∧ trimB s = s ∧ 44 ∉ s ∧ s.length ≤ l.length := by
  unfold itemsOf at h
  obtain ⟨h1, h2⟩ := List.mem_filter.1 h
  obtain ⟨p, hp, rfl⟩ := List.mem_map.1 h1
  obtain ⟨h3, h4⟩ := splitB_mem 44 l p hp
  refine ⟨by simpa using h2, trimB_idem p, fun hm => h3 (trimB_sub _ _ hm), Nat.le_trans (trimB_length p) h4⟩
theorem items_length (l : List UInt8) : (itemsOf l).length ≤ l.length + 1 := by
  unfold itemsOf
  refine Nat.le_trans (List.length_filter_le _ _) ?_
  rw [List.length_map]
  exact splitB_length 44 l
theorem itemOf_length (p : List UInt8) : (itemOf p).length ≤ 1 := by unfold itemOf; split <;> simp
end Go.Proofs.YtmdmmncoigeijaaGreatDoor
/- How much lists of texts, and of fields, hold. No program in sight. -/
namespace Go.Proofs.YtmdmmncoigeijaaGreatDoor
def lsum (l : List (List UInt8)) : Nat := (l.map fun s => s.length + 1).sum
theorem lsum_cons (x : List UInt8) (l : List (List UInt8)) : lsum (x :: l) = x.length + 1 + lsum l := rfl
theorem lsum_append : ∀ a b : List (List UInt8), lsum (a ++ b) = lsum a + lsum b
  | [], b => by simp [lsum]
  | x :: a, b => by rw [List.cons_append, lsum_cons, lsum_cons, lsum_append a b]; omega
theorem split_sum (c : UInt8) : ∀ l : List UInt8, lsum (splitB c l) = l.length + 1
  | [] => rfl
  | x :: r => by
    have ih := split_sum c r
    unfold splitB
    split
    · rw [lsum_cons, ih]; simp; omega
    · cases h : splitB c r with
      | nil => exact absurd h (splitB_ne c r)
      | cons p q => rw [h, lsum_cons] at ih; rw [lsum_cons]; simp only [List.length_cons]; omega
theorem lsum_trim : ∀ l : List (List UInt8), lsum ((l.map trimB).filter fun s => !s.isEmpty) ≤ lsum l
  | [] => Nat.le_refl _
  | x :: r => by
    have ih := lsum_trim r
    have := trimB_length x
    rw [List.map_cons, List.filter_cons, lsum_cons]
    split
    · rw [lsum_cons]; omega
    · omega
theorem items_sum (l : List UInt8) : lsum (itemsOf l) ≤ l.length + 1 := by
  unfold itemsOf
  rw [← split_sum 44 l]
  exact lsum_trim _
end Go.Proofs.YtmdmmncoigeijaaGreatDoor
namespace Go.Proofs.YtmdmmncoigeijaaGreatDoor.Vex
open Go Go.RowKit
def fsum (l : List Fld) : Nat := (l.map fun p => p.1.length + p.2.length + 3).sum
theorem fsum_cons (p : Fld) (l : List Fld) : fsum (p :: l) = p.1.length + p.2.length + 3 + fsum l := rfl
theorem fsum_append : ∀ a b : List Fld, fsum (a ++ b) = fsum a + fsum b
  | [], b => by simp [fsum]
  | x :: a, b => by rw [List.cons_append, fsum_cons, fsum_cons, fsum_append a b]; omega
theorem fsum_mem {l : List Fld} {p : Fld} (h : p ∈ l) : p.1.length + p.2.length + 3 ≤ fsum l := by
  induction l with
  | nil => cases h
  | cons y r ih =>
    rw [fsum_cons]
    rcases List.mem_cons.1 h with rfl | h
    · omega
    · have := ih h; omega
theorem fsum_length : ∀ l : List Fld, 3 * l.length ≤ fsum l
  | [] => Nat.le_refl _
  | x :: r => by have := fsum_length r; rw [fsum_cons, List.length_cons]; omega
theorem allOf_sum (s : List UInt8) : ∀ l : List Fld, lsum (allOf l s) ≤ fsum l
  | [] => Nat.le_refl _
  | x :: r => by
    have := allOf_sum s r
    unfold allOf at this ⊢
    rw [List.filter_cons, fsum_cons]
    split
    · rw [List.map_cons, lsum_cons]; omega
    · omega
theorem lsum_length (l : List (List UInt8)) : l.length ≤ lsum l := by
  induction l with
  | nil => exact Nat.le_refl _
  | cons x r ih => rw [lsum_cons, List.length_cons]; omega
end Go.Proofs.YtmdmmncoigeijaaGreatDoor.Vex
/- The kinds of data that this program's statements take: fields, requests, bytes. -/
namespace Go.Proofs.YtmdmmncoigeijaaGreatDoor.Vex
open Go Go.RowKit Go.ChangeShapes Go.WideShapes Go.Deep
set_option maxRecDepth 100000

/-- Another form of the same data. -/
theorem opens_map {P : Program} {t : TypeId} {S T : Shape} (h : Opens P t S) (g : S.α → T.α) (hn : S.n = T.n) (hf : ∀ W x, S.ok W x → S.f x = T.f (g x)) (hok : ∀ W x, S.ok W x → T.ok W (g x)) (hw : ∀ W x, S.ok W x → T.wt (g x) ≤ S.wt x) : Opens P t T := ⟨h.1.trans hn, fun hd => by
  obtain ⟨x, h1, h2, h3, h4⟩ := h.2 hd
  exact ⟨g x, h1.trans (hf _ x h2), hok _ x h2, Nat.le_trans (hw _ x h2) h3, by rw [← hf _ x h2, h4, hn]⟩⟩
abbrev byteShape : Shape := ⟨UInt8, 1, fun b => [byteV b], fun _ _ => True, fun _ => 1⟩
theorem opens_byte {P : Program} {t : TypeId} (ht : P.underlying t = some (.int .u8)) (hc : P.cellsOf t = 1) : Opens P t byteShape :=
  opens_map (opens_int ht hc) (fun (n : Int) => UInt8.ofNat n.toNat) rfl (fun W (x : Int) (h : IntKind.u8.min ≤ x ∧ x ≤ IntKind.u8.max) => by
    have h1 : (0 : Int) ≤ x := h.1
    have h2 : x ≤ 255 := h.2
    clear h
    show [Value.int .u8 x] = [byteV _]
    unfold byteV
    rw [UInt8.toNat_ofNat_of_lt' (by show x.toNat < 256; omega), Int.toNat_of_nonneg h1]) (fun _ _ _ => trivial) (fun _ _ _ => Nat.le_refl _)
abbrev u16Shape : Shape := ⟨Nat, 1, fun n => [.int .u16 (n : Nat)], fun _ n => n < 65536, fun _ => 1⟩
theorem opens_nat16 {P : Program} {t : TypeId} (ht : P.underlying t = some (.int .u16)) (hc : P.cellsOf t = 1) : Opens P t u16Shape :=
  opens_map (opens_int ht hc) (fun (n : Int) => n.toNat) rfl (fun W (x : Int) (h : IntKind.u16.min ≤ x ∧ x ≤ IntKind.u16.max) => by
    have h1 : (0 : Int) ≤ x := h.1
    show [Value.int .u16 x] = [Value.int .u16 (x.toNat : Nat)]
    rw [Int.toNat_of_nonneg h1]) (fun W (x : Int) (h : IntKind.u16.min ≤ x ∧ x ≤ IntKind.u16.max) => by
    have h1 : (0 : Int) ≤ x := h.1
    have h2 : x ≤ 65535 := h.2
    clear h
    show x.toNat < 65536
    omega) (fun _ _ _ => Nat.le_refl _)
abbrev bytesShape : Shape := sliceShape byteShape
theorem flat_bytes (l : List UInt8) : l.flatMap (fun b => [byteV b]) = l.map byteV := by
  induction l with
  | nil => rfl
  | cons a r ih => rw [List.flatMap_cons, ih]; rfl
theorem flat_strs (l : List (List UInt8)) : l.flatMap (fun b => [str b]) = l.map str := by
  induction l with
  | nil => rfl
  | cons a r ih => rw [List.flatMap_cons, ih]; rfl
theorem flat_fields (l : List Fld) : l.flatMap (fun p => [str p.1, str p.2]) = fcells l := by
  induction l with
  | nil => rfl
  | cons a r ih => rw [List.flatMap_cons, ih]; rfl
abbrev fldShape : Shape := ⟨Fld, 2, fun p => [str p.1, str p.2], fun _ p => p.1.length ≤ 9223372036854775807 ∧ p.2.length ≤ 9223372036854775807, fun p => p.1.length + p.2.length + 3⟩
theorem opens_string : Opens Tryz.prog 9 strShape := opens_str Tryz.underlying9 (by kernel_rfl)
theorem opens_i64 : Opens Tryz.prog 3 (intShape .i64) := opens_int Tryz.underlying3 (by kernel_rfl)
theorem opens_tf : Opens Tryz.prog 4 boolShape := opens_bool Tryz.underlying4 (by kernel_rfl)
theorem opens_u8 : Opens Tryz.prog 5 byteShape := opens_byte Tryz.underlying5 (by kernel_rfl)
theorem opens_bytes : Opens Tryz.prog 26 bytesShape := opens_slice Tryz.underlying26 (by kernel_rfl) opens_u8
theorem opens_strings : Opens Tryz.prog 95 (sliceShape strShape) := opens_slice Tryz.underlying95 (by kernel_rfl) opens_string
theorem opens_field : Opens Tryz.prog 47 fldShape := by
  have h := opens_struct Tryz.underlying47 (by kernel_rfl) (opensL_cons rfl opens_string (opensL_cons rfl opens_string (opensL_nil _)))
  exact opens_map h (fun x => (x.1, x.2.1)) rfl (fun _ _ _ => rfl) (fun _ _ h => ⟨h.1, h.2.1⟩) (fun _ _ _ => by dsimp only; omega)
abbrev fieldsShape : Shape := sliceShape fldShape
theorem opens_fields : Opens Tryz.prog 22 fieldsShape := opens_slice Tryz.underlying22 (by kernel_rfl) opens_field
/-- A request that came in. -/
structure Req where
  m : List UInt8
  p : List UInt8
  q : List UInt8
  v : Int
  F : Sl Fld
  B : Sl UInt8
def Req.cells (r : Req) : List Value := [str r.m, str r.p, str r.q, .int .i64 r.v, .slice r.F.A r.F.l.length r.F.cp, .slice r.B.A r.B.l.length r.B.cp]
abbrev reqShape : Shape := ⟨Req, 6, Req.cells, fun w r => (-9223372036854775808 ≤ r.v ∧ r.v ≤ 9223372036854775807) ∧ fieldsShape.ok w r.F ∧ bytesShape.ok w r.B ∧ r.m.length ≤ 9223372036854775807 ∧ r.p.length ≤ 9223372036854775807 ∧ r.q.length ≤ 9223372036854775807,
  fun r => r.m.length + r.p.length + r.q.length + fieldsShape.wt r.F + bytesShape.wt r.B⟩
theorem opens_request : Opens Tryz.prog 28 reqShape := by
  have h := opens_struct Tryz.underlying28 (by kernel_rfl) (opensL_cons rfl opens_string (opensL_cons rfl opens_string (opensL_cons rfl opens_string (opensL_cons rfl opens_i64 (opensL_cons rfl opens_fields (opensL_cons rfl opens_bytes (opensL_nil _)))))))
  exact opens_map h (fun x => Req.mk x.1 x.2.1 x.2.2.1 x.2.2.2.1 x.2.2.2.2.1 x.2.2.2.2.2.1) rfl (fun _ _ _ => rfl) (fun _ _ h => ⟨h.2.2.2.1, h.2.2.2.2.1, h.2.2.2.2.2.1, h.1, h.2.1, h.2.2.1⟩) (fun _ _ _ => by dsimp only; omega)
theorem req_fsum (x : Req) : fsum x.F.l ≤ reqShape.wt x := by
  show fsum x.F.l ≤ x.m.length + x.p.length + x.q.length + (fsum x.F.l + 1) + bytesShape.wt x.B
  omega
theorem fld_len (x : Fld) : x.1.length + x.2.length ≤ fldShape.wt x := by
  show x.1.length + x.2.length ≤ x.1.length + x.2.length + 3
  omega
theorem rd_bytes {W : World} {x : Sl UInt8} (h : bytesShape.ok W x) : Rdw W x.A (x.l.map byteV) := flat_bytes x.l ▸ h.2.1
theorem rd_fields {W : World} {x : Sl Fld} (h : fieldsShape.ok W x) : Rdw W x.A (fcells x.l) := flat_fields x.l ▸ h.2.1
end Go.Proofs.YtmdmmncoigeijaaGreatDoor.Vex
/- The cell of internal/bytealg.MaxLen holds a number, in every world of the program's shape. -/
namespace Go.Proofs.YtmdmmncoigeijaaGreatDoor

theorem maxLen_cell {w : World} (h : w.ShapedOpen Tryz.prog) : ∃ m, w.cell? ⟨0, 0, none⟩ = some (.int .i64 m) :=
  Go.Proofs.cell_of_shapedOpen_int (zero := #[.int .i64 0]) (t := 3) h (of_decide_eq_true (by kernel_rfl)) (by kernel_rfl) rfl (by kernel_rfl) (by kernel_rfl) Tryz.underlying3
end Go.Proofs.YtmdmmncoigeijaaGreatDoor
/- What a row's listed variables give the walks: the two sentinels of strconv, the table of powers, the cell of MaxLen. -/
namespace Go.Proofs.YtmdmmncoigeijaaGreatDoor.Vex
open Go Go.RowKit Go.ChangeShapes

theorem reads_of {l : List (String × DataW Unit)} {W : World} (h : laidMetH Tryz.prog l W) (hp : (l.all fun x => x.2.handleName?.isNone) = true) {n : String} {d : DataW Unit} (hm : (n, d) ∈ l) : Lib.VarReads Tryz.prog W n d := by
  rw [MakeChecks.laidMetH_plain _ _ _ hp] at h
  exact Lib.laidMet.reads h hm
theorem errCell_of {P : Program} {W : World} {n nm : String} {d : DataW Unit} {g : Nat} {ti : TypeId} {ms : Array (String × TypeId)} (h : Lib.VarReads P W n (.iface nm d)) (hg : P.globalNamed n = some g) (ht : (P.globals[g]?).map (·.type) = some ti) (hi : P.underlying ti = some (.interface ms)) : ErrCell g W := by
  obtain ⟨g', t', cs, fuel, p, hg', ht', hv, hd⟩ := h
  obtain rfl := Option.some.inj (hg.symm.trans hg')
  obtain rfl := Option.some.inj (ht.symm.trans ht')
  obtain ⟨f1, u, v, hcs, hn, h1⟩ := iface_of_trod hi hd
  have h2 := World.var?_cell hg hv 0
  rw [show cs = #[.iface u v] by rw [← Array.toList_inj, hcs]] at h2
  exact ⟨.iface u v, by simpa using h2, .inr ⟨u, v, rfl⟩⟩
theorem tab_of {P : Program} {W : World} {n : String} {k : IntKind} {zs : List Int} {g : Nat} {t e : TypeId} {m : Nat} (h : Lib.VarReads P W n (Lib.tabData k zs)) (hg : P.globalNamed n = some g) (ht : (P.globals[g]?).map (·.type) = some t) (hu : P.underlying t = some (.array m e)) (he : P.underlying e = some (.int k)) (hce : P.cellsOf e = 1) (hct : P.cellsOf t = m) : Lib.TabIs P W n k zs := by
  obtain ⟨g', t', cs, fuel, p, hg', ht', hv, hd⟩ := h
  obtain rfl := Option.some.inj (hg.symm.trans hg')
  obtain rfl := Option.some.inj (ht.symm.trans ht')
  unfold Lib.TabIs
  rw [hv, ← Lib.cells_of_tab hu he hce hct hd]
theorem gB_of {W : World} (hS : W.ShapedOpen Tryz.prog) : gB.G W := maxLen_cell hS
theorem gE_of {l : List (String × DataW Unit)} {W : World} (hL : laidMetH Tryz.prog l W) (hS : W.ShapedOpen Tryz.prog) (hp : (l.all fun x => x.2.handleName?.isNone) = true)
    (h1 : ("strconv.ErrSyntax", Rows.laid_strconv_ErrSyntax) ∈ l) (h2 : ("strconv.ErrRange", Rows.laid_strconv_ErrRange) ∈ l) : gE.G W :=
  ⟨gB_of hS, errCell_of (ti := 135) (reads_of hL hp h1) (g := 6) (by kernel_rfl) (by kernel_rfl) Tryz.underlying135, errCell_of (ti := 135) (reads_of hL hp h2) (g := 7) (by kernel_rfl) (by kernel_rfl) Tryz.underlying135⟩
theorem gP_of {l : List (String × DataW Unit)} {W : World} (hL : laidMetH Tryz.prog l W) (hS : W.ShapedOpen Tryz.prog) (hp : (l.all fun x => x.2.handleName?.isNone) = true)
    (h1 : ("strconv.ErrSyntax", Rows.laid_strconv_ErrSyntax) ∈ l) (h2 : ("strconv.ErrRange", Rows.laid_strconv_ErrRange) ∈ l) (h3 : ("internal/strconv.uint64pow10", Rows.laid_internal_strconv_uint64pow10) ∈ l) : gP.G W :=
  ⟨gE_of hL hS hp h1 h2, tab_of (t := 209) (e := 171) (m := 20) (reads_of hL hp h3) pow_name (by kernel_rfl) Tryz.underlying209 Tryz.underlying171 (by kernel_rfl) (by kernel_rfl)⟩
end Go.Proofs.YtmdmmncoigeijaaGreatDoor.Vex
/- Pages and what they answer, as plain functions. No program in sight. -/
namespace Go.Proofs.YtmdmmncoigeijaaGreatDoor.Vex

/-- A piece: its kind, its text, how many times, and whether it has a flush. -/
structure Pce where
  k : UInt8
  t : List UInt8
  m : Int
  f : Bool
def clN : List UInt8 := [99, 111, 110, 116, 101, 110, 116, 45, 108, 101, 110, 103, 116, 104]
def teN : List UInt8 := [116, 114, 97, 110, 115, 102, 101, 114, 45, 101, 110, 99, 111, 100, 105, 110, 103]
def coN : List UInt8 := [99, 111, 110, 110, 101, 99, 116, 105, 111, 110]
def ceN : List UInt8 := [99, 111, 110, 116, 101, 110, 116, 45, 101, 110, 99, 111, 100, 105, 110, 103]
def etN : List UInt8 := [101, 116, 97, 103]
def ownL : List (List UInt8) := [clN, teN, coN, ceN, etN]
def pieceOK (x : Pce) : Bool :=
  if x.k.toNat = 1 then decide (x.t.length ≤ 1000) && (decide (0 ≤ x.m) && decide (x.m ≤ 100))
  else if x.k.toNat = 2 then decide (x.t.length ≤ 1000) && decide (x.m = 0)
  else (decide (x.k.toNat = 3) || decide (x.k.toNat = 4)) && (decide (x.t = []) && decide (x.m = 0))
def fldOK (f : Fld) : Bool := fieldOK f.1 f.2 && !ownL.contains f.1
/-- The status, the number of pieces, the tag. -/
def statOK (st : Int) (n : Nat) : Bool := decide (200 ≤ st) && (decide (st ≤ 599) && (!decide (st = 304) && (decide (n ≤ 16) && (!decide (st = 204) || decide (n = 0)))))
def tagOK (tag : List UInt8) : Bool := decide (tag = []) || mayB tag
def pageOK (st : Int) (tag : List UInt8) (fs : List Fld) (ps : List Pce) : Bool := statOK st ps.length && (fs.all fldOK && (tagOK tag && ps.all pieceOK))
def pageE (st : Int) (tag : List UInt8) (fs : List Fld) (ps : List Pce) : Int := if pageOK st tag fs ps then 0 else 8
/-- n times a text. -/
def times : Nat → List UInt8 → List UInt8
  | 0, _ => []
  | n + 1, s => times n s ++ s
theorem times_length (s : List UInt8) : ∀ n, (times n s).length = n * s.length
  | 0 => by simp [times]
  | n + 1 => by rw [times, List.length_append, times_length s n, Nat.succ_mul]
def valueAt (s : List UInt8) : List Fld → List UInt8
  | [] => []
  | p :: r => if p.1 = s then p.2 else valueAt s r
/-- What a piece tells. -/
def tells (x : Pce) (body query : List UInt8) (pm : List Fld) : List UInt8 :=
  if x.k.toNat = 1 then times x.m.toNat x.t else if x.k.toNat = 2 then valueAt x.t pm else if x.k.toNat = 3 then body else query
abbrev Prs := List (List UInt8 × Bool)
/-- A part behind the others, if it has bytes. -/
def close1 (o : List UInt8) (f : Bool) (d : Prs) : Prs := if o = [] then d else d ++ [(o, f)]
/-- A piece more: the open part, and those ahead of it. -/
def stepG (q : List UInt8 × Prs) (x : List UInt8 × Bool) : List UInt8 × Prs := if x.2 then ([], close1 (q.1 ++ x.1) true q.2) else (q.1 ++ x.1, q.2)
def stG (l : Prs) : List UInt8 × Prs := l.foldl stepG ([], [])
def partsG (l : Prs) : Prs := close1 (stG l).1 false (stG l).2
def total : Prs → Nat
  | [] => 0
  | p :: r => p.1.length + total r
def bodyOf (l : Prs) : List UInt8 := l.flatMap (·.1)
theorem stG_snoc (l : Prs) (x : List UInt8 × Bool) : stG (l ++ [x]) = stepG (stG l) x := by unfold stG; rw [List.foldl_append]; rfl
theorem total_append : ∀ a b : Prs, total (a ++ b) = total a + total b
  | [], b => by simp [total]
  | p :: a, b => by rw [List.cons_append, total, total, total_append a b, Nat.add_assoc]
theorem total_snoc (a : Prs) (x : List UInt8 × Bool) : total (a ++ [x]) = total a + x.1.length := by rw [total_append]; simp [total]
theorem total_take (l : Prs) (k : Nat) : total (l.take k) ≤ total l := by
  have h := total_append (l.take k) (l.drop k)
  rw [List.take_append_drop] at h
  omega
theorem total_bodyOf : ∀ l : Prs, (bodyOf l).length = total l
  | [] => rfl
  | p :: r => by unfold bodyOf; rw [List.flatMap_cons, List.length_append, total]; exact congrArg _ (total_bodyOf r)
theorem bodyOf_snoc (l : Prs) (x : List UInt8 × Bool) : bodyOf (l ++ [x]) = bodyOf l ++ x.1 := by unfold bodyOf; rw [List.flatMap_append]; simp
theorem bodyOf_close (o : List UInt8) (f : Bool) (d : Prs) : bodyOf (close1 o f d) = bodyOf d ++ o := by
  unfold close1
  by_cases h : o = []
  · rw [if_pos h, h, List.append_nil]
  · rw [if_neg h, bodyOf_snoc]
theorem snoc_ind {α : Type} {p : List α → Prop} (h0 : p []) (h1 : ∀ l x, p l → p (l ++ [x])) (l : List α) : p l := by
  have key : ∀ r : List α, p r.reverse := fun r => by
    induction r with
    | nil => exact h0
    | cons x r ih => rw [List.reverse_cons]; exact h1 _ _ ih
  have := key l.reverse
  rwa [List.reverse_reverse] at this
theorem bodyOf_stG (l : Prs) : bodyOf (stG l).2 ++ (stG l).1 = bodyOf l := by
  refine snoc_ind (p := fun l => bodyOf (stG l).2 ++ (stG l).1 = bodyOf l) rfl (fun l x ih => ?_) l
  rw [stG_snoc, bodyOf_snoc, ← ih]
  unfold stepG
  split
  · rw [bodyOf_close, List.append_nil, List.append_assoc]
  · rw [List.append_assoc]
/-- The body is what all pieces tell. -/
theorem bodyOf_parts (l : Prs) : bodyOf (partsG l) = bodyOf l := by
  unfold partsG
  rw [bodyOf_close]
  exact bodyOf_stG l
theorem total_stG (l : Prs) : total (stG l).2 + (stG l).1.length = total l := by
  rw [← total_bodyOf, ← total_bodyOf, ← bodyOf_stG l, List.length_append]
/-- Parts that are closed have a flush, and bytes. -/
theorem whole_stG (l : Prs) : ∀ p ∈ (stG l).2, p.1 ≠ [] ∧ p.2 = true := by
  refine snoc_ind (p := fun l => ∀ p ∈ (stG l).2, p.1 ≠ [] ∧ p.2 = true) (fun p h => by cases h) (fun l x ih => ?_) l
  rw [stG_snoc]
  unfold stepG close1
  split
  · dsimp only
    split
    · exact ih
    · rename_i h
      intro p hp
      rcases List.mem_append.1 hp with hp | hp
      · exact ih p hp
      · rw [List.mem_singleton.1 hp]; exact ⟨h, rfl⟩
  · exact ih
theorem length_le_total : ∀ (d : Prs), (∀ p ∈ d, p.1 ≠ []) → d.length ≤ total d
  | [], _ => Nat.le_refl _
  | p :: r, h => by
    have h1 := List.length_pos_iff.2 (h p (by simp))
    have ih := length_le_total r fun q hq => h q (by simp [hq])
    rw [total, List.length_cons]
    omega
theorem stG_length (l : Prs) : (stG l).2.length ≤ l.length := by
  refine snoc_ind (p := fun l => (stG l).2.length ≤ l.length) (Nat.le_refl _) (fun l x ih => ?_) l
  rw [stG_snoc, List.length_append]
  unfold stepG close1
  split
  · dsimp only
    split
    · exact Nat.le_trans ih (by simp)
    · simp; exact ih
  · exact Nat.le_trans ih (by simp)
/-- The most that pieces tell. -/
theorem tells_le (x : Pce) (body query : List UInt8) (pm : List Fld) (h : pieceOK x = true) (n : Nat) (hb : body.length ≤ n) (hq : query.length ≤ n) (hp : ∀ p ∈ pm, p.2.length ≤ n) (hn : 100000 ≤ n) : (tells x body query pm).length ≤ n := by
  unfold tells
  unfold pieceOK at h
  split
  · rename_i h1
    rw [if_pos h1] at h
    simp only [Bool.and_eq_true, decide_eq_true_eq] at h
    rw [times_length]
    have h2 : x.m.toNat ≤ 100 := by omega
    exact Nat.le_trans (Nat.mul_le_mul h2 h.1) hn
  · split
    · have key : ∀ l : List Fld, (∀ p ∈ l, p.2.length ≤ n) → (valueAt x.t l).length ≤ n := fun l => by
        induction l with
        | nil => intro _; simp [valueAt]
        | cons p r ih =>
          intro hl
          unfold valueAt
          split
          · exact hl p (by simp)
          · exact ih fun q hq => hl q (by simp [hq])
      exact key pm hp
    · split
      · exact hb
      · exact hq
/-- What pieces tell, each with its flush. -/
def told (body query : List UInt8) (pm : List Fld) (ps : List Pce) : Prs := ps.map fun x => (tells x body query pm, x.f)
/-- An answer. -/
structure Ans where
  st : Int
  fs : List Fld
  ps : Prs
  tag : List UInt8
  press : Bool
def ans0 : Ans := ⟨0, [], [], [], false⟩
def ansF (tag : List UInt8) (fs : List Fld) : List Fld := if tag = [] then fs else fs ++ [(etN, [34] ++ tag ++ [34])]
/-- What a page answers that may be, and is not too long. -/
def ansOf (st : Int) (fs : List Fld) (tag : List UInt8) (press : Bool) (tl : Prs) : Ans := ⟨st, ansF tag fs, partsG tl, tag, press && !decide (st = 204)⟩
def answerOf (st : Int) (fs : List Fld) (tag : List UInt8) (press : Bool) (ps : List Pce) (body query : List UInt8) (pm : List Fld) : Ans × Int :=
  if pageOK st tag fs ps then
    if total (told body query pm ps) ≤ 131072 then (ansOf st fs tag press (told body query pm ps), 0) else (ans0, 9)
  else (ans0, 8)
end Go.Proofs.YtmdmmncoigeijaaGreatDoor.Vex
/- Arguments that are pages. -/
namespace Go.Proofs.YtmdmmncoigeijaaGreatDoor.Vex
open Go Go.RowKit Go.ChangeShapes Go.WideShapes Go.Deep
set_option maxRecDepth 100000

/-- The cells of a list of pieces. -/
def pccells : List Pce → List Value
  | [] => []
  | p :: r => .int .u8 p.k.toNat :: str p.t :: .int .i64 p.m :: .bool p.f :: pccells r
theorem pccells_length : ∀ l : List Pce, (pccells l).length = l.length * 4
  | [] => rfl
  | _ :: r => by simp only [pccells, List.length_cons, pccells_length r]; omega
theorem pccells_at : ∀ (l : List Pce) (k : Nat) (h : k < l.length), ((pccells l).drop (k * 4)).take 4 = [.int .u8 l[k].k.toNat, str l[k].t, .int .i64 l[k].m, .bool l[k].f] ∧
    (pccells l)[k * 4 + 0]? = some (.int .u8 l[k].k.toNat) ∧ (pccells l)[k * 4 + 1]? = some (str l[k].t) ∧ (pccells l)[k * 4 + 2]? = some (.int .i64 l[k].m) ∧ (pccells l)[k * 4 + 3]? = some (.bool l[k].f)
  | p :: r, 0, _ => ⟨rfl, rfl, rfl, rfl, rfl⟩
  | p :: r, k + 1, h => by
    have ih := pccells_at r k (by simpa using h)
    rw [show (k + 1) * 4 = k * 4 + 1 + 1 + 1 + 1 by omega]
    simp only [pccells, List.drop_succ_cons, List.getElem_cons_succ]
    refine ⟨ih.1, ?_, ?_, ?_, ?_⟩
    · exact ih.2.1
    · exact ih.2.2.1
    · exact ih.2.2.2.1
    · exact ih.2.2.2.2
theorem flat_pieces (l : List Pce) : l.flatMap (fun p => [byteV p.k, str p.t, .int .i64 p.m, .bool p.f]) = pccells l := by
  induction l with
  | nil => rfl
  | cons a r ih => rw [List.flatMap_cons, ih]; rfl
abbrev pceShape : Shape := ⟨Pce, 4, fun p => [byteV p.k, str p.t, .int .i64 p.m, .bool p.f], fun _ p => p.t.length ≤ 9223372036854775807 ∧ -9223372036854775808 ≤ p.m ∧ p.m ≤ 9223372036854775807, fun p => p.t.length + 4⟩
theorem opens_piece : Opens Tryz.prog 73 pceShape := by
  have h := opens_struct Tryz.underlying73 (by kernel_rfl) (opensL_cons rfl opens_u8 (opensL_cons rfl opens_string (opensL_cons rfl opens_i64 (opensL_cons rfl opens_tf (opensL_nil _)))))
  exact opens_map h (fun x => Pce.mk x.1 x.2.1 x.2.2.1 x.2.2.2.1) rfl (fun _ _ _ => rfl) (fun _ _ h => ⟨h.2.1, h.2.2.1⟩) (fun _ _ _ => by dsimp only; omega)
abbrev piecesShape : Shape := sliceShape pceShape
theorem opens_pieces : Opens Tryz.prog 23 piecesShape := opens_slice Tryz.underlying23 (by kernel_rfl) opens_piece
/-- A page that came in. -/
structure Pg where
  m : List UInt8
  p : List UInt8
  st : Int
  F : Sl Fld
  tag : List UInt8
  press : Bool
  Ps : Sl Pce
def Pg.cells (x : Pg) : List Value := [str x.m, str x.p, .int .i64 x.st, .slice x.F.A x.F.l.length x.F.cp, str x.tag, .bool x.press, .slice x.Ps.A x.Ps.l.length x.Ps.cp]
abbrev pageShape : Shape := ⟨Pg, 7, Pg.cells, fun w x => (-9223372036854775808 ≤ x.st ∧ x.st ≤ 9223372036854775807) ∧ fieldsShape.ok w x.F ∧ piecesShape.ok w x.Ps ∧ x.m.length ≤ 9223372036854775807 ∧ x.p.length ≤ 9223372036854775807 ∧ x.tag.length ≤ 9223372036854775807,
  fun x => x.m.length + x.p.length + x.tag.length + fieldsShape.wt x.F + piecesShape.wt x.Ps⟩
theorem opens_page : Opens Tryz.prog 25 pageShape := by
  have h := opens_struct Tryz.underlying25 (by kernel_rfl) (opensL_cons rfl opens_string (opensL_cons rfl opens_string (opensL_cons rfl opens_i64 (opensL_cons rfl opens_fields (opensL_cons rfl opens_string (opensL_cons rfl opens_tf (opensL_cons rfl opens_pieces (opensL_nil _))))))))
  exact opens_map h (fun x => Pg.mk x.1 x.2.1 x.2.2.1 x.2.2.2.1 x.2.2.2.2.1 x.2.2.2.2.2.1 x.2.2.2.2.2.2.1) rfl (fun _ _ _ => rfl) (fun _ _ h => ⟨h.2.2.1, h.2.2.2.1, h.2.2.2.2.2.2.1, h.1, h.2.1, h.2.2.2.2.1⟩) (fun _ _ _ => by dsimp only; omega)
theorem rd_pieces {W : World} {x : Sl Pce} (h : piecesShape.ok W x) : Rdw W x.A (pccells x.l) := flat_pieces x.l ▸ h.2.1
/-- What a bound on the whole gives. -/
theorem sum_mem {α : Type} (f : α → Nat) : ∀ (l : List α) (x : α), x ∈ l → f x ≤ (l.map f).sum
  | y :: r, x, h => by
    simp only [List.map_cons, List.sum_cons]
    rcases List.mem_cons.1 h with rfl | h
    · omega
    · have := sum_mem f r x h; omega
theorem sum_len {α : Type} (f : α → Nat) (h1 : ∀ x, 1 ≤ f x) : ∀ (l : List α), l.length ≤ (l.map f).sum
  | [] => Nat.le_refl _
  | y :: r => by
    simp only [List.map_cons, List.sum_cons, List.length_cons]
    have := sum_len f h1 r
    have := h1 y
    omega
/-- A page, a request and parameters that are not beyond every machine. -/
structure Fit (x : Pg) (r : Req) (pm : Sl Fld) : Prop where
  st : -9223372036854775808 ≤ x.st ∧ x.st ≤ 9223372036854775807
  tag : x.tag.length ≤ 1048576
  fs : fsum x.F.l ≤ 1048576
  np : x.Ps.l.length ≤ 1048576
  pt : ∀ p ∈ x.Ps.l, p.t.length ≤ 1048576 ∧ -9223372036854775808 ≤ p.m ∧ p.m ≤ 9223372036854775807
  body : r.B.l.length ≤ 1048576
  query : r.q.length ≤ 1048576
  pm : fsum pm.l ≤ 1048576
theorem fit_of {W : World} {x : Pg} {r : Req} {pm : Sl Fld} {n : Nat} (hx : pageShape.ok W x) (hr : reqShape.ok W r) (hp : fieldsShape.ok W pm) (hn : pageShape.wt x + (reqShape.wt r + (fieldsShape.wt pm + n)) ≤ 1048576) : Fit x r pm := by
  have h1 : fsum x.F.l ≤ fieldsShape.wt x.F := Nat.le_succ _
  have h2 : fsum pm.l ≤ fieldsShape.wt pm := Nat.le_succ _
  have h3 : pageShape.wt x = x.m.length + x.p.length + x.tag.length + fieldsShape.wt x.F + piecesShape.wt x.Ps := rfl
  have h4 : reqShape.wt r = r.m.length + r.p.length + r.q.length + fieldsShape.wt r.F + bytesShape.wt r.B := rfl
  have h5 : bytesShape.wt r.B = (r.B.l.map fun _ => 1).sum + 1 := rfl
  have h6 : piecesShape.wt x.Ps = (x.Ps.l.map fun p => p.t.length + 4).sum + 1 := rfl
  have h7 := sum_len (fun _ : UInt8 => 1) (fun _ => Nat.le_refl _) r.B.l
  have h8 := sum_len (fun p : Pce => p.t.length + 4) (fun _ => by omega) x.Ps.l
  refine ⟨hx.1, by omega, by omega, by omega, fun p hp => ?_, by omega, by omega, by omega⟩
  have h9 := sum_mem (fun p : Pce => p.t.length + 4) x.Ps.l p hp
  exact ⟨by omega, (hx.2.2.1.2.2 p hp).2⟩
end Go.Proofs.YtmdmmncoigeijaaGreatDoor.Vex
/- The walk's variables where numbers are written, but none is read. -/
namespace Go.Proofs.YtmdmmncoigeijaaGreatDoor.Vex
open Go Go.RowKit Go.ChangeShapes

theorem pow_name2 : Tryz.prog.globalNamed "internal/strconv.uint64pow10" = some 1 := by kernel_rfl
def gQ : GI where
  n := max gB.n (1 + 1)
  G w := gB.G w ∧ Lib.TabIs Tryz.prog w "internal/strconv.uint64pow10" .u64 Lib.pow10Tab
  keep w w' h := fun ⟨h1, h2⟩ => ⟨gB.keep w w' (fun k hk => h k (Nat.lt_of_lt_of_le hk (Nat.le_max_left _ _))) h1, by
    unfold Lib.TabIs World.var? at *
    rw [pow_name2] at *
    simp only [Option.bind_some] at *
    rw [h 1 (by omega)]
    exact h2⟩
  size w := fun ⟨h1, h2⟩ => Nat.max_le.2 ⟨gB.size w h1, by
    have := h2.cell pow_name2 0 (by decide)
    exact World.block_lt_of_cell? _ _ this⟩
instance : HasMax gQ := ⟨fun _ h => h.1⟩
instance : HasPow gQ := ⟨fun _ h => h.2⟩
theorem gQ_of {l : List (String × DataW Unit)} {W : World} (hL : laidMetH Tryz.prog l W) (hS : W.ShapedOpen Tryz.prog) (hp : (l.all fun x => x.2.handleName?.isNone) = true)
    (h3 : ("internal/strconv.uint64pow10", Rows.laid_internal_strconv_uint64pow10) ∈ l) : gQ.G W :=
  ⟨gB_of hS, tab_of (t := 209) (e := 171) (m := 20) (reads_of hL hp h3) pow_name2 (by kernel_rfl) Tryz.underlying209 Tryz.underlying171 (by kernel_rfl) (by kernel_rfl)⟩
end Go.Proofs.YtmdmmncoigeijaaGreatDoor.Vex
/- Two fields, compared. -/
namespace Go.Proofs.YtmdmmncoigeijaaGreatDoor.Vex
open Go Go.RowKit
set_option maxRecDepth 100000
set_option linter.unusedSectionVars false
variable {gI : GI} [HasMax gI]

theorem toList_str (a b : List UInt8) : ((⟨⟨a⟩⟩ : ByteArray).toList == (⟨⟨b⟩⟩ : ByteArray).toList) = (a == b) := by
  rw [ByteArray.toList_eq, ByteArray.toList_eq]
theorem eqF_run (a b a' b' : List UInt8) (w : World) : (Op.equalIn 10000 47 (.agg ⟨[str a, str b]⟩) (.agg ⟨[str a', str b']⟩)).run Tryz.prog w = .ok (a == a' && b == b') w := by
  rw [show (10000 : Nat) = 9999 + 1 from rfl, run_equalIn_struct w 9999 _ _ _ (by kernel_rfl) (by kernel_rfl)]
  rw [show (Tryz.prog.fieldsOf 47).toList = [{ name := "Name", type := 9, offset := 0, embedded := false, tag := "", pkgPath := "", byteOffset := 0 }, { name := "Value", type := 9, offset := 1, embedded := false, tag := "", pkgPath := "", byteOffset := 16 }] from by kernel_rfl]
  have p0 : ∀ (u v : Value) w, (part 9 #[u, v] 0).run Tryz.prog w = .ok u w := fun u v w => by simp [go_sem]
  have p1 : ∀ (u v : Value) w, (part 9 #[u, v] 1).run Tryz.prog w = .ok v w := fun u v w => by simp [go_sem]
  have e0 : ∀ (x y : List UInt8) w, (Op.equalIn 9999 9 (str x) (str y)).run Tryz.prog w = .ok (x == y) w := fun x y w => by
    rw [show (9999 : Nat) = 9998 + 1 from rfl, run_equalIn_string w 9998 _ _ _ Tryz.underlying9, toList_str]
  simp only [Op.eqFields]
  cases h : a == a'
  · simp [go_sem, h, e0]
  · simp [go_sem, h, e0]
    split <;> simp_all
theorem OthP.eqF {c : Ctx} {H : Hp} {d : Option Nat} {x y : Operand} {yt ty : TypeId} {pos : String} {after : Array Edge} {gd : Option (Nat × Bool)} {fr : Fr} {a b a' b' : List UInt8} {K : Value → Prop} (hP : c.P = Tryz.prog)
    (hx : evK fr x fun v => v = .agg ⟨[str a, str b]⟩) (hy : evK fr y fun v => v = .agg ⟨[str a', str b']⟩) (k : K (.bool (a == a' && b == b'))) : OthP c ⟨d, .binOp .eql 47 x y yt, ty, pos, after, gd⟩ fr H K := ⟨⟨_, k, fun w _ => by
  rw [evK_eq] at hx hy
  rw [hP]
  have hg := run_eqGuard_agg (P := Tryz.prog) w .eql 47 x y ⟨[str a, str b]⟩ ⟨[str a', str b']⟩ (by kernel_rfl)
  have hb := run_eql_struct (P := Tryz.prog) w 47 ⟨[str a, str b]⟩ ⟨[str a', str b']⟩
  rw [eqF_run] at hb
  simp only [execOp, hx, hy, Sem.run_bind, hg, Result.andThen_ok, hb]
  rfl⟩⟩
theorem OthP.neF {c : Ctx} {H : Hp} {d : Option Nat} {x y : Operand} {yt ty : TypeId} {pos : String} {after : Array Edge} {gd : Option (Nat × Bool)} {fr : Fr} {a b a' b' : List UInt8} {K : Value → Prop} (hP : c.P = Tryz.prog)
    (hx : evK fr x fun v => v = .agg ⟨[str a, str b]⟩) (hy : evK fr y fun v => v = .agg ⟨[str a', str b']⟩) (k : K (.bool (!(a == a' && b == b')))) : OthP c ⟨d, .binOp .neq 47 x y yt, ty, pos, after, gd⟩ fr H K := ⟨⟨_, k, fun w _ => by
  rw [evK_eq] at hx hy
  rw [hP]
  have hg : (eqGuard .neq 47 x y (.agg ⟨[str a, str b]⟩) (.agg ⟨[str a', str b']⟩)).run Tryz.prog w = .ok () w := run_eqGuard_agg (P := Tryz.prog) w .neq 47 x y ⟨[str a, str b]⟩ ⟨[str a', str b']⟩ (by kernel_rfl)
  have hb : (binOp .neq 47 (.agg ⟨[str a, str b]⟩) (.agg ⟨[str a', str b']⟩)).run Tryz.prog w = .ok (.bool (!(a == a' && b == b'))) w := by
    show (do pure (.bool (!(← Op.equal 47 (.agg ⟨[str a, str b]⟩) (.agg ⟨[str a', str b']⟩)))) : Sem Value).run Tryz.prog w = _
    have e : Op.equal 47 (.agg ⟨[str a, str b]⟩) (.agg ⟨[str a', str b']⟩) = Op.equalIn 10000 47 (.agg ⟨[str a, str b]⟩) (.agg ⟨[str a', str b']⟩) := rfl
    rw [e, Sem.run_bind, eqF_run]
    rfl
  simp only [execOp, hx, hy, Sem.run_bind, hg, Result.andThen_ok, hb]
  rfl⟩⟩
end Go.Proofs.YtmdmmncoigeijaaGreatDoor.Vex
/- field.Items, reckoned: a range over strings.SplitSeq. -/
namespace Go.Proofs.YtmdmmncoigeijaaGreatDoor.Vex
open Go Go.RowKit
set_option maxRecDepth 100000
set_option linter.unusedSectionVars false
variable {gI : GI} [HasMax gI]

theorem itemsLeft {l r : List UInt8} {out : List (List UInt8)} (h : out ++ itemsOf r = itemsOf l) : out.length ≤ l.length + 1 := by
  have := items_length l
  rw [← h, List.length_append] at this
  omega
end Go.Proofs.YtmdmmncoigeijaaGreatDoor.Vex
/- A walk by reckoning, part sixteen: regions in which two acts may come up together: both orders are gone. No program in sight. -/
namespace Go.Proofs.YtmdmmncoigeijaaGreatDoor.Vex
open Go Go.RowKit

/-- The orders that may come: q: an operation that is quiet; a: an act that comes up alone; ch: one of several that come up (stop ends their row). -/
inductive DT where
  | nil
  | q (i : Nat) (t : DT)
  | a (i : Nat) (t : DT)
  | ch (i : Nat) (t : DT) (r : DT)
  | stop
noncomputable def wtree (c : Ctx) (T : Ty) (ws : List Nat) (ops : List Oper) (t : DT) : (Fr → Hp → Prop) → Fr → Hp → Prop :=
  DT.rec (motive := fun _ => (Fr → Hp → Prop) → Fr → Hp → Prop) (fun K fr H => K fr H)
    (fun i _ ih K fr H => nthK ops i fun o => strOk T fr o.guard o.op (wstep c T .quiet ops o fr H (ih K)))
    (fun i _ ih K fr H => nthK ops i fun o => strOk T fr o.guard o.op (wstep c T (match ws.contains i with | true => .wact | false => .act) ops o fr H (ih K)))
    (fun i _ _ ih rh K fr H => (nthK ops i fun o => strOk T fr o.guard o.op (wstep c T (match ws.contains i with | true => .wact | false => .act) ops o fr H (ih K))) ∧ rh K fr H)
    (fun _ _ _ => True) t
def DT.heads : DT → List Nat
  | .ch i _ r => i :: r.heads
  | _ => []
noncomputable def treeB (T : Ty) (ws : List Nat) (ops : Array Oper) : DT → Bool → Array Bool → Bool
  | .nil, b, l => !b && (Region.ready .any ops l).isEmpty
  | .q i t, b, l => !b && (Region.ready .any ops l).contains i && Region.free .any ops l i && !isWr ws ops i && (((List.range ops.size).all fun j => !isWr ws ops j || l.getD j true || anc .any ops ops.size j i) || (match ops[i]? with | some o => blindOp T o.guard o.op | none => false)) && treeB T ws ops t false (l.setIfInBounds i true)
  | .a i t, b, l => !b && (Region.ready .any ops l == [i]) && treeB T ws ops t false (l.setIfInBounds i true)
  | .ch i t r, b, l => (b || ((Region.ready .any ops l).all fun k => k == i || r.heads.contains k)) && (Region.ready .any ops l).contains i && treeB T ws ops t false (l.setIfInBounds i true) && treeB T ws ops r true l
  | .stop, b, _ => b
def DT.len : DT → Nat
  | .nil => 0
  | .q _ t => t.len + 1
  | .a _ t => t.len + 1
  | .ch _ t r => max (t.len + 1) r.len
  | .stop => 0
section
variable {c : Ctx} {T : Ty}
theorem wact_ok (hT : TOk c.P T) (ws : List Nat) (ds : List Deferred) (ops : List Oper) (K : Fr → Hp → Prop) {ih : Fr → Hp → Prop} {i n : Nat} {l : Array Bool} {fr : Fr} {H : Hp} {w' : World}
    (h : nthK ops i fun o => strOk T fr o.guard o.op (wstep c T (match ws.contains i with | true => .wact | false => .act) ops o fr H ih)) (hw' : St c H w')
    (next : ∀ fr' H' w2, ih fr' H' → St c H' w2 → wpAnyR c.P .any ⟨ops⟩ (isWr ws ⟨ops⟩) (DrawQ c ds K) n (l.setIfInBounds i true) (actD ds fr') w2) :
    wpOp c.P ⟨ops⟩ (DrawQ c ds K) i (fun a2 w2 => (isWr ws ⟨ops⟩ i = false → R w' w2) ∧ wpAnyR c.P .any ⟨ops⟩ (isWr ws ⟨ops⟩) (DrawQ c ds K) n (l.setIfInBounds i true) a2 w2) (actD ds fr) w' := by
  obtain ⟨o, hoi, h⟩ := nthK_some h
  obtain ⟨h, hst⟩ := strOk_out h
  have hmd : ∃ m : Md, wstep c T m ops o fr H ih ∧ m ≠ .plain ∧ (ws.contains i = false → m = .act) ∧ (m = .act ∨ m = .wact) := by
    cases hw9 : ws.contains i
    · rw [hw9] at h
      exact ⟨Md.act, h, (fun h => by cases h), (fun _ => rfl), .inl rfl⟩
    · rw [hw9] at h
      exact ⟨Md.wact, h, (fun h => by cases h), (fun h => by cases h), .inr rfl⟩
  clear h
  obtain ⟨m, h, hm2, hm3, hm4⟩ := hmd
  have hoi' : (⟨ops⟩ : Array Oper)[i]? = some o := by simpa using hoi
  unfold wpOp
  simp only [hoi']
  rw [show (actD ds fr).tmps = (act fr).tmps from rfl]
  rcases wstep_cases hT h with ⟨hwd, hd | ⟨he, _⟩, _⟩ | ⟨hwd, hk⟩
  · rw [if_pos hwd]
    have hd : GoodD c m o fr H fun v H' => setO fr o.dst v fun fr' => ih fr' H' := by
      rcases hm4 with rfl | rfl
      · exact hd
      · exact hd
    refine .inl (Good.wp (hd w' hw') fun v H' w2 hs2 hk hrr => ?_)
    obtain ⟨fr', e, hk⟩ := setO_act (ds := ds) hk
    rw [e]
    refine ⟨fun hi => hrr ?_, next fr' H' w2 hk hs2⟩
    have h2 : isWr ws ⟨ops⟩ i = (wr o.op || ws.contains i) := by unfold isWr; rw [hoi']
    rw [h2, Bool.or_eq_false_iff] at hi
    rw [hm3 hi.2]
    simp [rOf, hi.1]
  · exact absurd he hm2
  · rw [if_neg (by rw [hwd]; exact Bool.false_ne_true)]
    obtain ⟨fr', e, hk⟩ := setO_act (ds := ds) hk
    rw [e]
    exact ⟨fun _ => R.refl _, next fr' H w' hk hw'⟩
abbrev TreeA (c : Ctx) (T : Ty) (ws : List Nat) (ds : List Deferred) (ops : List Oper) (K' K : Fr → Hp → Prop) (t : DT) : Prop := ∀ (n : Nat) (l : Array Bool) (fr : Fr) (H : Hp) (w : World),
  t.len ≤ n → closedL .any ⟨ops⟩ l → treeB T ws ⟨ops⟩ t false l = true → wtree c T ws ops t K' fr H → St c H w → wpAnyR c.P .any ⟨ops⟩ (isWr ws ⟨ops⟩) (DrawQ c ds K) n l (actD ds fr) w
abbrev TreeC (c : Ctx) (T : Ty) (ws : List Nat) (ds : List Deferred) (ops : List Oper) (K' K : Fr → Hp → Prop) (t : DT) : Prop := ∀ (n : Nat) (l : Array Bool) (fr : Fr) (H : Hp) (w' : World),
  t.len ≤ n + 1 → closedL .any ⟨ops⟩ l → treeB T ws ⟨ops⟩ t true l = true → wtree c T ws ops t K' fr H → St c H w' → ∀ k ∈ t.heads,
    wpOp c.P ⟨ops⟩ (DrawQ c ds K) k (fun a2 w2 => (isWr ws ⟨ops⟩ k = false → R w' w2) ∧ wpAnyR c.P .any ⟨ops⟩ (isWr ws ⟨ops⟩) (DrawQ c ds K) n (l.setIfInBounds k true) a2 w2) (actD ds fr) w'
theorem wtree_ok (hT : TOk c.P T) (ws : List Nat) (ds : List Deferred) (ops : List Oper) (hs : Region.noSelect ⟨ops⟩ = true) (K' K : Fr → Hp → Prop) (hK : ∀ fr H, K' fr H → ∃ H2, (∀ w, St c H w → St c H2 w) ∧ K fr H2) (t : DT) : TreeA c T ws ds ops K' K t ∧ TreeC c T ws ds ops K' K t := by
  induction t with
  | nil =>
    refine ⟨fun n l fr H w _ _ ho h hw => ?_, fun n l fr H w _ _ ho h hw k hk => by cases hk⟩
    simp only [treeB, Bool.and_eq_true, List.isEmpty_iff] at ho
    obtain ⟨H2, hs2, hk⟩ := hK fr H h
    exact wpAnyR_done ho.2 fun w' hR => ⟨fr, H2, rfl, hs2 _ (hw.below hR), rfl, hk⟩
  | q i t ih =>
    refine ⟨fun n l fr H w hn hc ho h hw => ?_, fun n l fr H w _ _ ho h hw k hk => by cases hk⟩
    obtain ⟨n, rfl⟩ : ∃ m, n = m + 1 := ⟨n - 1, by simp only [DT.len] at hn; omega⟩
    simp only [treeB, Bool.and_eq_true] at ho
    obtain ⟨⟨⟨⟨⟨_, hr⟩, hf⟩, hwi⟩, hall⟩, ho⟩ := ho
    rw [Bool.not_eq_true'] at hwi
    have hr : i ∈ Region.ready .any ⟨ops⟩ l := by simpa using hr
    obtain ⟨o, hoi, h⟩ := nthK_some h
    obtain ⟨h, hst⟩ := strOk_out h
    have hoi' : (⟨ops⟩ : Array Oper)[i]? = some o := by simpa using hoi
    have hQ : ∀ (v : Value) (ch : List PanicEntry) (a : Act) (w : World), DrawQ c ds K (.panic ch) (a.put o.dst v) w → DrawQ c ds K (.panic ch) a w := fun v ch a w ⟨_, _, _, _, he, _⟩ => by cases he
    have hn' : t.len ≤ n := by simpa [DT.len] using hn
    rw [hoi', Bool.or_eq_true] at hall
    dsimp only at hall
    rcases hall with hall | hbl
    rotate_left
    · rcases wstep_wop h with ⟨hwd, h⟩ | ⟨hwd, hk⟩
      · obtain ⟨v, hk, hq⟩ := blind_wop hT o hbl hst h
        obtain ⟨fr', e, hk⟩ := setO_act (ds := ds) hk
        refine wpAnyR_firstB (v := v) hoi' (Region.noSelect_spec hs) (hQ v) n l (actD ds fr) w hc (Region.free_spec hoi' hf) hr (fun w' => .inl ⟨hwd, ?_⟩) ?_
        · unfold Quiet1
          rw [show (actD ds fr).eval = (act fr).eval from rfl, hq w']
          exact ⟨rfl, rfl⟩
        · rw [e]
          exact ih.1 n _ fr' H w hn' (hc.set hr) ho hk hw
      · obtain ⟨fr', e, hk⟩ := setO_act (ds := ds) hk
        refine wpAnyR_firstB (v := undef) hoi' (Region.noSelect_spec hs) (hQ _) n l (actD ds fr) w hc (Region.free_spec hoi' hf) hr (fun w' => .inr ⟨hwd, rfl⟩) ?_
        rw [e]
        exact ih.1 n _ fr' H w hn' (hc.set hr) ho hk hw
    simp only [List.all_eq_true, List.mem_range, Bool.or_eq_true, Bool.not_eq_true'] at hall
    have hwr : ∀ j, isWr ws ⟨ops⟩ j = true → l.getD j true = false → anc .any ⟨ops⟩ (⟨ops⟩ : Array Oper).size j i = true := fun j hj hl => by
      have hlt : j < (⟨ops⟩ : Array Oper).size := by
        unfold isWr at hj
        rcases Nat.lt_or_ge j (⟨ops⟩ : Array Oper).size with h' | h'
        · exact h'
        · rw [Array.getElem?_eq_none h'] at hj; cases hj
      rcases hall j hlt with (h1 | h1) | h1
      · rw [hj] at h1; cases h1
      · rw [hl] at h1; cases h1
      · exact h1
    rcases wstep_cases hT h with ⟨hwd, ⟨v, hk, hq⟩ | ⟨he, _⟩, _⟩ | ⟨hwd, hk⟩
    · obtain ⟨fr', e, hk⟩ := setO_act (ds := ds) hk
      refine wpAnyR_first (v := v) hoi' (Region.noSelect_spec hs) (hQ v) hwi n l (actD ds fr) w hc hwr (Region.free_spec hoi' hf) hr (fun w' hR => .inl ⟨hwd, hq w' (hw.below hR)⟩) ?_
      rw [e]
      exact ih.1 n _ fr' H w hn' (hc.set hr) ho hk hw
    · cases he
    · obtain ⟨fr', e, hk⟩ := setO_act (ds := ds) hk
      refine wpAnyR_first (v := undef) hoi' (Region.noSelect_spec hs) (hQ _) hwi n l (actD ds fr) w hc hwr (Region.free_spec hoi' hf) hr (fun w' hR => .inr ⟨hwd, rfl⟩) ?_
      rw [e]
      exact ih.1 n _ fr' H w hn' (hc.set hr) ho hk hw
  | a i t ih =>
    refine ⟨fun n l fr H w hn hc ho h hw => ?_, fun n l fr H w _ _ ho h hw k hk => by cases hk⟩
    obtain ⟨n, rfl⟩ : ∃ m, n = m + 1 := ⟨n - 1, by simp only [DT.len] at hn; omega⟩
    simp only [treeB, Bool.and_eq_true, beq_iff_eq] at ho
    obtain ⟨⟨_, hr⟩, ho⟩ := ho
    have hri : i ∈ Region.ready .any ⟨ops⟩ l := by rw [hr]; simp
    refine wpAnyR_alone hr fun w' hR => ?_
    exact wact_ok hT ws ds ops K h (hw.below hR) fun fr' H' w2 hk hs2 => ih.1 n _ fr' H' w2 (by simpa [DT.len] using hn) (hc.set hri) ho hk hs2
  | ch i t r iht ihr =>
    have key : ∀ (n : Nat) (l : Array Bool) (fr : Fr) (H : Hp) (w' : World), (DT.ch i t r).len ≤ n + 1 → closedL .any ⟨ops⟩ l → ((Region.ready .any ⟨ops⟩ l).contains i = true) → treeB T ws ⟨ops⟩ t false (l.setIfInBounds i true) = true → treeB T ws ⟨ops⟩ r true l = true →
        wtree c T ws ops (.ch i t r) K' fr H → St c H w' → ∀ k ∈ (DT.ch i t r).heads,
        wpOp c.P ⟨ops⟩ (DrawQ c ds K) k (fun a2 w2 => (isWr ws ⟨ops⟩ k = false → R w' w2) ∧ wpAnyR c.P .any ⟨ops⟩ (isWr ws ⟨ops⟩) (DrawQ c ds K) n (l.setIfInBounds k true) a2 w2) (actD ds fr) w' := by
      intro n l fr H w' hn hc hri h1 h2 h hw k hk
      have hri : i ∈ Region.ready .any ⟨ops⟩ l := by simpa using hri
      have hn1 : t.len + 1 ≤ n + 1 ∧ r.len ≤ n + 1 := by simp only [DT.len] at hn; omega
      rcases List.mem_cons.1 hk with rfl | hk
      · exact wact_ok hT ws ds ops K h.1 hw fun fr' H' w2 hk hs2 => iht.1 n _ fr' H' w2 (by omega) (hc.set hri) h1 hk hs2
      · exact ihr.2 n l fr H w' hn1.2 hc h2 h.2 hw k hk
    refine ⟨fun n l fr H w hn hc ho h hw => ?_, fun n l fr H w' hn hc ho h hw k hk => ?_⟩
    · obtain ⟨n, rfl⟩ : ∃ m, n = m + 1 := ⟨n - 1, by simp only [DT.len] at hn; omega⟩
      simp only [treeB, Bool.and_eq_true, Bool.false_or] at ho
      obtain ⟨⟨⟨hall, hri⟩, h1⟩, h2⟩ := ho
      intro w' hR
      refine ⟨fun he => ?_, fun k hk => ?_⟩
      · rw [he] at hri; cases hri
      · refine key n l fr H w' hn hc hri h1 h2 h (hw.below hR) k ?_
        have := List.all_eq_true.1 hall k hk
        simp only [Bool.or_eq_true, beq_iff_eq] at this
        rcases this with rfl | h
        · exact List.mem_cons_self ..
        · exact List.mem_cons_of_mem _ (by simpa using h)
    · simp only [treeB, Bool.and_eq_true] at ho
      obtain ⟨⟨⟨_, hri⟩, h1⟩, h2⟩ := ho
      exact key n l fr H w' hn hc hri h1 h2 h hw k hk
  | stop =>
    refine ⟨fun n l fr H w _ _ ho h hw => ?_, fun n l fr H w _ _ ho h hw k hk => by cases hk⟩
    cases ho
noncomputable def forkB (T : Ty) (ws : List Nat) (ops : List Oper) (t : DT) : Bool := ops.all noDefer && Region.noSelect ⟨ops⟩ && (decide (t.len ≤ ops.length)) && treeB T ws ⟨ops⟩ t false (Array.replicate ops.length false)
/-- The entries of a heap, in another order, some left out. -/
inductive Cov : Hp → Hp → Prop
  | nil {H : Hp} : Cov H []
  | cons {H H2 G : Hp} {x : Ent} (h : Pick H x H2) (k : Cov H2 G) : Cov H (x :: G)
theorem Cov.perm {H G : Hp} (h : Cov H G) : ∃ R, H.Perm (G ++ R) := by
  induction h with
  | nil => exact ⟨_, List.Perm.refl _⟩
  | cons hp _ ih =>
    obtain ⟨R, hR⟩ := ih
    exact ⟨R, hp.perm.trans (hR.cons _)⟩
theorem Cov.st {H G : Hp} (h : Cov H G) {w : World} (hw : St c H w) : St c G w := by
  obtain ⟨R, hR⟩ := h.perm
  exact (hw.perm hR).sub (List.sublist_append_left _ _)
theorem DrawS.forkK {id : Nat} {ops : List Oper} {K' K : Fr → Hp → Prop} {fr : Fr} {H : Hp} (ws : List Nat) (t : DT) (hT : TOk c.P T) (hm : c.P.follows .mixedOrders = true) (hB : forkB T ws ops t = true) (hK : ∀ fr H, K' fr H → ∃ H2, (∀ w, St c H w → St c H2 w) ∧ K fr H2) (h : wtree c T ws ops t K' fr H) : DrawS c T id ops K fr H := by
  simp only [forkB, Bool.and_eq_true, decide_eq_true_eq] at hB
  refine ⟨hm, fun j o ca hj e => ?_, fun ds w hw => wpAny_of_R (Wr := isWr ws ⟨ops⟩) _ _ _ _ (((wtree_ok hT ws ds ops hB.1.1.2 K' K hK t).1 _ _ fr H w hB.1.2 (closedL_start _) hB.2 h hw).on (R.drew w))⟩
  have h1 := List.all_eq_true.1 hB.1.1.1 o (List.mem_of_getElem? (by simpa using hj))
  unfold noDefer at h1
  rw [e] at h1
  cases h1
/-- All orders that may come are told. -/
theorem DrawS.fork {id : Nat} {ops : List Oper} {K : Fr → Hp → Prop} {fr : Fr} {H : Hp} (ws : List Nat) (t : DT) (hT : TOk c.P T) (hm : c.P.follows .mixedOrders = true) (hB : forkB T ws ops t = true) (h : wtree c T ws ops t K fr H) : DrawS c T id ops K fr H :=
  DrawS.forkK ws t hT hm hB (fun _ H hk => ⟨H, fun _ h => h, hk⟩) h
/-- .. behind each of them one state: what is behind the region is gone once. -/
theorem DrawS.join {β : Type} {id : Nat} {ops : List Oper} {K : Fr → Hp → Prop} {fr : Fr} {H : Hp} (F : β → (Nat → Value) → Fr) (G : β → Hp) (ws : List Nat) (t : DT) (hT : TOk c.P T) (hm : c.P.follows .mixedOrders = true) (hB : forkB T ws ops t = true)
    (h : wtree c T ws ops t (fun fr H => ∃ x, fr = F x (jk fr) ∧ Cov H (G x)) fr H) (k : ∀ x u, K (F x u) (G x)) : DrawS c T id ops K fr H :=
  DrawS.forkK ws t hT hm hB (fun fr' H' ⟨x, hF, hc⟩ => ⟨G x, fun _ hw => hc.st hw, by rw [hF]; exact k x (jk fr')⟩) h
end
end Go.Proofs.YtmdmmncoigeijaaGreatDoor.Vex
/- A walk by reckoning, part seventeen: functions that give back new memory of any kind; maps that came in. No program in sight. -/
namespace Go.Proofs.YtmdmmncoigeijaaGreatDoor.Vex
open Go Go.RowKit Go.MapKept

/-- New entries, behind a call. -/
def newH (w w' : World) (H : Hp) : Prop := (∀ y ∈ H, y.holds w' ∧ ∀ b, y.blk = some b → w.heap.size ≤ b ∧ b < w'.heap.size) ∧ (H.filterMap Ent.blk).Nodup
abbrev FnH (P : Program) (g : GI) (f : FuncId) (args : List Value) (pre : World → Prop) (K : Value → Hp → Prop) : Prop := FnE P g f args pre fun w v w' => ∃ H, K v H ∧ newH w w' H
theorem newH.of {P : Program} {g : GI} {w w' : World} {hG : g.G w} {H : Hp} (h : St (mkC P g w hG) H w') : newH w w' H :=
  ⟨fun y hy => ⟨(h.own y hy).1, fun b hb => ⟨((h.own y hy).2 b hb).2.elim id (fun h => by cases h), ((h.own y hy).2 b hb).1⟩⟩, h.apart⟩
theorem newH.cov {P : Program} {g : GI} {w w' : World} {hG : g.G w} {H H2 : Hp} (h : St (mkC P g w hG) H w') (hc : Cov H H2) : newH w w' H2 := newH.of (hc.st h)
section
variable {c : Ctx} {H : Hp}
theorem CallK.fnH {m : Bool} {f : Nat} {args : List Value} {pre : World → Prop} {K : Value → Hp → Prop} {K2 : Value → Hp → Prop} (h : FnH c.P c.g f args pre K) (hp : ∀ w, St c H w → pre w) (k : ∀ v H', K v H' → K2 v (H' ++ H)) : CallK c m f args H K2 :=
  CallK.fnE h hp fun w v w' hw ⟨H', hk, hn, hd⟩ hR => by
    refine ⟨H' ++ H, ?_, k v H' hk⟩
    have hw2 := hw.below hR
    refine ⟨hw2.mod, fun y hy => ?_, ?_⟩
    · rcases List.mem_append.1 hy with hy | hy
      · exact ⟨(hn y hy).1, fun b hb => ⟨((hn y hy).2 b hb).2, .inl (Nat.le_trans hw.mod.size ((hn y hy).2 b hb).1)⟩⟩
      · exact hw2.own y hy
    · rw [List.filterMap_append, List.nodup_append]
      refine ⟨hd, hw2.apart, fun a ha b hb e => ?_⟩
      obtain ⟨y, hy, hya⟩ := List.mem_filterMap.1 ha
      obtain ⟨z, hz, hzb⟩ := List.mem_filterMap.1 hb
      have h1 := ((hn y hy).2 a hya).1
      have h2 := ((hw.own z hz).2 b hzb).1
      omega
/-- A call whose value is known. -/
theorem CallK.fnEV {m : Bool} {f : Nat} {args : List Value} {pre : World → Prop} {v : Value} {K : Value → Hp → Prop} (h : FnE c.P c.g f args pre fun _ u _ => u = v) (hp : ∀ w, St c H w → pre w) (k : K v H) : CallK c m f args H K :=
  CallK.fnE h hp fun _ _ _ hw he hR => ⟨H, hw.below hR, by rw [he]; exact k⟩
theorem OthP.max2 {d : Option Nat} {x y : Operand} {ats : Array TypeId} {ty : TypeId} {pos : String} {after : Array Edge} {gd : Option (Nat × Bool)} {fr : Fr} {kd : IntKind} {a b : Int} {K : Value → Prop} (z : Int)
    (hx : evK fr x fun v => v = .int kd a) (hy : evK fr y fun v => v = .int kd b) (hz : max a b = z) (k : K (.int kd z)) : OthP c ⟨d, .call ⟨.builtin .max, #[x, y], ats⟩, ty, pos, after, gd⟩ fr H K := ⟨⟨_, k, fun w _ => by
  rw [evK_eq] at hx hy
  have hz' : z = if b > a then b else a := by subst hz; split <;> omega
  subst hz'
  simp only [go_sem, Builtin.max_]
  simp [hx, hy, Builtin.max2, List.foldlM]⟩⟩
/-- What a map has at a key, wherever the map lies. -/
theorem OthP.lookA {α : Type} [DecidableEq α] {kv : α → Value} {d : TypeDesc} {T : Ty} {fr : Fr} {dst : Option Nat} {ty : TypeId} {pos : String} {after : Array Edge} {gd : Option (Nat × Bool)} {t kt et : TypeId} {x i : Operand} {ok : Bool} {b : Nat} {k : α} {l : List (α × Value)} {z r : Value} {K : Value → Prop} (hk : KeyK d kv) (hT : TOk c.P T) (hb : ∀ w, St c H w → w.heap[b]? = some (mobj kv l))
    (hx : evK fr x fun v => v = .map (some b)) (hi : evK fr i fun v => v = kv k) (ht : (lookT T t).d = .map kt et) (hkt : (lookT T kt).d = d) (hd : d ≠ .invalid) (het : (lookT T et).d ≠ .invalid) (hz : (lookT T et).zero = z)
    (hr : (match ok with | true => .tuple ⟨[(mget k l).getD z, .bool (mget k l).isSome]⟩ | false => (mget k l).getD z) = r) (kk : K r) : OthP c ⟨dst, .lookup t x i ok, ty, pos, after, gd⟩ fr H K := ⟨⟨r, kk, fun w hw => by
  rw [evK_eq] at hx hi
  have hu := (lookT_ok hT (t := t) (by rw [ht]; intro h; cases h)).1
  have hku := (lookT_ok hT (t := kt) (by rw [hkt]; exact hd)).1
  rw [ht] at hu
  rw [hkt] at hku
  have hzv := run_zeroValue (lookT_ok hT (t := et) het) (w := w)
  rw [hz] at hzv
  have hb : w.heap[b]? = some (.map ⟨mkEs kv 0 l⟩ l.length) := hb w hw
  have hf := run_findKey (w := w) hku (findNow_es hk k l 0 0)
  have hc := run_checkKey (w := w) hku (hk.key k) (⟨mkEs kv 0 l⟩ : Array MapEntry).isEmpty 9999
  have hl : (Instr.lookup t (.map (some b)) (kv k) ok).run c.P w = .ok r w := by
    unfold Instr.lookup
    simp only [Sem.run_bind, run_underlying hu, Result.andThen_ok, MapKept.run_getObj_map hb, Sem.run_pure, hc, hf]
    subst hr
    cases mget k l with
    | none => cases ok <;> simp [hzv]
    | some v => cases ok <;> simp
  generalize (act fr).eval = ρ at *
  simp only [execOp, hx, hi, Sem.run_bind, hl, Result.andThen_ok, Sem.run_pure]⟩⟩
/-- An object that came in stays. -/
theorem obj_now {P : Program} {g : GI} {w : World} {hG : g.G w} {H : Hp} {b : Nat} {o : Obj} (h : w.heap[b]? = some o) : ∀ w', St (mkC P g w hG) H w' → w'.heap[b]? = some o := fun w' hw => by
  have hlt : b < w.heap.size := by
    rcases Nat.lt_or_ge b w.heap.size with h' | h'
    · exact h'
    · simp [Array.getElem?_eq_none h'] at h
  exact (hw.mod.block b hlt (fun h => by cases h)).trans h
/-- A cell that came in. -/
theorem Ld.now {P : Program} {g : GI} {w : World} {hG : g.G w} {H : Hp} {p : Addr} {v : Value} {K : Value → Prop} (h : w.cell? p = some v) (k : K v) : Ld (mkC P g w hG) H (.pointer (some p)) none K := Ld.old (c := mkC P g w hG) h (fun h => by cases h) k
end
end Go.Proofs.YtmdmmncoigeijaaGreatDoor.Vex
/- A walk by reckoning, part eighteen: heaps with a tail of entries that are not told one by one. No program in sight. -/
namespace Go.Proofs.YtmdmmncoigeijaaGreatDoor.Vex
open Go Go.RowKit

/-- What meets one heap meets another one. -/
def Into (c : Ctx) (H G : Hp) : Prop := ∀ w, St c H w → St c G w
section
variable {c : Ctx} {H G H2 : Hp} {x : Ent} {w : World}
theorem Into.refl : Into c H H := fun _ h => h
theorem Into.trans {K : Hp} (h : Into c H G) (k : Into c G K) : Into c H K := fun w hw => k w (h w hw)
theorem Into.perm (h : H.Perm G) : Into c H G := fun _ hw => hw.perm h
theorem Into.sub (h : G.Sublist H) : Into c H G := fun _ hw => hw.sub h
theorem Into.nil : Into c H [] := Into.sub (List.nil_sublist _)
theorem Into.skip (h : Into c H G) : Into c (x :: H) G := (Into.sub (List.sublist_cons_self _ _)).trans h
theorem Into.left : Into c (H ++ G) H := Into.sub (List.sublist_append_left _ _)
theorem Into.right : Into c (H ++ G) G := Into.sub (List.sublist_append_right _ _)
theorem Into.nilRow {e sz : Nat} (h : Into c H G) : Into c H (.row (.slice none 0 0) e sz 0 [] :: G) := fun w hw => (h w hw).nilRow e sz
/-- An entry is kept beside what the others are turned into: the others' own memory alone is looked at. -/
def Cv (H G : Hp) : Prop := ∃ R, H.Perm (G ++ R)
theorem Cv.into (h : Cv H G) : Into c H G := fun _ hw => by
  obtain ⟨R, hR⟩ := h
  exact (hw.perm hR).sub (List.sublist_append_left _ _)
theorem Cv.cons (h : Pick H x H2) (k : Cv H2 G) : Cv H (x :: G) := by
  obtain ⟨R, hR⟩ := k
  exact ⟨R, h.perm.trans (hR.cons _)⟩
theorem Cv.refl : Cv H H := ⟨[], by rw [List.append_nil]⟩
theorem Cv.nil : Cv H [] := ⟨H, List.Perm.refl _⟩
theorem Cv.skip (h : Cv H G) : Cv (x :: H) G := by
  obtain ⟨R, hR⟩ := h
  exact ⟨x :: R, (hR.cons x).trans List.perm_middle.symm⟩
theorem Cv.trans {K : Hp} (h : Cv H G) (k : Cv G K) : Cv H K := by
  obtain ⟨R, hR⟩ := h
  obtain ⟨S, hS⟩ := k
  exact ⟨S ++ R, hR.trans ((hS.append_right R).trans (by rw [List.append_assoc]))⟩
theorem Cv.of (h : H.Perm G) : Cv H G := ⟨[], by rw [List.append_nil]; exact h⟩
theorem Cv.left : Cv (H ++ G) H := ⟨G, List.Perm.refl _⟩
theorem Cv.right : Cv (H ++ G) G := ⟨H, List.perm_append_comm⟩
/-- A loop whose heap may change its order. -/
noncomputable def lpTQ (c : Ctx) {β : Type} (F : β → (Nat → Value) → Fr) (G : β → Hp) (pre : β → Prop) (μ : β → Nat) (x : β) (Q : Exit → Fr → Hp → Prop) (e : Exit) (fr : Fr) (H : Hp) : Prop := match e with
  | .normal => ∃ x', pre x' ∧ fr = F x' (jk fr) ∧ Into c H (G x') ∧ μ x' < μ x
  | e => Q e fr H
theorem LoopS.lpT {T : Ty} {β : Type} {body : Code} {Q : Exit → Fr → Hp → Prop} {fr : Fr} (hT : TOk c.P T) (F : β → (Nat → Value) → Fr) (G : β → Hp) (pre : β → Prop) (μ : β → Nat) (x0 : β) (h0 : pre x0) (hF : fr = F x0 (jk fr)) (hG : Into c H (G x0))
    (round : ∀ x u, pre x → wc c T body (lpTQ c F G pre μ x Q) (F x u) (G x)) : LoopS c T body Q fr H := by
  refine ⟨fun ds w hw => wp_loop_ghost (fun n a w => ∃ x u, pre x ∧ a = actD ds (F x u) ∧ St c (G x) w ∧ μ x = n) (μ x0) ⟨x0, jk fr, h0, by rw [← hF], hG w hw, rfl⟩ ?_⟩
  rintro n a w ⟨x, u, hx, rfl, hs, rfl⟩
  refine Code.wp_mono (fun e a w ⟨fr, H, ha, hs, hq⟩ => ?_) (wc_ok hT ds body _ _ _ w (round x u hx) hs)
  cases e with
  | normal =>
    obtain ⟨x', hx', hF', hG', hlt⟩ := hq
    exact ⟨μ x', hlt, x', jk fr, hx', by rw [ha, ← hF'], hG' w hs, rfl⟩
  | _ => exact ⟨fr, H, ha, hs, hq⟩
theorem LoopS.into {T : Ty} {body : Code} {Q : Exit → Fr → Hp → Prop} {fr : Fr} (hc : Into c H G) (h : LoopS c T body Q fr G) : LoopS c T body Q fr H := ⟨fun ds w hw => h.ok ds w (hc w hw)⟩

/-- All orders of a region, one state behind them, in a heap whose entries may change their order. -/
theorem DrawS.joinI {T : Ty} {β : Type} {id : Nat} {ops : List Oper} {K : Fr → Hp → Prop} {fr : Fr} (F : β → (Nat → Value) → Fr) (G : β → Hp) (ws : List Nat) (t : DT) (hT : TOk c.P T) (hm : c.P.follows .mixedOrders = true) (hB : forkB T ws ops t = true)
    (h : wtree c T ws ops t (fun fr H => ∃ x, fr = F x (jk fr) ∧ Into c H (G x)) fr H) (k : ∀ x u, K (F x u) (G x)) : DrawS c T id ops K fr H :=
  DrawS.forkK ws t hT hm hB (fun fr' H' ⟨x, hF, hc⟩ => ⟨G x, hc, by rw [hF]; exact k x (jk fr')⟩) h

theorem tk13 {b o i j : Nat} {n : Option Nat} {K : Value → Prop} (h : Ld c H (.pointer (some ⟨b, o + (i + j), none⟩)) n K) : Ld c H (.pointer (some (((⟨b, o, none⟩ : Addr).add i).add j))) n K := by
  rw [add_add, Addr.add_lit]
  exact h
theorem tk14 {b o i j n : Nat} {v : Value} {K : Hp → Prop} (h : Sto c H (.pointer (some ⟨b, o + (i + j), none⟩)) v n K) : Sto c H (.pointer (some (((⟨b, o, none⟩ : Addr).add i).add j))) v n K := by
  rw [add_add, Addr.add_lit]
  exact h

theorem CallK.into {m : Bool} {f : Nat} {args : List Value} {K : Value → Hp → Prop} (hi : Into c H G) (h : CallK c m f args G K) : CallK c m f args H K := ⟨h.can, fun w hw => h.ok w (hi w hw)⟩

/-! ## Tails -/
instance RdA.appL {T : Hp} {A : Option Addr} {xs : List Value} [h : RdA c H A xs] : RdA c (H ++ T) A xs where
  ok := h.ok.sub (List.sublist_append_left _ _)
instance RdA.appR {T : Hp} {A : Option Addr} {xs : List Value} [h : RdA c T A xs] : RdA c (H ++ T) A xs where
  ok := h.ok.sub (List.sublist_append_right _ _)
/-- New memory with a tail. -/
abbrev FnT (P : Program) (g : GI) (f : FuncId) (args : List Value) (pre : World → Prop) {X : Type} (V : X → Value) (Q : X → Prop) (Hd T : X → Hp) : Prop := FnE P g f args pre fun w v w' => ∃ x, v = V x ∧ Q x ∧ newH w w' (Hd x ++ T x)
theorem CallK.fnT {m : Bool} {f : Nat} {args : List Value} {pre : World → Prop} {X : Type} {V : X → Value} {Q : X → Prop} {Hd T : X → Hp} {K : Value → Hp → Prop} (h : FnT c.P c.g f args pre V Q Hd T) (hp : ∀ w, St c H w → pre w)
    (k : ∀ x, Q x → K (V x) (Hd x ++ (H ++ T x))) : CallK c m f args H K :=
  CallK.post (CallK.fnH (K := fun v H' => ∃ x, v = V x ∧ Q x ∧ H' = Hd x ++ T x) (⟨h.can, fun w hG hP => (h.ok w hG hP).mono fun e w' ⟨v, he, ⟨x, h1, h2, h3⟩, hR⟩ => ⟨v, he, ⟨_, ⟨x, h1, h2, rfl⟩, h3⟩, hR⟩⟩) hp (fun v H' ⟨x, h1, h2, h3⟩ =>
    ⟨Hd x ++ (H ++ T x), fun w hw => by
      subst h3
      refine hw.perm ?_
      rw [List.append_assoc]
      exact List.Perm.append_left _ List.perm_append_comm, by rw [h1]; exact k x h2⟩))
theorem newH.into {P : Program} {g : GI} {w w' : World} {hG : g.G w} {H H2 : Hp} (h : St (mkC P g w hG) H w') (hc : Into (mkC P g w hG) H H2) : newH w w' H2 := newH.of (hc w' h)

/-- A key's value is laid, in a literal. -/
theorem OthU.ins {α : Type} [DecidableEq α] {kv : α → Value} {d : TypeDesc} {T : Ty} {fr : Fr} {dst : Option Nat} {ty : TypeId} {pos : String} {after : Array Edge} {gd : Option (Nat × Bool)} {t kt et : TypeId} {x i y : Operand} {b : Nat} {k : α} {l l' : List (α × Value)} {f : Obj → Hp} {v : Value} {K : Value → Hp → Prop} (hk : KeyK d kv) (hT : TOk c.P T) [ho : ObjAt b H (mobj kv l) f]
    (hx : evK fr x fun v => v = .map (some b)) (hi : evK fr i fun v => v = kv k) (hy : evK fr y fun u => u = v) (ht : (lookT T t).d = .map kt et) (hkt : (lookT T kt).d = d) (hd : d ≠ .invalid) (hl' : mput k v l = l')
    (kk : K undef (f (mobj kv l'))) : OthU c ⟨dst, .insert t x i y, ty, pos, after, gd⟩ fr H K := ⟨fun w hw => by
  rw [evK_eq] at hx hi hy
  have hu := (lookT_ok hT (t := t) (by rw [ht]; intro h; cases h)).1
  have hku := (lookT_ok hT (t := kt) (by rw [hkt]; exact hd)).1
  rw [ht] at hu
  rw [hkt] at hku
  have hb : w.heap[b]? = some (.map ⟨mkEs kv 0 l⟩ l.length) := ho.holds hw
  refine ⟨_, _, ?_, ho.put hw (o' := mobj kv l'), kk⟩
  have hr := run_mapUpd (k := k) (v := v) hk hu hku hb
  rw [hl'] at hr
  generalize (act fr).eval = ρ at *
  simp only [execOp, hx, hi, hy, Sem.run_bind, hr, Result.andThen_ok, Sem.run_pure]⟩

/-! ## Parts of a body: each has bytes of its own -/
structure Prt where
  A : Option Addr
  cp : Nat
  l : List UInt8
  f : Bool
def Prt.row (e : Nat) (q : Prt) : Ent := .row (.slice q.A q.l.length q.cp) e 1 q.l.length (q.l.map byteV)
def rowsP (e : Nat) (ps : List Prt) : Hp := ps.map (Prt.row e)
def pcells : List Prt → List Value
  | [] => []
  | q :: r => .slice q.A q.l.length q.cp :: .bool q.f :: pcells r
def pure1 (q : Prt) : List UInt8 × Bool := (q.l, q.f)
theorem pcells_length : ∀ ps : List Prt, (pcells ps).length = ps.length * 2
  | [] => rfl
  | q :: r => by simp only [pcells, List.length_cons, pcells_length r]; omega
theorem pcells_append : ∀ a b : List Prt, pcells (a ++ b) = pcells a ++ pcells b
  | [], _ => rfl
  | q :: a, b => by simp only [List.cons_append, pcells, pcells_append a b]
theorem pcells_at : ∀ (l : List Prt) (k : Nat) (h : k < l.length), (pcells l)[k * 2]? = some (.slice l[k].A l[k].l.length l[k].cp) ∧ (pcells l)[k * 2 + 1]? = some (.bool l[k].f) ∧ ((pcells l).drop (k * 2)).take 2 = [.slice l[k].A l[k].l.length l[k].cp, .bool l[k].f]
  | q :: r, 0, _ => ⟨rfl, rfl, rfl⟩
  | q :: r, k + 1, h => by
    have ih := pcells_at r k (by simpa using h)
    rw [show (k + 1) * 2 = k * 2 + 1 + 1 by omega]
    simp only [pcells, List.getElem?_cons_succ, List.drop_succ_cons, List.getElem_cons_succ]
    exact ih
theorem pcells_one {ps : List Prt} : ∀ u ∈ pcells ps, u.oneCell' = true := by
  induction ps with
  | nil => intro u h; cases h
  | cons q r ih =>
    intro u h
    simp only [pcells, List.mem_cons] at h
    rcases h with rfl | rfl | h
    · rfl
    · rfl
    · exact ih u h
theorem Prt.rd {e : Nat} {ps : List Prt} {q : Prt} (h : q ∈ ps) : RdS c (rowsP e ps) q.A (q.l.map byteV) :=
  RdS.sub (H := [q.row e]) RdS.here (List.singleton_sublist.2 (List.mem_map_of_mem h))
theorem rowsP_app {e : Nat} {a b : List Prt} : rowsP e (a ++ b) = rowsP e a ++ rowsP e b := List.map_append
theorem Cv.snoc {e : Nat} {ps : List Prt} {q : Prt} (h : Cv H (q.row e :: rowsP e ps)) : Cv H (rowsP e (ps ++ [q])) :=
  h.trans (.of (by rw [rowsP_app]; exact (List.perm_append_comm (l₁ := [q.row e]) (l₂ := rowsP e ps))))
theorem Cv.close {e : Nat} {ps : List Prt} {q : Prt} {X : Hp} : Cv (q.row e :: (X ++ rowsP e ps)) (X ++ rowsP e (ps ++ [q])) :=
  .of (by
    rw [rowsP_app, ← List.append_assoc]
    exact (List.perm_append_comm (l₁ := [q.row e]) (l₂ := X ++ rowsP e ps)))
end
end Go.Proofs.YtmdmmncoigeijaaGreatDoor.Vex
/- What pages lean on: lists of fields, names, tags; reckoned. -/
namespace Go.Proofs.YtmdmmncoigeijaaGreatDoor
open Go.RowKit
theorem decode_low (s : ByteArray) (k : Nat) (h : k < s.size) (hx : s[k].toNat < 128) : Utf8.decode s k = (s[k].toNat, 1) := by
  have hg : s.get! k = s[k] := by
    cases s with
    | mk d =>
      show d[k]! = d[k]
      exact getElem!_pos d k h
  unfold Utf8.decode
  simp only [Nat.add_zero, hg]
  rw [if_pos hx]
theorem decode_high (s : ByteArray) (k : Nat) (h : k < s.size) (hx : ¬ s[k].toNat < 128) : 128 ≤ (Utf8.decode s k).1 := by
  have hg : s.get! k = s[k] := by
    cases s with
    | mk d =>
      show d[k]! = d[k]
      exact getElem!_pos d k h
  unfold Utf8.decode
  simp only [Nat.add_zero, hg]
  rw [if_neg hx]
  have hr : Utf8.runeError = 65533 := rfl
  split
  · split <;> simp only <;> omega
  · split
    · split
      · rename_i hc; simp only [Bool.and_eq_true, decide_eq_true_eq] at hc; simp only; omega
      · simp only; omega
    · split
      · split
        · rename_i hc; simp only [Bool.and_eq_true, decide_eq_true_eq] at hc; simp only; omega
        · simp only; omega
      · simp only; omega
theorem idxFrom (p : Nat → Bool) (hp : ∀ r, 128 ≤ r → p r = true) (s : ByteArray) : ∀ (f k : Nat), s.size ≤ k + f → decide (0 ≤ Lib.idxFuncFrom p true s f k) = ((L s).drop k).any fun x => p x.toNat
  | 0, k, h => by
    rw [List.drop_eq_nil_of_le (by rw [L_length]; omega)]
    simp [Lib.idxFuncFrom]
  | f + 1, k, h => by
    unfold Lib.idxFuncFrom
    by_cases hk : k < s.size
    · rw [if_pos hk, L_drop s k hk, List.any_cons]
      by_cases hx : s[k].toNat < 128
      · rw [decode_low s k hk hx]
        by_cases hq : p s[k].toNat = true
        · simp only [hq, if_true, Bool.true_or, decide_eq_true_eq]; omega
        · have hq' : p s[k].toNat = false := by simpa using hq
          simp only [hq', Bool.false_eq_true, if_false, Bool.false_or]
          exact idxFrom p hp s f (k + 1) (by omega)
      · have h1 := decode_high s k hk hx
        rw [hp _ h1, hp s[k].toNat (by omega)]
        simp
    · rw [if_neg hk, List.drop_eq_nil_of_le (by rw [L_length]; omega)]
      simp

end Go.Proofs.YtmdmmncoigeijaaGreatDoor
namespace Go.Proofs.YtmdmmncoigeijaaGreatDoor.Vex
open Go Go.RowKit
set_option maxRecDepth 100000
set_option linter.unusedSectionVars false
variable {gI : GI} [HasMax gI]

theorem fcells_eq_nil {l : List Fld} (h : fcells l = []) : l = [] := by
  cases l with
  | nil => rfl
  | cons p r => simp [fcells] at h
theorem Clone_f (A : Option Addr) (cp : Nat) (l : List Fld) (hl : l.length ≤ 1000000000) : FnS Tryz.prog gI 35 [.slice A l.length cp] [(A, fcells l)] 47 2 l.length (fcells l) := by
  refine FnE.of tys_ok Tryz.func35 rfl (by kernel_rfl) rfl rfl ?_; intro w hG hP
  have hR : ∀ H, RdA (mkC Tryz.prog gI w hG) H A (fcells l) := fun H => ⟨hP.1.now⟩
  (conv => whnf); repeat ((first | refine tk1 ?_ | refine tk2 ?_ | refine tk3 ?_ | refine tk12 (fun _ => ?_) | refine tk4 ?_ | refine tk5 ?_ | refine tk6 ?_ | refine tk7 ?_ | refine tk8 ?_ | refine tk9 ?_ | refine tk10 (fun _ _ => ?_) | refine tk11 (fun _ => ?_) | refine tk13 ?_ | refine tk14 ?_); (conv => whnf))
  refine OthP.nilEq tys_ok rfl rfl ?_
  cases A with
  | none =>
    obtain rfl := fcells_eq_nil (rdw_nil hP.1)
    (conv => whnf); repeat ((first | refine tk1 ?_ | refine tk2 ?_ | refine tk3 ?_ | refine tk12 (fun _ => ?_) | refine tk4 ?_ | refine tk5 ?_ | refine tk6 ?_ | refine tk7 ?_ | refine tk8 ?_ | refine tk9 ?_ | refine tk10 (fun _ _ => ?_) | refine tk11 (fun _ => ?_) | refine tk13 ?_ | refine tk14 ?_); (conv => whnf))
    exact rowPost.nil _ _
  | some a =>
    (conv => whnf); repeat ((first | refine tk1 ?_ | refine tk2 ?_ | refine tk3 ?_ | refine tk12 (fun _ => ?_) | refine tk4 ?_ | refine tk5 ?_ | refine tk6 ?_ | refine tk7 ?_ | refine tk8 ?_ | refine tk9 ?_ | refine tk10 (fun _ _ => ?_) | refine tk11 (fun _ => ?_) | refine tk13 ?_ | refine tk14 ?_); (conv => whnf))
    refine AppS.tc SrcK.tc (by rw [fcells_length]; omega) (fcells_one l) (by decide) (by omega) (by omega) (zs := fcells l) (by simp) (fun B cq => ?_)
    rw [Nat.zero_add]
    (conv => whnf); repeat ((first | refine tk1 ?_ | refine tk2 ?_ | refine tk3 ?_ | refine tk12 (fun _ => ?_) | refine tk4 ?_ | refine tk5 ?_ | refine tk6 ?_ | refine tk7 ?_ | refine tk8 ?_ | refine tk9 ?_ | refine tk10 (fun _ _ => ?_) | refine tk11 (fun _ => ?_) | refine tk13 ?_ | refine tk14 ?_); (conv => whnf))
    exact rowPost.of (by simp)
theorem SameFields_r (A B : Option Addr) (cp cq : Nat) (a b : List Fld) (ha : a.length ≤ 1000000000) (hb : b.length ≤ 1000000000) :
    FnR Tryz.prog gI 42 [.slice A a.length cp, .slice B b.length cq] [(A, fcells a), (B, fcells b)] (.bool (decide (a = b))) := by
  refine FnE.of tys_ok Tryz.func42 rfl (by kernel_rfl) rfl rfl ?_; intro w hG hP
  have hA : ∀ H, RdA (mkC Tryz.prog gI w hG) H A (fcells a) := fun H => ⟨hP.1.now⟩
  have hB : ∀ H, RdA (mkC Tryz.prog gI w hG) H B (fcells b) := fun H => ⟨hP.2.1.now⟩
  (conv => whnf); repeat ((first | refine tk1 ?_ | refine tk2 ?_ | refine tk3 ?_ | refine tk12 (fun _ => ?_) | refine tk4 ?_ | refine tk5 ?_ | refine tk6 ?_ | refine tk7 ?_ | refine tk8 ?_ | refine tk9 ?_ | refine tk10 (fun _ _ => ?_) | refine tk11 (fun _ => ?_) | refine tk13 ?_ | refine tk14 ?_); (conv => whnf))
  refine Cmp.cases (fun hz => ?_) (fun hz => ?_)
  · (conv => whnf); repeat ((first | refine tk1 ?_ | refine tk2 ?_ | refine tk3 ?_ | refine tk12 (fun _ => ?_) | refine tk4 ?_ | refine tk5 ?_ | refine tk6 ?_ | refine tk7 ?_ | refine tk8 ?_ | refine tk9 ?_ | refine tk10 (fun _ _ => ?_) | refine tk11 (fun _ => ?_) | refine tk13 ?_ | refine tk14 ?_); (conv => whnf))
    intro w' _
    rw [decide_eq_false (fun h => hz (by rw [h]))]
  have hz' : a.length = b.length := by omega
  (conv => whnf); repeat ((first | refine tk1 ?_ | refine tk2 ?_ | refine tk3 ?_ | refine tk12 (fun _ => ?_) | refine tk4 ?_ | refine tk5 ?_ | refine tk6 ?_ | refine tk7 ?_ | refine tk8 ?_ | refine tk9 ?_ | refine tk10 (fun _ _ => ?_) | refine tk11 (fun _ => ?_) | refine tk13 ?_ | refine tk14 ?_); (conv => whnf))
  refine LoopS.lp tys_ok (fun (k : Nat) u => [.slice A a.length cp, .slice B b.length cq, u 2, u 3, u 4, .int .i64 (k : Nat), u 6, u 7, u 8, u 9, u 10, u 11, u 12, u 13, u 14, u 15, u 16, u 17, u 18, u 19, u 20, u 21, u 22, u 23, u 24, u 25]) (fun _ => [])
    (fun k => k ≤ a.length ∧ a.take k = b.take k) (fun k => a.length - k) 0 ⟨Nat.zero_le _, rfl⟩ rfl (by repeat' (first | exact List.Sublist.refl _ | exact List.nil_sublist _ | apply List.Sublist.cons_cons | apply List.Sublist.cons)) ?_
  intro k u ⟨hk, hI⟩
  (conv => whnf); repeat ((first | refine tk1 ?_ | refine tk2 ?_ | refine tk3 ?_ | refine tk12 (fun _ => ?_) | refine tk4 ?_ | refine tk5 ?_ | refine tk6 ?_ | refine tk7 ?_ | refine tk8 ?_ | refine tk9 ?_ | refine tk10 (fun _ _ => ?_) | refine tk11 (fun _ => ?_) | refine tk13 ?_ | refine tk14 ?_); (conv => whnf))
  refine Cmp.cases (fun hlt => ?_) (fun hlt => ?_)
  · have hka : k < a.length := by omega
    have hkb : k < b.length := by omega
    (conv => whnf); repeat ((first | refine tk1 ?_ | refine tk2 ?_ | refine tk3 ?_ | refine tk12 (fun _ => ?_) | refine tk4 ?_ | refine tk5 ?_ | refine tk6 ?_ | refine tk7 ?_ | refine tk8 ?_ | refine tk9 ?_ | refine tk10 (fun _ _ => ?_) | refine tk11 (fun _ => ?_) | refine tk13 ?_ | refine tk14 ?_); (conv => whnf))
    refine DrawS.go (qs 9) tys_ok mixed (by kernel_rfl) ?_
    (conv => whnf); repeat ((first | refine tk1 ?_ | refine tk2 ?_ | refine tk3 ?_ | refine tk12 (fun _ => ?_) | refine tk4 ?_ | refine tk5 ?_ | refine tk6 ?_ | refine tk7 ?_ | refine tk8 ?_ | refine tk9 ?_ | refine tk10 (fun _ _ => ?_) | refine tk11 (fun _ => ?_) | refine tk13 ?_ | refine tk14 ?_); (conv => whnf))
    refine IdxA.tc (by rw [fcells_length]; omega) (by omega) (by omega) ?_
    (conv => whnf); repeat ((first | refine tk1 ?_ | refine tk2 ?_ | refine tk3 ?_ | refine tk12 (fun _ => ?_) | refine tk4 ?_ | refine tk5 ?_ | refine tk6 ?_ | refine tk7 ?_ | refine tk8 ?_ | refine tk9 ?_ | refine tk10 (fun _ _ => ?_) | refine tk11 (fun _ => ?_) | refine tk13 ?_ | refine tk14 ?_); (conv => whnf))
    refine Ld.taN (fcells_two a k hka) rfl ?_
    (conv => whnf); repeat ((first | refine tk1 ?_ | refine tk2 ?_ | refine tk3 ?_ | refine tk12 (fun _ => ?_) | refine tk4 ?_ | refine tk5 ?_ | refine tk6 ?_ | refine tk7 ?_ | refine tk8 ?_ | refine tk9 ?_ | refine tk10 (fun _ _ => ?_) | refine tk11 (fun _ => ?_) | refine tk13 ?_ | refine tk14 ?_); (conv => whnf))
    refine IdxA.tc (by rw [fcells_length]; omega) (by omega) (by omega) ?_
    (conv => whnf); repeat ((first | refine tk1 ?_ | refine tk2 ?_ | refine tk3 ?_ | refine tk12 (fun _ => ?_) | refine tk4 ?_ | refine tk5 ?_ | refine tk6 ?_ | refine tk7 ?_ | refine tk8 ?_ | refine tk9 ?_ | refine tk10 (fun _ _ => ?_) | refine tk11 (fun _ => ?_) | refine tk13 ?_ | refine tk14 ?_); (conv => whnf))
    refine Ld.taN (fcells_two b k hkb) rfl ?_
    (conv => whnf); repeat ((first | refine tk1 ?_ | refine tk2 ?_ | refine tk3 ?_ | refine tk12 (fun _ => ?_) | refine tk4 ?_ | refine tk5 ?_ | refine tk6 ?_ | refine tk7 ?_ | refine tk8 ?_ | refine tk9 ?_ | refine tk10 (fun _ _ => ?_) | refine tk11 (fun _ => ?_) | refine tk13 ?_ | refine tk14 ?_); (conv => whnf))
    refine OthP.neF rfl rfl rfl ?_
    cases hq : (a[k].1 == b[k].1 && a[k].2 == b[k].2)
    · (conv => whnf); repeat ((first | refine tk1 ?_ | refine tk2 ?_ | refine tk3 ?_ | refine tk12 (fun _ => ?_) | refine tk4 ?_ | refine tk5 ?_ | refine tk6 ?_ | refine tk7 ?_ | refine tk8 ?_ | refine tk9 ?_ | refine tk10 (fun _ _ => ?_) | refine tk11 (fun _ => ?_) | refine tk13 ?_ | refine tk14 ?_); (conv => whnf))
      intro w' _
      rw [decide_eq_false (fun h => by subst h; simp at hq)]
    · have hq' : a[k] = b[k] := by simp at hq; exact Prod.ext hq.1 hq.2
      (conv => whnf); repeat ((first | refine tk1 ?_ | refine tk2 ?_ | refine tk3 ?_ | refine tk12 (fun _ => ?_) | refine tk4 ?_ | refine tk5 ?_ | refine tk6 ?_ | refine tk7 ?_ | refine tk8 ?_ | refine tk9 ?_ | refine tk10 (fun _ _ => ?_) | refine tk11 (fun _ => ?_) | refine tk13 ?_ | refine tk14 ?_); (conv => whnf))
      exact ⟨k + 1, ⟨by omega, by rw [List.take_succ_eq_append_getElem hka, List.take_succ_eq_append_getElem hkb, hI, hq']⟩, rfl, (by repeat' (first | exact List.Sublist.refl _ | exact List.nil_sublist _ | apply List.Sublist.cons_cons | apply List.Sublist.cons)), by dsimp only; omega⟩
  · (conv => whnf); repeat ((first | refine tk1 ?_ | refine tk2 ?_ | refine tk3 ?_ | refine tk12 (fun _ => ?_) | refine tk4 ?_ | refine tk5 ?_ | refine tk6 ?_ | refine tk7 ?_ | refine tk8 ?_ | refine tk9 ?_ | refine tk10 (fun _ _ => ?_) | refine tk11 (fun _ => ?_) | refine tk13 ?_ | refine tk14 ?_); (conv => whnf))
    intro w' _
    have : a = b := by rw [List.take_of_length_le (by omega), List.take_of_length_le (by omega)] at hI; exact hI
    rw [decide_eq_true this]
theorem Great18_b (A : Option Addr) (cp : Nat) (l : List Fld) : FnE Tryz.prog gI 32 [.slice A l.length cp] (fun w => Rdw w A (fcells l)) fun _ v _ => ∃ b, v = .bool b :=
  ⟨(Great_r (gI := gI) A cp l).can, fun w hG hp => ((Great_r A cp l).ok w hG ⟨hp, trivial⟩).mono fun _ _ ⟨v, he, hv, hr⟩ => ⟨v, he, ⟨_, hv⟩, hr⟩⟩
theorem rdw_addr {w : World} {A : Option Addr} {x : Value} {xs : List Value} (h : Rdw w A (x :: xs)) : ∃ b o, A = some ⟨b, o, none⟩ ∧ b < w.heap.size := by
  obtain ⟨a, ha, hc⟩ := h 0 x rfl
  obtain ⟨b, o, sp⟩ := a
  have hs : sp = none := by
    cases sp with
    | none => rfl
    | some s =>
      exfalso
      have : (⟨b, o, some s⟩ : Addr).add 0 = ⟨b, o, some s⟩ ∨ ((⟨b, o, some s⟩ : Addr).add 0).spot.isSome = true := by
        right; unfold Addr.add; split <;> simp_all
      unfold World.cell? at hc
      rcases this with h | h <;> simp [h] at hc <;> split at hc <;> simp_all
  subst hs
  refine ⟨b, o, ha, ?_⟩
  have := World.block_lt_of_cell? _ _ hc
  rwa [add_block] at this
theorem mem_bytes (l : List (List UInt8)) (x : List UInt8) : (⟨⟨x⟩⟩ : ByteArray) ∈ l.map (fun y => (⟨⟨y⟩⟩ : ByteArray)) ↔ x ∈ l := by
  constructor
  · intro h
    obtain ⟨y, hy, e⟩ := List.mem_map.1 h
    cases e
    exact hy
  · exact fun h => List.mem_map.2 ⟨x, h, rfl⟩
theorem Contains_f (A : Option Addr) (cp : Nat) (l : List (List UInt8)) (x : List UInt8) (hl : l.length ≤ 1000000000) : FnR Tryz.prog gI 45 [.slice A l.length cp, str x] [(A, l.map str)] (.bool (l.contains x)) :=
  ⟨callable Tryz.func45 rfl (by kernel_rfl), fun w _ ⟨hr, _⟩ => by
    cases l with
    | nil => exact (Tryz.slices_Contains_string_empty A cp ⟨⟨x⟩⟩ w).mono fun e w' ⟨he, hw⟩ => ⟨_, he, by simp, by rw [hw]; exact R.refl _⟩
    | cons y r =>
      obtain ⟨b, o, rfl, hb⟩ := rdw_addr hr
      have h := Tryz.slices_Contains_string b o (y :: r).length cp ((y :: r).map fun l => ⟨⟨l⟩⟩) ⟨⟨x⟩⟩ w (by rw [List.length_map]; exact Nat.le_refl _) (by omega) (fun j hj => by
        rw [List.length_map] at hj
        obtain ⟨a, ha, hcell⟩ := hr j (str (y :: r)[j]) (by rw [List.getElem?_map, List.getElem?_eq_getElem hj]; rfl)
        cases ha
        rw [Addr.add_lit] at hcell
        rw [hcell, List.getD_eq_getElem?_getD, List.getElem?_map, List.getElem?_eq_getElem hj]
        rfl)
      refine h.mono fun e w' ⟨he, hw⟩ => ⟨_, he, ?_, by rw [hw]; exact R.refl _⟩
      congr 1
      rw [Bool.eq_iff_iff, Lib.containsS_iff, List.take_of_length_le (by rw [List.length_map]; exact Nat.le_refl _), mem_bytes, List.contains_iff_mem]⟩

/-! ## Tags -/
def notTag (r : Nat) : Bool := !tagI (r : Int)
theorem any_not (l : List UInt8) : (l.any fun x => notTag x.toNat) = !l.all tagB := by
  rw [List.not_all_eq_any_not]; rfl
theorem TCheck1_c (x : Nat) (w : World) : Calls Tryz.prog 84 #[.int .i32 (x : Int)] w fun e w' => e = .returned (.bool (notTag x)) ∧ w = w' := by
  go_enter Tryz.func84, Tryz.ntmps84
  go_wp2
  all_goals go_ret
  all_goals refine ⟨ret_bool ?_, rfl⟩
  all_goals simp [notTag, tagI, *]
theorem ContainsFunc_f (s : List UInt8) : Fn Tryz.prog gI 83 [str s, .func (.func 84) ⟨[]⟩ ⟨[]⟩] (.bool (!s.all tagB)) :=
  ⟨callable Tryz.func83 rfl (by kernel_rfl), fun w _ => (Tryz.strings_ContainsFunc 84 #[] (enters_of Tryz.func84 (by kernel_rfl) rfl) notTag ⟨⟨s⟩⟩ w
    (fun W x _ => (TCheck1_c x W).mono fun e w' ⟨he, hw⟩ => ⟨he, 0, hw.symm⟩)).mono fun e w' ⟨he, hb⟩ =>
    ⟨by rw [he]; refine ret_bool ?_; rw [← any_not]; exact idxFrom notTag (fun r h => by simp [notTag, tagI]; omega) ⟨⟨s⟩⟩ (ByteArray.size ⟨⟨s⟩⟩) 0 (by omega), hb⟩⟩
theorem TCheck_f (s : List UInt8) : Fn Tryz.prog gI 47 [str s] (.int .i64 (checkE s)) := by
  refine Fn.of tys_ok Tryz.func47 rfl (by kernel_rfl) rfl rfl ?_; intro w hG
  (conv => whnf); repeat ((first | refine tk1 ?_ | refine tk2 ?_ | refine tk3 ?_ | refine tk12 (fun _ => ?_) | refine tk4 ?_ | refine tk5 ?_ | refine tk6 ?_ | refine tk7 ?_ | refine tk8 ?_ | refine tk9 ?_ | refine tk10 (fun _ _ => ?_) | refine tk11 (fun _ => ?_) | refine tk13 ?_ | refine tk14 ?_); (conv => whnf))
  refine Cmp.cases (fun h1 => ?_) (fun h1 => ?_)
  · subst h1
    (conv => whnf); repeat ((first | refine tk1 ?_ | refine tk2 ?_ | refine tk3 ?_ | refine tk12 (fun _ => ?_) | refine tk4 ?_ | refine tk5 ?_ | refine tk6 ?_ | refine tk7 ?_ | refine tk8 ?_ | refine tk9 ?_ | refine tk10 (fun _ _ => ?_) | refine tk11 (fun _ => ?_) | refine tk13 ?_ | refine tk14 ?_); (conv => whnf))
    rfl
  (conv => whnf); repeat ((first | refine tk1 ?_ | refine tk2 ?_ | refine tk3 ?_ | refine tk12 (fun _ => ?_) | refine tk4 ?_ | refine tk5 ?_ | refine tk6 ?_ | refine tk7 ?_ | refine tk8 ?_ | refine tk9 ?_ | refine tk10 (fun _ _ => ?_) | refine tk11 (fun _ => ?_) | refine tk13 ?_ | refine tk14 ?_); (conv => whnf))
  refine Cmp.cases (fun h2 => ?_) (fun h2 => ?_)
  · rw [show checkE s = 3 by unfold checkE mayB; rw [decide_eq_false (show ¬ s.length ≤ 64 by omega)]; simp]
    (conv => whnf); repeat ((first | refine tk1 ?_ | refine tk2 ?_ | refine tk3 ?_ | refine tk12 (fun _ => ?_) | refine tk4 ?_ | refine tk5 ?_ | refine tk6 ?_ | refine tk7 ?_ | refine tk8 ?_ | refine tk9 ?_ | refine tk10 (fun _ _ => ?_) | refine tk11 (fun _ => ?_) | refine tk13 ?_ | refine tk14 ?_); (conv => whnf))
  (conv => whnf); repeat ((first | refine tk1 ?_ | refine tk2 ?_ | refine tk3 ?_ | refine tk12 (fun _ => ?_) | refine tk4 ?_ | refine tk5 ?_ | refine tk6 ?_ | refine tk7 ?_ | refine tk8 ?_ | refine tk9 ?_ | refine tk10 (fun _ _ => ?_) | refine tk11 (fun _ => ?_) | refine tk13 ?_ | refine tk14 ?_); (conv => whnf))
  refine CallK.fn (ContainsFunc_f s) ?_
  cases h3 : s.all tagB
  · rw [show checkE s = 3 by unfold checkE mayB; rw [h3]; rfl]
    (conv => whnf); repeat ((first | refine tk1 ?_ | refine tk2 ?_ | refine tk3 ?_ | refine tk12 (fun _ => ?_) | refine tk4 ?_ | refine tk5 ?_ | refine tk6 ?_ | refine tk7 ?_ | refine tk8 ?_ | refine tk9 ?_ | refine tk10 (fun _ _ => ?_) | refine tk11 (fun _ => ?_) | refine tk13 ?_ | refine tk14 ?_); (conv => whnf))
  · rw [show checkE s = 0 by unfold checkE mayB; rw [h3, decide_eq_true (show s.length ≤ 64 by omega), decide_eq_true (show 1 ≤ s.length from List.length_pos_iff.2 h1)]; rfl]
    (conv => whnf); repeat ((first | refine tk1 ?_ | refine tk2 ?_ | refine tk3 ?_ | refine tk12 (fun _ => ?_) | refine tk4 ?_ | refine tk5 ?_ | refine tk6 ?_ | refine tk7 ?_ | refine tk8 ?_ | refine tk9 ?_ | refine tk10 (fun _ _ => ?_) | refine tk11 (fun _ => ?_) | refine tk13 ?_ | refine tk14 ?_); (conv => whnf))
def idN : List UInt8 := [105, 100, 101, 110, 116, 105, 116, 121]
theorem ANames_f : FnS Tryz.prog gI 107 [] [] 9 1 3 [str idN, str [103, 122, 105, 112], str [100, 101, 102, 108, 97, 116, 101]] := by
  refine FnE.of tys_ok Tryz.func107 rfl (by kernel_rfl) rfl rfl ?_; intro w hG hP
  (conv => whnf); repeat ((first | refine tk1 ?_ | refine tk2 ?_ | refine tk3 ?_ | refine tk12 (fun _ => ?_) | refine tk4 ?_ | refine tk5 ?_ | refine tk6 ?_ | refine tk7 ?_ | refine tk8 ?_ | refine tk9 ?_ | refine tk10 (fun _ _ => ?_) | refine tk11 (fun _ => ?_) | refine tk13 ?_ | refine tk14 ?_); (conv => whnf))
  exact rowPost.of (List.mem_cons_self ..)
theorem AName0_f : Fn Tryz.prog gI 71 [.int .u8 0] (.tuple #[str idN, .int .i64 0]) := by
  refine Fn.of tys_ok Tryz.func71 rfl (by kernel_rfl) rfl rfl ?_; intro w hG
  (conv => whnf); repeat ((first | refine tk1 ?_ | refine tk2 ?_ | refine tk3 ?_ | refine tk12 (fun _ => ?_) | refine tk4 ?_ | refine tk5 ?_ | refine tk6 ?_ | refine tk7 ?_ | refine tk8 ?_ | refine tk9 ?_ | refine tk10 (fun _ _ => ?_) | refine tk11 (fun _ => ?_) | refine tk13 ?_ | refine tk14 ?_); (conv => whnf))
  refine CallK.fnS ANames_f trivial (fun A cp => ?_)
  (conv => whnf); repeat ((first | refine tk1 ?_ | refine tk2 ?_ | refine tk3 ?_ | refine tk12 (fun _ => ?_) | refine tk4 ?_ | refine tk5 ?_ | refine tk6 ?_ | refine tk7 ?_ | refine tk8 ?_ | refine tk9 ?_ | refine tk10 (fun _ _ => ?_) | refine tk11 (fun _ => ?_) | refine tk13 ?_ | refine tk14 ?_); (conv => whnf))
  refine IdxA.tc (xs := [str idN, str [103, 122, 105, 112], str [100, 101, 102, 108, 97, 116, 101]]) (by decide) (by omega) (by omega) ?_
  (conv => whnf); repeat ((first | refine tk1 ?_ | refine tk2 ?_ | refine tk3 ?_ | refine tk12 (fun _ => ?_) | refine tk4 ?_ | refine tk5 ?_ | refine tk6 ?_ | refine tk7 ?_ | refine tk8 ?_ | refine tk9 ?_ | refine tk10 (fun _ _ => ?_) | refine tk11 (fun _ => ?_) | refine tk13 ?_ | refine tk14 ?_); (conv => whnf))
  refine Ld.ta (xs := [str idN, str [103, 122, 105, 112], str [100, 101, 102, 108, 97, 116, 101]]) (v := str idN) rfl ?_
  (conv => whnf); repeat ((first | refine tk1 ?_ | refine tk2 ?_ | refine tk3 ?_ | refine tk12 (fun _ => ?_) | refine tk4 ?_ | refine tk5 ?_ | refine tk6 ?_ | refine tk7 ?_ | refine tk8 ?_ | refine tk9 ?_ | refine tk10 (fun _ _ => ?_) | refine tk11 (fun _ => ?_) | refine tk13 ?_ | refine tk14 ?_); (conv => whnf))
theorem TMark_f (s : List UInt8) (h : mayB s = true) : Fn Tryz.prog gI 36 [str s, .int .u8 0] (.tuple #[str ([34] ++ s ++ [34]), .int .i64 0]) := by
  have hz : s.length ≤ 64 := by unfold mayB at h; simp at h; exact h.2.2
  refine Fn.of tys_ok Tryz.func36 rfl (by kernel_rfl) rfl rfl ?_; intro w hG
  (conv => whnf); repeat ((first | refine tk1 ?_ | refine tk2 ?_ | refine tk3 ?_ | refine tk12 (fun _ => ?_) | refine tk4 ?_ | refine tk5 ?_ | refine tk6 ?_ | refine tk7 ?_ | refine tk8 ?_ | refine tk9 ?_ | refine tk10 (fun _ _ => ?_) | refine tk11 (fun _ => ?_) | refine tk13 ?_ | refine tk14 ?_); (conv => whnf))
  refine CallK.fn (TCheck_f s) ?_
  rw [show checkE s = 0 by unfold checkE; rw [h]; rfl]
  (conv => whnf); repeat ((first | refine tk1 ?_ | refine tk2 ?_ | refine tk3 ?_ | refine tk12 (fun _ => ?_) | refine tk4 ?_ | refine tk5 ?_ | refine tk6 ?_ | refine tk7 ?_ | refine tk8 ?_ | refine tk9 ?_ | refine tk10 (fun _ _ => ?_) | refine tk11 (fun _ => ?_) | refine tk13 ?_ | refine tk14 ?_); (conv => whnf))
  refine CallK.fn AName0_f ?_
  (conv => whnf); repeat ((first | refine tk1 ?_ | refine tk2 ?_ | refine tk3 ?_ | refine tk12 (fun _ => ?_) | refine tk4 ?_ | refine tk5 ?_ | refine tk6 ?_ | refine tk7 ?_ | refine tk8 ?_ | refine tk9 ?_ | refine tk10 (fun _ _ => ?_) | refine tk11 (fun _ => ?_) | refine tk13 ?_ | refine tk14 ?_); (conv => whnf))
  refine CatS.at (by simp; omega) ?_
  (conv => whnf); repeat ((first | refine tk1 ?_ | refine tk2 ?_ | refine tk3 ?_ | refine tk12 (fun _ => ?_) | refine tk4 ?_ | refine tk5 ?_ | refine tk6 ?_ | refine tk7 ?_ | refine tk8 ?_ | refine tk9 ?_ | refine tk10 (fun _ _ => ?_) | refine tk11 (fun _ => ?_) | refine tk13 ?_ | refine tk14 ?_); (conv => whnf))
  refine CatS.at (by simp; omega) ?_
  (conv => whnf); repeat ((first | refine tk1 ?_ | refine tk2 ?_ | refine tk3 ?_ | refine tk12 (fun _ => ?_) | refine tk4 ?_ | refine tk5 ?_ | refine tk6 ?_ | refine tk7 ?_ | refine tk8 ?_ | refine tk9 ?_ | refine tk10 (fun _ _ => ?_) | refine tk11 (fun _ => ?_) | refine tk13 ?_ | refine tk14 ?_); (conv => whnf))
end Go.Proofs.YtmdmmncoigeijaaGreatDoor.Vex
/- The program's functions on pages, reckoned: own, piece, Check. -/
namespace Go.Proofs.YtmdmmncoigeijaaGreatDoor.Vex
open Go Go.RowKit
set_option maxRecDepth 100000
set_option linter.unusedSectionVars false
variable {gI : GI} [HasMax gI]

theorem Own_f : FnS Tryz.prog gI 46 [] [] 9 1 5 (ownL.map str) := by
  refine FnE.of tys_ok Tryz.func46 rfl (by kernel_rfl) rfl rfl ?_; intro w hG hP
  (conv => whnf); repeat ((first | refine tk1 ?_ | refine tk2 ?_ | refine tk3 ?_ | refine tk12 (fun _ => ?_) | refine tk4 ?_ | refine tk5 ?_ | refine tk6 ?_ | refine tk7 ?_ | refine tk8 ?_ | refine tk9 ?_ | refine tk10 (fun _ _ => ?_) | refine tk11 (fun _ => ?_) | refine tk13 ?_ | refine tk14 ?_); (conv => whnf))
  exact rowPost.of (List.mem_cons_self ..)
theorem piece_f (p : Pce) : Fn Tryz.prog gI 48 [.agg ⟨[.int .u8 p.k.toNat, str p.t, .int .i64 p.m, .bool p.f]⟩] (.bool (pieceOK p)) := by
  refine Fn.of tys_ok Tryz.func48 rfl (by kernel_rfl) rfl rfl ?_; intro w hG
  (repeat' ((conv => whnf); first | (first | refine tk1 ?_ | refine tk2 ?_ | refine tk3 ?_ | refine tk12 (fun _ => ?_) | refine tk4 ?_ | refine tk5 ?_ | refine tk6 ?_ | refine tk7 ?_ | refine tk8 ?_ | refine tk9 ?_ | refine tk10 (fun _ _ => ?_) | refine tk11 (fun _ => ?_) | refine tk13 ?_ | refine tk14 ?_) | refine Cmp.cases (fun _ => ?_) (fun _ => ?_) | refine IdxS.nat (by omega) ?_ | refine IdxS.go (by omega) (by omega) (fun _ _ _ => ?_) | refine SlcS.at (by omega) (by omega) (by omega) ?_ | refine CatS.at (by simp only [List.length_append, List.length_cons, List.length_nil]; omega) ?_ | fail)); all_goals (conv => whnf)
  all_goals (refine congrArg Value.bool ?_; unfold pieceOK; simp_all; try ((repeat' split) <;> first | omega | (simp_all; done) | (simp_all; omega)))
theorem stat_bad {st : Int} {n : Nat} (h : st < 200 ∨ 599 < st ∨ st = 304 ∨ 16 < n ∨ (st = 204 ∧ 0 < n)) : statOK st n = false := by
  unfold statOK
  rw [Bool.eq_false_iff]
  simp only [ne_eq, Bool.and_eq_true, decide_eq_true_eq, Bool.or_eq_true, Bool.not_eq_true', decide_eq_false_iff_not]
  omega
theorem stat_good {st : Int} {n : Nat} (h1 : ¬ st < 200) (h2 : ¬ 599 < st) (h3 : ¬ st = 304) (h4 : ¬ 16 < n) (h5 : ¬ (st = 204 ∧ 0 < n)) : statOK st n = true := by
  unfold statOK
  simp only [Bool.and_eq_true, decide_eq_true_eq, Bool.or_eq_true, Bool.not_eq_true', decide_eq_false_iff_not]
  omega
theorem all_snoc_take {α : Type} (f : α → Bool) (l : List α) (k : Nat) (h : k < l.length) (hk : (l.take k).all f = true) : (l.take (k + 1)).all f = f l[k] := by
  rw [List.take_succ_eq_append_getElem h, List.all_append, hk]; simp
theorem all_bad {α : Type} {f : α → Bool} {l : List α} {x : α} (h : x ∈ l) (hx : f x = false) : l.all f = false := by
  rw [List.all_eq_false]
  exact ⟨x, h, by rw [hx]; exact Bool.false_ne_true⟩
theorem Check27_f (m p : List UInt8) (st : Int) (FA : Option Addr) (Fc : Nat) (F : List Fld) (tag : List UInt8) (press : Bool) (QA : Option Addr) (Qc : Nat) (Q : List Pce) (hF : fsum F ≤ 1048576) (hQ : Q.length ≤ 1048576) :
    FnR Tryz.prog gI 14 [.agg ⟨[str m, str p, .int .i64 st, .slice FA F.length Fc, str tag, .bool press, .slice QA Q.length Qc]⟩] [(FA, fcells F), (QA, pccells Q)] (.int .i64 (pageE st tag F Q)) := by
  have bad : pageOK st tag F Q = false → pageE st tag F Q = 8 := fun h => by unfold pageE; rw [h]; rfl
  have bad1 : statOK st Q.length = false → pageE st tag F Q = 8 := fun h => bad (by unfold pageOK; rw [h]; rfl)
  have hFl := fsum_length F
  refine FnE.of tys_ok Tryz.func14 rfl (by kernel_rfl) rfl rfl ?_; intro w hG hP
  have hRF : ∀ H, RdA (mkC Tryz.prog gI w hG) H FA (fcells F) := fun H => ⟨hP.1.now⟩
  have hRQ : ∀ H, RdA (mkC Tryz.prog gI w hG) H QA (pccells Q) := fun H => ⟨hP.2.1.now⟩
  (conv => whnf); repeat ((first | refine tk1 ?_ | refine tk2 ?_ | refine tk3 ?_ | refine tk12 (fun _ => ?_) | refine tk4 ?_ | refine tk5 ?_ | refine tk6 ?_ | refine tk7 ?_ | refine tk8 ?_ | refine tk9 ?_ | refine tk10 (fun _ _ => ?_) | refine tk11 (fun _ => ?_) | refine tk13 ?_ | refine tk14 ?_); (conv => whnf))
  rename_i b
  refine Cmp.cases (fun c1 => ?_) (fun c1 => ?_)
  · rw [bad1 (stat_bad (by omega))]
    (conv => whnf); repeat ((first | refine tk1 ?_ | refine tk2 ?_ | refine tk3 ?_ | refine tk12 (fun _ => ?_) | refine tk4 ?_ | refine tk5 ?_ | refine tk6 ?_ | refine tk7 ?_ | refine tk8 ?_ | refine tk9 ?_ | refine tk10 (fun _ _ => ?_) | refine tk11 (fun _ => ?_) | refine tk13 ?_ | refine tk14 ?_); (conv => whnf))
    exact fun w' _ => rfl
  (conv => whnf); repeat ((first | refine tk1 ?_ | refine tk2 ?_ | refine tk3 ?_ | refine tk12 (fun _ => ?_) | refine tk4 ?_ | refine tk5 ?_ | refine tk6 ?_ | refine tk7 ?_ | refine tk8 ?_ | refine tk9 ?_ | refine tk10 (fun _ _ => ?_) | refine tk11 (fun _ => ?_) | refine tk13 ?_ | refine tk14 ?_); (conv => whnf))
  refine Cmp.cases (fun c2 => ?_) (fun c2 => ?_)
  · rw [bad1 (stat_bad (by omega))]
    (conv => whnf); repeat ((first | refine tk1 ?_ | refine tk2 ?_ | refine tk3 ?_ | refine tk12 (fun _ => ?_) | refine tk4 ?_ | refine tk5 ?_ | refine tk6 ?_ | refine tk7 ?_ | refine tk8 ?_ | refine tk9 ?_ | refine tk10 (fun _ _ => ?_) | refine tk11 (fun _ => ?_) | refine tk13 ?_ | refine tk14 ?_); (conv => whnf))
    exact fun w' _ => rfl
  (conv => whnf); repeat ((first | refine tk1 ?_ | refine tk2 ?_ | refine tk3 ?_ | refine tk12 (fun _ => ?_) | refine tk4 ?_ | refine tk5 ?_ | refine tk6 ?_ | refine tk7 ?_ | refine tk8 ?_ | refine tk9 ?_ | refine tk10 (fun _ _ => ?_) | refine tk11 (fun _ => ?_) | refine tk13 ?_ | refine tk14 ?_); (conv => whnf))
  refine Cmp.cases (fun c3 => ?_) (fun c3 => ?_)
  · rw [bad1 (stat_bad (by omega))]
    (conv => whnf); repeat ((first | refine tk1 ?_ | refine tk2 ?_ | refine tk3 ?_ | refine tk12 (fun _ => ?_) | refine tk4 ?_ | refine tk5 ?_ | refine tk6 ?_ | refine tk7 ?_ | refine tk8 ?_ | refine tk9 ?_ | refine tk10 (fun _ _ => ?_) | refine tk11 (fun _ => ?_) | refine tk13 ?_ | refine tk14 ?_); (conv => whnf))
    exact fun w' _ => rfl
  (conv => whnf); repeat ((first | refine tk1 ?_ | refine tk2 ?_ | refine tk3 ?_ | refine tk12 (fun _ => ?_) | refine tk4 ?_ | refine tk5 ?_ | refine tk6 ?_ | refine tk7 ?_ | refine tk8 ?_ | refine tk9 ?_ | refine tk10 (fun _ _ => ?_) | refine tk11 (fun _ => ?_) | refine tk13 ?_ | refine tk14 ?_); (conv => whnf))
  refine Cmp.cases (fun c4 => ?_) (fun c4 => ?_)
  · rw [bad1 (stat_bad (by omega))]
    (conv => whnf); repeat ((first | refine tk1 ?_ | refine tk2 ?_ | refine tk3 ?_ | refine tk12 (fun _ => ?_) | refine tk4 ?_ | refine tk5 ?_ | refine tk6 ?_ | refine tk7 ?_ | refine tk8 ?_ | refine tk9 ?_ | refine tk10 (fun _ _ => ?_) | refine tk11 (fun _ => ?_) | refine tk13 ?_ | refine tk14 ?_); (conv => whnf))
    exact fun w' _ => rfl
  (conv => whnf); repeat ((first | refine tk1 ?_ | refine tk2 ?_ | refine tk3 ?_ | refine tk12 (fun _ => ?_) | refine tk4 ?_ | refine tk5 ?_ | refine tk6 ?_ | refine tk7 ?_ | refine tk8 ?_ | refine tk9 ?_ | refine tk10 (fun _ _ => ?_) | refine tk11 (fun _ => ?_) | refine tk13 ?_ | refine tk14 ?_); (conv => whnf))
  refine Cmp.cases (fun c5 => ?_) (fun c5 => ?_)
  · (conv => whnf); repeat ((first | refine tk1 ?_ | refine tk2 ?_ | refine tk3 ?_ | refine tk12 (fun _ => ?_) | refine tk4 ?_ | refine tk5 ?_ | refine tk6 ?_ | refine tk7 ?_ | refine tk8 ?_ | refine tk9 ?_ | refine tk10 (fun _ _ => ?_) | refine tk11 (fun _ => ?_) | refine tk13 ?_ | refine tk14 ?_); (conv => whnf))
    refine Cmp.cases (fun c6 => ?_) (fun c6 => ?_)
    · rw [bad1 (stat_bad (by omega))]
      (conv => whnf); repeat ((first | refine tk1 ?_ | refine tk2 ?_ | refine tk3 ?_ | refine tk12 (fun _ => ?_) | refine tk4 ?_ | refine tk5 ?_ | refine tk6 ?_ | refine tk7 ?_ | refine tk8 ?_ | refine tk9 ?_ | refine tk10 (fun _ _ => ?_) | refine tk11 (fun _ => ?_) | refine tk13 ?_ | refine tk14 ?_); (conv => whnf))
      exact fun w' _ => rfl
    have hst := stat_good (n := Q.length) c1 (by omega) c3 (by omega) (by omega)
    clear c1 c2 c3 c4 c5 c6
    (conv => whnf); repeat ((first | refine tk1 ?_ | refine tk2 ?_ | refine tk3 ?_ | refine tk12 (fun _ => ?_) | refine tk4 ?_ | refine tk5 ?_ | refine tk6 ?_ | refine tk7 ?_ | refine tk8 ?_ | refine tk9 ?_ | refine tk10 (fun _ _ => ?_) | refine tk11 (fun _ => ?_) | refine tk13 ?_ | refine tk14 ?_); (conv => whnf))
    refine LoopS.lp tys_ok (fun (k : Nat) u => [u 0, .pointer (some ⟨b, 0, none⟩), u 2, u 3, u 4, u 5, u 6, u 7, u 8, u 9, u 10, u 11, u 12, u 13, u 14, u 15, u 16, u 17, u 18, u 19, u 20, u 21, u 22, u 23, u 24, u 25, u 26, u 27, u 28, u 29, u 30, u 31, u 32, u 33, u 34, u 35, u 36, u 37, .slice FA F.length Fc, .int .i64 F.length, .int .i64 (k : Nat), u 41, u 42, u 43, u 44, u 45, u 46, u 47, u 48, u 49, u 50, u 51, u 52, u 53, u 54, u 55, u 56, u 57, u 58, u 59, u 60, u 61, u 62, u 63, u 64, u 65, u 66, u 67, u 68, u 69, u 70, u 71, u 72, u 73]) (fun _ => [.box b [str m, str p, .int .i64 st, .slice FA F.length Fc, str tag, .bool press, .slice QA Q.length Qc] 25])
      (fun k => k ≤ F.length ∧ (F.take k).all fldOK = true) (fun k => F.length - k) 0 ⟨Nat.zero_le _, rfl⟩ rfl (by repeat' (first | exact List.Sublist.refl _ | exact List.nil_sublist _ | apply List.Sublist.cons_cons | apply List.Sublist.cons)) ?_
    rintro k u ⟨hk, hI⟩
    (conv => whnf); repeat ((first | refine tk1 ?_ | refine tk2 ?_ | refine tk3 ?_ | refine tk12 (fun _ => ?_) | refine tk4 ?_ | refine tk5 ?_ | refine tk6 ?_ | refine tk7 ?_ | refine tk8 ?_ | refine tk9 ?_ | refine tk10 (fun _ _ => ?_) | refine tk11 (fun _ => ?_) | refine tk13 ?_ | refine tk14 ?_); (conv => whnf))
    refine Cmp.cases (fun hlt => ?_) (fun hlt => ?_)
    · have hlt' : k < F.length := by omega
      have hsn := all_snoc_take fldOK F k hlt' hI
      have h2 := fcells_two F k hlt'
      have hm9 := List.getElem_mem hlt'
      obtain ⟨n, v, hf⟩ : ∃ n v, F[k] = (n, v) := ⟨_, _, rfl⟩
      rw [hf] at hsn h2 hm9
      have hz := fsum_mem hm9
      have badf : fldOK (n, v) = false → pageE st tag F Q = 8 := fun h => bad (by unfold pageOK; rw [all_bad hm9 h]; simp)
      (conv => whnf); repeat ((first | refine tk1 ?_ | refine tk2 ?_ | refine tk3 ?_ | refine tk12 (fun _ => ?_) | refine tk4 ?_ | refine tk5 ?_ | refine tk6 ?_ | refine tk7 ?_ | refine tk8 ?_ | refine tk9 ?_ | refine tk10 (fun _ _ => ?_) | refine tk11 (fun _ => ?_) | refine tk13 ?_ | refine tk14 ?_); (conv => whnf))
      refine IdxA.tc (by rw [fcells_length]; omega) (by omega) (by omega) ?_
      (conv => whnf); repeat ((first | refine tk1 ?_ | refine tk2 ?_ | refine tk3 ?_ | refine tk12 (fun _ => ?_) | refine tk4 ?_ | refine tk5 ?_ | refine tk6 ?_ | refine tk7 ?_ | refine tk8 ?_ | refine tk9 ?_ | refine tk10 (fun _ _ => ?_) | refine tk11 (fun _ => ?_) | refine tk13 ?_ | refine tk14 ?_); (conv => whnf))
      refine Ld.taN h2 rfl ?_
      (conv => whnf); repeat ((first | refine tk1 ?_ | refine tk2 ?_ | refine tk3 ?_ | refine tk12 (fun _ => ?_) | refine tk4 ?_ | refine tk5 ?_ | refine tk6 ?_ | refine tk7 ?_ | refine tk8 ?_ | refine tk9 ?_ | refine tk10 (fun _ _ => ?_) | refine tk11 (fun _ => ?_) | refine tk13 ?_ | refine tk14 ?_); (conv => whnf))
      refine DrawS.go [(0, true), (1, true), (2, true), (3, true), (5, true), (6, true), (4, false), (7, true), (8, true)] tys_ok mixed (by kernel_rfl) ?_
      (conv => whnf); repeat ((first | refine tk1 ?_ | refine tk2 ?_ | refine tk3 ?_ | refine tk12 (fun _ => ?_) | refine tk4 ?_ | refine tk5 ?_ | refine tk6 ?_ | refine tk7 ?_ | refine tk8 ?_ | refine tk9 ?_ | refine tk10 (fun _ _ => ?_) | refine tk11 (fun _ => ?_) | refine tk13 ?_ | refine tk14 ?_); (conv => whnf))
      refine CallQ.fn (Check_f n v (by dsimp only at hz; omega)) ?_
      cases hfo : fieldOK n v
      · rw [show fieldE n v = 3 by unfold fieldE; rw [hfo]; rfl, badf (by unfold fldOK; rw [hfo]; rfl)]
        (conv => whnf); repeat ((first | refine tk1 ?_ | refine tk2 ?_ | refine tk3 ?_ | refine tk12 (fun _ => ?_) | refine tk4 ?_ | refine tk5 ?_ | refine tk6 ?_ | refine tk7 ?_ | refine tk8 ?_ | refine tk9 ?_ | refine tk10 (fun _ _ => ?_) | refine tk11 (fun _ => ?_) | refine tk13 ?_ | refine tk14 ?_); (conv => whnf))
        exact fun w' _ => rfl
      · rw [show fieldE n v = 0 by unfold fieldE; rw [hfo]; rfl]
        (conv => whnf); repeat ((first | refine tk1 ?_ | refine tk2 ?_ | refine tk3 ?_ | refine tk12 (fun _ => ?_) | refine tk4 ?_ | refine tk5 ?_ | refine tk6 ?_ | refine tk7 ?_ | refine tk8 ?_ | refine tk9 ?_ | refine tk10 (fun _ _ => ?_) | refine tk11 (fun _ => ?_) | refine tk13 ?_ | refine tk14 ?_); (conv => whnf))
        refine CallK.fnS Own_f trivial (fun A cp => ?_)
        (conv => whnf); repeat ((first | refine tk1 ?_ | refine tk2 ?_ | refine tk3 ?_ | refine tk12 (fun _ => ?_) | refine tk4 ?_ | refine tk5 ?_ | refine tk6 ?_ | refine tk7 ?_ | refine tk8 ?_ | refine tk9 ?_ | refine tk10 (fun _ _ => ?_) | refine tk11 (fun _ => ?_) | refine tk13 ?_ | refine tk14 ?_); (conv => whnf))
        refine CallQ.fnR (Contains_f A cp ownL n (by decide)) ⟨RdA.ok, trivial⟩ ?_
        cases hc : ownL.contains n
        · rw [show fldOK (n, v) = true by unfold fldOK; rw [hfo, hc]; rfl] at hsn
          (conv => whnf); repeat ((first | refine tk1 ?_ | refine tk2 ?_ | refine tk3 ?_ | refine tk12 (fun _ => ?_) | refine tk4 ?_ | refine tk5 ?_ | refine tk6 ?_ | refine tk7 ?_ | refine tk8 ?_ | refine tk9 ?_ | refine tk10 (fun _ _ => ?_) | refine tk11 (fun _ => ?_) | refine tk13 ?_ | refine tk14 ?_); (conv => whnf))
          exact ⟨k + 1, ⟨by omega, hsn⟩, rfl, (by repeat' (first | exact List.Sublist.refl _ | exact List.nil_sublist _ | apply List.Sublist.cons_cons | apply List.Sublist.cons)), by dsimp only; omega⟩
        · rw [badf (by unfold fldOK; rw [hc]; simp)]
          (conv => whnf); repeat ((first | refine tk1 ?_ | refine tk2 ?_ | refine tk3 ?_ | refine tk12 (fun _ => ?_) | refine tk4 ?_ | refine tk5 ?_ | refine tk6 ?_ | refine tk7 ?_ | refine tk8 ?_ | refine tk9 ?_ | refine tk10 (fun _ _ => ?_) | refine tk11 (fun _ => ?_) | refine tk13 ?_ | refine tk14 ?_); (conv => whnf))
          exact fun w' _ => rfl
    have hFok : F.all fldOK = true := by rw [List.take_of_length_le (by omega)] at hI; exact hI
    clear hI hlt hk
    (conv => whnf); repeat ((first | refine tk1 ?_ | refine tk2 ?_ | refine tk3 ?_ | refine tk12 (fun _ => ?_) | refine tk4 ?_ | refine tk5 ?_ | refine tk6 ?_ | refine tk7 ?_ | refine tk8 ?_ | refine tk9 ?_ | refine tk10 (fun _ _ => ?_) | refine tk11 (fun _ => ?_) | refine tk13 ?_ | refine tk14 ?_); (conv => whnf))
    refine Cmp.cases (fun ht => ?_) (fun ht => ?_)
    · (conv => whnf); repeat ((first | refine tk1 ?_ | refine tk2 ?_ | refine tk3 ?_ | refine tk12 (fun _ => ?_) | refine tk4 ?_ | refine tk5 ?_ | refine tk6 ?_ | refine tk7 ?_ | refine tk8 ?_ | refine tk9 ?_ | refine tk10 (fun _ _ => ?_) | refine tk11 (fun _ => ?_) | refine tk13 ?_ | refine tk14 ?_); (conv => whnf))
      refine CallK.fn (TCheck_f tag) ?_
      cases hm : mayB tag
      · rw [show checkE tag = 3 by unfold checkE; rw [hm]; rfl, bad (by unfold pageOK tagOK; rw [hm, decide_eq_false ht]; simp)]
        (conv => whnf); repeat ((first | refine tk1 ?_ | refine tk2 ?_ | refine tk3 ?_ | refine tk12 (fun _ => ?_) | refine tk4 ?_ | refine tk5 ?_ | refine tk6 ?_ | refine tk7 ?_ | refine tk8 ?_ | refine tk9 ?_ | refine tk10 (fun _ _ => ?_) | refine tk11 (fun _ => ?_) | refine tk13 ?_ | refine tk14 ?_); (conv => whnf))
        exact fun w' _ => rfl
      · rw [show checkE tag = 0 by unfold checkE; rw [hm]; rfl]
        have hto : tagOK tag = true := by unfold tagOK; rw [hm]; simp
        clear hm ht
        (conv => whnf); repeat ((first | refine tk1 ?_ | refine tk2 ?_ | refine tk3 ?_ | refine tk12 (fun _ => ?_) | refine tk4 ?_ | refine tk5 ?_ | refine tk6 ?_ | refine tk7 ?_ | refine tk8 ?_ | refine tk9 ?_ | refine tk10 (fun _ _ => ?_) | refine tk11 (fun _ => ?_) | refine tk13 ?_ | refine tk14 ?_); (conv => whnf))
        refine LoopS.lp tys_ok (fun (k : Nat) u => [u 0, u 1, u 2, u 3, u 4, u 5, u 6, u 7, u 8, u 9, u 10, u 11, u 12, u 13, u 14, u 15, u 16, u 17, u 18, u 19, u 20, u 21, u 22, u 23, u 24, u 25, u 26, u 27, u 28, u 29, u 30, u 31, u 32, u 33, u 34, u 35, u 36, u 37, u 38, u 39, u 40, u 41, u 42, u 43, u 44, u 45, u 46, u 47, u 48, u 49, u 50, u 51, u 52, u 53, u 54, u 55, u 56, u 57, u 58, u 59, u 60, u 61, u 62, u 63, .slice QA Q.length Qc, .int .i64 Q.length, .int .i64 (k : Nat), u 67, u 68, u 69, u 70, u 71, u 72, u 73]) (fun _ => []) (fun k => k ≤ Q.length ∧ (Q.take k).all pieceOK = true) (fun k => Q.length - k) 0 ⟨Nat.zero_le _, rfl⟩ rfl (by repeat' (first | exact List.Sublist.refl _ | exact List.nil_sublist _ | apply List.Sublist.cons_cons | apply List.Sublist.cons)) ?_
        rintro k u ⟨hk, hI⟩
        (conv => whnf); repeat ((first | refine tk1 ?_ | refine tk2 ?_ | refine tk3 ?_ | refine tk12 (fun _ => ?_) | refine tk4 ?_ | refine tk5 ?_ | refine tk6 ?_ | refine tk7 ?_ | refine tk8 ?_ | refine tk9 ?_ | refine tk10 (fun _ _ => ?_) | refine tk11 (fun _ => ?_) | refine tk13 ?_ | refine tk14 ?_); (conv => whnf))
        refine Cmp.cases (fun hlt => ?_) (fun hlt => ?_)
        · have hlt' : k < Q.length := by omega
          have hsn := all_snoc_take pieceOK Q k hlt' hI
          have h4 := (pccells_at Q k hlt').1
          have hm9 := List.getElem_mem hlt'
          obtain ⟨x, hx⟩ : ∃ x, Q[k] = x := ⟨_, rfl⟩
          rw [hx] at hsn h4 hm9
          (conv => whnf); repeat ((first | refine tk1 ?_ | refine tk2 ?_ | refine tk3 ?_ | refine tk12 (fun _ => ?_) | refine tk4 ?_ | refine tk5 ?_ | refine tk6 ?_ | refine tk7 ?_ | refine tk8 ?_ | refine tk9 ?_ | refine tk10 (fun _ _ => ?_) | refine tk11 (fun _ => ?_) | refine tk13 ?_ | refine tk14 ?_); (conv => whnf))
          refine IdxA.tc (by rw [pccells_length]; omega) (by omega) (by omega) ?_
          (conv => whnf); repeat ((first | refine tk1 ?_ | refine tk2 ?_ | refine tk3 ?_ | refine tk12 (fun _ => ?_) | refine tk4 ?_ | refine tk5 ?_ | refine tk6 ?_ | refine tk7 ?_ | refine tk8 ?_ | refine tk9 ?_ | refine tk10 (fun _ _ => ?_) | refine tk11 (fun _ => ?_) | refine tk13 ?_ | refine tk14 ?_); (conv => whnf))
          refine Ld.taN h4 rfl ?_
          (conv => whnf); repeat ((first | refine tk1 ?_ | refine tk2 ?_ | refine tk3 ?_ | refine tk12 (fun _ => ?_) | refine tk4 ?_ | refine tk5 ?_ | refine tk6 ?_ | refine tk7 ?_ | refine tk8 ?_ | refine tk9 ?_ | refine tk10 (fun _ _ => ?_) | refine tk11 (fun _ => ?_) | refine tk13 ?_ | refine tk14 ?_); (conv => whnf))
          refine CallK.fn (piece_f x) ?_
          cases hxo : pieceOK x
          · rw [bad (by unfold pageOK; rw [all_bad hm9 hxo]; simp)]
            (conv => whnf); repeat ((first | refine tk1 ?_ | refine tk2 ?_ | refine tk3 ?_ | refine tk12 (fun _ => ?_) | refine tk4 ?_ | refine tk5 ?_ | refine tk6 ?_ | refine tk7 ?_ | refine tk8 ?_ | refine tk9 ?_ | refine tk10 (fun _ _ => ?_) | refine tk11 (fun _ => ?_) | refine tk13 ?_ | refine tk14 ?_); (conv => whnf))
            exact fun w' _ => rfl
          · rw [hxo] at hsn
            (conv => whnf); repeat ((first | refine tk1 ?_ | refine tk2 ?_ | refine tk3 ?_ | refine tk12 (fun _ => ?_) | refine tk4 ?_ | refine tk5 ?_ | refine tk6 ?_ | refine tk7 ?_ | refine tk8 ?_ | refine tk9 ?_ | refine tk10 (fun _ _ => ?_) | refine tk11 (fun _ => ?_) | refine tk13 ?_ | refine tk14 ?_); (conv => whnf))
            exact ⟨k + 1, ⟨by omega, hsn⟩, rfl, (by repeat' (first | exact List.Sublist.refl _ | exact List.nil_sublist _ | apply List.Sublist.cons_cons | apply List.Sublist.cons)), by dsimp only; omega⟩
        · have hQok : Q.all pieceOK = true := by rw [List.take_of_length_le (by omega)] at hI; exact hI
          rw [show pageE st tag F Q = 0 by unfold pageE pageOK; rw [hst, hFok, hto, hQok]; rfl]
          (conv => whnf); repeat ((first | refine tk1 ?_ | refine tk2 ?_ | refine tk3 ?_ | refine tk12 (fun _ => ?_) | refine tk4 ?_ | refine tk5 ?_ | refine tk6 ?_ | refine tk7 ?_ | refine tk8 ?_ | refine tk9 ?_ | refine tk10 (fun _ _ => ?_) | refine tk11 (fun _ => ?_) | refine tk13 ?_ | refine tk14 ?_); (conv => whnf))
          exact fun w' _ => rfl
    · have hto : tagOK tag = true := by unfold tagOK; rw [decide_eq_true (Classical.not_not.1 ht)]; rfl
      clear ht
      (conv => whnf); repeat ((first | refine tk1 ?_ | refine tk2 ?_ | refine tk3 ?_ | refine tk12 (fun _ => ?_) | refine tk4 ?_ | refine tk5 ?_ | refine tk6 ?_ | refine tk7 ?_ | refine tk8 ?_ | refine tk9 ?_ | refine tk10 (fun _ _ => ?_) | refine tk11 (fun _ => ?_) | refine tk13 ?_ | refine tk14 ?_); (conv => whnf))
      refine LoopS.lp tys_ok (fun (k : Nat) u => [u 0, u 1, u 2, u 3, u 4, u 5, u 6, u 7, u 8, u 9, u 10, u 11, u 12, u 13, u 14, u 15, u 16, u 17, u 18, u 19, u 20, u 21, u 22, u 23, u 24, u 25, u 26, u 27, u 28, u 29, u 30, u 31, u 32, u 33, u 34, u 35, u 36, u 37, u 38, u 39, u 40, u 41, u 42, u 43, u 44, u 45, u 46, u 47, u 48, u 49, u 50, u 51, u 52, u 53, u 54, u 55, u 56, u 57, u 58, u 59, u 60, u 61, u 62, u 63, .slice QA Q.length Qc, .int .i64 Q.length, .int .i64 (k : Nat), u 67, u 68, u 69, u 70, u 71, u 72, u 73]) (fun _ => []) (fun k => k ≤ Q.length ∧ (Q.take k).all pieceOK = true) (fun k => Q.length - k) 0 ⟨Nat.zero_le _, rfl⟩ rfl (by repeat' (first | exact List.Sublist.refl _ | exact List.nil_sublist _ | apply List.Sublist.cons_cons | apply List.Sublist.cons)) ?_
      rintro k u ⟨hk, hI⟩
      (conv => whnf); repeat ((first | refine tk1 ?_ | refine tk2 ?_ | refine tk3 ?_ | refine tk12 (fun _ => ?_) | refine tk4 ?_ | refine tk5 ?_ | refine tk6 ?_ | refine tk7 ?_ | refine tk8 ?_ | refine tk9 ?_ | refine tk10 (fun _ _ => ?_) | refine tk11 (fun _ => ?_) | refine tk13 ?_ | refine tk14 ?_); (conv => whnf))
      refine Cmp.cases (fun hlt => ?_) (fun hlt => ?_)
      · have hlt' : k < Q.length := by omega
        have hsn := all_snoc_take pieceOK Q k hlt' hI
        have h4 := (pccells_at Q k hlt').1
        have hm9 := List.getElem_mem hlt'
        obtain ⟨x, hx⟩ : ∃ x, Q[k] = x := ⟨_, rfl⟩
        rw [hx] at hsn h4 hm9
        (conv => whnf); repeat ((first | refine tk1 ?_ | refine tk2 ?_ | refine tk3 ?_ | refine tk12 (fun _ => ?_) | refine tk4 ?_ | refine tk5 ?_ | refine tk6 ?_ | refine tk7 ?_ | refine tk8 ?_ | refine tk9 ?_ | refine tk10 (fun _ _ => ?_) | refine tk11 (fun _ => ?_) | refine tk13 ?_ | refine tk14 ?_); (conv => whnf))
        refine IdxA.tc (by rw [pccells_length]; omega) (by omega) (by omega) ?_
        (conv => whnf); repeat ((first | refine tk1 ?_ | refine tk2 ?_ | refine tk3 ?_ | refine tk12 (fun _ => ?_) | refine tk4 ?_ | refine tk5 ?_ | refine tk6 ?_ | refine tk7 ?_ | refine tk8 ?_ | refine tk9 ?_ | refine tk10 (fun _ _ => ?_) | refine tk11 (fun _ => ?_) | refine tk13 ?_ | refine tk14 ?_); (conv => whnf))
        refine Ld.taN h4 rfl ?_
        (conv => whnf); repeat ((first | refine tk1 ?_ | refine tk2 ?_ | refine tk3 ?_ | refine tk12 (fun _ => ?_) | refine tk4 ?_ | refine tk5 ?_ | refine tk6 ?_ | refine tk7 ?_ | refine tk8 ?_ | refine tk9 ?_ | refine tk10 (fun _ _ => ?_) | refine tk11 (fun _ => ?_) | refine tk13 ?_ | refine tk14 ?_); (conv => whnf))
        refine CallK.fn (piece_f x) ?_
        cases hxo : pieceOK x
        · rw [bad (by unfold pageOK; rw [all_bad hm9 hxo]; simp)]
          (conv => whnf); repeat ((first | refine tk1 ?_ | refine tk2 ?_ | refine tk3 ?_ | refine tk12 (fun _ => ?_) | refine tk4 ?_ | refine tk5 ?_ | refine tk6 ?_ | refine tk7 ?_ | refine tk8 ?_ | refine tk9 ?_ | refine tk10 (fun _ _ => ?_) | refine tk11 (fun _ => ?_) | refine tk13 ?_ | refine tk14 ?_); (conv => whnf))
          exact fun w' _ => rfl
        · rw [hxo] at hsn
          (conv => whnf); repeat ((first | refine tk1 ?_ | refine tk2 ?_ | refine tk3 ?_ | refine tk12 (fun _ => ?_) | refine tk4 ?_ | refine tk5 ?_ | refine tk6 ?_ | refine tk7 ?_ | refine tk8 ?_ | refine tk9 ?_ | refine tk10 (fun _ _ => ?_) | refine tk11 (fun _ => ?_) | refine tk13 ?_ | refine tk14 ?_); (conv => whnf))
          exact ⟨k + 1, ⟨by omega, hsn⟩, rfl, (by repeat' (first | exact List.Sublist.refl _ | exact List.nil_sublist _ | apply List.Sublist.cons_cons | apply List.Sublist.cons)), by dsimp only; omega⟩
      · have hQok : Q.all pieceOK = true := by rw [List.take_of_length_le (by omega)] at hI; exact hI
        rw [show pageE st tag F Q = 0 by unfold pageE pageOK; rw [hst, hFok, hto, hQok]; rfl]
        (conv => whnf); repeat ((first | refine tk1 ?_ | refine tk2 ?_ | refine tk3 ?_ | refine tk12 (fun _ => ?_) | refine tk4 ?_ | refine tk5 ?_ | refine tk6 ?_ | refine tk7 ?_ | refine tk8 ?_ | refine tk9 ?_ | refine tk10 (fun _ _ => ?_) | refine tk11 (fun _ => ?_) | refine tk13 ?_ | refine tk14 ?_); (conv => whnf))
        exact fun w' _ => rfl
  · have hst := stat_good (n := Q.length) c1 (by omega) c3 (by omega) (by omega)
    clear c1 c2 c3 c4 c5
    (conv => whnf); repeat ((first | refine tk1 ?_ | refine tk2 ?_ | refine tk3 ?_ | refine tk12 (fun _ => ?_) | refine tk4 ?_ | refine tk5 ?_ | refine tk6 ?_ | refine tk7 ?_ | refine tk8 ?_ | refine tk9 ?_ | refine tk10 (fun _ _ => ?_) | refine tk11 (fun _ => ?_) | refine tk13 ?_ | refine tk14 ?_); (conv => whnf))
    refine LoopS.lp tys_ok (fun (k : Nat) u => [u 0, .pointer (some ⟨b, 0, none⟩), u 2, u 3, u 4, u 5, u 6, u 7, u 8, u 9, u 10, u 11, u 12, u 13, u 14, u 15, u 16, u 17, u 18, u 19, u 20, u 21, u 22, u 23, u 24, u 25, u 26, u 27, u 28, u 29, u 30, u 31, u 32, u 33, u 34, u 35, u 36, u 37, .slice FA F.length Fc, .int .i64 F.length, .int .i64 (k : Nat), u 41, u 42, u 43, u 44, u 45, u 46, u 47, u 48, u 49, u 50, u 51, u 52, u 53, u 54, u 55, u 56, u 57, u 58, u 59, u 60, u 61, u 62, u 63, u 64, u 65, u 66, u 67, u 68, u 69, u 70, u 71, u 72, u 73]) (fun _ => [.box b [str m, str p, .int .i64 st, .slice FA F.length Fc, str tag, .bool press, .slice QA Q.length Qc] 25])
      (fun k => k ≤ F.length ∧ (F.take k).all fldOK = true) (fun k => F.length - k) 0 ⟨Nat.zero_le _, rfl⟩ rfl (by repeat' (first | exact List.Sublist.refl _ | exact List.nil_sublist _ | apply List.Sublist.cons_cons | apply List.Sublist.cons)) ?_
    rintro k u ⟨hk, hI⟩
    (conv => whnf); repeat ((first | refine tk1 ?_ | refine tk2 ?_ | refine tk3 ?_ | refine tk12 (fun _ => ?_) | refine tk4 ?_ | refine tk5 ?_ | refine tk6 ?_ | refine tk7 ?_ | refine tk8 ?_ | refine tk9 ?_ | refine tk10 (fun _ _ => ?_) | refine tk11 (fun _ => ?_) | refine tk13 ?_ | refine tk14 ?_); (conv => whnf))
    refine Cmp.cases (fun hlt => ?_) (fun hlt => ?_)
    · have hlt' : k < F.length := by omega
      have hsn := all_snoc_take fldOK F k hlt' hI
      have h2 := fcells_two F k hlt'
      have hm9 := List.getElem_mem hlt'
      obtain ⟨n, v, hf⟩ : ∃ n v, F[k] = (n, v) := ⟨_, _, rfl⟩
      rw [hf] at hsn h2 hm9
      have hz := fsum_mem hm9
      have badf : fldOK (n, v) = false → pageE st tag F Q = 8 := fun h => bad (by unfold pageOK; rw [all_bad hm9 h]; simp)
      (conv => whnf); repeat ((first | refine tk1 ?_ | refine tk2 ?_ | refine tk3 ?_ | refine tk12 (fun _ => ?_) | refine tk4 ?_ | refine tk5 ?_ | refine tk6 ?_ | refine tk7 ?_ | refine tk8 ?_ | refine tk9 ?_ | refine tk10 (fun _ _ => ?_) | refine tk11 (fun _ => ?_) | refine tk13 ?_ | refine tk14 ?_); (conv => whnf))
      refine IdxA.tc (by rw [fcells_length]; omega) (by omega) (by omega) ?_
      (conv => whnf); repeat ((first | refine tk1 ?_ | refine tk2 ?_ | refine tk3 ?_ | refine tk12 (fun _ => ?_) | refine tk4 ?_ | refine tk5 ?_ | refine tk6 ?_ | refine tk7 ?_ | refine tk8 ?_ | refine tk9 ?_ | refine tk10 (fun _ _ => ?_) | refine tk11 (fun _ => ?_) | refine tk13 ?_ | refine tk14 ?_); (conv => whnf))
      refine Ld.taN h2 rfl ?_
      (conv => whnf); repeat ((first | refine tk1 ?_ | refine tk2 ?_ | refine tk3 ?_ | refine tk12 (fun _ => ?_) | refine tk4 ?_ | refine tk5 ?_ | refine tk6 ?_ | refine tk7 ?_ | refine tk8 ?_ | refine tk9 ?_ | refine tk10 (fun _ _ => ?_) | refine tk11 (fun _ => ?_) | refine tk13 ?_ | refine tk14 ?_); (conv => whnf))
      refine DrawS.go [(0, true), (1, true), (2, true), (3, true), (5, true), (6, true), (4, false), (7, true), (8, true)] tys_ok mixed (by kernel_rfl) ?_
      (conv => whnf); repeat ((first | refine tk1 ?_ | refine tk2 ?_ | refine tk3 ?_ | refine tk12 (fun _ => ?_) | refine tk4 ?_ | refine tk5 ?_ | refine tk6 ?_ | refine tk7 ?_ | refine tk8 ?_ | refine tk9 ?_ | refine tk10 (fun _ _ => ?_) | refine tk11 (fun _ => ?_) | refine tk13 ?_ | refine tk14 ?_); (conv => whnf))
      refine CallQ.fn (Check_f n v (by dsimp only at hz; omega)) ?_
      cases hfo : fieldOK n v
      · rw [show fieldE n v = 3 by unfold fieldE; rw [hfo]; rfl, badf (by unfold fldOK; rw [hfo]; rfl)]
        (conv => whnf); repeat ((first | refine tk1 ?_ | refine tk2 ?_ | refine tk3 ?_ | refine tk12 (fun _ => ?_) | refine tk4 ?_ | refine tk5 ?_ | refine tk6 ?_ | refine tk7 ?_ | refine tk8 ?_ | refine tk9 ?_ | refine tk10 (fun _ _ => ?_) | refine tk11 (fun _ => ?_) | refine tk13 ?_ | refine tk14 ?_); (conv => whnf))
        exact fun w' _ => rfl
      · rw [show fieldE n v = 0 by unfold fieldE; rw [hfo]; rfl]
        (conv => whnf); repeat ((first | refine tk1 ?_ | refine tk2 ?_ | refine tk3 ?_ | refine tk12 (fun _ => ?_) | refine tk4 ?_ | refine tk5 ?_ | refine tk6 ?_ | refine tk7 ?_ | refine tk8 ?_ | refine tk9 ?_ | refine tk10 (fun _ _ => ?_) | refine tk11 (fun _ => ?_) | refine tk13 ?_ | refine tk14 ?_); (conv => whnf))
        refine CallK.fnS Own_f trivial (fun A cp => ?_)
        (conv => whnf); repeat ((first | refine tk1 ?_ | refine tk2 ?_ | refine tk3 ?_ | refine tk12 (fun _ => ?_) | refine tk4 ?_ | refine tk5 ?_ | refine tk6 ?_ | refine tk7 ?_ | refine tk8 ?_ | refine tk9 ?_ | refine tk10 (fun _ _ => ?_) | refine tk11 (fun _ => ?_) | refine tk13 ?_ | refine tk14 ?_); (conv => whnf))
        refine CallQ.fnR (Contains_f A cp ownL n (by decide)) ⟨RdA.ok, trivial⟩ ?_
        cases hc : ownL.contains n
        · rw [show fldOK (n, v) = true by unfold fldOK; rw [hfo, hc]; rfl] at hsn
          (conv => whnf); repeat ((first | refine tk1 ?_ | refine tk2 ?_ | refine tk3 ?_ | refine tk12 (fun _ => ?_) | refine tk4 ?_ | refine tk5 ?_ | refine tk6 ?_ | refine tk7 ?_ | refine tk8 ?_ | refine tk9 ?_ | refine tk10 (fun _ _ => ?_) | refine tk11 (fun _ => ?_) | refine tk13 ?_ | refine tk14 ?_); (conv => whnf))
          exact ⟨k + 1, ⟨by omega, hsn⟩, rfl, (by repeat' (first | exact List.Sublist.refl _ | exact List.nil_sublist _ | apply List.Sublist.cons_cons | apply List.Sublist.cons)), by dsimp only; omega⟩
        · rw [badf (by unfold fldOK; rw [hc]; simp)]
          (conv => whnf); repeat ((first | refine tk1 ?_ | refine tk2 ?_ | refine tk3 ?_ | refine tk12 (fun _ => ?_) | refine tk4 ?_ | refine tk5 ?_ | refine tk6 ?_ | refine tk7 ?_ | refine tk8 ?_ | refine tk9 ?_ | refine tk10 (fun _ _ => ?_) | refine tk11 (fun _ => ?_) | refine tk13 ?_ | refine tk14 ?_); (conv => whnf))
          exact fun w' _ => rfl
    have hFok : F.all fldOK = true := by rw [List.take_of_length_le (by omega)] at hI; exact hI
    clear hI hlt hk
    (conv => whnf); repeat ((first | refine tk1 ?_ | refine tk2 ?_ | refine tk3 ?_ | refine tk12 (fun _ => ?_) | refine tk4 ?_ | refine tk5 ?_ | refine tk6 ?_ | refine tk7 ?_ | refine tk8 ?_ | refine tk9 ?_ | refine tk10 (fun _ _ => ?_) | refine tk11 (fun _ => ?_) | refine tk13 ?_ | refine tk14 ?_); (conv => whnf))
    refine Cmp.cases (fun ht => ?_) (fun ht => ?_)
    · (conv => whnf); repeat ((first | refine tk1 ?_ | refine tk2 ?_ | refine tk3 ?_ | refine tk12 (fun _ => ?_) | refine tk4 ?_ | refine tk5 ?_ | refine tk6 ?_ | refine tk7 ?_ | refine tk8 ?_ | refine tk9 ?_ | refine tk10 (fun _ _ => ?_) | refine tk11 (fun _ => ?_) | refine tk13 ?_ | refine tk14 ?_); (conv => whnf))
      refine CallK.fn (TCheck_f tag) ?_
      cases hm : mayB tag
      · rw [show checkE tag = 3 by unfold checkE; rw [hm]; rfl, bad (by unfold pageOK tagOK; rw [hm, decide_eq_false ht]; simp)]
        (conv => whnf); repeat ((first | refine tk1 ?_ | refine tk2 ?_ | refine tk3 ?_ | refine tk12 (fun _ => ?_) | refine tk4 ?_ | refine tk5 ?_ | refine tk6 ?_ | refine tk7 ?_ | refine tk8 ?_ | refine tk9 ?_ | refine tk10 (fun _ _ => ?_) | refine tk11 (fun _ => ?_) | refine tk13 ?_ | refine tk14 ?_); (conv => whnf))
        exact fun w' _ => rfl
      · rw [show checkE tag = 0 by unfold checkE; rw [hm]; rfl]
        have hto : tagOK tag = true := by unfold tagOK; rw [hm]; simp
        clear hm ht
        (conv => whnf); repeat ((first | refine tk1 ?_ | refine tk2 ?_ | refine tk3 ?_ | refine tk12 (fun _ => ?_) | refine tk4 ?_ | refine tk5 ?_ | refine tk6 ?_ | refine tk7 ?_ | refine tk8 ?_ | refine tk9 ?_ | refine tk10 (fun _ _ => ?_) | refine tk11 (fun _ => ?_) | refine tk13 ?_ | refine tk14 ?_); (conv => whnf))
        refine LoopS.lp tys_ok (fun (k : Nat) u => [u 0, u 1, u 2, u 3, u 4, u 5, u 6, u 7, u 8, u 9, u 10, u 11, u 12, u 13, u 14, u 15, u 16, u 17, u 18, u 19, u 20, u 21, u 22, u 23, u 24, u 25, u 26, u 27, u 28, u 29, u 30, u 31, u 32, u 33, u 34, u 35, u 36, u 37, u 38, u 39, u 40, u 41, u 42, u 43, u 44, u 45, u 46, u 47, u 48, u 49, u 50, u 51, u 52, u 53, u 54, u 55, u 56, u 57, u 58, u 59, u 60, u 61, u 62, u 63, .slice QA Q.length Qc, .int .i64 Q.length, .int .i64 (k : Nat), u 67, u 68, u 69, u 70, u 71, u 72, u 73]) (fun _ => []) (fun k => k ≤ Q.length ∧ (Q.take k).all pieceOK = true) (fun k => Q.length - k) 0 ⟨Nat.zero_le _, rfl⟩ rfl (by repeat' (first | exact List.Sublist.refl _ | exact List.nil_sublist _ | apply List.Sublist.cons_cons | apply List.Sublist.cons)) ?_
        rintro k u ⟨hk, hI⟩
        (conv => whnf); repeat ((first | refine tk1 ?_ | refine tk2 ?_ | refine tk3 ?_ | refine tk12 (fun _ => ?_) | refine tk4 ?_ | refine tk5 ?_ | refine tk6 ?_ | refine tk7 ?_ | refine tk8 ?_ | refine tk9 ?_ | refine tk10 (fun _ _ => ?_) | refine tk11 (fun _ => ?_) | refine tk13 ?_ | refine tk14 ?_); (conv => whnf))
        refine Cmp.cases (fun hlt => ?_) (fun hlt => ?_)
        · have hlt' : k < Q.length := by omega
          have hsn := all_snoc_take pieceOK Q k hlt' hI
          have h4 := (pccells_at Q k hlt').1
          have hm9 := List.getElem_mem hlt'
          obtain ⟨x, hx⟩ : ∃ x, Q[k] = x := ⟨_, rfl⟩
          rw [hx] at hsn h4 hm9
          (conv => whnf); repeat ((first | refine tk1 ?_ | refine tk2 ?_ | refine tk3 ?_ | refine tk12 (fun _ => ?_) | refine tk4 ?_ | refine tk5 ?_ | refine tk6 ?_ | refine tk7 ?_ | refine tk8 ?_ | refine tk9 ?_ | refine tk10 (fun _ _ => ?_) | refine tk11 (fun _ => ?_) | refine tk13 ?_ | refine tk14 ?_); (conv => whnf))
          refine IdxA.tc (by rw [pccells_length]; omega) (by omega) (by omega) ?_
          (conv => whnf); repeat ((first | refine tk1 ?_ | refine tk2 ?_ | refine tk3 ?_ | refine tk12 (fun _ => ?_) | refine tk4 ?_ | refine tk5 ?_ | refine tk6 ?_ | refine tk7 ?_ | refine tk8 ?_ | refine tk9 ?_ | refine tk10 (fun _ _ => ?_) | refine tk11 (fun _ => ?_) | refine tk13 ?_ | refine tk14 ?_); (conv => whnf))
          refine Ld.taN h4 rfl ?_
          (conv => whnf); repeat ((first | refine tk1 ?_ | refine tk2 ?_ | refine tk3 ?_ | refine tk12 (fun _ => ?_) | refine tk4 ?_ | refine tk5 ?_ | refine tk6 ?_ | refine tk7 ?_ | refine tk8 ?_ | refine tk9 ?_ | refine tk10 (fun _ _ => ?_) | refine tk11 (fun _ => ?_) | refine tk13 ?_ | refine tk14 ?_); (conv => whnf))
          refine CallK.fn (piece_f x) ?_
          cases hxo : pieceOK x
          · rw [bad (by unfold pageOK; rw [all_bad hm9 hxo]; simp)]
            (conv => whnf); repeat ((first | refine tk1 ?_ | refine tk2 ?_ | refine tk3 ?_ | refine tk12 (fun _ => ?_) | refine tk4 ?_ | refine tk5 ?_ | refine tk6 ?_ | refine tk7 ?_ | refine tk8 ?_ | refine tk9 ?_ | refine tk10 (fun _ _ => ?_) | refine tk11 (fun _ => ?_) | refine tk13 ?_ | refine tk14 ?_); (conv => whnf))
            exact fun w' _ => rfl
          · rw [hxo] at hsn
            (conv => whnf); repeat ((first | refine tk1 ?_ | refine tk2 ?_ | refine tk3 ?_ | refine tk12 (fun _ => ?_) | refine tk4 ?_ | refine tk5 ?_ | refine tk6 ?_ | refine tk7 ?_ | refine tk8 ?_ | refine tk9 ?_ | refine tk10 (fun _ _ => ?_) | refine tk11 (fun _ => ?_) | refine tk13 ?_ | refine tk14 ?_); (conv => whnf))
            exact ⟨k + 1, ⟨by omega, hsn⟩, rfl, (by repeat' (first | exact List.Sublist.refl _ | exact List.nil_sublist _ | apply List.Sublist.cons_cons | apply List.Sublist.cons)), by dsimp only; omega⟩
        · have hQok : Q.all pieceOK = true := by rw [List.take_of_length_le (by omega)] at hI; exact hI
          rw [show pageE st tag F Q = 0 by unfold pageE pageOK; rw [hst, hFok, hto, hQok]; rfl]
          (conv => whnf); repeat ((first | refine tk1 ?_ | refine tk2 ?_ | refine tk3 ?_ | refine tk12 (fun _ => ?_) | refine tk4 ?_ | refine tk5 ?_ | refine tk6 ?_ | refine tk7 ?_ | refine tk8 ?_ | refine tk9 ?_ | refine tk10 (fun _ _ => ?_) | refine tk11 (fun _ => ?_) | refine tk13 ?_ | refine tk14 ?_); (conv => whnf))
          exact fun w' _ => rfl
    · have hto : tagOK tag = true := by unfold tagOK; rw [decide_eq_true (Classical.not_not.1 ht)]; rfl
      clear ht
      (conv => whnf); repeat ((first | refine tk1 ?_ | refine tk2 ?_ | refine tk3 ?_ | refine tk12 (fun _ => ?_) | refine tk4 ?_ | refine tk5 ?_ | refine tk6 ?_ | refine tk7 ?_ | refine tk8 ?_ | refine tk9 ?_ | refine tk10 (fun _ _ => ?_) | refine tk11 (fun _ => ?_) | refine tk13 ?_ | refine tk14 ?_); (conv => whnf))
      refine LoopS.lp tys_ok (fun (k : Nat) u => [u 0, u 1, u 2, u 3, u 4, u 5, u 6, u 7, u 8, u 9, u 10, u 11, u 12, u 13, u 14, u 15, u 16, u 17, u 18, u 19, u 20, u 21, u 22, u 23, u 24, u 25, u 26, u 27, u 28, u 29, u 30, u 31, u 32, u 33, u 34, u 35, u 36, u 37, u 38, u 39, u 40, u 41, u 42, u 43, u 44, u 45, u 46, u 47, u 48, u 49, u 50, u 51, u 52, u 53, u 54, u 55, u 56, u 57, u 58, u 59, u 60, u 61, u 62, u 63, .slice QA Q.length Qc, .int .i64 Q.length, .int .i64 (k : Nat), u 67, u 68, u 69, u 70, u 71, u 72, u 73]) (fun _ => []) (fun k => k ≤ Q.length ∧ (Q.take k).all pieceOK = true) (fun k => Q.length - k) 0 ⟨Nat.zero_le _, rfl⟩ rfl (by repeat' (first | exact List.Sublist.refl _ | exact List.nil_sublist _ | apply List.Sublist.cons_cons | apply List.Sublist.cons)) ?_
      rintro k u ⟨hk, hI⟩
      (conv => whnf); repeat ((first | refine tk1 ?_ | refine tk2 ?_ | refine tk3 ?_ | refine tk12 (fun _ => ?_) | refine tk4 ?_ | refine tk5 ?_ | refine tk6 ?_ | refine tk7 ?_ | refine tk8 ?_ | refine tk9 ?_ | refine tk10 (fun _ _ => ?_) | refine tk11 (fun _ => ?_) | refine tk13 ?_ | refine tk14 ?_); (conv => whnf))
      refine Cmp.cases (fun hlt => ?_) (fun hlt => ?_)
      · have hlt' : k < Q.length := by omega
        have hsn := all_snoc_take pieceOK Q k hlt' hI
        have h4 := (pccells_at Q k hlt').1
        have hm9 := List.getElem_mem hlt'
        obtain ⟨x, hx⟩ : ∃ x, Q[k] = x := ⟨_, rfl⟩
        rw [hx] at hsn h4 hm9
        (conv => whnf); repeat ((first | refine tk1 ?_ | refine tk2 ?_ | refine tk3 ?_ | refine tk12 (fun _ => ?_) | refine tk4 ?_ | refine tk5 ?_ | refine tk6 ?_ | refine tk7 ?_ | refine tk8 ?_ | refine tk9 ?_ | refine tk10 (fun _ _ => ?_) | refine tk11 (fun _ => ?_) | refine tk13 ?_ | refine tk14 ?_); (conv => whnf))
        refine IdxA.tc (by rw [pccells_length]; omega) (by omega) (by omega) ?_
        (conv => whnf); repeat ((first | refine tk1 ?_ | refine tk2 ?_ | refine tk3 ?_ | refine tk12 (fun _ => ?_) | refine tk4 ?_ | refine tk5 ?_ | refine tk6 ?_ | refine tk7 ?_ | refine tk8 ?_ | refine tk9 ?_ | refine tk10 (fun _ _ => ?_) | refine tk11 (fun _ => ?_) | refine tk13 ?_ | refine tk14 ?_); (conv => whnf))
        refine Ld.taN h4 rfl ?_
        (conv => whnf); repeat ((first | refine tk1 ?_ | refine tk2 ?_ | refine tk3 ?_ | refine tk12 (fun _ => ?_) | refine tk4 ?_ | refine tk5 ?_ | refine tk6 ?_ | refine tk7 ?_ | refine tk8 ?_ | refine tk9 ?_ | refine tk10 (fun _ _ => ?_) | refine tk11 (fun _ => ?_) | refine tk13 ?_ | refine tk14 ?_); (conv => whnf))
        refine CallK.fn (piece_f x) ?_
        cases hxo : pieceOK x
        · rw [bad (by unfold pageOK; rw [all_bad hm9 hxo]; simp)]
          (conv => whnf); repeat ((first | refine tk1 ?_ | refine tk2 ?_ | refine tk3 ?_ | refine tk12 (fun _ => ?_) | refine tk4 ?_ | refine tk5 ?_ | refine tk6 ?_ | refine tk7 ?_ | refine tk8 ?_ | refine tk9 ?_ | refine tk10 (fun _ _ => ?_) | refine tk11 (fun _ => ?_) | refine tk13 ?_ | refine tk14 ?_); (conv => whnf))
          exact fun w' _ => rfl
        · rw [hxo] at hsn
          (conv => whnf); repeat ((first | refine tk1 ?_ | refine tk2 ?_ | refine tk3 ?_ | refine tk12 (fun _ => ?_) | refine tk4 ?_ | refine tk5 ?_ | refine tk6 ?_ | refine tk7 ?_ | refine tk8 ?_ | refine tk9 ?_ | refine tk10 (fun _ _ => ?_) | refine tk11 (fun _ => ?_) | refine tk13 ?_ | refine tk14 ?_); (conv => whnf))
          exact ⟨k + 1, ⟨by omega, hsn⟩, rfl, (by repeat' (first | exact List.Sublist.refl _ | exact List.nil_sublist _ | apply List.Sublist.cons_cons | apply List.Sublist.cons)), by dsimp only; omega⟩
      · have hQok : Q.all pieceOK = true := by rw [List.take_of_length_le (by omega)] at hI; exact hI
        rw [show pageE st tag F Q = 0 by unfold pageE pageOK; rw [hst, hFok, hto, hQok]; rfl]
        (conv => whnf); repeat ((first | refine tk1 ?_ | refine tk2 ?_ | refine tk3 ?_ | refine tk12 (fun _ => ?_) | refine tk4 ?_ | refine tk5 ?_ | refine tk6 ?_ | refine tk7 ?_ | refine tk8 ?_ | refine tk9 ?_ | refine tk10 (fun _ _ => ?_) | refine tk11 (fun _ => ?_) | refine tk13 ?_ | refine tk14 ?_); (conv => whnf))
        exact fun w' _ => rfl
end Go.Proofs.YtmdmmncoigeijaaGreatDoor.Vex
/- The program's functions on pages, reckoned: tells, what pieces tell, close. -/
namespace Go.Proofs.YtmdmmncoigeijaaGreatDoor.Vex
open Go Go.RowKit
set_option maxRecDepth 100000
set_option linter.unusedSectionVars false
variable {gI : GI} [HasMax gI]

def tellF (x : Pce) : Nat := if x.k.toNat = 1 then 66 else if x.k.toNat = 2 then 68 else if x.k.toNat = 3 then 69 else 70
def tellM : List (Int × Value) := [(1, .func (.func 66) ⟨[]⟩ ⟨[]⟩), (2, .func (.func 68) ⟨[]⟩ ⟨[]⟩), (3, .func (.func 69) ⟨[]⟩ ⟨[]⟩), (4, .func (.func 70) ⟨[]⟩ ⟨[]⟩)]
abbrev u8V (n : Int) : Value := .int .u8 n
theorem pieceOK_kind {x : Pce} (h : pieceOK x = true) : x.k.toNat = 1 ∨ x.k.toNat = 2 ∨ x.k.toNat = 3 ∨ x.k.toNat = 4 := by
  unfold pieceOK at h
  split at h
  · exact .inl (by assumption)
  · split at h
    · exact .inr (.inl (by assumption))
    · simp only [Bool.and_eq_true, Bool.or_eq_true, decide_eq_true_eq] at h
      exact .inr (.inr h.1)
theorem look_tell {x : Pce} (h : pieceOK x = true) (z : Value) : (mget (x.k.toNat : Int) tellM).getD z = .func (.func (tellF x)) ⟨[]⟩ ⟨[]⟩ := by
  unfold tellF
  rcases pieceOK_kind h with e | e | e | e <;> rw [e] <;> rfl
theorem tells_f : FnH Tryz.prog gI 33 [] (fun _ => True) fun v H => ∃ b, v = .map (some b) ∧ H = [.obj b (mobj u8V tellM)] := by
  refine FnE.of tys_ok Tryz.func33 rfl (by kernel_rfl) rfl rfl ?_; intro w hG hP
  (conv => whnf); repeat ((first | refine tk1 ?_ | refine tk2 ?_ | refine tk3 ?_ | refine tk12 (fun _ => ?_) | refine tk4 ?_ | refine tk5 ?_ | refine tk6 ?_ | refine tk7 ?_ | refine tk8 ?_ | refine tk9 ?_ | refine tk10 (fun _ _ => ?_) | refine tk11 (fun _ => ?_) | refine tk13 ?_ | refine tk14 ?_); (conv => whnf))
  refine Oth.mkMap u8V (fun b => ?_)
  (conv => whnf); repeat ((first | refine tk1 ?_ | refine tk2 ?_ | refine tk3 ?_ | refine tk12 (fun _ => ?_) | refine tk4 ?_ | refine tk5 ?_ | refine tk6 ?_ | refine tk7 ?_ | refine tk8 ?_ | refine tk9 ?_ | refine tk10 (fun _ _ => ?_) | refine tk11 (fun _ => ?_) | refine tk13 ?_ | refine tk14 ?_); (conv => whnf))
  refine OthU.ins (k := (1 : Int)) (intK .u8) tys_ok rfl rfl rfl rfl rfl (by intro h; cases h) rfl ?_
  (conv => whnf); repeat ((first | refine tk1 ?_ | refine tk2 ?_ | refine tk3 ?_ | refine tk12 (fun _ => ?_) | refine tk4 ?_ | refine tk5 ?_ | refine tk6 ?_ | refine tk7 ?_ | refine tk8 ?_ | refine tk9 ?_ | refine tk10 (fun _ _ => ?_) | refine tk11 (fun _ => ?_) | refine tk13 ?_ | refine tk14 ?_); (conv => whnf))
  refine OthU.ins (k := (2 : Int)) (intK .u8) tys_ok rfl rfl rfl rfl rfl (by intro h; cases h) rfl ?_
  (conv => whnf); repeat ((first | refine tk1 ?_ | refine tk2 ?_ | refine tk3 ?_ | refine tk12 (fun _ => ?_) | refine tk4 ?_ | refine tk5 ?_ | refine tk6 ?_ | refine tk7 ?_ | refine tk8 ?_ | refine tk9 ?_ | refine tk10 (fun _ _ => ?_) | refine tk11 (fun _ => ?_) | refine tk13 ?_ | refine tk14 ?_); (conv => whnf))
  refine OthU.ins (k := (3 : Int)) (intK .u8) tys_ok rfl rfl rfl rfl rfl (by intro h; cases h) rfl ?_
  (conv => whnf); repeat ((first | refine tk1 ?_ | refine tk2 ?_ | refine tk3 ?_ | refine tk12 (fun _ => ?_) | refine tk4 ?_ | refine tk5 ?_ | refine tk6 ?_ | refine tk7 ?_ | refine tk8 ?_ | refine tk9 ?_ | refine tk10 (fun _ _ => ?_) | refine tk11 (fun _ => ?_) | refine tk13 ?_ | refine tk14 ?_); (conv => whnf))
  refine OthU.ins (k := (4 : Int)) (intK .u8) tys_ok rfl rfl rfl rfl rfl (by intro h; cases h) rfl ?_
  (conv => whnf); repeat ((first | refine tk1 ?_ | refine tk2 ?_ | refine tk3 ?_ | refine tk12 (fun _ => ?_) | refine tk4 ?_ | refine tk5 ?_ | refine tk6 ?_ | refine tk7 ?_ | refine tk8 ?_ | refine tk9 ?_ | refine tk10 (fun _ _ => ?_) | refine tk11 (fun _ => ?_) | refine tk13 ?_ | refine tk14 ?_); (conv => whnf))
  exact fun w' hw' => ⟨_, ⟨b, rfl, rfl⟩, newH.of hw'⟩
theorem times_rep (s : List UInt8) : ∀ n, times n s = Lib.repeatL s n
  | 0 => rfl
  | n + 1 => by rw [times, times_rep s n, Lib.repeatL_add, Lib.repeatL_one]
theorem Repeat_f (s : List UInt8) (n : Int) (h0 : 0 ≤ n) (h1 : n ≤ 100) (hs : s.length ≤ 1000) : Fn Tryz.prog gI 67 [str s, .int .i64 n] (str (times n.toNat s)) :=
  ⟨callable Tryz.func67 rfl (by kernel_rfl), fun w _ => by
    have h := Tryz.strings_Repeat ⟨⟨s⟩⟩ n.toNat w (by omega) (Nat.le_trans (Nat.mul_le_mul (show (⟨⟨s⟩⟩ : ByteArray).size ≤ 1000 from hs) (show n.toNat ≤ 100 by omega)) (by decide))
    rw [Int.toNat_of_nonneg h0] at h
    exact h.mono fun _ _ ⟨he, hb⟩ => ⟨by rw [he, times_rep], hb⟩⟩
/-- What is told by one piece. -/
abbrev toldV (rm rp rq : List UInt8) (rv : Int) (rf : Value) (BA : Option Addr) (Bn Bc : Nat) (PA : Option Addr) (Pn Pc : Nat) : Value := .agg ⟨[str rm, str rp, str rq, .int .i64 rv, rf, .slice BA Bn Bc, .slice PA Pn Pc]⟩
theorem tell_f (rm rp rq : List UInt8) (rv : Int) (rf : Value) (BA : Option Addr) (B : List UInt8) (Bc : Nat) (PA : Option Addr) (pm : List Fld) (Pc : Nat) (x : Pce) (hx : pieceOK x = true) (hp : fsum pm ≤ 1048576) :
    FnR Tryz.prog gI (tellF x) [.agg ⟨[str rm, str rp, str rq, .int .i64 rv, rf, .slice BA B.length Bc, .slice PA pm.length Pc]⟩, .agg ⟨[.int .u8 x.k.toNat, str x.t, .int .i64 x.m, .bool x.f]⟩] [(PA, fcells pm), (BA, B.map byteV)] (str (tells x B rq pm)) := by
  have hk := pieceOK_kind hx
  have hpl := fsum_length pm
  unfold tellF tells
  rcases hk with e | e | e | e
  · simp only [e]
    unfold pieceOK at hx
    simp only [e, if_true, Bool.and_eq_true, decide_eq_true_eq] at hx
    refine FnE.of tys_ok Tryz.func66 rfl (by kernel_rfl) rfl rfl ?_; intro w hG hP
    (conv => whnf); repeat ((first | refine tk1 ?_ | refine tk2 ?_ | refine tk3 ?_ | refine tk12 (fun _ => ?_) | refine tk4 ?_ | refine tk5 ?_ | refine tk6 ?_ | refine tk7 ?_ | refine tk8 ?_ | refine tk9 ?_ | refine tk10 (fun _ _ => ?_) | refine tk11 (fun _ => ?_) | refine tk13 ?_ | refine tk14 ?_); (conv => whnf))
    refine CallK.fn (Repeat_f x.t x.m hx.2.1 hx.2.2 hx.1) ?_
    (conv => whnf); repeat ((first | refine tk1 ?_ | refine tk2 ?_ | refine tk3 ?_ | refine tk12 (fun _ => ?_) | refine tk4 ?_ | refine tk5 ?_ | refine tk6 ?_ | refine tk7 ?_ | refine tk8 ?_ | refine tk9 ?_ | refine tk10 (fun _ _ => ?_) | refine tk11 (fun _ => ?_) | refine tk13 ?_ | refine tk14 ?_); (conv => whnf))
    exact fun w' _ => rfl
  · simp only [e]
    refine FnE.of tys_ok Tryz.func68 rfl (by kernel_rfl) rfl rfl ?_; intro w hG hP
    have hR : ∀ H, RdA (mkC Tryz.prog gI w hG) H PA (fcells pm) := fun H => ⟨hP.1.now⟩
    (conv => whnf); repeat ((first | refine tk1 ?_ | refine tk2 ?_ | refine tk3 ?_ | refine tk12 (fun _ => ?_) | refine tk4 ?_ | refine tk5 ?_ | refine tk6 ?_ | refine tk7 ?_ | refine tk8 ?_ | refine tk9 ?_ | refine tk10 (fun _ _ => ?_) | refine tk11 (fun _ => ?_) | refine tk13 ?_ | refine tk14 ?_); (conv => whnf))
    rename_i b2 b3
    refine LoopS.lp tys_ok (fun (k : Nat) u => [u 0, u 1, u 2, .pointer (some ⟨b3, 0, none⟩), u 4, u 5, u 6, u 7, .slice PA pm.length Pc, .int .i64 pm.length, .int .i64 (k : Nat), u 11, u 12, u 13, u 14, u 15, u 16, u 17, u 18, u 19, u 20, u 21]) (fun _ => [.box b3 [.int .u8 2, str x.t, .int .i64 x.m, .bool x.f] 73])
      (fun k => k ≤ pm.length ∧ valueAt x.t pm = valueAt x.t (pm.drop k)) (fun k => pm.length - k) 0 ⟨Nat.zero_le _, rfl⟩ rfl (by repeat' (first | exact List.Sublist.refl _ | exact List.nil_sublist _ | apply List.Sublist.cons_cons | apply List.Sublist.cons)) ?_
    rintro k u ⟨hk, hI⟩
    (conv => whnf); repeat ((first | refine tk1 ?_ | refine tk2 ?_ | refine tk3 ?_ | refine tk12 (fun _ => ?_) | refine tk4 ?_ | refine tk5 ?_ | refine tk6 ?_ | refine tk7 ?_ | refine tk8 ?_ | refine tk9 ?_ | refine tk10 (fun _ _ => ?_) | refine tk11 (fun _ => ?_) | refine tk13 ?_ | refine tk14 ?_); (conv => whnf))
    refine Cmp.cases (fun hlt => ?_) (fun hlt => ?_)
    · have hlt' : k < pm.length := by omega
      rw [List.drop_eq_getElem_cons hlt', valueAt] at hI
      (conv => whnf); repeat ((first | refine tk1 ?_ | refine tk2 ?_ | refine tk3 ?_ | refine tk12 (fun _ => ?_) | refine tk4 ?_ | refine tk5 ?_ | refine tk6 ?_ | refine tk7 ?_ | refine tk8 ?_ | refine tk9 ?_ | refine tk10 (fun _ _ => ?_) | refine tk11 (fun _ => ?_) | refine tk13 ?_ | refine tk14 ?_); (conv => whnf))
      refine IdxA.tc (by rw [fcells_length]; omega) (by omega) (by omega) ?_
      (conv => whnf); repeat ((first | refine tk1 ?_ | refine tk2 ?_ | refine tk3 ?_ | refine tk12 (fun _ => ?_) | refine tk4 ?_ | refine tk5 ?_ | refine tk6 ?_ | refine tk7 ?_ | refine tk8 ?_ | refine tk9 ?_ | refine tk10 (fun _ _ => ?_) | refine tk11 (fun _ => ?_) | refine tk13 ?_ | refine tk14 ?_); (conv => whnf))
      refine Ld.taN (fcells_two pm k hlt') rfl ?_
      (conv => whnf); repeat ((first | refine tk1 ?_ | refine tk2 ?_ | refine tk3 ?_ | refine tk12 (fun _ => ?_) | refine tk4 ?_ | refine tk5 ?_ | refine tk6 ?_ | refine tk7 ?_ | refine tk8 ?_ | refine tk9 ?_ | refine tk10 (fun _ _ => ?_) | refine tk11 (fun _ => ?_) | refine tk13 ?_ | refine tk14 ?_); (conv => whnf))
      refine Cmp.cases (fun h1 => ?_) (fun h1 => ?_)
      · rw [if_pos h1] at hI
        (conv => whnf); repeat ((first | refine tk1 ?_ | refine tk2 ?_ | refine tk3 ?_ | refine tk12 (fun _ => ?_) | refine tk4 ?_ | refine tk5 ?_ | refine tk6 ?_ | refine tk7 ?_ | refine tk8 ?_ | refine tk9 ?_ | refine tk10 (fun _ _ => ?_) | refine tk11 (fun _ => ?_) | refine tk13 ?_ | refine tk14 ?_); (conv => whnf))
        exact fun w' _ => congrArg str hI.symm
      · rw [if_neg h1] at hI
        (conv => whnf); repeat ((first | refine tk1 ?_ | refine tk2 ?_ | refine tk3 ?_ | refine tk12 (fun _ => ?_) | refine tk4 ?_ | refine tk5 ?_ | refine tk6 ?_ | refine tk7 ?_ | refine tk8 ?_ | refine tk9 ?_ | refine tk10 (fun _ _ => ?_) | refine tk11 (fun _ => ?_) | refine tk13 ?_ | refine tk14 ?_); (conv => whnf))
        exact ⟨k + 1, ⟨by omega, hI⟩, rfl, (by repeat' (first | exact List.Sublist.refl _ | exact List.nil_sublist _ | apply List.Sublist.cons_cons | apply List.Sublist.cons)), by dsimp only; omega⟩
    · rw [List.drop_eq_nil_of_le (by omega)] at hI
      (conv => whnf); repeat ((first | refine tk1 ?_ | refine tk2 ?_ | refine tk3 ?_ | refine tk12 (fun _ => ?_) | refine tk4 ?_ | refine tk5 ?_ | refine tk6 ?_ | refine tk7 ?_ | refine tk8 ?_ | refine tk9 ?_ | refine tk10 (fun _ _ => ?_) | refine tk11 (fun _ => ?_) | refine tk13 ?_ | refine tk14 ?_); (conv => whnf))
      exact fun w' _ => congrArg str hI.symm
  · simp only [e]
    refine FnE.of tys_ok Tryz.func69 rfl (by kernel_rfl) rfl rfl ?_; intro w hG hP
    have hR : ∀ H, RdA (mkC Tryz.prog gI w hG) H BA (B.map byteV) := fun H => ⟨hP.2.1.now⟩
    (conv => whnf); repeat ((first | refine tk1 ?_ | refine tk2 ?_ | refine tk3 ?_ | refine tk12 (fun _ => ?_) | refine tk4 ?_ | refine tk5 ?_ | refine tk6 ?_ | refine tk7 ?_ | refine tk8 ?_ | refine tk9 ?_ | refine tk10 (fun _ _ => ?_) | refine tk11 (fun _ => ?_) | refine tk13 ?_ | refine tk14 ?_); (conv => whnf))
    refine B2S.tc (xs := B.map byteV) (l := B) rfl rfl ?_
    (conv => whnf); repeat ((first | refine tk1 ?_ | refine tk2 ?_ | refine tk3 ?_ | refine tk12 (fun _ => ?_) | refine tk4 ?_ | refine tk5 ?_ | refine tk6 ?_ | refine tk7 ?_ | refine tk8 ?_ | refine tk9 ?_ | refine tk10 (fun _ _ => ?_) | refine tk11 (fun _ => ?_) | refine tk13 ?_ | refine tk14 ?_); (conv => whnf))
    exact fun w' _ => rfl
  · simp only [e]
    refine FnE.of tys_ok Tryz.func70 rfl (by kernel_rfl) rfl rfl ?_; intro w hG hP
    (conv => whnf); repeat ((first | refine tk1 ?_ | refine tk2 ?_ | refine tk3 ?_ | refine tk12 (fun _ => ?_) | refine tk4 ?_ | refine tk5 ?_ | refine tk6 ?_ | refine tk7 ?_ | refine tk8 ?_ | refine tk9 ?_ | refine tk10 (fun _ _ => ?_) | refine tk11 (fun _ => ?_) | refine tk13 ?_ | refine tk14 ?_); (conv => whnf))
    exact fun w' _ => rfl
/-- The open part is closed: it stands behind the others if it has bytes. -/
theorem close_k {c : Ctx} (hc : Ours Tryz.prog gI c) {f : Bool} {b : Nat} {A : Option Addr} {cp : Nat} {l : List UInt8} {D : Option Addr} {dc : Nat} {ps : List Prt} {X : Hp} {K : Value → Hp → Prop} (hl : l.length ≤ 4000000000) (hd : ps.length ≤ 4000000000)
    (k : ∀ v D' dc' ps', ps'.map pure1 = close1 l f (ps.map pure1) → K v (.box b [.slice none 0 0, .bool false, .slice D' ps'.length dc'] 79 :: .row (.slice D' ps'.length dc') 45 2 ps'.length (pcells ps') :: .row (.slice none 0 0) 5 1 0 [] :: (X ++ rowsP 5 ps'))) :
    CallK c false 34 [.pointer (some ⟨b, 0, none⟩), .bool f] (.box b [.slice A l.length cp, .bool false, .slice D ps.length dc] 79 :: .row (.slice D ps.length dc) 45 2 ps.length (pcells ps) :: .row (.slice A l.length cp) 5 1 l.length (l.map byteV) :: (X ++ rowsP 5 ps)) K := by
  obtain ⟨P, g, w0, M, hM, hG⟩ := c
  obtain ⟨rfl, rfl⟩ := hc
  refine CallK.post ?_
  refine CallK.inl tys_ok Tryz.func34 rfl (by kernel_rfl) rfl rfl ?_
  (conv => whnf); repeat ((first | refine tk1 ?_ | refine tk2 ?_ | refine tk3 ?_ | refine tk12 (fun _ => ?_) | refine tk4 ?_ | refine tk5 ?_ | refine tk6 ?_ | refine tk7 ?_ | refine tk8 ?_ | refine tk9 ?_ | refine tk10 (fun _ _ => ?_) | refine tk11 (fun _ => ?_) | refine tk13 ?_ | refine tk14 ?_); (conv => whnf))
  refine Cmp.cases (fun h1 => ?_) (fun h1 => ?_)
  · have hne : l ≠ [] := fun h => by rw [h] at h1; simp at h1
    (conv => whnf); repeat ((first | refine tk1 ?_ | refine tk2 ?_ | refine tk3 ?_ | refine tk12 (fun _ => ?_) | refine tk4 ?_ | refine tk5 ?_ | refine tk6 ?_ | refine tk7 ?_ | refine tk8 ?_ | refine tk9 ?_ | refine tk10 (fun _ _ => ?_) | refine tk11 (fun _ => ?_) | refine tk13 ?_ | refine tk14 ?_); (conv => whnf))
    refine DrawS.go [(0, true), (1, true), (2, true), (3, true), (4, true), (5, true), (6, true), (7, true), (8, true), (9, false), (10, false), (11, true), (12, true), (13, false)] tys_ok mixed (by kernel_rfl) ?_
    (conv => whnf); repeat ((first | refine tk1 ?_ | refine tk2 ?_ | refine tk3 ?_ | refine tk12 (fun _ => ?_) | refine tk4 ?_ | refine tk5 ?_ | refine tk6 ?_ | refine tk7 ?_ | refine tk8 ?_ | refine tk9 ?_ | refine tk10 (fun _ _ => ?_) | refine tk11 (fun _ => ?_) | refine tk13 ?_ | refine tk14 ?_); (conv => whnf))
    refine AppS.tc (m := 1) (news := [.slice A l.length cp, .bool f]) SrcK.tc rfl (by simp [Value.oneCell']) (by decide) (by omega) (by omega) (zs := pcells (ps ++ [⟨A, cp, l, f⟩])) (by rw [pcells_append]; rfl) (fun D' dc' => ?_)
    rw [show ps.length + 1 = (ps ++ [(⟨A, cp, l, f⟩ : Prt)]).length by simp]
    (conv => whnf); repeat ((first | refine tk1 ?_ | refine tk2 ?_ | refine tk3 ?_ | refine tk12 (fun _ => ?_) | refine tk4 ?_ | refine tk5 ?_ | refine tk6 ?_ | refine tk7 ?_ | refine tk8 ?_ | refine tk9 ?_ | refine tk10 (fun _ _ => ?_) | refine tk11 (fun _ => ?_) | refine tk13 ?_ | refine tk14 ?_); (conv => whnf))
    refine ⟨_, ?_, k _ D' dc' (ps ++ [⟨A, cp, l, f⟩]) (by rw [List.map_append]; unfold close1; rw [if_neg hne]; rfl)⟩
    exact Into.trans (Into.nilRow (e := 5) (sz := 1) Into.refl) (Cv.into (by repeat' (first | exact Cv.nil | exact Cv.refl | exact Cv.close (q := ⟨A, cp, l, f⟩) | refine Cv.cons (by first | exact Pick.here | exact Pick.here.skip | exact Pick.here.skip.skip | exact Pick.here.skip.skip.skip | exact Pick.here.skip.skip.skip.skip | exact Pick.here.skip.skip.skip.skip.skip | exact Pick.here.skip.skip.skip.skip.skip.skip | exact Pick.here.skip.skip.skip.skip.skip.skip.skip | exact Pick.here.skip.skip.skip.skip.skip.skip.skip.skip | exact Pick.here.skip.skip.skip.skip.skip.skip.skip.skip.skip | exact Pick.here.skip.skip.skip.skip.skip.skip.skip.skip.skip.skip | exact Pick.here.skip.skip.skip.skip.skip.skip.skip.skip.skip.skip.skip) ?_ | refine Cv.skip ?_)))
  · have hne : l = [] := List.eq_nil_of_length_eq_zero (by omega)
    subst hne
    (conv => whnf); repeat ((first | refine tk1 ?_ | refine tk2 ?_ | refine tk3 ?_ | refine tk12 (fun _ => ?_) | refine tk4 ?_ | refine tk5 ?_ | refine tk6 ?_ | refine tk7 ?_ | refine tk8 ?_ | refine tk9 ?_ | refine tk10 (fun _ _ => ?_) | refine tk11 (fun _ => ?_) | refine tk13 ?_ | refine tk14 ?_); (conv => whnf))
    refine ⟨_, ?_, k _ D dc ps (by unfold close1; rw [if_pos rfl])⟩
    exact Into.trans (Into.nilRow (e := 5) (sz := 1) Into.refl) (Cv.into (by repeat' (first | exact Cv.nil | exact Cv.refl | refine Cv.cons (by first | exact Pick.here | exact Pick.here.skip | exact Pick.here.skip.skip | exact Pick.here.skip.skip.skip | exact Pick.here.skip.skip.skip.skip | exact Pick.here.skip.skip.skip.skip.skip | exact Pick.here.skip.skip.skip.skip.skip.skip | exact Pick.here.skip.skip.skip.skip.skip.skip.skip | exact Pick.here.skip.skip.skip.skip.skip.skip.skip.skip | exact Pick.here.skip.skip.skip.skip.skip.skip.skip.skip.skip | exact Pick.here.skip.skip.skip.skip.skip.skip.skip.skip.skip.skip | exact Pick.here.skip.skip.skip.skip.skip.skip.skip.skip.skip.skip.skip) ?_ | refine Cv.skip ?_)))
end Go.Proofs.YtmdmmncoigeijaaGreatDoor.Vex
/- The program's functions on pages, reckoned: Answer, Body. -/
namespace Go.Proofs.YtmdmmncoigeijaaGreatDoor.Vex
open Go Go.RowKit
set_option maxRecDepth 100000
set_option linter.unusedSectionVars false
variable {gI : GI} [HasMax gI]

/-- The memory of an answer. -/
structure AnsV where
  fA : Option Addr
  fc : Nat
  pA : Option Addr
  pc : Nat
  ps : List Prt
def AnsV.val (a : Ans) (x : AnsV) : Value := .agg ⟨[.int .i64 a.st, .slice x.fA a.fs.length x.fc, .slice x.pA x.ps.length x.pc, .int .u8 0, str a.tag, .bool a.press]⟩
def AnsV.hd (a : Ans) (x : AnsV) : Hp := [.row (.slice x.fA a.fs.length x.fc) 47 2 a.fs.length (fcells a.fs), .row (.slice x.pA x.ps.length x.pc) 45 2 x.ps.length (pcells x.ps)]
def AnsV.is (a : Ans) (x : AnsV) : Prop := x.ps.map pure1 = a.ps
def AnsV.tl (x : AnsV) : Hp := rowsP 5 x.ps
/-- .. behind an error. -/
def AnsV.nil : AnsV := ⟨none, 0, none, 0, []⟩

structure AL where
  k : Nat
  oA : Option Addr
  oc : Nat
  o : List UInt8
  dA : Option Addr
  dc : Nat
  ps : List Prt
theorem stG_take (l : Prs) (k : Nat) (h : k < l.length) : stG (l.take (k + 1)) = stepG (stG (l.take k)) l[k] := by
  rw [List.take_succ_eq_append_getElem h, stG_snoc]
theorem total_take_succ (l : Prs) (k : Nat) (h : k < l.length) : total (l.take (k + 1)) = total (l.take k) + l[k].1.length := by
  rw [List.take_succ_eq_append_getElem h, total_snoc]

set_option maxHeartbeats 4000000 in
theorem Answer_f (m p : List UInt8) (st : Int) (FA : Option Addr) (Fc : Nat) (F : List Fld) (tag : List UInt8) (press : Bool) (QA : Option Addr) (Qc : Nat) (Q : List Pce)
    (rm rp rq : List UInt8) (rv : Int) (rf : Value) (BA : Option Addr) (B : List UInt8) (Bc : Nat) (PA : Option Addr) (pm : List Fld) (Pc : Nat) (a : Ans) (e : Int)
    (hF : fsum F ≤ 1048576) (hQ : Q.length ≤ 1048576) (hp : fsum pm ≤ 1048576) (hB : B.length ≤ 1048576) (hq : rq.length ≤ 1048576) (h : answerOf st F tag press Q B rq pm = (a, e)) :
    FnT Tryz.prog gI 9 [.agg ⟨[str m, str p, .int .i64 st, .slice FA F.length Fc, str tag, .bool press, .slice QA Q.length Qc]⟩, .agg ⟨[str rm, str rp, str rq, .int .i64 rv, rf, .slice BA B.length Bc]⟩, .slice PA pm.length Pc]
      (fun w => RdL w [(FA, fcells F), (QA, pccells Q), (PA, fcells pm), (BA, B.map byteV)]) (fun x => .tuple #[AnsV.val a x, .int .i64 e]) (AnsV.is a) (AnsV.hd a) AnsV.tl := by
  have hFl := fsum_length F
  have hpl := fsum_length pm
  have hfm : ∀ x ∈ pm, x.2.length ≤ 1048576 := fun x hx => by have := fsum_mem hx; omega
  have hfail : ∀ (z : Int), (a, e) = (ans0, z) → ∀ (w w' : World) (hG : gI.G w), St (mkC Tryz.prog gI w hG) [] w' → ∃ x, Value.tuple #[.agg ⟨[.int .i64 0, .slice none 0 0, .slice none 0 0, .int .u8 0, str [], .bool false]⟩, .int .i64 z] = .tuple #[AnsV.val a x, .int .i64 e] ∧ AnsV.is a x ∧ newH w w' (AnsV.hd a x ++ AnsV.tl x) := fun z hz w w' hG hw' => by
    obtain ⟨rfl, rfl⟩ := Prod.mk.inj hz
    exact ⟨.nil, rfl, rfl, newH.of (((hw'.nilRow 45 2).nilRow 47 2))⟩
  unfold answerOf at h
  refine FnE.of tys_ok Tryz.func9 rfl (by kernel_rfl) rfl rfl ?_; intro w hG hP
  have hRF : ∀ H, RdA (mkC Tryz.prog gI w hG) H FA (fcells F) := fun H => ⟨hP.1.now⟩
  have hRQ : ∀ H, RdA (mkC Tryz.prog gI w hG) H QA (pccells Q) := fun H => ⟨hP.2.1.now⟩
  have hRP : ∀ H, RdA (mkC Tryz.prog gI w hG) H PA (fcells pm) := fun H => ⟨hP.2.2.1.now⟩
  have hRB : ∀ H, RdA (mkC Tryz.prog gI w hG) H BA (B.map byteV) := fun H => ⟨hP.2.2.2.1.now⟩
  (conv => whnf); repeat ((first | refine tk1 ?_ | refine tk2 ?_ | refine tk3 ?_ | refine tk12 (fun _ => ?_) | refine tk4 ?_ | refine tk5 ?_ | refine tk6 ?_ | refine tk7 ?_ | refine tk8 ?_ | refine tk9 ?_ | refine tk10 (fun _ _ => ?_) | refine tk11 (fun _ => ?_) | refine tk13 ?_ | refine tk14 ?_); (conv => whnf))
  rename_i b3 b4 b6
  refine CallK.fnR (Check27_f m p st FA Fc F tag press QA Qc Q hF hQ) ⟨(hRF _).ok, (hRQ _).ok, trivial⟩ ?_
  cases hok : pageOK st tag F Q
  · rw [hok, if_neg Bool.false_ne_true] at h
    rw [show pageE st tag F Q = 8 by unfold pageE; rw [hok]; rfl]
    (conv => whnf); repeat ((first | refine tk1 ?_ | refine tk2 ?_ | refine tk3 ?_ | refine tk12 (fun _ => ?_) | refine tk4 ?_ | refine tk5 ?_ | refine tk6 ?_ | refine tk7 ?_ | refine tk8 ?_ | refine tk9 ?_ | refine tk10 (fun _ _ => ?_) | refine tk11 (fun _ => ?_) | refine tk13 ?_ | refine tk14 ?_); (conv => whnf))
    exact fun w' hw' => hfail 8 h.symm w w' hG (hw'.sub (List.nil_sublist _))
  rw [hok, if_pos rfl] at h
  rw [show pageE st tag F Q = 0 by unfold pageE; rw [hok]; rfl]
  have hall : ∀ x ∈ Q, pieceOK x = true := by
    unfold pageOK at hok
    simp only [Bool.and_eq_true] at hok
    exact List.all_eq_true.1 hok.2.2.2
  have htag : tag ≠ [] → mayB tag = true := fun hne => by
    unfold pageOK tagOK at hok
    simp only [Bool.and_eq_true, Bool.or_eq_true, decide_eq_true_eq] at hok
    exact hok.2.2.1.resolve_left hne
  obtain ⟨tl, htl⟩ : ∃ tl, tl = told B rq pm Q := ⟨_, rfl⟩
  have htll : tl.length = Q.length := by rw [htl]; unfold told; rw [List.length_map]
  have htg : ∀ (k : Nat) (h1 : k < tl.length) (h2 : k < Q.length), tl[k] = (tells Q[k] B rq pm, Q[k].f) := fun k h1 h2 => by
    simp only [htl]; unfold told; rw [List.getElem_map]
  rw [← htl] at h
  (conv => whnf); repeat ((first | refine tk1 ?_ | refine tk2 ?_ | refine tk3 ?_ | refine tk12 (fun _ => ?_) | refine tk4 ?_ | refine tk5 ?_ | refine tk6 ?_ | refine tk7 ?_ | refine tk8 ?_ | refine tk9 ?_ | refine tk10 (fun _ _ => ?_) | refine tk11 (fun _ => ?_) | refine tk13 ?_ | refine tk14 ?_); (conv => whnf))
  refine CallK.fnH tells_f (fun _ _ => trivial) ?_
  rintro v H' ⟨b9, rfl, rfl⟩
  dsimp only [List.cons_append, List.nil_append]
  (conv => whnf); repeat ((first | refine tk1 ?_ | refine tk2 ?_ | refine tk3 ?_ | refine tk12 (fun _ => ?_) | refine tk4 ?_ | refine tk5 ?_ | refine tk6 ?_ | refine tk7 ?_ | refine tk8 ?_ | refine tk9 ?_ | refine tk10 (fun _ _ => ?_) | refine tk11 (fun _ => ?_) | refine tk13 ?_ | refine tk14 ?_); (conv => whnf))
  have hou : Ours Tryz.prog gI (mkC Tryz.prog gI w hG) := ⟨rfl, rfl⟩
  rename_i b11
  refine LoopS.lpT tys_ok (fun (x : AL) u => [u 0, u 1, .slice PA pm.length Pc, .pointer (some ⟨b3, 0, none⟩), .pointer (some ⟨b4, 0, none⟩), u 5, .pointer (some ⟨b6, 0, none⟩), u 7, u 8, .map (some b9), .int .i64 (total (tl.take x.k) : Nat), .pointer (some ⟨b11, 0, none⟩), u 12, u 13, u 14, u 15, u 16, u 17, u 18, u 19, u 20, u 21, u 22, u 23, u 24, u 25, u 26, u 27, .slice QA Q.length Qc, .int .i64 Q.length, .int .i64 (x.k : Nat), u 31, u 32, u 33, u 34, u 35, u 36, u 37, u 38, u 39, u 40, u 41, u 42, u 43, u 44, u 45, u 46, u 47, u 48, u 49, u 50, u 51, u 52, u 53, u 54, u 55, u 56, u 57, u 58, u 59, u 60, u 61, u 62, u 63, u 64, u 65, u 66, u 67, u 68, u 69, u 70, u 71, u 72, u 73, u 74, u 75, u 76, u 77, u 78, u 79, u 80, u 81, u 82, u 83, u 84, u 85, u 86, u 87, u 88, u 89, u 90, u 91, u 92, u 93, u 94, u 95, u 96, u 97, u 98, u 99, u 100, u 101, u 102, u 103])
    (fun x => .box b11 [.slice x.oA x.o.length x.oc, .bool false, .slice x.dA x.ps.length x.dc] 79 :: .row (.slice x.dA x.ps.length x.dc) 45 2 x.ps.length (pcells x.ps) :: .row (.slice x.oA x.o.length x.oc) 5 1 x.o.length (x.o.map byteV) ::
      .box b3 [str m, str p, .int .i64 st, .slice FA F.length Fc, str tag, .bool press, .slice QA Q.length Qc] 25 :: .box b4 [str rm, str rp, str rq, .int .i64 rv, rf, .slice BA B.length Bc] 28 ::
      .box b6 [.int .i64 0, .slice none 0 0, .slice none 0 0, .int .u8 0, str [], .bool false] 32 :: .obj b9 (mobj u8V tellM) :: rowsP 5 x.ps)
    (fun x => x.k ≤ Q.length ∧ (x.o, x.ps.map pure1) = stG (tl.take x.k) ∧ total (tl.take x.k) ≤ 131072) (fun x => Q.length - x.k) ⟨0, none, 0, [], none, 0, []⟩ ⟨Nat.zero_le _, rfl, Nat.zero_le _⟩ rfl ?_ ?_
  · refine Into.trans (Into.nilRow (e := 5) (sz := 1) (Into.nilRow (e := 45) (sz := 2) Into.refl)) (Cv.into (by (try dsimp only); repeat' (first | with_reducible exact Cv.refl | with_reducible exact Cv.left | with_reducible exact Cv.right | with_reducible exact Cv.nil | (with_reducible apply Cv.cons; focus ((repeat (first | with_reducible exact Pick.here | with_reducible apply Pick.skip)); done)) | (apply Cv.cons; focus ((repeat (first | exact Pick.here | apply Pick.skip)); done)) | exact Cv.nil | exact Cv.refl | exact Cv.left | exact Cv.right | refine Cv.skip ?_)))
  rintro ⟨k, oA, oc, o, dA, dc, ps⟩ u ⟨hk, hst, htt⟩
  dsimp only at hk hst htt ⊢
  have hso : o = (stG (tl.take k)).1 := (Prod.mk.inj hst).1
  have hsd : ps.map pure1 = (stG (tl.take k)).2 := (Prod.mk.inj hst).2
  have hol : o.length ≤ 131072 := by have := total_stG (tl.take k); rw [hso]; omega
  have hdl : ps.length ≤ 1048576 := by
    have := stG_length (tl.take k)
    rw [← hsd, List.length_map, List.length_take] at this
    omega
  (conv => whnf); repeat ((first | refine tk1 ?_ | refine tk2 ?_ | refine tk3 ?_ | refine tk12 (fun _ => ?_) | refine tk4 ?_ | refine tk5 ?_ | refine tk6 ?_ | refine tk7 ?_ | refine tk8 ?_ | refine tk9 ?_ | refine tk10 (fun _ _ => ?_) | refine tk11 (fun _ => ?_) | refine tk13 ?_ | refine tk14 ?_); (conv => whnf))
  refine Cmp.cases (fun hlt => ?_) (fun hlt => ?_)
  · have hlt' : k < Q.length := by omega
    have hkt : k < tl.length := by omega
    have hx := hall _ (List.getElem_mem hlt')
    have hg := htg k hkt hlt'
    obtain ⟨x, hxe⟩ : ∃ x, Q[k] = x := ⟨_, rfl⟩
    have hc4 := (pccells_at Q k hlt').1
    rw [hxe] at hx hg hc4
    obtain ⟨s, hs⟩ : ∃ s, tells x B rq pm = s := ⟨_, rfl⟩
    have hsl : s.length ≤ 1048576 := by rw [← hs]; exact tells_le x B rq pm hx 1048576 hB hq hfm (by decide)
    rw [hs] at hg
    have ht1 := total_take_succ tl k hkt
    rw [hg] at ht1
    dsimp only at ht1
    have ht2 := stG_take tl k hkt
    rw [hg, ← hst] at ht2
    (conv => whnf); repeat ((first | refine tk1 ?_ | refine tk2 ?_ | refine tk3 ?_ | refine tk12 (fun _ => ?_) | refine tk4 ?_ | refine tk5 ?_ | refine tk6 ?_ | refine tk7 ?_ | refine tk8 ?_ | refine tk9 ?_ | refine tk10 (fun _ _ => ?_) | refine tk11 (fun _ => ?_) | refine tk13 ?_ | refine tk14 ?_); (conv => whnf))
    refine IdxA.tc (by rw [pccells_length]; omega) (by omega) (by omega) ?_
    (conv => whnf); repeat ((first | refine tk1 ?_ | refine tk2 ?_ | refine tk3 ?_ | refine tk12 (fun _ => ?_) | refine tk4 ?_ | refine tk5 ?_ | refine tk6 ?_ | refine tk7 ?_ | refine tk8 ?_ | refine tk9 ?_ | refine tk10 (fun _ _ => ?_) | refine tk11 (fun _ => ?_) | refine tk13 ?_ | refine tk14 ?_); (conv => whnf))
    refine Ld.taN hc4 rfl ?_
    (conv => whnf); repeat ((first | refine tk1 ?_ | refine tk2 ?_ | refine tk3 ?_ | refine tk12 (fun _ => ?_) | refine tk4 ?_ | refine tk5 ?_ | refine tk6 ?_ | refine tk7 ?_ | refine tk8 ?_ | refine tk9 ?_ | refine tk10 (fun _ _ => ?_) | refine tk11 (fun _ => ?_) | refine tk13 ?_ | refine tk14 ?_); (conv => whnf))
    refine OthP.look (k := (x.k.toNat : Int)) (intK .u8) tys_ok rfl rfl rfl rfl (by intro h; cases h) (by intro h; cases h) rfl (look_tell hx _) ?_
    have hcall := tell_f (gI := gI) rm rp rq rv rf BA B Bc PA pm Pc x hx hp
    rw [hs] at hcall
    obtain ⟨tf, htf⟩ : ∃ tf, tf = tellF x := ⟨_, rfl⟩
    rw [← htf] at hcall ⊢
    (conv => whnf); repeat ((first | refine tk1 ?_ | refine tk2 ?_ | refine tk3 ?_ | refine tk12 (fun _ => ?_) | refine tk4 ?_ | refine tk5 ?_ | refine tk6 ?_ | refine tk7 ?_ | refine tk8 ?_ | refine tk9 ?_ | refine tk10 (fun _ _ => ?_) | refine tk11 (fun _ => ?_) | refine tk13 ?_ | refine tk14 ?_); (conv => whnf))
    refine CallK.fnR hcall ⟨(hRP _).ok, (hRB _).ok, trivial⟩ ?_
    (conv => whnf); repeat ((first | refine tk1 ?_ | refine tk2 ?_ | refine tk3 ?_ | refine tk12 (fun _ => ?_) | refine tk4 ?_ | refine tk5 ?_ | refine tk6 ?_ | refine tk7 ?_ | refine tk8 ?_ | refine tk9 ?_ | refine tk10 (fun _ _ => ?_) | refine tk11 (fun _ => ?_) | refine tk13 ?_ | refine tk14 ?_); (conv => whnf))
    refine Cmp.cases (fun hb => ?_) (fun hb => ?_)
    · rw [if_neg (by have := total_take tl (k + 1); omega)] at h
      (conv => whnf); repeat ((first | refine tk1 ?_ | refine tk2 ?_ | refine tk3 ?_ | refine tk12 (fun _ => ?_) | refine tk4 ?_ | refine tk5 ?_ | refine tk6 ?_ | refine tk7 ?_ | refine tk8 ?_ | refine tk9 ?_ | refine tk10 (fun _ _ => ?_) | refine tk11 (fun _ => ?_) | refine tk13 ?_ | refine tk14 ?_); (conv => whnf))
      exact fun w' hw' => hfail 9 h.symm w w' hG (hw'.sub (List.nil_sublist _))
    (conv => whnf); repeat ((first | refine tk1 ?_ | refine tk2 ?_ | refine tk3 ?_ | refine tk12 (fun _ => ?_) | refine tk4 ?_ | refine tk5 ?_ | refine tk6 ?_ | refine tk7 ?_ | refine tk8 ?_ | refine tk9 ?_ | refine tk10 (fun _ _ => ?_) | refine tk11 (fun _ => ?_) | refine tk13 ?_ | refine tk14 ?_); (conv => whnf))
    refine AppS.tc (m := s.length) (news := s.map byteV) (SrcK.str s) (by simp) (by intro u hu; obtain ⟨y, _, rfl⟩ := List.mem_map.1 hu; rfl) (by decide) (by omega) (by omega) (zs := (o ++ s).map byteV) (by rw [List.map_append]) (fun oA' oc' => ?_)
    rw [show o.length + s.length = (o ++ s).length by simp]
    cases hf : x.f
    · have e1 : stepG (o, ps.map pure1) (s, x.f) = (o ++ s, ps.map pure1) := by unfold stepG; rw [hf]; rfl
      rw [e1] at ht2
      (conv => whnf); repeat ((first | refine tk1 ?_ | refine tk2 ?_ | refine tk3 ?_ | refine tk12 (fun _ => ?_) | refine tk4 ?_ | refine tk5 ?_ | refine tk6 ?_ | refine tk7 ?_ | refine tk8 ?_ | refine tk9 ?_ | refine tk10 (fun _ _ => ?_) | refine tk11 (fun _ => ?_) | refine tk13 ?_ | refine tk14 ?_); (conv => whnf))
      exact ⟨⟨k + 1, oA', oc', o ++ s, dA, dc, ps⟩, ⟨by dsimp only; omega, ht2.symm, by dsimp only; omega⟩, by dsimp only; rw [ht1]; rfl, Cv.into (by (try dsimp only); repeat' (first | with_reducible exact Cv.refl | with_reducible exact Cv.left | with_reducible exact Cv.right | with_reducible exact Cv.nil | (with_reducible apply Cv.cons; focus ((repeat (first | with_reducible exact Pick.here | with_reducible apply Pick.skip)); done)) | (apply Cv.cons; focus ((repeat (first | exact Pick.here | apply Pick.skip)); done)) | exact Cv.nil | exact Cv.refl | exact Cv.left | exact Cv.right | refine Cv.skip ?_)), by dsimp only; omega⟩
    · have e1 : stepG (o, ps.map pure1) (s, x.f) = ([], close1 (o ++ s) true (ps.map pure1)) := by unfold stepG; rw [hf]; rfl
      rw [e1] at ht2
      (conv => whnf); repeat ((first | refine tk1 ?_ | refine tk2 ?_ | refine tk3 ?_ | refine tk12 (fun _ => ?_) | refine tk4 ?_ | refine tk5 ?_ | refine tk6 ?_ | refine tk7 ?_ | refine tk8 ?_ | refine tk9 ?_ | refine tk10 (fun _ _ => ?_) | refine tk11 (fun _ => ?_) | refine tk13 ?_ | refine tk14 ?_); (conv => whnf))
      refine CallK.into (G := .box b11 [.slice oA' (o ++ s).length oc', .bool false, .slice dA ps.length dc] 79 :: .row (.slice dA ps.length dc) 45 2 ps.length (pcells ps) :: .row (.slice oA' (o ++ s).length oc') 5 1 (o ++ s).length ((o ++ s).map byteV) ::
        ([.box b3 [str m, str p, .int .i64 st, .slice FA F.length Fc, str tag, .bool press, .slice QA Q.length Qc] 25, .box b4 [str rm, str rp, str rq, .int .i64 rv, rf, .slice BA B.length Bc] 28, .box b6 [.int .i64 0, .slice none 0 0, .slice none 0 0, .int .u8 0, str [], .bool false] 32, .obj b9 (mobj u8V tellM)] ++ rowsP 5 ps)) (Cv.into (by (try dsimp only); repeat' (first | with_reducible exact Cv.refl | with_reducible exact Cv.left | with_reducible exact Cv.right | with_reducible exact Cv.nil | (with_reducible apply Cv.cons; focus ((repeat (first | with_reducible exact Pick.here | with_reducible apply Pick.skip)); done)) | (apply Cv.cons; focus ((repeat (first | exact Pick.here | apply Pick.skip)); done)) | exact Cv.nil | exact Cv.refl | exact Cv.left | exact Cv.right | refine Cv.skip ?_))) ?_
      refine close_k hou (by rw [List.length_append]; omega) (by omega) (fun v dA' dc' ps' hps => ?_)
      dsimp only [List.cons_append, List.nil_append]
      rw [← hps] at ht2
      (conv => whnf); repeat ((first | refine tk1 ?_ | refine tk2 ?_ | refine tk3 ?_ | refine tk12 (fun _ => ?_) | refine tk4 ?_ | refine tk5 ?_ | refine tk6 ?_ | refine tk7 ?_ | refine tk8 ?_ | refine tk9 ?_ | refine tk10 (fun _ _ => ?_) | refine tk11 (fun _ => ?_) | refine tk13 ?_ | refine tk14 ?_); (conv => whnf))
      exact ⟨⟨k + 1, none, 0, [], dA', dc', ps'⟩, ⟨by dsimp only; omega, ht2.symm, by dsimp only; omega⟩, by dsimp only; rw [ht1]; rfl, Into.refl, by dsimp only; omega⟩
  · have htk : tl.take k = tl := List.take_of_length_le (by omega)
    rw [htk] at hst htt hso hsd
    rw [if_pos htt] at h
    have h9 : (⟨st, ansF tag F, partsG tl, tag, press && !decide (st = 204)⟩ : Ans) = a ∧ 0 = e := Prod.mk.inj h
    (conv => whnf); repeat ((first | refine tk1 ?_ | refine tk2 ?_ | refine tk3 ?_ | refine tk12 (fun _ => ?_) | refine tk4 ?_ | refine tk5 ?_ | refine tk6 ?_ | refine tk7 ?_ | refine tk8 ?_ | refine tk9 ?_ | refine tk10 (fun _ _ => ?_) | refine tk11 (fun _ => ?_) | refine tk13 ?_ | refine tk14 ?_); (conv => whnf))
    refine CallK.into (G := .box b11 [.slice oA o.length oc, .bool false, .slice dA ps.length dc] 79 :: .row (.slice dA ps.length dc) 45 2 ps.length (pcells ps) :: .row (.slice oA o.length oc) 5 1 o.length (o.map byteV) ::
      ([.box b3 [str m, str p, .int .i64 st, .slice FA F.length Fc, str tag, .bool press, .slice QA Q.length Qc] 25, .box b4 [str rm, str rp, str rq, .int .i64 rv, rf, .slice BA B.length Bc] 28, .box b6 [.int .i64 0, .slice none 0 0, .slice none 0 0, .int .u8 0, str [], .bool false] 32, .obj b9 (mobj u8V tellM)] ++ rowsP 5 ps)) Into.refl ?_
    refine close_k hou (by omega) (by omega) (fun v dA' dc' ps' hps => ?_)
    dsimp only [List.cons_append, List.nil_append]
    have hpp : ps'.map pure1 = partsG tl := by rw [hps, hso, hsd]; rfl
    clear hst htt hso hsd hps h
    cases press
    · (conv => whnf); repeat ((first | refine tk1 ?_ | refine tk2 ?_ | refine tk3 ?_ | refine tk12 (fun _ => ?_) | refine tk4 ?_ | refine tk5 ?_ | refine tk6 ?_ | refine tk7 ?_ | refine tk8 ?_ | refine tk9 ?_ | refine tk10 (fun _ _ => ?_) | refine tk11 (fun _ => ?_) | refine tk13 ?_ | refine tk14 ?_); (conv => whnf))
      refine DrawS.joinI (fun (y : Option Addr × Nat × Nat) u => [u 0, u 1, u 2, .pointer (some ⟨b3, 0, none⟩), u 4, u 5, .pointer (some ⟨b6, 0, none⟩), u 7, u 8, u 9, u 10, u 11, u 12, u 13, u 14, .pointer (some ⟨y.2.2, 0, none⟩), u 16, u 17, u 18, u 19, u 20, u 21, u 22, u 23, u 24, u 25, u 26, u 27, u 28, u 29, u 30, u 31, u 32, u 33, u 34, u 35, u 36, u 37, u 38, u 39, u 40, u 41, u 42, u 43, u 44, u 45, u 46, u 47, u 48, u 49, u 50, u 51, u 52, u 53, u 54, u 55, u 56, u 57, u 58, u 59, u 60, u 61, u 62, u 63, u 64, u 65, u 66, u 67, u 68, u 69, u 70, u 71, u 72, u 73, u 74, u 75, u 76, u 77, u 78, u 79, u 80, u 81, u 82, u 83, u 84, u 85, u 86, u 87, u 88, u 89, u 90, u 91, u 92, u 93, u 94, u 95, u 96, u 97, u 98, u 99, u 100, u 101, u 102, u 103])
        (fun y => .box y.2.2 [.int .i64 st, .slice y.1 F.length y.2.1, .slice dA' ps'.length dc', .int .u8 0, str tag, .bool (false)] 32 :: .row (.slice y.1 F.length y.2.1) 47 2 F.length (fcells F) :: .row (.slice dA' ps'.length dc') 45 2 ps'.length (pcells ps') ::
          .box b3 [str m, str p, .int .i64 st, .slice FA F.length Fc, str tag, .bool false, .slice QA Q.length Qc] 25 :: .box b6 [.int .i64 0, .slice none 0 0, .slice none 0 0, .int .u8 0, str [], .bool false] 32 :: rowsP 5 ps')
        [] (.q 0 (.q 1 (.q 2 (.q 3 (.q 5 (.q 6 (.q 7 (.q 8 (.q 9 (.q 10 (.q 11 (.q 12 (.ch 4 (.q 13 (.q 14 (.q 15 (.q 16 (.q 17 (.q 18 (.a 19 (.a 20 (.nil))))))))) (.ch 19 (.a 4 (.q 13 (.q 14 (.q 15 (.q 16 (.q 17 (.q 18 (.a 20 (.nil))))))))) (.stop))))))))))))))) tys_ok mixed (by kernel_rfl) ?_ ?_
      · (repeat' ((conv => whnf); first | (first | refine tk1 ?_ | refine tk2 ?_ | refine tk3 ?_ | refine tk12 (fun _ => ?_) | refine tk4 ?_ | refine tk5 ?_ | refine tk6 ?_ | refine tk7 ?_ | refine tk8 ?_ | refine tk9 ?_ | refine tk10 (fun _ _ => ?_) | refine tk11 (fun _ => ?_) | refine tk13 ?_ | refine tk14 ?_) | refine And.intro ?_ ?_ | exact trivial | exact ⟨(_, _, _), rfl, Cv.into (by (try dsimp only); repeat' (first | with_reducible exact Cv.refl | with_reducible exact Cv.left | with_reducible exact Cv.right | with_reducible exact Cv.nil | (with_reducible apply Cv.cons; focus ((repeat (first | with_reducible exact Pick.here | with_reducible apply Pick.skip)); done)) | (apply Cv.cons; focus ((repeat (first | exact Pick.here | apply Pick.skip)); done)) | exact Cv.nil | exact Cv.refl | exact Cv.left | exact Cv.right | refine Cv.skip ?_))⟩ | (refine CallK.fnS (Clone_f FA Fc F (by omega)) ⟨(hRF _).ok, trivial⟩ (fun A1 c1 => ?_)) | (refine Cmp.of (!decide (st = 204)) (by simp) ?_)))
      rintro ⟨fA, fc, b15⟩ u
      dsimp only
      (conv => whnf); repeat ((first | refine tk1 ?_ | refine tk2 ?_ | refine tk3 ?_ | refine tk12 (fun _ => ?_) | refine tk4 ?_ | refine tk5 ?_ | refine tk6 ?_ | refine tk7 ?_ | refine tk8 ?_ | refine tk9 ?_ | refine tk10 (fun _ _ => ?_) | refine tk11 (fun _ => ?_) | refine tk13 ?_ | refine tk14 ?_); (conv => whnf))
      refine Cmp.cases (fun ht => ?_) (fun ht => ?_)
      · have hfs : ansF tag F = F ++ [(etN, [34] ++ tag ++ [34])] := by unfold ansF; rw [if_neg ht]
        have htz : tag.length ≤ 64 := by have := htag ht; unfold mayB at this; simp at this; exact this.2.2
        rw [hfs] at h9
        obtain ⟨rfl, rfl⟩ := h9
        (conv => whnf); repeat ((first | refine tk1 ?_ | refine tk2 ?_ | refine tk3 ?_ | refine tk12 (fun _ => ?_) | refine tk4 ?_ | refine tk5 ?_ | refine tk6 ?_ | refine tk7 ?_ | refine tk8 ?_ | refine tk9 ?_ | refine tk10 (fun _ _ => ?_) | refine tk11 (fun _ => ?_) | refine tk13 ?_ | refine tk14 ?_); (conv => whnf))
        refine CallK.fn (TMark_f tag (htag ht)) ?_
        (conv => whnf); repeat ((first | refine tk1 ?_ | refine tk2 ?_ | refine tk3 ?_ | refine tk12 (fun _ => ?_) | refine tk4 ?_ | refine tk5 ?_ | refine tk6 ?_ | refine tk7 ?_ | refine tk8 ?_ | refine tk9 ?_ | refine tk10 (fun _ _ => ?_) | refine tk11 (fun _ => ?_) | refine tk13 ?_ | refine tk14 ?_); (conv => whnf))
        refine AppS.tc (m := 1) (news := [str etN, str ([34] ++ tag ++ [34])]) SrcK.tc rfl (by simp [Value.oneCell']) (by decide) (by omega) (by omega) (zs := fcells (F ++ [(etN, [34] ++ tag ++ [34])])) (by rw [fcells_app]; rfl) (fun fA' fc' => ?_)
        rw [show F.length + 1 = (F ++ [(etN, [34] ++ tag ++ [34])]).length by simp]
        (conv => whnf); repeat ((first | refine tk1 ?_ | refine tk2 ?_ | refine tk3 ?_ | refine tk12 (fun _ => ?_) | refine tk4 ?_ | refine tk5 ?_ | refine tk6 ?_ | refine tk7 ?_ | refine tk8 ?_ | refine tk9 ?_ | refine tk10 (fun _ _ => ?_) | refine tk11 (fun _ => ?_) | refine tk13 ?_ | refine tk14 ?_); (conv => whnf))
        exact fun w' hw' => ⟨⟨fA', fc', dA', dc', ps'⟩, rfl, hpp, newH.into hw' (Cv.into (by (try dsimp only); repeat' (first | with_reducible exact Cv.refl | with_reducible exact Cv.left | with_reducible exact Cv.right | with_reducible exact Cv.nil | (with_reducible apply Cv.cons; focus ((repeat (first | with_reducible exact Pick.here | with_reducible apply Pick.skip)); done)) | (apply Cv.cons; focus ((repeat (first | exact Pick.here | apply Pick.skip)); done)) | exact Cv.nil | exact Cv.refl | exact Cv.left | exact Cv.right | refine Cv.skip ?_)))⟩
      · have hfs : ansF tag F = F := by unfold ansF; rw [if_pos (Classical.not_not.1 ht)]
        rw [hfs] at h9
        obtain ⟨rfl, rfl⟩ := h9
        (conv => whnf); repeat ((first | refine tk1 ?_ | refine tk2 ?_ | refine tk3 ?_ | refine tk12 (fun _ => ?_) | refine tk4 ?_ | refine tk5 ?_ | refine tk6 ?_ | refine tk7 ?_ | refine tk8 ?_ | refine tk9 ?_ | refine tk10 (fun _ _ => ?_) | refine tk11 (fun _ => ?_) | refine tk13 ?_ | refine tk14 ?_); (conv => whnf))
        exact fun w' hw' => ⟨⟨fA, fc, dA', dc', ps'⟩, rfl, hpp, newH.into hw' (Cv.into (by (try dsimp only); repeat' (first | with_reducible exact Cv.refl | with_reducible exact Cv.left | with_reducible exact Cv.right | with_reducible exact Cv.nil | (with_reducible apply Cv.cons; focus ((repeat (first | with_reducible exact Pick.here | with_reducible apply Pick.skip)); done)) | (apply Cv.cons; focus ((repeat (first | exact Pick.here | apply Pick.skip)); done)) | exact Cv.nil | exact Cv.refl | exact Cv.left | exact Cv.right | refine Cv.skip ?_)))⟩
    · (conv => whnf); repeat ((first | refine tk1 ?_ | refine tk2 ?_ | refine tk3 ?_ | refine tk12 (fun _ => ?_) | refine tk4 ?_ | refine tk5 ?_ | refine tk6 ?_ | refine tk7 ?_ | refine tk8 ?_ | refine tk9 ?_ | refine tk10 (fun _ _ => ?_) | refine tk11 (fun _ => ?_) | refine tk13 ?_ | refine tk14 ?_); (conv => whnf))
      refine DrawS.joinI (fun (y : Option Addr × Nat × Nat) u => [u 0, u 1, u 2, .pointer (some ⟨b3, 0, none⟩), u 4, u 5, .pointer (some ⟨b6, 0, none⟩), u 7, u 8, u 9, u 10, u 11, u 12, u 13, u 14, .pointer (some ⟨y.2.2, 0, none⟩), u 16, u 17, u 18, u 19, u 20, u 21, u 22, u 23, u 24, u 25, u 26, u 27, u 28, u 29, u 30, u 31, u 32, u 33, u 34, u 35, u 36, u 37, u 38, u 39, u 40, u 41, u 42, u 43, u 44, u 45, u 46, u 47, u 48, u 49, u 50, u 51, u 52, u 53, u 54, u 55, u 56, u 57, u 58, u 59, u 60, u 61, u 62, u 63, u 64, u 65, u 66, u 67, u 68, u 69, u 70, u 71, u 72, u 73, u 74, u 75, u 76, u 77, u 78, u 79, u 80, u 81, u 82, u 83, u 84, u 85, u 86, u 87, u 88, u 89, u 90, u 91, u 92, u 93, u 94, u 95, u 96, u 97, u 98, u 99, u 100, u 101, u 102, u 103])
        (fun y => .box y.2.2 [.int .i64 st, .slice y.1 F.length y.2.1, .slice dA' ps'.length dc', .int .u8 0, str tag, .bool (!decide (st = 204))] 32 :: .row (.slice y.1 F.length y.2.1) 47 2 F.length (fcells F) :: .row (.slice dA' ps'.length dc') 45 2 ps'.length (pcells ps') ::
          .box b3 [str m, str p, .int .i64 st, .slice FA F.length Fc, str tag, .bool true, .slice QA Q.length Qc] 25 :: .box b6 [.int .i64 0, .slice none 0 0, .slice none 0 0, .int .u8 0, str [], .bool false] 32 :: rowsP 5 ps')
        [] (.q 0 (.q 1 (.q 2 (.q 3 (.q 5 (.q 6 (.q 7 (.q 8 (.q 9 (.q 10 (.q 11 (.q 12 (.ch 4 (.q 13 (.q 14 (.q 15 (.q 16 (.q 17 (.q 18 (.a 19 (.a 20 (.nil))))))))) (.ch 19 (.a 4 (.q 13 (.q 14 (.q 15 (.q 16 (.q 17 (.q 18 (.a 20 (.nil))))))))) (.stop))))))))))))))) tys_ok mixed (by kernel_rfl) ?_ ?_
      · (repeat' ((conv => whnf); first | (first | refine tk1 ?_ | refine tk2 ?_ | refine tk3 ?_ | refine tk12 (fun _ => ?_) | refine tk4 ?_ | refine tk5 ?_ | refine tk6 ?_ | refine tk7 ?_ | refine tk8 ?_ | refine tk9 ?_ | refine tk10 (fun _ _ => ?_) | refine tk11 (fun _ => ?_) | refine tk13 ?_ | refine tk14 ?_) | refine And.intro ?_ ?_ | exact trivial | exact ⟨(_, _, _), rfl, Cv.into (by (try dsimp only); repeat' (first | with_reducible exact Cv.refl | with_reducible exact Cv.left | with_reducible exact Cv.right | with_reducible exact Cv.nil | (with_reducible apply Cv.cons; focus ((repeat (first | with_reducible exact Pick.here | with_reducible apply Pick.skip)); done)) | (apply Cv.cons; focus ((repeat (first | exact Pick.here | apply Pick.skip)); done)) | exact Cv.nil | exact Cv.refl | exact Cv.left | exact Cv.right | refine Cv.skip ?_))⟩ | (refine CallK.fnS (Clone_f FA Fc F (by omega)) ⟨(hRF _).ok, trivial⟩ (fun A1 c1 => ?_)) | (refine Cmp.of (!decide (st = 204)) (by simp) ?_)))
      rintro ⟨fA, fc, b15⟩ u
      dsimp only
      (conv => whnf); repeat ((first | refine tk1 ?_ | refine tk2 ?_ | refine tk3 ?_ | refine tk12 (fun _ => ?_) | refine tk4 ?_ | refine tk5 ?_ | refine tk6 ?_ | refine tk7 ?_ | refine tk8 ?_ | refine tk9 ?_ | refine tk10 (fun _ _ => ?_) | refine tk11 (fun _ => ?_) | refine tk13 ?_ | refine tk14 ?_); (conv => whnf))
      refine Cmp.cases (fun ht => ?_) (fun ht => ?_)
      · have hfs : ansF tag F = F ++ [(etN, [34] ++ tag ++ [34])] := by unfold ansF; rw [if_neg ht]
        have htz : tag.length ≤ 64 := by have := htag ht; unfold mayB at this; simp at this; exact this.2.2
        rw [hfs] at h9
        obtain ⟨rfl, rfl⟩ := h9
        (conv => whnf); repeat ((first | refine tk1 ?_ | refine tk2 ?_ | refine tk3 ?_ | refine tk12 (fun _ => ?_) | refine tk4 ?_ | refine tk5 ?_ | refine tk6 ?_ | refine tk7 ?_ | refine tk8 ?_ | refine tk9 ?_ | refine tk10 (fun _ _ => ?_) | refine tk11 (fun _ => ?_) | refine tk13 ?_ | refine tk14 ?_); (conv => whnf))
        refine CallK.fn (TMark_f tag (htag ht)) ?_
        (conv => whnf); repeat ((first | refine tk1 ?_ | refine tk2 ?_ | refine tk3 ?_ | refine tk12 (fun _ => ?_) | refine tk4 ?_ | refine tk5 ?_ | refine tk6 ?_ | refine tk7 ?_ | refine tk8 ?_ | refine tk9 ?_ | refine tk10 (fun _ _ => ?_) | refine tk11 (fun _ => ?_) | refine tk13 ?_ | refine tk14 ?_); (conv => whnf))
        refine AppS.tc (m := 1) (news := [str etN, str ([34] ++ tag ++ [34])]) SrcK.tc rfl (by simp [Value.oneCell']) (by decide) (by omega) (by omega) (zs := fcells (F ++ [(etN, [34] ++ tag ++ [34])])) (by rw [fcells_app]; rfl) (fun fA' fc' => ?_)
        rw [show F.length + 1 = (F ++ [(etN, [34] ++ tag ++ [34])]).length by simp]
        (conv => whnf); repeat ((first | refine tk1 ?_ | refine tk2 ?_ | refine tk3 ?_ | refine tk12 (fun _ => ?_) | refine tk4 ?_ | refine tk5 ?_ | refine tk6 ?_ | refine tk7 ?_ | refine tk8 ?_ | refine tk9 ?_ | refine tk10 (fun _ _ => ?_) | refine tk11 (fun _ => ?_) | refine tk13 ?_ | refine tk14 ?_); (conv => whnf))
        exact fun w' hw' => ⟨⟨fA', fc', dA', dc', ps'⟩, rfl, hpp, newH.into hw' (Cv.into (by (try dsimp only); repeat' (first | with_reducible exact Cv.refl | with_reducible exact Cv.left | with_reducible exact Cv.right | with_reducible exact Cv.nil | (with_reducible apply Cv.cons; focus ((repeat (first | with_reducible exact Pick.here | with_reducible apply Pick.skip)); done)) | (apply Cv.cons; focus ((repeat (first | exact Pick.here | apply Pick.skip)); done)) | exact Cv.nil | exact Cv.refl | exact Cv.left | exact Cv.right | refine Cv.skip ?_)))⟩
      · have hfs : ansF tag F = F := by unfold ansF; rw [if_pos (Classical.not_not.1 ht)]
        rw [hfs] at h9
        obtain ⟨rfl, rfl⟩ := h9
        (conv => whnf); repeat ((first | refine tk1 ?_ | refine tk2 ?_ | refine tk3 ?_ | refine tk12 (fun _ => ?_) | refine tk4 ?_ | refine tk5 ?_ | refine tk6 ?_ | refine tk7 ?_ | refine tk8 ?_ | refine tk9 ?_ | refine tk10 (fun _ _ => ?_) | refine tk11 (fun _ => ?_) | refine tk13 ?_ | refine tk14 ?_); (conv => whnf))
        exact fun w' hw' => ⟨⟨fA, fc, dA', dc', ps'⟩, rfl, hpp, newH.into hw' (Cv.into (by (try dsimp only); repeat' (first | with_reducible exact Cv.refl | with_reducible exact Cv.left | with_reducible exact Cv.right | with_reducible exact Cv.nil | (with_reducible apply Cv.cons; focus ((repeat (first | with_reducible exact Pick.here | with_reducible apply Pick.skip)); done)) | (apply Cv.cons; focus ((repeat (first | exact Pick.here | apply Pick.skip)); done)) | exact Cv.nil | exact Cv.refl | exact Cv.left | exact Cv.right | refine Cv.skip ?_)))⟩
end Go.Proofs.YtmdmmncoigeijaaGreatDoor.Vex
