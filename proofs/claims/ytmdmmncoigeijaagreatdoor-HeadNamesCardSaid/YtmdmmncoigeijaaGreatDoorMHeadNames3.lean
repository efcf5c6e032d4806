/- Plain laws on fields: a field's line tells it. No program in sight. -/
import Derived.Test.YtmdmmncoigeijaaGreatDoorMHeadNames2
import Derived.Test.YtmdmmncoigeijaaGreatDoorRows
import Derived.Lib.LaidU8
import Derived.LaidLaws
import Derived.MakeChecks
import Derived.Lib.ItoaNum
import Derived.Lib.Join
import Derived.Lib.ItoaLen
namespace Go.Proofs.YtmdmmncoigeijaaGreatDoor

theorem tok_no_colon (x : UInt8) (h : tokB x = true) : ¬ x.toNat = 58 := by
  intro h58
  have : x = 58 := b8 (n := 58) (by decide) h58
  subst this
  revert h
  decide
theorem cutC_token (n r : List UInt8) (h : n.all tokB = true) : cutC (n ++ 58 :: r) = (n, r, true) := by
  induction n with
  | nil => rw [List.nil_append, cutC, if_pos (by decide)]
  | cons x n ih =>
    rw [List.all_cons, Bool.and_eq_true] at h
    rw [List.cons_append, cutC, if_neg (tok_no_colon x h.1), ih h.2]
theorem fieldOK_parts {n v : List UInt8} (h : fieldOK n v = true) : n.length ≤ 4096 ∧ v.length ≤ 4096 ∧ tokenOf n = true ∧ smallOf n = n ∧ valueOf v = true := by
  unfold fieldOK at h
  simpa using h
theorem token_all {n : List UInt8} (h : tokenOf n = true) : n.all tokB = true := by
  unfold tokenOf at h
  rw [Bool.and_eq_true] at h
  exact h.2
theorem value_trim {v : List UInt8} (h : valueOf v = true) : trimB v = v := by
  unfold valueOf at h
  rw [Bool.and_eq_true, beq_iff_eq] at h
  exact h.1
theorem trimB_front (x : UInt8) (l : List UInt8) (h : blankB x = true) : trimB (x :: l) = trimB l := by rw [trimB_eq, trimB_eq, trimLB_blank x l h]
theorem trimB_back (x : UInt8) (l : List UInt8) (h : blankB x = true) : trimB (l ++ [x]) = trimB l := by
  unfold trimB Lib.trimS
  have : Lib.trimRightS (l ++ [x]) [32, 9] = Lib.trimRightS l [32, 9] := trimRB_blank x l h
  rw [this]
theorem trimB_blanks (k : Nat) (l : List UInt8) : trimB (List.replicate k 32 ++ l) = trimB l := by
  induction k with
  | zero => rfl
  | succ k ih => rw [List.replicate_succ, List.cons_append, trimB_front _ _ (by decide), ih]
/-- A line of a field, with blanks about its value, is read as that field. -/
theorem parse_line (n v l : List UInt8) (h : fieldOK n v = true) (hl : (n ++ 58 :: l).length ≤ 4096) (ht : trimB l = v) : parseOK (n ++ 58 :: l) = true ∧ parseN (n ++ 58 :: l) = n ∧ parseV (n ++ 58 :: l) = v := by
  obtain ⟨_, _, h3, h4, h5⟩ := fieldOK_parts h
  have hc := cutC_token n l (token_all h3)
  have hok : parseOK (n ++ 58 :: l) = true := by
    unfold parseOK
    rw [hc]
    simp only [Bool.and_eq_true, decide_eq_true_eq]
    exact ⟨hl, trivial, by rw [h4, ht]; exact h⟩
  refine ⟨hok, ?_, ?_⟩
  · unfold parseN; rw [if_pos hok, hc]; exact h4
  · unfold parseV; rw [if_pos hok, hc]; exact ht
theorem parse_plain (n v : List UInt8) (h : fieldOK n v = true) (hl : n.length + v.length ≤ 4000) : parseOK (lineOf n v) = true ∧ parseN (lineOf n v) = n ∧ parseV (lineOf n v) = v := by
  have e : lineOf n v = n ++ 58 :: (32 :: v) := by unfold lineOf; rw [if_pos h]; simp
  rw [e]
  exact parse_line n v _ h (by simp; omega) (by rw [trimB_front _ _ (by decide), value_trim (fieldOK_parts h).2.2.2.2])
theorem parse_wide (n v : List UInt8) (k : Nat) (h : fieldOK n v = true) (hl : n.length + v.length ≤ 4000) (hk : k ≤ 9) :
    parseOK (n ++ [58] ++ List.replicate k 32 ++ v ++ [9]) = true ∧ parseN (n ++ [58] ++ List.replicate k 32 ++ v ++ [9]) = n ∧ parseV (n ++ [58] ++ List.replicate k 32 ++ v ++ [9]) = v := by
  have e : n ++ [58] ++ List.replicate k 32 ++ v ++ [9] = n ++ 58 :: (List.replicate k 32 ++ (v ++ [9])) := by simp
  rw [e]
  refine parse_line n v _ h (by simp; omega) ?_
  rw [trimB_blanks, trimB_back _ _ (by decide), value_trim (fieldOK_parts h).2.2.2.2]
theorem cutC_length : ∀ l : List UInt8, (cutC l).1.length + (cutC l).2.1.length ≤ l.length
  | [] => by simp [cutC]
  | x :: l => by
    have ih := cutC_length l
    rw [cutC]
    split
    · simp
    · simp only [List.length_cons]; omega
theorem trimB_length (l : List UInt8) : (trimB l).length ≤ l.length := by
  rw [trimB_eq]
  exact Nat.le_trans (trimRB_short _) (trimLB_short _)
theorem parse_field {l : List UInt8} (h : parseOK l = true) : fieldOK (parseN l) (parseV l) = true ∧ (parseN l).length + (parseV l).length ≤ l.length := by
  have hN : parseN l = smallOf (cutC l).1 := by unfold parseN; rw [if_pos h]
  have hV : parseV l = trimB (cutC l).2.1 := by unfold parseV; rw [if_pos h]
  rw [hN, hV]
  constructor
  · unfold parseOK at h
    rw [Bool.and_eq_true, Bool.and_eq_true] at h
    exact h.2.2
  · have h1 := cutC_length l
    have h2 := trimB_length (cutC l).2.1
    rw [smallOf_length]
    omega
end Go.Proofs.YtmdmmncoigeijaaGreatDoor
/- The program's functions on fields, reckoned. -/
namespace Go.Proofs.YtmdmmncoigeijaaGreatDoor.Vex
open Go Go.RowKit
set_option maxRecDepth 100000
set_option linter.unusedSectionVars false
variable {gI : GI} [HasMax gI]

theorem small_f (x : Int) : Fn Tryz.prog gI 114 [.int .u8 x] (.bool (smallI x)) := by
  refine Fn.of tys_ok Tryz.func114 rfl (by kernel_rfl) rfl rfl ?_; intro w hG
  repeat' ((conv => whnf); first | (first | refine tk1 ?_ | refine tk2 ?_ | refine tk3 ?_ | refine tk12 (fun _ => ?_) | refine tk4 ?_ | refine tk5 ?_ | refine tk6 ?_ | refine tk7 ?_ | refine tk8 ?_ | refine tk9 ?_ | refine tk10 (fun _ _ => ?_) | refine tk11 (fun _ => ?_) | refine tk13 ?_ | refine tk14 ?_) | refine Cmp.cases (fun _ => ?_) (fun _ => ?_)); all_goals (conv => whnf)
  all_goals first | rfl | (refine congrArg Value.bool ?_; first | (simp [smallI, *]; done) | (rw [Bool.eq_iff_iff]; simp [smallI]; omega) | (rw [Bool.eq_iff_iff]; simp [smallI, *]; done) | (rw [Bool.eq_iff_iff]; simp [smallI, *]; omega))
theorem great_f (x : Int) : Fn Tryz.prog gI 115 [.int .u8 x] (.bool (greatI x)) := by
  refine Fn.of tys_ok Tryz.func115 rfl (by kernel_rfl) rfl rfl ?_; intro w hG
  repeat' ((conv => whnf); first | (first | refine tk1 ?_ | refine tk2 ?_ | refine tk3 ?_ | refine tk12 (fun _ => ?_) | refine tk4 ?_ | refine tk5 ?_ | refine tk6 ?_ | refine tk7 ?_ | refine tk8 ?_ | refine tk9 ?_ | refine tk10 (fun _ _ => ?_) | refine tk11 (fun _ => ?_) | refine tk13 ?_ | refine tk14 ?_) | refine Cmp.cases (fun _ => ?_) (fun _ => ?_)); all_goals (conv => whnf)
  all_goals first | rfl | (refine congrArg Value.bool ?_; first | (simp [greatI, *]; done) | (rw [Bool.eq_iff_iff]; simp [greatI]; omega) | (rw [Bool.eq_iff_iff]; simp [greatI, *]; done) | (rw [Bool.eq_iff_iff]; simp [greatI, *]; omega))
theorem Value1_f (x : Int) : Fn Tryz.prog gI 118 [.int .u8 x] (.bool (valI x)) := by
  refine Fn.of tys_ok Tryz.func118 rfl (by kernel_rfl) rfl rfl ?_; intro w hG
  repeat' ((conv => whnf); first | (first | refine tk1 ?_ | refine tk2 ?_ | refine tk3 ?_ | refine tk12 (fun _ => ?_) | refine tk4 ?_ | refine tk5 ?_ | refine tk6 ?_ | refine tk7 ?_ | refine tk8 ?_ | refine tk9 ?_ | refine tk10 (fun _ _ => ?_) | refine tk11 (fun _ => ?_) | refine tk13 ?_ | refine tk14 ?_) | refine Cmp.cases (fun _ => ?_) (fun _ => ?_)); all_goals (conv => whnf)
  all_goals first | rfl | (refine congrArg Value.bool ?_; first | (simp [valI, *]; done) | (rw [Bool.eq_iff_iff]; simp [valI]; omega) | (rw [Bool.eq_iff_iff]; simp [valI, *]; done) | (rw [Bool.eq_iff_iff]; simp [valI, *]; omega))
theorem Token1_f (x : Int) (h0 : 0 ≤ x) (h1 : x ≤ 255) : Fn Tryz.prog gI 113 [.int .u8 x] (.bool (tokI x)) := by
  have hm := marks_index x h0 h1
  refine Fn.of tys_ok Tryz.func113 rfl (by kernel_rfl) rfl rfl ?_; intro w hG
  (conv => whnf); repeat ((first | refine tk1 ?_ | refine tk2 ?_ | refine tk3 ?_ | refine tk12 (fun _ => ?_) | refine tk4 ?_ | refine tk5 ?_ | refine tk6 ?_ | refine tk7 ?_ | refine tk8 ?_ | refine tk9 ?_ | refine tk10 (fun _ _ => ?_) | refine tk11 (fun _ => ?_) | refine tk13 ?_ | refine tk14 ?_); (conv => whnf))
  refine CallK.fn (small_f _) ?_
  cases hs : smallI x
  · (conv => whnf); repeat ((first | refine tk1 ?_ | refine tk2 ?_ | refine tk3 ?_ | refine tk12 (fun _ => ?_) | refine tk4 ?_ | refine tk5 ?_ | refine tk6 ?_ | refine tk7 ?_ | refine tk8 ?_ | refine tk9 ?_ | refine tk10 (fun _ _ => ?_) | refine tk11 (fun _ => ?_) | refine tk13 ?_ | refine tk14 ?_); (conv => whnf))
    refine CallK.fn (great_f _) ?_
    cases hg : greatI x
    · (conv => whnf); repeat ((first | refine tk1 ?_ | refine tk2 ?_ | refine tk3 ?_ | refine tk12 (fun _ => ?_) | refine tk4 ?_ | refine tk5 ?_ | refine tk6 ?_ | refine tk7 ?_ | refine tk8 ?_ | refine tk9 ?_ | refine tk10 (fun _ _ => ?_) | refine tk11 (fun _ => ?_) | refine tk13 ?_ | refine tk14 ?_); (conv => whnf))
      refine CallK.fn (IndexByte_f _ _) ?_
      (conv => whnf); repeat ((first | refine tk1 ?_ | refine tk2 ?_ | refine tk3 ?_ | refine tk12 (fun _ => ?_) | refine tk4 ?_ | refine tk5 ?_ | refine tk6 ?_ | refine tk7 ?_ | refine tk8 ?_ | refine tk9 ?_ | refine tk10 (fun _ _ => ?_) | refine tk11 (fun _ => ?_) | refine tk13 ?_ | refine tk14 ?_); (conv => whnf))
      refine Cmp.of (markI x) (by rw [← hm]; simp [marksL]) ?_
      (conv => whnf); repeat ((first | refine tk1 ?_ | refine tk2 ?_ | refine tk3 ?_ | refine tk12 (fun _ => ?_) | refine tk4 ?_ | refine tk5 ?_ | refine tk6 ?_ | refine tk7 ?_ | refine tk8 ?_ | refine tk9 ?_ | refine tk10 (fun _ _ => ?_) | refine tk11 (fun _ => ?_) | refine tk13 ?_ | refine tk14 ?_); (conv => whnf))
      first | rfl | (refine congrArg Value.bool ?_; first | (simp [tokI, *]; done) | (rw [Bool.eq_iff_iff]; simp [tokI]; omega) | (rw [Bool.eq_iff_iff]; simp [tokI, *]; done) | (rw [Bool.eq_iff_iff]; simp [tokI, *]; omega))
    · (conv => whnf); repeat ((first | refine tk1 ?_ | refine tk2 ?_ | refine tk3 ?_ | refine tk12 (fun _ => ?_) | refine tk4 ?_ | refine tk5 ?_ | refine tk6 ?_ | refine tk7 ?_ | refine tk8 ?_ | refine tk9 ?_ | refine tk10 (fun _ _ => ?_) | refine tk11 (fun _ => ?_) | refine tk13 ?_ | refine tk14 ?_); (conv => whnf))
      first | rfl | (refine congrArg Value.bool ?_; first | (simp [tokI, *]; done) | (rw [Bool.eq_iff_iff]; simp [tokI]; omega) | (rw [Bool.eq_iff_iff]; simp [tokI, *]; done) | (rw [Bool.eq_iff_iff]; simp [tokI, *]; omega))
  · (conv => whnf); repeat ((first | refine tk1 ?_ | refine tk2 ?_ | refine tk3 ?_ | refine tk12 (fun _ => ?_) | refine tk4 ?_ | refine tk5 ?_ | refine tk6 ?_ | refine tk7 ?_ | refine tk8 ?_ | refine tk9 ?_ | refine tk10 (fun _ _ => ?_) | refine tk11 (fun _ => ?_) | refine tk13 ?_ | refine tk14 ?_); (conv => whnf))
    first | rfl | (refine congrArg Value.bool ?_; first | (simp [tokI, *]; done) | (rw [Bool.eq_iff_iff]; simp [tokI]; omega) | (rw [Bool.eq_iff_iff]; simp [tokI, *]; done) | (rw [Bool.eq_iff_iff]; simp [tokI, *]; omega))
theorem all_f (f : Nat) (p : Int → Bool) (hf : ∀ x, 0 ≤ x → x ≤ 255 → Fn Tryz.prog gI f [.int .u8 x] (.bool (p x))) (l : List UInt8) (hl : l.length ≤ 1000000000000) :
    Fn Tryz.prog gI 112 [str l, .func (.func f) #[] #[]] (.bool (l.all fun x => p x.toNat)) := by
  refine Fn.of tys_ok Tryz.func112 rfl (by kernel_rfl) rfl rfl ?_; intro w hG
  (conv => whnf); repeat ((first | refine tk1 ?_ | refine tk2 ?_ | refine tk3 ?_ | refine tk12 (fun _ => ?_) | refine tk4 ?_ | refine tk5 ?_ | refine tk6 ?_ | refine tk7 ?_ | refine tk8 ?_ | refine tk9 ?_ | refine tk10 (fun _ _ => ?_) | refine tk11 (fun _ => ?_) | refine tk13 ?_ | refine tk14 ?_); (conv => whnf))
  refine LoopS.lp tys_ok (fun k u => [str l, .func (.func f) #[] #[], u 2, u 3, u 4, u 5, u 6, .int .i64 l.length, .int .i64 (k : Nat), u 9, u 10, u 11, u 12, u 13, u 14, u 15, u 16, u 17]) (fun _ => [])
    (fun k => k ≤ l.length ∧ (l.all fun x => p x.toNat) = ((l.drop k).all fun x => p x.toNat)) (fun k => l.length - k) 0 ⟨Nat.zero_le _, rfl⟩ rfl (by repeat' (first | exact List.Sublist.refl _ | exact List.nil_sublist _ | apply List.Sublist.cons_cons | apply List.Sublist.cons)) ?_
  intro k u ⟨hk, hI⟩
  (conv => whnf); repeat ((first | refine tk1 ?_ | refine tk2 ?_ | refine tk3 ?_ | refine tk12 (fun _ => ?_) | refine tk4 ?_ | refine tk5 ?_ | refine tk6 ?_ | refine tk7 ?_ | refine tk8 ?_ | refine tk9 ?_ | refine tk10 (fun _ _ => ?_) | refine tk11 (fun _ => ?_) | refine tk13 ?_ | refine tk14 ?_); (conv => whnf))
  refine Cmp.cases (fun hlt => ?_) (fun hlt => ?_)
  · have hd : l.drop k = l[k]'(by omega) :: l.drop (k + 1) := List.drop_eq_getElem_cons (by omega)
    (conv => whnf); repeat ((first | refine tk1 ?_ | refine tk2 ?_ | refine tk3 ?_ | refine tk12 (fun _ => ?_) | refine tk4 ?_ | refine tk5 ?_ | refine tk6 ?_ | refine tk7 ?_ | refine tk8 ?_ | refine tk9 ?_ | refine tk10 (fun _ _ => ?_) | refine tk11 (fun _ => ?_) | refine tk13 ?_ | refine tk14 ?_); (conv => whnf))
    refine IdxS.at (l[k]'(by omega)) (List.getElem?_eq_getElem _) (by omega) ?_
    (conv => whnf); repeat ((first | refine tk1 ?_ | refine tk2 ?_ | refine tk3 ?_ | refine tk12 (fun _ => ?_) | refine tk4 ?_ | refine tk5 ?_ | refine tk6 ?_ | refine tk7 ?_ | refine tk8 ?_ | refine tk9 ?_ | refine tk10 (fun _ _ => ?_) | refine tk11 (fun _ => ?_) | refine tk13 ?_ | refine tk14 ?_); (conv => whnf))
    refine CallK.fn (hf _ (by omega) (by have := (l[k]'(by omega)).toNat_lt; omega)) ?_
    cases hq : p (l[k]'(by omega)).toNat
    · (conv => whnf); repeat ((first | refine tk1 ?_ | refine tk2 ?_ | refine tk3 ?_ | refine tk12 (fun _ => ?_) | refine tk4 ?_ | refine tk5 ?_ | refine tk6 ?_ | refine tk7 ?_ | refine tk8 ?_ | refine tk9 ?_ | refine tk10 (fun _ _ => ?_) | refine tk11 (fun _ => ?_) | refine tk13 ?_ | refine tk14 ?_); (conv => whnf))
      rw [hI, hd, List.all_cons, hq]; rfl
    · (conv => whnf); repeat ((first | refine tk1 ?_ | refine tk2 ?_ | refine tk3 ?_ | refine tk12 (fun _ => ?_) | refine tk4 ?_ | refine tk5 ?_ | refine tk6 ?_ | refine tk7 ?_ | refine tk8 ?_ | refine tk9 ?_ | refine tk10 (fun _ _ => ?_) | refine tk11 (fun _ => ?_) | refine tk13 ?_ | refine tk14 ?_); (conv => whnf))
      exact ⟨k + 1, ⟨by omega, by rw [hI, hd, List.all_cons, hq]; rfl⟩, rfl, (by repeat' (first | exact List.Sublist.refl _ | exact List.nil_sublist _ | apply List.Sublist.cons_cons | apply List.Sublist.cons)), by dsimp only; omega⟩
  · (conv => whnf); repeat ((first | refine tk1 ?_ | refine tk2 ?_ | refine tk3 ?_ | refine tk12 (fun _ => ?_) | refine tk4 ?_ | refine tk5 ?_ | refine tk6 ?_ | refine tk7 ?_ | refine tk8 ?_ | refine tk9 ?_ | refine tk10 (fun _ _ => ?_) | refine tk11 (fun _ => ?_) | refine tk13 ?_ | refine tk14 ?_); (conv => whnf))
    rw [hI, List.drop_eq_nil_of_le (by omega)]
    rfl
theorem Token_f (l : List UInt8) (hl : l.length ≤ 1000000000000) : Fn Tryz.prog gI 79 [str l] (.bool (tokenOf l)) := by
  refine Fn.of tys_ok Tryz.func79 rfl (by kernel_rfl) rfl rfl ?_; intro w hG
  (conv => whnf); repeat ((first | refine tk1 ?_ | refine tk2 ?_ | refine tk3 ?_ | refine tk12 (fun _ => ?_) | refine tk4 ?_ | refine tk5 ?_ | refine tk6 ?_ | refine tk7 ?_ | refine tk8 ?_ | refine tk9 ?_ | refine tk10 (fun _ _ => ?_) | refine tk11 (fun _ => ?_) | refine tk13 ?_ | refine tk14 ?_); (conv => whnf))
  refine Cmp.cases (fun h => ?_) (fun h => ?_)
  · (conv => whnf); repeat ((first | refine tk1 ?_ | refine tk2 ?_ | refine tk3 ?_ | refine tk12 (fun _ => ?_) | refine tk4 ?_ | refine tk5 ?_ | refine tk6 ?_ | refine tk7 ?_ | refine tk8 ?_ | refine tk9 ?_ | refine tk10 (fun _ _ => ?_) | refine tk11 (fun _ => ?_) | refine tk13 ?_ | refine tk14 ?_); (conv => whnf))
    refine CallK.fn (all_f _ tokI Token1_f l hl) ?_
    (conv => whnf); repeat ((first | refine tk1 ?_ | refine tk2 ?_ | refine tk3 ?_ | refine tk12 (fun _ => ?_) | refine tk4 ?_ | refine tk5 ?_ | refine tk6 ?_ | refine tk7 ?_ | refine tk8 ?_ | refine tk9 ?_ | refine tk10 (fun _ _ => ?_) | refine tk11 (fun _ => ?_) | refine tk13 ?_ | refine tk14 ?_); (conv => whnf))
    cases l with
    | nil => exact absurd rfl h
    | cons a r => rfl
  · (conv => whnf); repeat ((first | refine tk1 ?_ | refine tk2 ?_ | refine tk3 ?_ | refine tk12 (fun _ => ?_) | refine tk4 ?_ | refine tk5 ?_ | refine tk6 ?_ | refine tk7 ?_ | refine tk8 ?_ | refine tk9 ?_ | refine tk10 (fun _ _ => ?_) | refine tk11 (fun _ => ?_) | refine tk13 ?_ | refine tk14 ?_); (conv => whnf))
    obtain rfl : l = [] := by simpa using h
    rfl
theorem Value_f (l : List UInt8) (hl : l.length ≤ 1000000000000) : Fn Tryz.prog gI 81 [str l] (.bool (valueOf l)) := by
  refine Fn.of tys_ok Tryz.func81 rfl (by kernel_rfl) rfl rfl ?_; intro w hG
  (conv => whnf); repeat ((first | refine tk1 ?_ | refine tk2 ?_ | refine tk3 ?_ | refine tk12 (fun _ => ?_) | refine tk4 ?_ | refine tk5 ?_ | refine tk6 ?_ | refine tk7 ?_ | refine tk8 ?_ | refine tk9 ?_ | refine tk10 (fun _ _ => ?_) | refine tk11 (fun _ => ?_) | refine tk13 ?_ | refine tk14 ?_); (conv => whnf))
  refine CallK.fn (Trim_f l (by omega)) ?_
  (conv => whnf); repeat ((first | refine tk1 ?_ | refine tk2 ?_ | refine tk3 ?_ | refine tk12 (fun _ => ?_) | refine tk4 ?_ | refine tk5 ?_ | refine tk6 ?_ | refine tk7 ?_ | refine tk8 ?_ | refine tk9 ?_ | refine tk10 (fun _ _ => ?_) | refine tk11 (fun _ => ?_) | refine tk13 ?_ | refine tk14 ?_); (conv => whnf))
  refine Cmp.cases (fun h => ?_) (fun h => ?_)
  · (conv => whnf); repeat ((first | refine tk1 ?_ | refine tk2 ?_ | refine tk3 ?_ | refine tk12 (fun _ => ?_) | refine tk4 ?_ | refine tk5 ?_ | refine tk6 ?_ | refine tk7 ?_ | refine tk8 ?_ | refine tk9 ?_ | refine tk10 (fun _ _ => ?_) | refine tk11 (fun _ => ?_) | refine tk13 ?_ | refine tk14 ?_); (conv => whnf))
    refine CallK.fn (all_f _ valI (fun x _ _ => Value1_f x) l hl) ?_
    (conv => whnf); repeat ((first | refine tk1 ?_ | refine tk2 ?_ | refine tk3 ?_ | refine tk12 (fun _ => ?_) | refine tk4 ?_ | refine tk5 ?_ | refine tk6 ?_ | refine tk7 ?_ | refine tk8 ?_ | refine tk9 ?_ | refine tk10 (fun _ _ => ?_) | refine tk11 (fun _ => ?_) | refine tk13 ?_ | refine tk14 ?_); (conv => whnf))
    simp [valueOf, h]
    rfl
  · (conv => whnf); repeat ((first | refine tk1 ?_ | refine tk2 ?_ | refine tk3 ?_ | refine tk12 (fun _ => ?_) | refine tk4 ?_ | refine tk5 ?_ | refine tk6 ?_ | refine tk7 ?_ | refine tk8 ?_ | refine tk9 ?_ | refine tk10 (fun _ _ => ?_) | refine tk11 (fun _ => ?_) | refine tk13 ?_ | refine tk14 ?_); (conv => whnf))
    simp [valueOf, h]

/-- A text of which the first k letters have been made small. -/
theorem midl (l : List UInt8) (k : Nat) (h : k < l.length) : (mid l k)[k]? = some l[k] ∧ mid l (k + 1) = (mid l k).set k (lowB l[k]) :=
  ⟨mid_at ⟨⟨l⟩⟩ k h, mid_next ⟨⟨l⟩⟩ k h⟩
theorem byteV_map_set (l : List UInt8) (k : Nat) (x : UInt8) : (l.map byteV).set k (byteV x) = (l.set k x).map byteV := by rw [List.map_set]
theorem Small_f (l : List UInt8) (hl : l.length ≤ 140737488355328) : Fn Tryz.prog gI 80 [str l] (str (smallOf l)) := by
  refine Fn.of tys_ok Tryz.func80 rfl (by kernel_rfl) rfl rfl ?_; intro w hG
  (conv => whnf); repeat ((first | refine tk1 ?_ | refine tk2 ?_ | refine tk3 ?_ | refine tk12 (fun _ => ?_) | refine tk4 ?_ | refine tk5 ?_ | refine tk6 ?_ | refine tk7 ?_ | refine tk8 ?_ | refine tk9 ?_ | refine tk10 (fun _ _ => ?_) | refine tk11 (fun _ => ?_) | refine tk13 ?_ | refine tk14 ?_); (conv => whnf))
  rename_i b cp
  refine LoopS.lp tys_ok (fun k u => [u 0, u 1, u 2, .slice (some ⟨b, 0, none⟩) l.length cp, u 4, u 5, u 6, u 7, .slice (some ⟨b, 0, none⟩) l.length cp, .int .i64 l.length, .int .i64 (k : Nat), u 11, u 12, u 13, u 14, u 15, u 16, u 17, u 18, u 19, u 20, u 21, u 22, u 23, u 24, u 25])
    (fun k => [.row (.slice (some ⟨b, 0, none⟩) l.length cp) 5 1 l.length ((mid l k).map byteV)]) (fun k => k ≤ l.length) (fun k => l.length - k) 0 (Nat.zero_le _) rfl (by repeat' (first | exact List.Sublist.refl _ | exact List.nil_sublist _ | apply List.Sublist.cons_cons | apply List.Sublist.cons)) ?_
  intro k u hk
  (conv => whnf); repeat ((first | refine tk1 ?_ | refine tk2 ?_ | refine tk3 ?_ | refine tk12 (fun _ => ?_) | refine tk4 ?_ | refine tk5 ?_ | refine tk6 ?_ | refine tk7 ?_ | refine tk8 ?_ | refine tk9 ?_ | refine tk10 (fun _ _ => ?_) | refine tk11 (fun _ => ?_) | refine tk13 ?_ | refine tk14 ?_); (conv => whnf))
  refine Cmp.cases (fun hlt => ?_) (fun hlt => ?_)
  · have hlt' : k < l.length := by omega
    obtain ⟨m1, m2⟩ := midl l k hlt'
    (conv => whnf); repeat ((first | refine tk1 ?_ | refine tk2 ?_ | refine tk3 ?_ | refine tk12 (fun _ => ?_) | refine tk4 ?_ | refine tk5 ?_ | refine tk6 ?_ | refine tk7 ?_ | refine tk8 ?_ | refine tk9 ?_ | refine tk10 (fun _ _ => ?_) | refine tk11 (fun _ => ?_) | refine tk13 ?_ | refine tk14 ?_); (conv => whnf))
    refine IdxA.rd (by repeat' (first | exact RdS.here | apply RdS.skip)) (by simp [mid_length]; omega) (by omega) (by omega) ?_
    (conv => whnf); repeat ((first | refine tk1 ?_ | refine tk2 ?_ | refine tk3 ?_ | refine tk12 (fun _ => ?_) | refine tk4 ?_ | refine tk5 ?_ | refine tk6 ?_ | refine tk7 ?_ | refine tk8 ?_ | refine tk9 ?_ | refine tk10 (fun _ _ => ?_) | refine tk11 (fun _ => ?_) | refine tk13 ?_ | refine tk14 ?_); (conv => whnf))
    refine Ld.rd (by repeat' (first | exact RdS.here | apply RdS.skip)) (v := .int .u8 (l[k].toNat : Int)) (by simp [m1, byteV]) ?_
    (conv => whnf); repeat ((first | refine tk1 ?_ | refine tk2 ?_ | refine tk3 ?_ | refine tk12 (fun _ => ?_) | refine tk4 ?_ | refine tk5 ?_ | refine tk6 ?_ | refine tk7 ?_ | refine tk8 ?_ | refine tk9 ?_ | refine tk10 (fun _ _ => ?_) | refine tk11 (fun _ => ?_) | refine tk13 ?_ | refine tk14 ?_); (conv => whnf))
    refine CallK.fn (great_f _) ?_
    cases hq : greatI l[k].toNat
    · have m3 : mid l (k + 1) = mid l k := mid_same ⟨⟨l⟩⟩ k hlt' hq
      (conv => whnf); repeat ((first | refine tk1 ?_ | refine tk2 ?_ | refine tk3 ?_ | refine tk12 (fun _ => ?_) | refine tk4 ?_ | refine tk5 ?_ | refine tk6 ?_ | refine tk7 ?_ | refine tk8 ?_ | refine tk9 ?_ | refine tk10 (fun _ _ => ?_) | refine tk11 (fun _ => ?_) | refine tk13 ?_ | refine tk14 ?_); (conv => whnf))
      exact ⟨k + 1, by omega, rfl, by dsimp only; rw [m3]; exact List.Sublist.refl _, by dsimp only; omega⟩
    · have hg2 : 65 ≤ ((l[k].toNat : Nat) : Int) ∧ ((l[k].toNat : Nat) : Int) ≤ 90 := by simpa [greatI] using hq
      (conv => whnf); repeat ((first | refine tk1 ?_ | refine tk2 ?_ | refine tk3 ?_ | refine tk12 (fun _ => ?_) | refine tk4 ?_ | refine tk5 ?_ | refine tk6 ?_ | refine tk7 ?_ | refine tk8 ?_ | refine tk9 ?_ | refine tk10 (fun _ _ => ?_) | refine tk11 (fun _ => ?_) | refine tk13 ?_ | refine tk14 ?_); (conv => whnf))
      refine Ar.in8 (by omega) (by omega) ?_
      (conv => whnf); repeat ((first | refine tk1 ?_ | refine tk2 ?_ | refine tk3 ?_ | refine tk12 (fun _ => ?_) | refine tk4 ?_ | refine tk5 ?_ | refine tk6 ?_ | refine tk7 ?_ | refine tk8 ?_ | refine tk9 ?_ | refine tk10 (fun _ _ => ?_) | refine tk11 (fun _ => ?_) | refine tk13 ?_ | refine tk14 ?_); (conv => whnf))
      refine Ar.in8 (by omega) (by omega) ?_
      (conv => whnf); repeat ((first | refine tk1 ?_ | refine tk2 ?_ | refine tk3 ?_ | refine tk12 (fun _ => ?_) | refine tk4 ?_ | refine tk5 ?_ | refine tk6 ?_ | refine tk7 ?_ | refine tk8 ?_ | refine tk9 ?_ | refine tk10 (fun _ _ => ?_) | refine tk11 (fun _ => ?_) | refine tk13 ?_ | refine tk14 ?_); (conv => whnf))
      refine IdxA.rd (by repeat' (first | exact RdS.here | apply RdS.skip)) (by simp [mid_length]; omega) (by omega) (by omega) ?_
      (conv => whnf)
      have hv : (Value.int .u8 (((l[k].toNat : Nat) : Int) + 97 - 65)) = byteV (lowB l[k]) := by
        unfold byteV
        rw [lowB_toNat, lowI, if_pos hq]
        congr 1; omega
      rw [hv]
      refine Sto.row (by simp [mid_length]; omega) rfl ?_
      (conv => whnf); repeat ((first | refine tk1 ?_ | refine tk2 ?_ | refine tk3 ?_ | refine tk12 (fun _ => ?_) | refine tk4 ?_ | refine tk5 ?_ | refine tk6 ?_ | refine tk7 ?_ | refine tk8 ?_ | refine tk9 ?_ | refine tk10 (fun _ _ => ?_) | refine tk11 (fun _ => ?_) | refine tk13 ?_ | refine tk14 ?_); (conv => whnf))
      exact ⟨k + 1, by omega, rfl, by dsimp only; rw [m2, ← byteV_map_set, Int.toNat_natCast, Nat.mul_one]; exact List.Sublist.refl _, by dsimp only; omega⟩
  · have hk' : k = l.length := by omega
    subst hk'
    (conv => whnf); repeat ((first | refine tk1 ?_ | refine tk2 ?_ | refine tk3 ?_ | refine tk12 (fun _ => ?_) | refine tk4 ?_ | refine tk5 ?_ | refine tk6 ?_ | refine tk7 ?_ | refine tk8 ?_ | refine tk9 ?_ | refine tk10 (fun _ _ => ?_) | refine tk11 (fun _ => ?_) | refine tk13 ?_ | refine tk14 ?_); (conv => whnf))
    refine B2S.rd (by repeat' (first | exact RdS.here | apply RdS.skip)) (mid_length _ _) ?_
    (conv => whnf); repeat ((first | refine tk1 ?_ | refine tk2 ?_ | refine tk3 ?_ | refine tk12 (fun _ => ?_) | refine tk4 ?_ | refine tk5 ?_ | refine tk6 ?_ | refine tk7 ?_ | refine tk8 ?_ | refine tk9 ?_ | refine tk10 (fun _ _ => ?_) | refine tk11 (fun _ => ?_) | refine tk13 ?_ | refine tk14 ?_); (conv => whnf))
    unfold mid
    simp

theorem Check_f (n v : List UInt8) (hn : n.length ≤ 1000000000000) : Fn Tryz.prog gI 44 [.agg ⟨[str n, str v]⟩] (.int .i64 (fieldE n v)) := by
  refine Fn.of tys_ok Tryz.func44 rfl (by kernel_rfl) rfl rfl ?_; intro w hG
  (conv => whnf); repeat ((first | refine tk1 ?_ | refine tk2 ?_ | refine tk3 ?_ | refine tk12 (fun _ => ?_) | refine tk4 ?_ | refine tk5 ?_ | refine tk6 ?_ | refine tk7 ?_ | refine tk8 ?_ | refine tk9 ?_ | refine tk10 (fun _ _ => ?_) | refine tk11 (fun _ => ?_) | refine tk13 ?_ | refine tk14 ?_); (conv => whnf))
  refine DrawS.go (qs 30) tys_ok mixed (by kernel_rfl) ?_
  (conv => whnf); repeat ((first | refine tk1 ?_ | refine tk2 ?_ | refine tk3 ?_ | refine tk12 (fun _ => ?_) | refine tk4 ?_ | refine tk5 ?_ | refine tk6 ?_ | refine tk7 ?_ | refine tk8 ?_ | refine tk9 ?_ | refine tk10 (fun _ _ => ?_) | refine tk11 (fun _ => ?_) | refine tk13 ?_ | refine tk14 ?_); (conv => whnf))
  refine Cmp.cases (fun h1 => ?_) (fun h1 => ?_)
  · (conv => whnf); repeat ((first | refine tk1 ?_ | refine tk2 ?_ | refine tk3 ?_ | refine tk12 (fun _ => ?_) | refine tk4 ?_ | refine tk5 ?_ | refine tk6 ?_ | refine tk7 ?_ | refine tk8 ?_ | refine tk9 ?_ | refine tk10 (fun _ _ => ?_) | refine tk11 (fun _ => ?_) | refine tk13 ?_ | refine tk14 ?_); (conv => whnf))
    simp [fieldE, fieldOK]; omega
  (conv => whnf); repeat ((first | refine tk1 ?_ | refine tk2 ?_ | refine tk3 ?_ | refine tk12 (fun _ => ?_) | refine tk4 ?_ | refine tk5 ?_ | refine tk6 ?_ | refine tk7 ?_ | refine tk8 ?_ | refine tk9 ?_ | refine tk10 (fun _ _ => ?_) | refine tk11 (fun _ => ?_) | refine tk13 ?_ | refine tk14 ?_); (conv => whnf))
  refine Cmp.cases (fun h2 => ?_) (fun h2 => ?_)
  · (conv => whnf); repeat ((first | refine tk1 ?_ | refine tk2 ?_ | refine tk3 ?_ | refine tk12 (fun _ => ?_) | refine tk4 ?_ | refine tk5 ?_ | refine tk6 ?_ | refine tk7 ?_ | refine tk8 ?_ | refine tk9 ?_ | refine tk10 (fun _ _ => ?_) | refine tk11 (fun _ => ?_) | refine tk13 ?_ | refine tk14 ?_); (conv => whnf))
    simp [fieldE, fieldOK]; omega
  (conv => whnf); repeat ((first | refine tk1 ?_ | refine tk2 ?_ | refine tk3 ?_ | refine tk12 (fun _ => ?_) | refine tk4 ?_ | refine tk5 ?_ | refine tk6 ?_ | refine tk7 ?_ | refine tk8 ?_ | refine tk9 ?_ | refine tk10 (fun _ _ => ?_) | refine tk11 (fun _ => ?_) | refine tk13 ?_ | refine tk14 ?_); (conv => whnf))
  refine CallQ.fn (Token_f n (by omega)) ?_
  cases h3 : tokenOf n
  · (conv => whnf); repeat ((first | refine tk1 ?_ | refine tk2 ?_ | refine tk3 ?_ | refine tk12 (fun _ => ?_) | refine tk4 ?_ | refine tk5 ?_ | refine tk6 ?_ | refine tk7 ?_ | refine tk8 ?_ | refine tk9 ?_ | refine tk10 (fun _ _ => ?_) | refine tk11 (fun _ => ?_) | refine tk13 ?_ | refine tk14 ?_); (conv => whnf))
    simp [fieldE, fieldOK, h3]
  (conv => whnf); repeat ((first | refine tk1 ?_ | refine tk2 ?_ | refine tk3 ?_ | refine tk12 (fun _ => ?_) | refine tk4 ?_ | refine tk5 ?_ | refine tk6 ?_ | refine tk7 ?_ | refine tk8 ?_ | refine tk9 ?_ | refine tk10 (fun _ _ => ?_) | refine tk11 (fun _ => ?_) | refine tk13 ?_ | refine tk14 ?_); (conv => whnf))
  refine CallQ.fn (Small_f n (by omega)) ?_
  (conv => whnf); repeat ((first | refine tk1 ?_ | refine tk2 ?_ | refine tk3 ?_ | refine tk12 (fun _ => ?_) | refine tk4 ?_ | refine tk5 ?_ | refine tk6 ?_ | refine tk7 ?_ | refine tk8 ?_ | refine tk9 ?_ | refine tk10 (fun _ _ => ?_) | refine tk11 (fun _ => ?_) | refine tk13 ?_ | refine tk14 ?_); (conv => whnf))
  refine Cmp.cases (fun h4 => ?_) (fun h4 => ?_)
  · (conv => whnf); repeat ((first | refine tk1 ?_ | refine tk2 ?_ | refine tk3 ?_ | refine tk12 (fun _ => ?_) | refine tk4 ?_ | refine tk5 ?_ | refine tk6 ?_ | refine tk7 ?_ | refine tk8 ?_ | refine tk9 ?_ | refine tk10 (fun _ _ => ?_) | refine tk11 (fun _ => ?_) | refine tk13 ?_ | refine tk14 ?_); (conv => whnf))
    simp [fieldE, fieldOK, h4]
  (conv => whnf); repeat ((first | refine tk1 ?_ | refine tk2 ?_ | refine tk3 ?_ | refine tk12 (fun _ => ?_) | refine tk4 ?_ | refine tk5 ?_ | refine tk6 ?_ | refine tk7 ?_ | refine tk8 ?_ | refine tk9 ?_ | refine tk10 (fun _ _ => ?_) | refine tk11 (fun _ => ?_) | refine tk13 ?_ | refine tk14 ?_); (conv => whnf))
  refine CallQ.fn (Value_f v (by omega)) ?_
  have h4' : smallOf n = n := by simpa using h4
  cases h5 : valueOf v
  · (conv => whnf); repeat ((first | refine tk1 ?_ | refine tk2 ?_ | refine tk3 ?_ | refine tk12 (fun _ => ?_) | refine tk4 ?_ | refine tk5 ?_ | refine tk6 ?_ | refine tk7 ?_ | refine tk8 ?_ | refine tk9 ?_ | refine tk10 (fun _ _ => ?_) | refine tk11 (fun _ => ?_) | refine tk13 ?_ | refine tk14 ?_); (conv => whnf))
    simp [fieldE, fieldOK, h5]
  · (conv => whnf); repeat ((first | refine tk1 ?_ | refine tk2 ?_ | refine tk3 ?_ | refine tk12 (fun _ => ?_) | refine tk4 ?_ | refine tk5 ?_ | refine tk6 ?_ | refine tk7 ?_ | refine tk8 ?_ | refine tk9 ?_ | refine tk10 (fun _ _ => ?_) | refine tk11 (fun _ => ?_) | refine tk13 ?_ | refine tk14 ?_); (conv => whnf))
    have e1 : n.length ≤ 4096 := by omega
    have e2 : v.length ≤ 4096 := by omega
    simp [fieldE, fieldOK, h3, h4', h5, e1, e2]
end Go.Proofs.YtmdmmncoigeijaaGreatDoor.Vex
/- The program's functions on fields, reckoned. -/
namespace Go.Proofs.YtmdmmncoigeijaaGreatDoor.Vex
open Go Go.RowKit
set_option maxRecDepth 100000
set_option linter.unusedSectionVars false
variable {gI : GI} [HasMax gI]

theorem Parse_f (l : List UInt8) (hl : l.length < 4294967281) : Fn Tryz.prog gI 102 [str l] (.tuple #[.agg ⟨[str (parseN l), str (parseV l)]⟩, .int .i64 (parseE l)]) := by
  have hz := cutC_length l
  have ht := trimB_length (cutC l).2.1
  have hsm := smallOf_length (cutC l).1
  refine Fn.of tys_ok Tryz.func102 rfl (by kernel_rfl) rfl rfl ?_; intro w hG
  (conv => whnf); repeat ((first | refine tk1 ?_ | refine tk2 ?_ | refine tk3 ?_ | refine tk12 (fun _ => ?_) | refine tk4 ?_ | refine tk5 ?_ | refine tk6 ?_ | refine tk7 ?_ | refine tk8 ?_ | refine tk9 ?_ | refine tk10 (fun _ _ => ?_) | refine tk11 (fun _ => ?_) | refine tk13 ?_ | refine tk14 ?_); (conv => whnf))
  refine CallK.fn (Cut_f l [58] hl) ?_
  rw [cut_colon]
  (conv => whnf); repeat ((first | refine tk1 ?_ | refine tk2 ?_ | refine tk3 ?_ | refine tk12 (fun _ => ?_) | refine tk4 ?_ | refine tk5 ?_ | refine tk6 ?_ | refine tk7 ?_ | refine tk8 ?_ | refine tk9 ?_ | refine tk10 (fun _ _ => ?_) | refine tk11 (fun _ => ?_) | refine tk13 ?_ | refine tk14 ?_); (conv => whnf))
  refine CallK.fn (Small_f _ (by omega)) ?_
  (conv => whnf); repeat ((first | refine tk1 ?_ | refine tk2 ?_ | refine tk3 ?_ | refine tk12 (fun _ => ?_) | refine tk4 ?_ | refine tk5 ?_ | refine tk6 ?_ | refine tk7 ?_ | refine tk8 ?_ | refine tk9 ?_ | refine tk10 (fun _ _ => ?_) | refine tk11 (fun _ => ?_) | refine tk13 ?_ | refine tk14 ?_); (conv => whnf))
  refine CallK.fn (Trim_f _ (by omega)) ?_
  (conv => whnf); repeat ((first | refine tk1 ?_ | refine tk2 ?_ | refine tk3 ?_ | refine tk12 (fun _ => ?_) | refine tk4 ?_ | refine tk5 ?_ | refine tk6 ?_ | refine tk7 ?_ | refine tk8 ?_ | refine tk9 ?_ | refine tk10 (fun _ _ => ?_) | refine tk11 (fun _ => ?_) | refine tk13 ?_ | refine tk14 ?_); (conv => whnf))
  refine Cmp.cases (fun h1 => ?_) (fun h1 => ?_)
  · (conv => whnf); repeat ((first | refine tk1 ?_ | refine tk2 ?_ | refine tk3 ?_ | refine tk12 (fun _ => ?_) | refine tk4 ?_ | refine tk5 ?_ | refine tk6 ?_ | refine tk7 ?_ | refine tk8 ?_ | refine tk9 ?_ | refine tk10 (fun _ _ => ?_) | refine tk11 (fun _ => ?_) | refine tk13 ?_ | refine tk14 ?_); (conv => whnf))
    simp [parseN, parseV, parseE, parseOK]; omega
  cases h2 : (cutC l).2.2
  · (conv => whnf); repeat ((first | refine tk1 ?_ | refine tk2 ?_ | refine tk3 ?_ | refine tk12 (fun _ => ?_) | refine tk4 ?_ | refine tk5 ?_ | refine tk6 ?_ | refine tk7 ?_ | refine tk8 ?_ | refine tk9 ?_ | refine tk10 (fun _ _ => ?_) | refine tk11 (fun _ => ?_) | refine tk13 ?_ | refine tk14 ?_); (conv => whnf))
    simp [parseN, parseV, parseE, parseOK, h2]
  (conv => whnf); repeat ((first | refine tk1 ?_ | refine tk2 ?_ | refine tk3 ?_ | refine tk12 (fun _ => ?_) | refine tk4 ?_ | refine tk5 ?_ | refine tk6 ?_ | refine tk7 ?_ | refine tk8 ?_ | refine tk9 ?_ | refine tk10 (fun _ _ => ?_) | refine tk11 (fun _ => ?_) | refine tk13 ?_ | refine tk14 ?_); (conv => whnf))
  refine CallK.fn (Check_f _ _ (by omega)) ?_
  have e1 : l.length ≤ 4096 := by omega
  cases h3 : fieldOK (smallOf (cutC l).1) (trimB (cutC l).2.1)
  · simp only [fieldE, h3, if_true, Bool.false_eq_true, if_false]
    (conv => whnf); repeat ((first | refine tk1 ?_ | refine tk2 ?_ | refine tk3 ?_ | refine tk12 (fun _ => ?_) | refine tk4 ?_ | refine tk5 ?_ | refine tk6 ?_ | refine tk7 ?_ | refine tk8 ?_ | refine tk9 ?_ | refine tk10 (fun _ _ => ?_) | refine tk11 (fun _ => ?_) | refine tk13 ?_ | refine tk14 ?_); (conv => whnf))
    simp [parseN, parseV, parseE, parseOK, h2, h3]
  · simp only [fieldE, h3, if_true, Bool.false_eq_true, if_false]
    (conv => whnf); repeat ((first | refine tk1 ?_ | refine tk2 ?_ | refine tk3 ?_ | refine tk12 (fun _ => ?_) | refine tk4 ?_ | refine tk5 ?_ | refine tk6 ?_ | refine tk7 ?_ | refine tk8 ?_ | refine tk9 ?_ | refine tk10 (fun _ _ => ?_) | refine tk11 (fun _ => ?_) | refine tk13 ?_ | refine tk14 ?_); (conv => whnf))
    simp [parseN, parseV, parseE, parseOK, h2, h3, e1]
end Go.Proofs.YtmdmmncoigeijaaGreatDoor.Vex
/- The references' functions on texts, reckoned. -/
namespace Go.Proofs.YtmdmmncoigeijaaGreatDoor.Vex
open Go Go.RowKit
set_option maxRecDepth 100000
set_option linter.unusedSectionVars false
variable {gI : GI} [HasMax gI]

theorem byte_le (x : UInt8) : ((x.toNat : Nat) : Int) ≤ 255 := by have := x.toNat_lt; omega
theorem Letter_r (x : Int) : Fn Tryz.prog gI 145 [.int .u8 x] (.bool (smallI x || greatI x)) := by
  refine Fn.of tys_ok Tryz.func145 rfl (by kernel_rfl) rfl rfl ?_; intro w hG
  repeat' ((conv => whnf); first | (first | refine tk1 ?_ | refine tk2 ?_ | refine tk3 ?_ | refine tk12 (fun _ => ?_) | refine tk4 ?_ | refine tk5 ?_ | refine tk6 ?_ | refine tk7 ?_ | refine tk8 ?_ | refine tk9 ?_ | refine tk10 (fun _ _ => ?_) | refine tk11 (fun _ => ?_) | refine tk13 ?_ | refine tk14 ?_) | refine Cmp.cases (fun _ => ?_) (fun _ => ?_)); all_goals (conv => whnf)
  all_goals first | rfl | (refine congrArg Value.bool ?_; first | (simp [smallI, greatI, *]; done) | (rw [Bool.eq_iff_iff]; simp [smallI, greatI]; omega) | (rw [Bool.eq_iff_iff]; simp [smallI, greatI, *]; done) | (rw [Bool.eq_iff_iff]; simp [smallI, greatI, *]; omega))
theorem Blank_r (x : Int) : Fn Tryz.prog gI 147 [.int .u8 x] (.bool (x == 32 || x == 9)) := by
  refine Fn.of tys_ok Tryz.func147 rfl (by kernel_rfl) rfl rfl ?_; intro w hG
  repeat' ((conv => whnf); first | (first | refine tk1 ?_ | refine tk2 ?_ | refine tk3 ?_ | refine tk12 (fun _ => ?_) | refine tk4 ?_ | refine tk5 ?_ | refine tk6 ?_ | refine tk7 ?_ | refine tk8 ?_ | refine tk9 ?_ | refine tk10 (fun _ _ => ?_) | refine tk11 (fun _ => ?_) | refine tk13 ?_ | refine tk14 ?_) | refine Cmp.cases (fun _ => ?_) (fun _ => ?_)); all_goals (conv => whnf)
  all_goals first | rfl | (refine congrArg Value.bool ?_; first | (simp [*]; done) | (rw [Bool.eq_iff_iff]; simp; omega))
theorem blank_is (x : UInt8) : (((x.toNat : Nat) : Int) == 32 || ((x.toNat : Nat) : Int) == 9) = blankB x := by
  unfold blankB blankI
  rw [Bool.eq_iff_iff]
theorem mark_r (x : Int) : Fn Tryz.prog gI 146 [.int .u8 x] (.bool (markI x)) := by
  refine Fn.of tys_ok Tryz.func146 rfl (by kernel_rfl) rfl rfl ?_; intro w hG
  (conv => whnf); repeat ((first | refine tk1 ?_ | refine tk2 ?_ | refine tk3 ?_ | refine tk12 (fun _ => ?_) | refine tk4 ?_ | refine tk5 ?_ | refine tk6 ?_ | refine tk7 ?_ | refine tk8 ?_ | refine tk9 ?_ | refine tk10 (fun _ _ => ?_) | refine tk11 (fun _ => ?_) | refine tk13 ?_ | refine tk14 ?_); (conv => whnf))
  refine LoopS.lp tys_ok (fun k u => [.int .u8 x, u 1, u 2, str marksL, .int .i64 (k : Nat), u 5, u 6, u 7, u 8, u 9, u 10, u 11, u 12, u 13, u 14, u 15]) (fun _ => [])
    (fun k => k ≤ 15 ∧ markI x = ((marksL.drop k).any fun m => ((m.toNat : Nat) : Int) == x)) (fun k => 15 - k) 0 ⟨by omega, rfl⟩ rfl (by repeat' (first | exact List.Sublist.refl _ | exact List.nil_sublist _ | apply List.Sublist.cons_cons | apply List.Sublist.cons)) ?_
  intro k u ⟨hk, hI⟩
  have hz : marksL.length = 15 := rfl
  (conv => whnf); repeat ((first | refine tk1 ?_ | refine tk2 ?_ | refine tk3 ?_ | refine tk12 (fun _ => ?_) | refine tk4 ?_ | refine tk5 ?_ | refine tk6 ?_ | refine tk7 ?_ | refine tk8 ?_ | refine tk9 ?_ | refine tk10 (fun _ _ => ?_) | refine tk11 (fun _ => ?_) | refine tk13 ?_ | refine tk14 ?_); (conv => whnf))
  refine Cmp.cases (fun hlt => ?_) (fun hlt => ?_)
  · have hd : marksL.drop k = marksL[k]'(by omega) :: marksL.drop (k + 1) := List.drop_eq_getElem_cons (by omega)
    (conv => whnf); repeat ((first | refine tk1 ?_ | refine tk2 ?_ | refine tk3 ?_ | refine tk12 (fun _ => ?_) | refine tk4 ?_ | refine tk5 ?_ | refine tk6 ?_ | refine tk7 ?_ | refine tk8 ?_ | refine tk9 ?_ | refine tk10 (fun _ _ => ?_) | refine tk11 (fun _ => ?_) | refine tk13 ?_ | refine tk14 ?_); (conv => whnf))
    refine IdxS.at (marksL[k]'(by omega)) (List.getElem?_eq_getElem _) (by omega) ?_
    (conv => whnf); repeat ((first | refine tk1 ?_ | refine tk2 ?_ | refine tk3 ?_ | refine tk12 (fun _ => ?_) | refine tk4 ?_ | refine tk5 ?_ | refine tk6 ?_ | refine tk7 ?_ | refine tk8 ?_ | refine tk9 ?_ | refine tk10 (fun _ _ => ?_) | refine tk11 (fun _ => ?_) | refine tk13 ?_ | refine tk14 ?_); (conv => whnf))
    refine Cmp.cases (fun hq => ?_) (fun hq => ?_)
    · (conv => whnf); repeat ((first | refine tk1 ?_ | refine tk2 ?_ | refine tk3 ?_ | refine tk12 (fun _ => ?_) | refine tk4 ?_ | refine tk5 ?_ | refine tk6 ?_ | refine tk7 ?_ | refine tk8 ?_ | refine tk9 ?_ | refine tk10 (fun _ _ => ?_) | refine tk11 (fun _ => ?_) | refine tk13 ?_ | refine tk14 ?_); (conv => whnf))
      rw [hI, hd, List.any_cons, hq]; simp
    · (conv => whnf); repeat ((first | refine tk1 ?_ | refine tk2 ?_ | refine tk3 ?_ | refine tk12 (fun _ => ?_) | refine tk4 ?_ | refine tk5 ?_ | refine tk6 ?_ | refine tk7 ?_ | refine tk8 ?_ | refine tk9 ?_ | refine tk10 (fun _ _ => ?_) | refine tk11 (fun _ => ?_) | refine tk13 ?_ | refine tk14 ?_); (conv => whnf))
      exact ⟨k + 1, ⟨by omega, by rw [hI, hd, List.any_cons, beq_false_of_ne hq]; rfl⟩, rfl, (by repeat' (first | exact List.Sublist.refl _ | exact List.nil_sublist _ | apply List.Sublist.cons_cons | apply List.Sublist.cons)), by dsimp only; omega⟩
  · (conv => whnf); repeat ((first | refine tk1 ?_ | refine tk2 ?_ | refine tk3 ?_ | refine tk12 (fun _ => ?_) | refine tk4 ?_ | refine tk5 ?_ | refine tk6 ?_ | refine tk7 ?_ | refine tk8 ?_ | refine tk9 ?_ | refine tk10 (fun _ _ => ?_) | refine tk11 (fun _ => ?_) | refine tk13 ?_ | refine tk14 ?_); (conv => whnf))
    rw [hI, List.drop_eq_nil_of_le (by omega)]
    rfl
theorem Token_r (l : List UInt8) (hl : l.length ≤ 1000000000000) : Fn Tryz.prog gI 108 [str l] (.bool (tokenOf l)) := by
  refine Fn.of tys_ok Tryz.func108 rfl (by kernel_rfl) rfl rfl ?_; intro w hG
  (conv => whnf); repeat ((first | refine tk1 ?_ | refine tk2 ?_ | refine tk3 ?_ | refine tk12 (fun _ => ?_) | refine tk4 ?_ | refine tk5 ?_ | refine tk6 ?_ | refine tk7 ?_ | refine tk8 ?_ | refine tk9 ?_ | refine tk10 (fun _ _ => ?_) | refine tk11 (fun _ => ?_) | refine tk13 ?_ | refine tk14 ?_); (conv => whnf))
  refine LoopS.lp tys_ok (fun k u => [str l, u 1, u 2, .int .i64 (k : Nat), u 4, u 5, u 6, u 7, u 8, u 9, u 10, u 11, u 12, u 13, u 14, u 15, u 16, u 17, u 18, u 19, u 20, u 21, u 22, u 23, u 24]) (fun _ => [])
    (fun k => k ≤ l.length ∧ l.all tokB = (l.drop k).all tokB) (fun k => l.length - k) 0 ⟨Nat.zero_le _, rfl⟩ rfl (by repeat' (first | exact List.Sublist.refl _ | exact List.nil_sublist _ | apply List.Sublist.cons_cons | apply List.Sublist.cons)) ?_
  intro k u ⟨hk, hI⟩
  (conv => whnf); repeat ((first | refine tk1 ?_ | refine tk2 ?_ | refine tk3 ?_ | refine tk12 (fun _ => ?_) | refine tk4 ?_ | refine tk5 ?_ | refine tk6 ?_ | refine tk7 ?_ | refine tk8 ?_ | refine tk9 ?_ | refine tk10 (fun _ _ => ?_) | refine tk11 (fun _ => ?_) | refine tk13 ?_ | refine tk14 ?_); (conv => whnf))
  refine Cmp.cases (fun hlt => ?_) (fun hlt => ?_)
  · have hd : l.drop k = l[k]'(by omega) :: l.drop (k + 1) := List.drop_eq_getElem_cons (by omega)
    have ht : tokB (l[k]'(by omega)) = (smallI (l[k]'(by omega)).toNat || greatI (l[k]'(by omega)).toNat || markI (l[k]'(by omega)).toNat) := rfl
    (conv => whnf); repeat ((first | refine tk1 ?_ | refine tk2 ?_ | refine tk3 ?_ | refine tk12 (fun _ => ?_) | refine tk4 ?_ | refine tk5 ?_ | refine tk6 ?_ | refine tk7 ?_ | refine tk8 ?_ | refine tk9 ?_ | refine tk10 (fun _ _ => ?_) | refine tk11 (fun _ => ?_) | refine tk13 ?_ | refine tk14 ?_); (conv => whnf))
    refine IdxS.at (l[k]'(by omega)) (List.getElem?_eq_getElem _) (by omega) ?_
    (conv => whnf); repeat ((first | refine tk1 ?_ | refine tk2 ?_ | refine tk3 ?_ | refine tk12 (fun _ => ?_) | refine tk4 ?_ | refine tk5 ?_ | refine tk6 ?_ | refine tk7 ?_ | refine tk8 ?_ | refine tk9 ?_ | refine tk10 (fun _ _ => ?_) | refine tk11 (fun _ => ?_) | refine tk13 ?_ | refine tk14 ?_); (conv => whnf))
    refine CallK.fn (Letter_r _) ?_
    cases h1 : (smallI (l[k]'(by omega)).toNat || greatI (l[k]'(by omega)).toNat)
    · (conv => whnf); repeat ((first | refine tk1 ?_ | refine tk2 ?_ | refine tk3 ?_ | refine tk12 (fun _ => ?_) | refine tk4 ?_ | refine tk5 ?_ | refine tk6 ?_ | refine tk7 ?_ | refine tk8 ?_ | refine tk9 ?_ | refine tk10 (fun _ _ => ?_) | refine tk11 (fun _ => ?_) | refine tk13 ?_ | refine tk14 ?_); (conv => whnf))
      refine IdxS.at (l[k]'(by omega)) (List.getElem?_eq_getElem _) (by omega) ?_
      (conv => whnf); repeat ((first | refine tk1 ?_ | refine tk2 ?_ | refine tk3 ?_ | refine tk12 (fun _ => ?_) | refine tk4 ?_ | refine tk5 ?_ | refine tk6 ?_ | refine tk7 ?_ | refine tk8 ?_ | refine tk9 ?_ | refine tk10 (fun _ _ => ?_) | refine tk11 (fun _ => ?_) | refine tk13 ?_ | refine tk14 ?_); (conv => whnf))
      refine CallK.fn (mark_r _) ?_
      cases h2 : markI (l[k]'(by omega)).toNat
      · (conv => whnf); repeat ((first | refine tk1 ?_ | refine tk2 ?_ | refine tk3 ?_ | refine tk12 (fun _ => ?_) | refine tk4 ?_ | refine tk5 ?_ | refine tk6 ?_ | refine tk7 ?_ | refine tk8 ?_ | refine tk9 ?_ | refine tk10 (fun _ _ => ?_) | refine tk11 (fun _ => ?_) | refine tk13 ?_ | refine tk14 ?_); (conv => whnf))
        rw [show tokenOf l = false from by unfold tokenOf; rw [hI, hd, List.all_cons, ht, h1, h2]; exact Bool.and_false _]
      · (conv => whnf); repeat ((first | refine tk1 ?_ | refine tk2 ?_ | refine tk3 ?_ | refine tk12 (fun _ => ?_) | refine tk4 ?_ | refine tk5 ?_ | refine tk6 ?_ | refine tk7 ?_ | refine tk8 ?_ | refine tk9 ?_ | refine tk10 (fun _ _ => ?_) | refine tk11 (fun _ => ?_) | refine tk13 ?_ | refine tk14 ?_); (conv => whnf))
        exact ⟨k + 1, ⟨by omega, by rw [hI, hd, List.all_cons, ht, h1, h2]; rfl⟩, rfl, (by repeat' (first | exact List.Sublist.refl _ | exact List.nil_sublist _ | apply List.Sublist.cons_cons | apply List.Sublist.cons)), by dsimp only; omega⟩
    · (conv => whnf); repeat ((first | refine tk1 ?_ | refine tk2 ?_ | refine tk3 ?_ | refine tk12 (fun _ => ?_) | refine tk4 ?_ | refine tk5 ?_ | refine tk6 ?_ | refine tk7 ?_ | refine tk8 ?_ | refine tk9 ?_ | refine tk10 (fun _ _ => ?_) | refine tk11 (fun _ => ?_) | refine tk13 ?_ | refine tk14 ?_); (conv => whnf))
      exact ⟨k + 1, ⟨by omega, by rw [hI, hd, List.all_cons, ht, h1]; rfl⟩, rfl, (by repeat' (first | exact List.Sublist.refl _ | exact List.nil_sublist _ | apply List.Sublist.cons_cons | apply List.Sublist.cons)), by dsimp only; omega⟩
  · have h0 : l.all tokB = true := by rw [hI, List.drop_eq_nil_of_le (by omega)]; rfl
    (conv => whnf); repeat ((first | refine tk1 ?_ | refine tk2 ?_ | refine tk3 ?_ | refine tk12 (fun _ => ?_) | refine tk4 ?_ | refine tk5 ?_ | refine tk6 ?_ | refine tk7 ?_ | refine tk8 ?_ | refine tk9 ?_ | refine tk10 (fun _ _ => ?_) | refine tk11 (fun _ => ?_) | refine tk13 ?_ | refine tk14 ?_); (conv => whnf))
    refine Cmp.cases (fun hq => ?_) (fun hq => ?_)
    · (conv => whnf); repeat ((first | refine tk1 ?_ | refine tk2 ?_ | refine tk3 ?_ | refine tk12 (fun _ => ?_) | refine tk4 ?_ | refine tk5 ?_ | refine tk6 ?_ | refine tk7 ?_ | refine tk8 ?_ | refine tk9 ?_ | refine tk10 (fun _ _ => ?_) | refine tk11 (fun _ => ?_) | refine tk13 ?_ | refine tk14 ?_); (conv => whnf))
      cases l with
      | nil => simp at hq
      | cons a r => simp [tokenOf, h0]
    · (conv => whnf); repeat ((first | refine tk1 ?_ | refine tk2 ?_ | refine tk3 ?_ | refine tk12 (fun _ => ?_) | refine tk4 ?_ | refine tk5 ?_ | refine tk6 ?_ | refine tk7 ?_ | refine tk8 ?_ | refine tk9 ?_ | refine tk10 (fun _ _ => ?_) | refine tk11 (fun _ => ?_) | refine tk13 ?_ | refine tk14 ?_); (conv => whnf))
      obtain rfl : l = [] := List.eq_nil_of_length_eq_zero (by omega)
      rfl
theorem valB_is (x : UInt8) : valB x = !((decide (((x.toNat : Nat) : Int) < 32) && ((x.toNat : Nat) : Int) != 9) || ((x.toNat : Nat) : Int) == 127) := by
  have : ∀ n : Fin 256, valI ((n.val : Nat) : Int) = !((decide (((n.val : Nat) : Int) < 32) && ((n.val : Nat) : Int) != 9) || ((n.val : Nat) : Int) == 127) := by decide +kernel
  exact this ⟨x.toNat, x.toNat_lt⟩
theorem Value_r (l : List UInt8) (hl : l.length ≤ 1000000000000) : Fn Tryz.prog gI 110 [str l] (.bool (valueOf l)) := by
  refine Fn.of tys_ok Tryz.func110 rfl (by kernel_rfl) rfl rfl ?_; intro w hG
  (conv => whnf); repeat ((first | refine tk1 ?_ | refine tk2 ?_ | refine tk3 ?_ | refine tk12 (fun _ => ?_) | refine tk4 ?_ | refine tk5 ?_ | refine tk6 ?_ | refine tk7 ?_ | refine tk8 ?_ | refine tk9 ?_ | refine tk10 (fun _ _ => ?_) | refine tk11 (fun _ => ?_) | refine tk13 ?_ | refine tk14 ?_); (conv => whnf))
  refine LoopS.lp tys_ok (fun k u => [str l, u 1, u 2, .int .i64 (k : Nat), u 4, u 5, u 6, u 7, u 8, u 9, u 10, u 11, u 12, u 13, u 14, u 15, u 16, u 17, u 18, u 19, u 20, u 21, u 22, u 23, u 24, u 25, u 26, u 27, u 28, u 29, u 30, u 31, u 32, u 33, u 34, u 35, u 36, u 37, u 38, u 39, u 40, u 41, u 42, u 43]) (fun _ => [])
    (fun k => k ≤ l.length ∧ l.all valB = (l.drop k).all valB) (fun k => l.length - k) 0 ⟨Nat.zero_le _, rfl⟩ rfl (by repeat' (first | exact List.Sublist.refl _ | exact List.nil_sublist _ | apply List.Sublist.cons_cons | apply List.Sublist.cons)) ?_
  intro k u ⟨hk, hI⟩
  (conv => whnf); repeat ((first | refine tk1 ?_ | refine tk2 ?_ | refine tk3 ?_ | refine tk12 (fun _ => ?_) | refine tk4 ?_ | refine tk5 ?_ | refine tk6 ?_ | refine tk7 ?_ | refine tk8 ?_ | refine tk9 ?_ | refine tk10 (fun _ _ => ?_) | refine tk11 (fun _ => ?_) | refine tk13 ?_ | refine tk14 ?_); (conv => whnf))
  refine Cmp.cases (fun hlt => ?_) (fun hlt => ?_)
  · have hd : l.drop k = l[k]'(by omega) :: l.drop (k + 1) := List.drop_eq_getElem_cons (by omega)
    have ht := valB_is (l[k]'(by omega))
    have no : valB (l[k]'(by omega)) = false → valueOf l = false := fun h => by unfold valueOf; rw [hI, hd, List.all_cons, h]; exact Bool.and_false _
    have on : valB (l[k]'(by omega)) = true → l.all valB = (l.drop (k + 1)).all valB := fun h => by rw [hI, hd, List.all_cons, h]; rfl
    (conv => whnf); repeat ((first | refine tk1 ?_ | refine tk2 ?_ | refine tk3 ?_ | refine tk12 (fun _ => ?_) | refine tk4 ?_ | refine tk5 ?_ | refine tk6 ?_ | refine tk7 ?_ | refine tk8 ?_ | refine tk9 ?_ | refine tk10 (fun _ _ => ?_) | refine tk11 (fun _ => ?_) | refine tk13 ?_ | refine tk14 ?_); (conv => whnf))
    refine IdxS.at (l[k]'(by omega)) (List.getElem?_eq_getElem _) (by omega) ?_
    (conv => whnf); repeat ((first | refine tk1 ?_ | refine tk2 ?_ | refine tk3 ?_ | refine tk12 (fun _ => ?_) | refine tk4 ?_ | refine tk5 ?_ | refine tk6 ?_ | refine tk7 ?_ | refine tk8 ?_ | refine tk9 ?_ | refine tk10 (fun _ _ => ?_) | refine tk11 (fun _ => ?_) | refine tk13 ?_ | refine tk14 ?_); (conv => whnf))
    refine Cmp.cases (fun h1 => ?_) (fun h1 => ?_)
    · (conv => whnf); repeat ((first | refine tk1 ?_ | refine tk2 ?_ | refine tk3 ?_ | refine tk12 (fun _ => ?_) | refine tk4 ?_ | refine tk5 ?_ | refine tk6 ?_ | refine tk7 ?_ | refine tk8 ?_ | refine tk9 ?_ | refine tk10 (fun _ _ => ?_) | refine tk11 (fun _ => ?_) | refine tk13 ?_ | refine tk14 ?_); (conv => whnf))
      refine IdxS.at (l[k]'(by omega)) (List.getElem?_eq_getElem _) (by omega) ?_
      (conv => whnf); repeat ((first | refine tk1 ?_ | refine tk2 ?_ | refine tk3 ?_ | refine tk12 (fun _ => ?_) | refine tk4 ?_ | refine tk5 ?_ | refine tk6 ?_ | refine tk7 ?_ | refine tk8 ?_ | refine tk9 ?_ | refine tk10 (fun _ _ => ?_) | refine tk11 (fun _ => ?_) | refine tk13 ?_ | refine tk14 ?_); (conv => whnf))
      refine Cmp.cases (fun h2 => ?_) (fun h2 => ?_)
      · (conv => whnf); repeat ((first | refine tk1 ?_ | refine tk2 ?_ | refine tk3 ?_ | refine tk12 (fun _ => ?_) | refine tk4 ?_ | refine tk5 ?_ | refine tk6 ?_ | refine tk7 ?_ | refine tk8 ?_ | refine tk9 ?_ | refine tk10 (fun _ _ => ?_) | refine tk11 (fun _ => ?_) | refine tk13 ?_ | refine tk14 ?_); (conv => whnf))
        rw [no (by rw [ht]; simp; omega)]
      · (conv => whnf); repeat ((first | refine tk1 ?_ | refine tk2 ?_ | refine tk3 ?_ | refine tk12 (fun _ => ?_) | refine tk4 ?_ | refine tk5 ?_ | refine tk6 ?_ | refine tk7 ?_ | refine tk8 ?_ | refine tk9 ?_ | refine tk10 (fun _ _ => ?_) | refine tk11 (fun _ => ?_) | refine tk13 ?_ | refine tk14 ?_); (conv => whnf))
        refine IdxS.at (l[k]'(by omega)) (List.getElem?_eq_getElem _) (by omega) ?_
        (conv => whnf); repeat ((first | refine tk1 ?_ | refine tk2 ?_ | refine tk3 ?_ | refine tk12 (fun _ => ?_) | refine tk4 ?_ | refine tk5 ?_ | refine tk6 ?_ | refine tk7 ?_ | refine tk8 ?_ | refine tk9 ?_ | refine tk10 (fun _ _ => ?_) | refine tk11 (fun _ => ?_) | refine tk13 ?_ | refine tk14 ?_); (conv => whnf))
        exact ⟨k + 1, ⟨by omega, on (by rw [ht]; simp; omega)⟩, rfl, (by repeat' (first | exact List.Sublist.refl _ | exact List.nil_sublist _ | apply List.Sublist.cons_cons | apply List.Sublist.cons)), by dsimp only; omega⟩
    · (conv => whnf); repeat ((first | refine tk1 ?_ | refine tk2 ?_ | refine tk3 ?_ | refine tk12 (fun _ => ?_) | refine tk4 ?_ | refine tk5 ?_ | refine tk6 ?_ | refine tk7 ?_ | refine tk8 ?_ | refine tk9 ?_ | refine tk10 (fun _ _ => ?_) | refine tk11 (fun _ => ?_) | refine tk13 ?_ | refine tk14 ?_); (conv => whnf))
      refine IdxS.at (l[k]'(by omega)) (List.getElem?_eq_getElem _) (by omega) ?_
      (conv => whnf); repeat ((first | refine tk1 ?_ | refine tk2 ?_ | refine tk3 ?_ | refine tk12 (fun _ => ?_) | refine tk4 ?_ | refine tk5 ?_ | refine tk6 ?_ | refine tk7 ?_ | refine tk8 ?_ | refine tk9 ?_ | refine tk10 (fun _ _ => ?_) | refine tk11 (fun _ => ?_) | refine tk13 ?_ | refine tk14 ?_); (conv => whnf))
      refine Cmp.cases (fun h2 => ?_) (fun h2 => ?_)
      · (conv => whnf); repeat ((first | refine tk1 ?_ | refine tk2 ?_ | refine tk3 ?_ | refine tk12 (fun _ => ?_) | refine tk4 ?_ | refine tk5 ?_ | refine tk6 ?_ | refine tk7 ?_ | refine tk8 ?_ | refine tk9 ?_ | refine tk10 (fun _ _ => ?_) | refine tk11 (fun _ => ?_) | refine tk13 ?_ | refine tk14 ?_); (conv => whnf))
        rw [no (by rw [ht]; simp [h2])]
      · (conv => whnf); repeat ((first | refine tk1 ?_ | refine tk2 ?_ | refine tk3 ?_ | refine tk12 (fun _ => ?_) | refine tk4 ?_ | refine tk5 ?_ | refine tk6 ?_ | refine tk7 ?_ | refine tk8 ?_ | refine tk9 ?_ | refine tk10 (fun _ _ => ?_) | refine tk11 (fun _ => ?_) | refine tk13 ?_ | refine tk14 ?_); (conv => whnf))
        exact ⟨k + 1, ⟨by omega, on (by rw [ht]; simp; omega)⟩, rfl, (by repeat' (first | exact List.Sublist.refl _ | exact List.nil_sublist _ | apply List.Sublist.cons_cons | apply List.Sublist.cons)), by dsimp only; omega⟩
  · have h0 : l.all valB = true := by rw [hI, List.drop_eq_nil_of_le (by omega)]; rfl
    (conv => whnf); repeat ((first | refine tk1 ?_ | refine tk2 ?_ | refine tk3 ?_ | refine tk12 (fun _ => ?_) | refine tk4 ?_ | refine tk5 ?_ | refine tk6 ?_ | refine tk7 ?_ | refine tk8 ?_ | refine tk9 ?_ | refine tk10 (fun _ _ => ?_) | refine tk11 (fun _ => ?_) | refine tk13 ?_ | refine tk14 ?_); (conv => whnf))
    refine Cmp.cases (fun hq => ?_) (fun hq => ?_)
    · (conv => whnf); repeat ((first | refine tk1 ?_ | refine tk2 ?_ | refine tk3 ?_ | refine tk12 (fun _ => ?_) | refine tk4 ?_ | refine tk5 ?_ | refine tk6 ?_ | refine tk7 ?_ | refine tk8 ?_ | refine tk9 ?_ | refine tk10 (fun _ _ => ?_) | refine tk11 (fun _ => ?_) | refine tk13 ?_ | refine tk14 ?_); (conv => whnf))
      obtain rfl : l = [] := List.eq_nil_of_length_eq_zero (by omega)
      rfl
    · cases l with
      | nil => simp at hq
      | cons a r =>
        have hlast : (a :: r) = (a :: r).take r.length ++ [(a :: r)[r.length]'(by simp)] := by
          have := List.take_append_drop r.length (a :: r)
          rw [List.drop_eq_getElem_cons (by simp), List.drop_eq_nil_of_le (by simp)] at this
          exact this.symm
        have hv := valueOf_ends a r _ _ hlast
        rw [h0] at hv
        have hl1 : (((a :: r).length : Nat) : Int) = (r.length : Int) + 1 := by simp
        (conv => whnf); repeat ((first | refine tk1 ?_ | refine tk2 ?_ | refine tk3 ?_ | refine tk12 (fun _ => ?_) | refine tk4 ?_ | refine tk5 ?_ | refine tk6 ?_ | refine tk7 ?_ | refine tk8 ?_ | refine tk9 ?_ | refine tk10 (fun _ _ => ?_) | refine tk11 (fun _ => ?_) | refine tk13 ?_ | refine tk14 ?_); (conv => whnf))
        refine IdxS.at a rfl (by omega) ?_
        (conv => whnf); repeat ((first | refine tk1 ?_ | refine tk2 ?_ | refine tk3 ?_ | refine tk12 (fun _ => ?_) | refine tk4 ?_ | refine tk5 ?_ | refine tk6 ?_ | refine tk7 ?_ | refine tk8 ?_ | refine tk9 ?_ | refine tk10 (fun _ _ => ?_) | refine tk11 (fun _ => ?_) | refine tk13 ?_ | refine tk14 ?_); (conv => whnf))
        refine CallK.fn (Blank_r _) ?_
        rw [blank_is]
        cases hb : blankB a
        · (conv => whnf); repeat ((first | refine tk1 ?_ | refine tk2 ?_ | refine tk3 ?_ | refine tk12 (fun _ => ?_) | refine tk4 ?_ | refine tk5 ?_ | refine tk6 ?_ | refine tk7 ?_ | refine tk8 ?_ | refine tk9 ?_ | refine tk10 (fun _ _ => ?_) | refine tk11 (fun _ => ?_) | refine tk13 ?_ | refine tk14 ?_); (conv => whnf))
          refine IdxS.at ((a :: r)[r.length]'(by simp)) (by rw [hl1, show ((r.length : Int) + 1 - 1).toNat = r.length by omega]; exact List.getElem?_eq_getElem _) (by omega) ?_
          (conv => whnf); repeat ((first | refine tk1 ?_ | refine tk2 ?_ | refine tk3 ?_ | refine tk12 (fun _ => ?_) | refine tk4 ?_ | refine tk5 ?_ | refine tk6 ?_ | refine tk7 ?_ | refine tk8 ?_ | refine tk9 ?_ | refine tk10 (fun _ _ => ?_) | refine tk11 (fun _ => ?_) | refine tk13 ?_ | refine tk14 ?_); (conv => whnf))
          refine CallK.fn (Blank_r _) ?_
          rw [blank_is]
          (conv => whnf); repeat ((first | refine tk1 ?_ | refine tk2 ?_ | refine tk3 ?_ | refine tk12 (fun _ => ?_) | refine tk4 ?_ | refine tk5 ?_ | refine tk6 ?_ | refine tk7 ?_ | refine tk8 ?_ | refine tk9 ?_ | refine tk10 (fun _ _ => ?_) | refine tk11 (fun _ => ?_) | refine tk13 ?_ | refine tk14 ?_); (conv => whnf))
          rw [hv, hb]; simp
        · (conv => whnf); repeat ((first | refine tk1 ?_ | refine tk2 ?_ | refine tk3 ?_ | refine tk12 (fun _ => ?_) | refine tk4 ?_ | refine tk5 ?_ | refine tk6 ?_ | refine tk7 ?_ | refine tk8 ?_ | refine tk9 ?_ | refine tk10 (fun _ _ => ?_) | refine tk11 (fun _ => ?_) | refine tk13 ?_ | refine tk14 ?_); (conv => whnf))
          rw [hv, hb]; simp
theorem Small_r (l : List UInt8) (hl : l.length ≤ 1000000000000) : Fn Tryz.prog gI 109 [str l] (str (smallOf l)) := by
  refine Fn.of tys_ok Tryz.func109 rfl (by kernel_rfl) rfl rfl ?_; intro w hG
  (conv => whnf); repeat ((first | refine tk1 ?_ | refine tk2 ?_ | refine tk3 ?_ | refine tk12 (fun _ => ?_) | refine tk4 ?_ | refine tk5 ?_ | refine tk6 ?_ | refine tk7 ?_ | refine tk8 ?_ | refine tk9 ?_ | refine tk10 (fun _ _ => ?_) | refine tk11 (fun _ => ?_) | refine tk13 ?_ | refine tk14 ?_); (conv => whnf))
  refine LoopS.lp tys_ok (fun k u => [str l, u 1, u 2, str (smallOf (l.take k)), .int .i64 (k : Nat), u 5, u 6, u 7, u 8, u 9, u 10, u 11, u 12, u 13, u 14, u 15, u 16, u 17, u 18, u 19, u 20, u 21, u 22, u 23, u 24, u 25, u 26, u 27, u 28]) (fun _ => [])
    (fun k => k ≤ l.length) (fun k => l.length - k) 0 (Nat.zero_le _) rfl (by repeat' (first | exact List.Sublist.refl _ | exact List.nil_sublist _ | apply List.Sublist.cons_cons | apply List.Sublist.cons)) ?_
  intro k u hk
  (conv => whnf); repeat ((first | refine tk1 ?_ | refine tk2 ?_ | refine tk3 ?_ | refine tk12 (fun _ => ?_) | refine tk4 ?_ | refine tk5 ?_ | refine tk6 ?_ | refine tk7 ?_ | refine tk8 ?_ | refine tk9 ?_ | refine tk10 (fun _ _ => ?_) | refine tk11 (fun _ => ?_) | refine tk13 ?_ | refine tk14 ?_); (conv => whnf))
  refine Cmp.cases (fun hlt => ?_) (fun hlt => ?_)
  · have hlt' : k < l.length := by omega
    have hx := byte_le l[k]
    have ht : smallOf (l.take (k + 1)) = smallOf (l.take k) ++ [lowB l[k]] := by
      unfold smallOf
      rw [List.take_succ_eq_append_getElem hlt', List.map_append]; rfl
    have hs9 : (smallOf (l.take k)).length ≤ l.length := by rw [smallOf_length, List.length_take]; omega
    have hv := lowB_toNat l[k]
    unfold lowI greatI at hv
    (conv => whnf); repeat ((first | refine tk1 ?_ | refine tk2 ?_ | refine tk3 ?_ | refine tk12 (fun _ => ?_) | refine tk4 ?_ | refine tk5 ?_ | refine tk6 ?_ | refine tk7 ?_ | refine tk8 ?_ | refine tk9 ?_ | refine tk10 (fun _ _ => ?_) | refine tk11 (fun _ => ?_) | refine tk13 ?_ | refine tk14 ?_); (conv => whnf))
    refine IdxS.at l[k] (List.getElem?_eq_getElem _) (by omega) ?_
    (conv => whnf); repeat ((first | refine tk1 ?_ | refine tk2 ?_ | refine tk3 ?_ | refine tk12 (fun _ => ?_) | refine tk4 ?_ | refine tk5 ?_ | refine tk6 ?_ | refine tk7 ?_ | refine tk8 ?_ | refine tk9 ?_ | refine tk10 (fun _ _ => ?_) | refine tk11 (fun _ => ?_) | refine tk13 ?_ | refine tk14 ?_); (conv => whnf))
    refine Cmp.cases (fun h1 => ?_) (fun h1 => ?_)
    · (conv => whnf); repeat ((first | refine tk1 ?_ | refine tk2 ?_ | refine tk3 ?_ | refine tk12 (fun _ => ?_) | refine tk4 ?_ | refine tk5 ?_ | refine tk6 ?_ | refine tk7 ?_ | refine tk8 ?_ | refine tk9 ?_ | refine tk10 (fun _ _ => ?_) | refine tk11 (fun _ => ?_) | refine tk13 ?_ | refine tk14 ?_); (conv => whnf))
      refine Cmp.cases (fun h2 => ?_) (fun h2 => ?_)
      · (conv => whnf); repeat ((first | refine tk1 ?_ | refine tk2 ?_ | refine tk3 ?_ | refine tk12 (fun _ => ?_) | refine tk4 ?_ | refine tk5 ?_ | refine tk6 ?_ | refine tk7 ?_ | refine tk8 ?_ | refine tk9 ?_ | refine tk10 (fun _ _ => ?_) | refine tk11 (fun _ => ?_) | refine tk13 ?_ | refine tk14 ?_); (conv => whnf))
        refine Ar.in8 (by omega) (by omega) ?_
        (conv => whnf); repeat ((first | refine tk1 ?_ | refine tk2 ?_ | refine tk3 ?_ | refine tk12 (fun _ => ?_) | refine tk4 ?_ | refine tk5 ?_ | refine tk6 ?_ | refine tk7 ?_ | refine tk8 ?_ | refine tk9 ?_ | refine tk10 (fun _ _ => ?_) | refine tk11 (fun _ => ?_) | refine tk13 ?_ | refine tk14 ?_); (conv => whnf))
        rename_i b
        refine B2S.rd (l := [lowB l[k]]) (by rw [show [Value.int .u8 (((l[k].toNat : Nat) : Int) + 32)] = [lowB l[k]].map byteV from by simp [byteV]; rw [hv]; simp; omega]; exact RdS.here) rfl ?_
        (conv => whnf); repeat ((first | refine tk1 ?_ | refine tk2 ?_ | refine tk3 ?_ | refine tk12 (fun _ => ?_) | refine tk4 ?_ | refine tk5 ?_ | refine tk6 ?_ | refine tk7 ?_ | refine tk8 ?_ | refine tk9 ?_ | refine tk10 (fun _ _ => ?_) | refine tk11 (fun _ => ?_) | refine tk13 ?_ | refine tk14 ?_); (conv => whnf))
        refine CatS.at (by simp; omega) ?_
        (conv => whnf); repeat ((first | refine tk1 ?_ | refine tk2 ?_ | refine tk3 ?_ | refine tk12 (fun _ => ?_) | refine tk4 ?_ | refine tk5 ?_ | refine tk6 ?_ | refine tk7 ?_ | refine tk8 ?_ | refine tk9 ?_ | refine tk10 (fun _ _ => ?_) | refine tk11 (fun _ => ?_) | refine tk13 ?_ | refine tk14 ?_); (conv => whnf))
        exact ⟨k + 1, by omega, by dsimp only; rw [ht]; rfl, (by repeat' (first | exact List.Sublist.refl _ | exact List.nil_sublist _ | apply List.Sublist.cons_cons | apply List.Sublist.cons)), by dsimp only; omega⟩
      · (conv => whnf); repeat ((first | refine tk1 ?_ | refine tk2 ?_ | refine tk3 ?_ | refine tk12 (fun _ => ?_) | refine tk4 ?_ | refine tk5 ?_ | refine tk6 ?_ | refine tk7 ?_ | refine tk8 ?_ | refine tk9 ?_ | refine tk10 (fun _ _ => ?_) | refine tk11 (fun _ => ?_) | refine tk13 ?_ | refine tk14 ?_); (conv => whnf))
        refine B2S.rd (l := [lowB l[k]]) (by rw [show [Value.int .u8 ((l[k].toNat : Nat) : Int)] = [lowB l[k]].map byteV from by simp [byteV]; rw [hv]; simp; omega]; exact RdS.here) rfl ?_
        (conv => whnf); repeat ((first | refine tk1 ?_ | refine tk2 ?_ | refine tk3 ?_ | refine tk12 (fun _ => ?_) | refine tk4 ?_ | refine tk5 ?_ | refine tk6 ?_ | refine tk7 ?_ | refine tk8 ?_ | refine tk9 ?_ | refine tk10 (fun _ _ => ?_) | refine tk11 (fun _ => ?_) | refine tk13 ?_ | refine tk14 ?_); (conv => whnf))
        refine CatS.at (by simp; omega) ?_
        (conv => whnf); repeat ((first | refine tk1 ?_ | refine tk2 ?_ | refine tk3 ?_ | refine tk12 (fun _ => ?_) | refine tk4 ?_ | refine tk5 ?_ | refine tk6 ?_ | refine tk7 ?_ | refine tk8 ?_ | refine tk9 ?_ | refine tk10 (fun _ _ => ?_) | refine tk11 (fun _ => ?_) | refine tk13 ?_ | refine tk14 ?_); (conv => whnf))
        exact ⟨k + 1, by omega, by dsimp only; rw [ht]; rfl, (by repeat' (first | exact List.Sublist.refl _ | exact List.nil_sublist _ | apply List.Sublist.cons_cons | apply List.Sublist.cons)), by dsimp only; omega⟩
    · (conv => whnf); repeat ((first | refine tk1 ?_ | refine tk2 ?_ | refine tk3 ?_ | refine tk12 (fun _ => ?_) | refine tk4 ?_ | refine tk5 ?_ | refine tk6 ?_ | refine tk7 ?_ | refine tk8 ?_ | refine tk9 ?_ | refine tk10 (fun _ _ => ?_) | refine tk11 (fun _ => ?_) | refine tk13 ?_ | refine tk14 ?_); (conv => whnf))
      refine B2S.rd (l := [lowB l[k]]) (by rw [show [Value.int .u8 ((l[k].toNat : Nat) : Int)] = [lowB l[k]].map byteV from by simp [byteV]; rw [hv]; simp; omega]; exact RdS.here) rfl ?_
      (conv => whnf); repeat ((first | refine tk1 ?_ | refine tk2 ?_ | refine tk3 ?_ | refine tk12 (fun _ => ?_) | refine tk4 ?_ | refine tk5 ?_ | refine tk6 ?_ | refine tk7 ?_ | refine tk8 ?_ | refine tk9 ?_ | refine tk10 (fun _ _ => ?_) | refine tk11 (fun _ => ?_) | refine tk13 ?_ | refine tk14 ?_); (conv => whnf))
      refine CatS.at (by simp; omega) ?_
      (conv => whnf); repeat ((first | refine tk1 ?_ | refine tk2 ?_ | refine tk3 ?_ | refine tk12 (fun _ => ?_) | refine tk4 ?_ | refine tk5 ?_ | refine tk6 ?_ | refine tk7 ?_ | refine tk8 ?_ | refine tk9 ?_ | refine tk10 (fun _ _ => ?_) | refine tk11 (fun _ => ?_) | refine tk13 ?_ | refine tk14 ?_); (conv => whnf))
      exact ⟨k + 1, by omega, by dsimp only; rw [ht]; rfl, (by repeat' (first | exact List.Sublist.refl _ | exact List.nil_sublist _ | apply List.Sublist.cons_cons | apply List.Sublist.cons)), by dsimp only; omega⟩
  · (conv => whnf); repeat ((first | refine tk1 ?_ | refine tk2 ?_ | refine tk3 ?_ | refine tk12 (fun _ => ?_) | refine tk4 ?_ | refine tk5 ?_ | refine tk6 ?_ | refine tk7 ?_ | refine tk8 ?_ | refine tk9 ?_ | refine tk10 (fun _ _ => ?_) | refine tk11 (fun _ => ?_) | refine tk13 ?_ | refine tk14 ?_); (conv => whnf))
    rw [List.take_of_length_le (by omega)]
theorem last_of (t : List UInt8) (h : 0 < t.length) : t = t.take (t.length - 1) ++ [t[t.length - 1]'(by omega)] := by
  have := List.take_append_drop (t.length - 1) t
  rw [List.drop_eq_getElem_cons (by omega), List.drop_eq_nil_of_le (by omega)] at this
  exact this.symm
end Go.Proofs.YtmdmmncoigeijaaGreatDoor.Vex
/- The references' functions on fields, reckoned. -/
namespace Go.Proofs.YtmdmmncoigeijaaGreatDoor.Vex
open Go Go.RowKit
set_option maxRecDepth 100000
set_option linter.unusedSectionVars false
variable {gI : GI} [HasMax gI]

theorem May_r (n v : List UInt8) : Fn Tryz.prog gI 73 [.agg ⟨[str n, str v]⟩] (.bool (fieldOK n v)) := by
  refine Fn.of tys_ok Tryz.func73 rfl (by kernel_rfl) rfl rfl ?_; intro w hG
  (conv => whnf); repeat ((first | refine tk1 ?_ | refine tk2 ?_ | refine tk3 ?_ | refine tk12 (fun _ => ?_) | refine tk4 ?_ | refine tk5 ?_ | refine tk6 ?_ | refine tk7 ?_ | refine tk8 ?_ | refine tk9 ?_ | refine tk10 (fun _ _ => ?_) | refine tk11 (fun _ => ?_) | refine tk13 ?_ | refine tk14 ?_); (conv => whnf))
  refine DrawS.go (qs 29) tys_ok mixed (by kernel_rfl) ?_
  (conv => whnf); repeat ((first | refine tk1 ?_ | refine tk2 ?_ | refine tk3 ?_ | refine tk12 (fun _ => ?_) | refine tk4 ?_ | refine tk5 ?_ | refine tk6 ?_ | refine tk7 ?_ | refine tk8 ?_ | refine tk9 ?_ | refine tk10 (fun _ _ => ?_) | refine tk11 (fun _ => ?_) | refine tk13 ?_ | refine tk14 ?_); (conv => whnf))
  refine Cmp.cases (fun h1 => ?_) (fun h1 => ?_)
  · (conv => whnf); repeat ((first | refine tk1 ?_ | refine tk2 ?_ | refine tk3 ?_ | refine tk12 (fun _ => ?_) | refine tk4 ?_ | refine tk5 ?_ | refine tk6 ?_ | refine tk7 ?_ | refine tk8 ?_ | refine tk9 ?_ | refine tk10 (fun _ _ => ?_) | refine tk11 (fun _ => ?_) | refine tk13 ?_ | refine tk14 ?_); (conv => whnf))
    refine Cmp.cases (fun h2 => ?_) (fun h2 => ?_)
    · (conv => whnf); repeat ((first | refine tk1 ?_ | refine tk2 ?_ | refine tk3 ?_ | refine tk12 (fun _ => ?_) | refine tk4 ?_ | refine tk5 ?_ | refine tk6 ?_ | refine tk7 ?_ | refine tk8 ?_ | refine tk9 ?_ | refine tk10 (fun _ _ => ?_) | refine tk11 (fun _ => ?_) | refine tk13 ?_ | refine tk14 ?_); (conv => whnf))
      refine CallQ.fn (Token_r n (by omega)) ?_
      have e1 : n.length ≤ 4096 := by omega
      have e2 : v.length ≤ 4096 := by omega
      cases h3 : tokenOf n
      · (conv => whnf); repeat ((first | refine tk1 ?_ | refine tk2 ?_ | refine tk3 ?_ | refine tk12 (fun _ => ?_) | refine tk4 ?_ | refine tk5 ?_ | refine tk6 ?_ | refine tk7 ?_ | refine tk8 ?_ | refine tk9 ?_ | refine tk10 (fun _ _ => ?_) | refine tk11 (fun _ => ?_) | refine tk13 ?_ | refine tk14 ?_); (conv => whnf))
        simp [fieldOK, h3]
      · (conv => whnf); repeat ((first | refine tk1 ?_ | refine tk2 ?_ | refine tk3 ?_ | refine tk12 (fun _ => ?_) | refine tk4 ?_ | refine tk5 ?_ | refine tk6 ?_ | refine tk7 ?_ | refine tk8 ?_ | refine tk9 ?_ | refine tk10 (fun _ _ => ?_) | refine tk11 (fun _ => ?_) | refine tk13 ?_ | refine tk14 ?_); (conv => whnf))
        refine CallQ.fn (Small_r n (by omega)) ?_
        (conv => whnf); repeat ((first | refine tk1 ?_ | refine tk2 ?_ | refine tk3 ?_ | refine tk12 (fun _ => ?_) | refine tk4 ?_ | refine tk5 ?_ | refine tk6 ?_ | refine tk7 ?_ | refine tk8 ?_ | refine tk9 ?_ | refine tk10 (fun _ _ => ?_) | refine tk11 (fun _ => ?_) | refine tk13 ?_ | refine tk14 ?_); (conv => whnf))
        refine Cmp.cases (fun h4 => ?_) (fun h4 => ?_)
        · (conv => whnf); repeat ((first | refine tk1 ?_ | refine tk2 ?_ | refine tk3 ?_ | refine tk12 (fun _ => ?_) | refine tk4 ?_ | refine tk5 ?_ | refine tk6 ?_ | refine tk7 ?_ | refine tk8 ?_ | refine tk9 ?_ | refine tk10 (fun _ _ => ?_) | refine tk11 (fun _ => ?_) | refine tk13 ?_ | refine tk14 ?_); (conv => whnf))
          refine CallQ.fn (Value_r v (by omega)) ?_
          (conv => whnf); repeat ((first | refine tk1 ?_ | refine tk2 ?_ | refine tk3 ?_ | refine tk12 (fun _ => ?_) | refine tk4 ?_ | refine tk5 ?_ | refine tk6 ?_ | refine tk7 ?_ | refine tk8 ?_ | refine tk9 ?_ | refine tk10 (fun _ _ => ?_) | refine tk11 (fun _ => ?_) | refine tk13 ?_ | refine tk14 ?_); (conv => whnf))
          simp [fieldOK, h3, h4, e1, e2]
        · (conv => whnf); repeat ((first | refine tk1 ?_ | refine tk2 ?_ | refine tk3 ?_ | refine tk12 (fun _ => ?_) | refine tk4 ?_ | refine tk5 ?_ | refine tk6 ?_ | refine tk7 ?_ | refine tk8 ?_ | refine tk9 ?_ | refine tk10 (fun _ _ => ?_) | refine tk11 (fun _ => ?_) | refine tk13 ?_ | refine tk14 ?_); (conv => whnf))
          simp [fieldOK, h3, h4]
    · (conv => whnf); repeat ((first | refine tk1 ?_ | refine tk2 ?_ | refine tk3 ?_ | refine tk12 (fun _ => ?_) | refine tk4 ?_ | refine tk5 ?_ | refine tk6 ?_ | refine tk7 ?_ | refine tk8 ?_ | refine tk9 ?_ | refine tk10 (fun _ _ => ?_) | refine tk11 (fun _ => ?_) | refine tk13 ?_ | refine tk14 ?_); (conv => whnf))
      simp [fieldOK]; omega
  · (conv => whnf); repeat ((first | refine tk1 ?_ | refine tk2 ?_ | refine tk3 ?_ | refine tk12 (fun _ => ?_) | refine tk4 ?_ | refine tk5 ?_ | refine tk6 ?_ | refine tk7 ?_ | refine tk8 ?_ | refine tk9 ?_ | refine tk10 (fun _ _ => ?_) | refine tk11 (fun _ => ?_) | refine tk13 ?_ | refine tk14 ?_); (conv => whnf))
    simp [fieldOK]; omega
theorem Line_r (n v : List UInt8) : Fn Tryz.prog gI 53 [.agg ⟨[str n, str v]⟩] (.tuple #[str (lineOf n v), .int .i64 (fieldE n v)]) := by
  refine Fn.of tys_ok Tryz.func53 rfl (by kernel_rfl) rfl rfl ?_; intro w hG
  (conv => whnf); repeat ((first | refine tk1 ?_ | refine tk2 ?_ | refine tk3 ?_ | refine tk12 (fun _ => ?_) | refine tk4 ?_ | refine tk5 ?_ | refine tk6 ?_ | refine tk7 ?_ | refine tk8 ?_ | refine tk9 ?_ | refine tk10 (fun _ _ => ?_) | refine tk11 (fun _ => ?_) | refine tk13 ?_ | refine tk14 ?_); (conv => whnf))
  refine CallK.fn (May_r n v) ?_
  cases h3 : fieldOK n v
  · (conv => whnf); repeat ((first | refine tk1 ?_ | refine tk2 ?_ | refine tk3 ?_ | refine tk12 (fun _ => ?_) | refine tk4 ?_ | refine tk5 ?_ | refine tk6 ?_ | refine tk7 ?_ | refine tk8 ?_ | refine tk9 ?_ | refine tk10 (fun _ _ => ?_) | refine tk11 (fun _ => ?_) | refine tk13 ?_ | refine tk14 ?_); (conv => whnf))
    simp [lineOf, fieldE, h3]
  · have hp := fieldOK_parts h3
    (conv => whnf); repeat ((first | refine tk1 ?_ | refine tk2 ?_ | refine tk3 ?_ | refine tk12 (fun _ => ?_) | refine tk4 ?_ | refine tk5 ?_ | refine tk6 ?_ | refine tk7 ?_ | refine tk8 ?_ | refine tk9 ?_ | refine tk10 (fun _ _ => ?_) | refine tk11 (fun _ => ?_) | refine tk13 ?_ | refine tk14 ?_); (conv => whnf))
    refine CatS.at (by simp; omega) ?_
    (conv => whnf); repeat ((first | refine tk1 ?_ | refine tk2 ?_ | refine tk3 ?_ | refine tk12 (fun _ => ?_) | refine tk4 ?_ | refine tk5 ?_ | refine tk6 ?_ | refine tk7 ?_ | refine tk8 ?_ | refine tk9 ?_ | refine tk10 (fun _ _ => ?_) | refine tk11 (fun _ => ?_) | refine tk13 ?_ | refine tk14 ?_); (conv => whnf))
    refine CatS.at (by simp; omega) ?_
    (conv => whnf); repeat ((first | refine tk1 ?_ | refine tk2 ?_ | refine tk3 ?_ | refine tk12 (fun _ => ?_) | refine tk4 ?_ | refine tk5 ?_ | refine tk6 ?_ | refine tk7 ?_ | refine tk8 ?_ | refine tk9 ?_ | refine tk10 (fun _ _ => ?_) | refine tk11 (fun _ => ?_) | refine tk13 ?_ | refine tk14 ?_); (conv => whnf))
    simp [lineOf, fieldE, h3]
theorem Line_f (n v : List UInt8) (hn : n.length ≤ 1000000000000) : Fn Tryz.prog gI 50 [.agg ⟨[str n, str v]⟩] (.tuple #[str (lineOf n v), .int .i64 (fieldE n v)]) := by
  refine Fn.of tys_ok Tryz.func50 rfl (by kernel_rfl) rfl rfl ?_; intro w hG
  (conv => whnf); repeat ((first | refine tk1 ?_ | refine tk2 ?_ | refine tk3 ?_ | refine tk12 (fun _ => ?_) | refine tk4 ?_ | refine tk5 ?_ | refine tk6 ?_ | refine tk7 ?_ | refine tk8 ?_ | refine tk9 ?_ | refine tk10 (fun _ _ => ?_) | refine tk11 (fun _ => ?_) | refine tk13 ?_ | refine tk14 ?_); (conv => whnf))
  refine CallK.fn (Check_f _ _ hn) ?_
  cases h3 : fieldOK n v
  · simp only [fieldE, h3, Bool.false_eq_true, if_false]
    (conv => whnf); repeat ((first | refine tk1 ?_ | refine tk2 ?_ | refine tk3 ?_ | refine tk12 (fun _ => ?_) | refine tk4 ?_ | refine tk5 ?_ | refine tk6 ?_ | refine tk7 ?_ | refine tk8 ?_ | refine tk9 ?_ | refine tk10 (fun _ _ => ?_) | refine tk11 (fun _ => ?_) | refine tk13 ?_ | refine tk14 ?_); (conv => whnf))
    simp [lineOf, h3]
  · have hp := fieldOK_parts h3
    simp only [fieldE, h3, if_true]
    (conv => whnf); repeat ((first | refine tk1 ?_ | refine tk2 ?_ | refine tk3 ?_ | refine tk12 (fun _ => ?_) | refine tk4 ?_ | refine tk5 ?_ | refine tk6 ?_ | refine tk7 ?_ | refine tk8 ?_ | refine tk9 ?_ | refine tk10 (fun _ _ => ?_) | refine tk11 (fun _ => ?_) | refine tk13 ?_ | refine tk14 ?_); (conv => whnf))
    refine CatS.at (by simp; omega) ?_
    (conv => whnf); repeat ((first | refine tk1 ?_ | refine tk2 ?_ | refine tk3 ?_ | refine tk12 (fun _ => ?_) | refine tk4 ?_ | refine tk5 ?_ | refine tk6 ?_ | refine tk7 ?_ | refine tk8 ?_ | refine tk9 ?_ | refine tk10 (fun _ _ => ?_) | refine tk11 (fun _ => ?_) | refine tk13 ?_ | refine tk14 ?_); (conv => whnf))
    refine CatS.at (by simp; omega) ?_
    (conv => whnf); repeat ((first | refine tk1 ?_ | refine tk2 ?_ | refine tk3 ?_ | refine tk12 (fun _ => ?_) | refine tk4 ?_ | refine tk5 ?_ | refine tk6 ?_ | refine tk7 ?_ | refine tk8 ?_ | refine tk9 ?_ | refine tk10 (fun _ _ => ?_) | refine tk11 (fun _ => ?_) | refine tk13 ?_ | refine tk14 ?_); (conv => whnf))
    simp [lineOf, h3]
end Go.Proofs.YtmdmmncoigeijaaGreatDoor.Vex
/- Functions on lists of fields, reckoned. -/
namespace Go.Proofs.YtmdmmncoigeijaaGreatDoor.Vex
open Go Go.RowKit
set_option maxRecDepth 100000
set_option linter.unusedSectionVars false
variable {gI : GI} [HasMax gI]

abbrev Fld := List UInt8 × List UInt8
/-- The cells of a list of fields. -/
def fcells : List Fld → List Value
  | [] => []
  | p :: r => str p.1 :: str p.2 :: fcells r
theorem fcells_length : ∀ l : List Fld, (fcells l).length = 2 * l.length
  | [] => rfl
  | _ :: r => by simp [fcells, fcells_length r]; omega
theorem fcells_drop : ∀ (l : List Fld) (k : Nat), (fcells l).drop (k * 2) = fcells (l.drop k)
  | l, 0 => by simp
  | [], k + 1 => by simp [fcells]
  | _ :: r, k + 1 => by rw [show (k + 1) * 2 = k * 2 + 2 by omega]; exact fcells_drop r k
theorem fcells_app : ∀ a b : List Fld, fcells (a ++ b) = fcells a ++ fcells b
  | [], _ => rfl
  | p :: a, b => by simp [fcells, fcells_app a b]
theorem fcells_one : ∀ l : List Fld, ∀ u ∈ fcells l, u.oneCell' = true
  | [], _, h => by cases h
  | p :: l, u, h => by
    simp only [fcells, List.mem_cons] at h
    rcases h with rfl | rfl | h
    · rfl
    · rfl
    · exact fcells_one l u h
theorem rdw_nil {w : World} {xs : List Value} (h : Rdw w none xs) : xs = [] := by
  cases xs with
  | nil => rfl
  | cons x r => obtain ⟨a, ha, _⟩ := h 0 x rfl; cases ha
theorem fcells_two (l : List Fld) (k : Nat) (h : k < l.length) : ((fcells l).drop (k * 2)).take 2 = [str l[k].1, str l[k].2] := by
  rw [fcells_drop, List.drop_eq_getElem_cons h]; rfl
theorem fcells_0 (l : List Fld) (k : Nat) (h : k < l.length) : (fcells l)[k * 2 + 0]? = some (str l[k].1) := by
  have := congrArg (·[0]?) (fcells_two l k h)
  simpa [List.getElem?_drop] using this
theorem fcells_1 (l : List Fld) (k : Nat) (h : k < l.length) : (fcells l)[k * 2 + 1]? = some (str l[k].2) := by
  have := congrArg (·[1]?) (fcells_two l k h)
  simpa [List.getElem?_drop] using this
def fw (p : Fld) : Nat := 1 + min p.1.length 100000 + min p.2.length 100000
def gs : List Fld → Nat
  | [] => 0
  | p :: r => fw p + gs r
theorem gs_add : ∀ a b : List Fld, gs (a ++ b) = gs a + gs b
  | [], b => by simp [gs]
  | p :: a, b => by simp [gs, gs_add a b]; omega
theorem gs_take (l : List Fld) (k : Nat) (h : k < l.length) : gs (l.take (k + 1)) = gs (l.take k) + fw l[k] := by
  rw [List.take_succ_eq_append_getElem h, gs_add]; simp [gs]
theorem Great_r (A : Option Addr) (cp : Nat) (l : List Fld) : FnR Tryz.prog gI 32 [.slice A l.length cp] [(A, fcells l)] (.bool (decide (3000 < gs (l.take 1000)))) := by
  refine FnE.of tys_ok Tryz.func32 rfl (by kernel_rfl) rfl rfl ?_; intro w hG hP
  have hR : ∀ H, RdS (mkC Tryz.prog gI w hG) H A (fcells l) := fun H => hP.1.now
  (conv => whnf); repeat ((first | refine tk1 ?_ | refine tk2 ?_ | refine tk3 ?_ | refine tk12 (fun _ => ?_) | refine tk4 ?_ | refine tk5 ?_ | refine tk6 ?_ | refine tk7 ?_ | refine tk8 ?_ | refine tk9 ?_ | refine tk10 (fun _ _ => ?_) | refine tk11 (fun _ => ?_) | refine tk13 ?_ | refine tk14 ?_); (conv => whnf))
  refine LoopS.lp tys_ok (fun k u => [.slice A l.length cp, u 1, u 2, .int .i64 (gs (l.take k) : Nat), .int .i64 (k : Nat), u 5, u 6, u 7, u 8, u 9, u 10, u 11, u 12, u 13, u 14, u 15, u 16, u 17, u 18, u 19, u 20, u 21, u 22, u 23, u 24, u 25, u 26, u 27, u 28, u 29, u 30, u 31, u 32, u 33, u 34]) (fun _ => [])
    (fun k => k ≤ l.length ∧ k ≤ 1000 ∧ gs (l.take k) ≤ k * 200001) (fun k => l.length - k) 0 ⟨Nat.zero_le _, Nat.zero_le _, Nat.zero_le _⟩ rfl (by repeat' (first | exact List.Sublist.refl _ | exact List.nil_sublist _ | apply List.Sublist.cons_cons | apply List.Sublist.cons)) ?_
  intro k u ⟨hk, hk9, hz⟩
  (conv => whnf); repeat ((first | refine tk1 ?_ | refine tk2 ?_ | refine tk3 ?_ | refine tk12 (fun _ => ?_) | refine tk4 ?_ | refine tk5 ?_ | refine tk6 ?_ | refine tk7 ?_ | refine tk8 ?_ | refine tk9 ?_ | refine tk10 (fun _ _ => ?_) | refine tk11 (fun _ => ?_) | refine tk13 ?_ | refine tk14 ?_); (conv => whnf))
  refine Cmp.cases (fun hlt => ?_) (fun hlt => ?_)
  · have hlt' : k < l.length := by omega
    (conv => whnf); repeat ((first | refine tk1 ?_ | refine tk2 ?_ | refine tk3 ?_ | refine tk12 (fun _ => ?_) | refine tk4 ?_ | refine tk5 ?_ | refine tk6 ?_ | refine tk7 ?_ | refine tk8 ?_ | refine tk9 ?_ | refine tk10 (fun _ _ => ?_) | refine tk11 (fun _ => ?_) | refine tk13 ?_ | refine tk14 ?_); (conv => whnf))
    refine Cmp.cases (fun hl9 => ?_) (fun hl9 => ?_)
    · have hs := gs_take l k hlt'
      have hfw : fw l[k] = 1 + min l[k].1.length 100000 + min l[k].2.length 100000 := rfl
      have h0 := fcells_0 l k hlt'
      have h1 := fcells_1 l k hlt'
      (conv => whnf); repeat ((first | refine tk1 ?_ | refine tk2 ?_ | refine tk3 ?_ | refine tk12 (fun _ => ?_) | refine tk4 ?_ | refine tk5 ?_ | refine tk6 ?_ | refine tk7 ?_ | refine tk8 ?_ | refine tk9 ?_ | refine tk10 (fun _ _ => ?_) | refine tk11 (fun _ => ?_) | refine tk13 ?_ | refine tk14 ?_); (conv => whnf))
      refine DrawS.go (qs 19) tys_ok mixed (by kernel_rfl) ?_
      (conv => whnf); repeat ((first | refine tk1 ?_ | refine tk2 ?_ | refine tk3 ?_ | refine tk12 (fun _ => ?_) | refine tk4 ?_ | refine tk5 ?_ | refine tk6 ?_ | refine tk7 ?_ | refine tk8 ?_ | refine tk9 ?_ | refine tk10 (fun _ _ => ?_) | refine tk11 (fun _ => ?_) | refine tk13 ?_ | refine tk14 ?_); (conv => whnf))
      refine IdxA.rd (hR _) (by rw [fcells_length]; omega) (by omega) (by omega) ?_
      (conv => whnf); repeat ((first | refine tk1 ?_ | refine tk2 ?_ | refine tk3 ?_ | refine tk12 (fun _ => ?_) | refine tk4 ?_ | refine tk5 ?_ | refine tk6 ?_ | refine tk7 ?_ | refine tk8 ?_ | refine tk9 ?_ | refine tk10 (fun _ _ => ?_) | refine tk11 (fun _ => ?_) | refine tk13 ?_ | refine tk14 ?_); (conv => whnf))
      refine Ld.rdF (hR _) h0 ?_
      (conv => whnf); repeat ((first | refine tk1 ?_ | refine tk2 ?_ | refine tk3 ?_ | refine tk12 (fun _ => ?_) | refine tk4 ?_ | refine tk5 ?_ | refine tk6 ?_ | refine tk7 ?_ | refine tk8 ?_ | refine tk9 ?_ | refine tk10 (fun _ _ => ?_) | refine tk11 (fun _ => ?_) | refine tk13 ?_ | refine tk14 ?_); (conv => whnf))
      refine OthP.min2 (min (l[k].1.length : Int) 100000) rfl rfl rfl ?_
      (conv => whnf); repeat ((first | refine tk1 ?_ | refine tk2 ?_ | refine tk3 ?_ | refine tk12 (fun _ => ?_) | refine tk4 ?_ | refine tk5 ?_ | refine tk6 ?_ | refine tk7 ?_ | refine tk8 ?_ | refine tk9 ?_ | refine tk10 (fun _ _ => ?_) | refine tk11 (fun _ => ?_) | refine tk13 ?_ | refine tk14 ?_); (conv => whnf))
      refine IdxA.rd (hR _) (by rw [fcells_length]; omega) (by omega) (by omega) ?_
      (conv => whnf); repeat ((first | refine tk1 ?_ | refine tk2 ?_ | refine tk3 ?_ | refine tk12 (fun _ => ?_) | refine tk4 ?_ | refine tk5 ?_ | refine tk6 ?_ | refine tk7 ?_ | refine tk8 ?_ | refine tk9 ?_ | refine tk10 (fun _ _ => ?_) | refine tk11 (fun _ => ?_) | refine tk13 ?_ | refine tk14 ?_); (conv => whnf))
      refine Ld.rdF (hR _) h1 ?_
      (conv => whnf); repeat ((first | refine tk1 ?_ | refine tk2 ?_ | refine tk3 ?_ | refine tk12 (fun _ => ?_) | refine tk4 ?_ | refine tk5 ?_ | refine tk6 ?_ | refine tk7 ?_ | refine tk8 ?_ | refine tk9 ?_ | refine tk10 (fun _ _ => ?_) | refine tk11 (fun _ => ?_) | refine tk13 ?_ | refine tk14 ?_); (conv => whnf))
      refine OthP.min2 (min (l[k].2.length : Int) 100000) rfl rfl rfl ?_
      (conv => whnf); repeat ((first | refine tk1 ?_ | refine tk2 ?_ | refine tk3 ?_ | refine tk12 (fun _ => ?_) | refine tk4 ?_ | refine tk5 ?_ | refine tk6 ?_ | refine tk7 ?_ | refine tk8 ?_ | refine tk9 ?_ | refine tk10 (fun _ _ => ?_) | refine tk11 (fun _ => ?_) | refine tk13 ?_ | refine tk14 ?_); (conv => whnf))
      exact ⟨k + 1, ⟨by omega, by omega, by rw [hs]; omega⟩, by
        dsimp only
        rw [show (((gs (l.take (k + 1)) : Nat) : Int)) = ((gs (l.take k) : Nat) : Int) + 1 + min (l[k].1.length : Int) 100000 + min (l[k].2.length : Int) 100000 by rw [hs, hfw]; omega]; rfl, (by repeat' (first | exact List.Sublist.refl _ | exact List.nil_sublist _ | apply List.Sublist.cons_cons | apply List.Sublist.cons)), by dsimp only; omega⟩
    · obtain rfl : k = 1000 := by omega
      (conv => whnf); repeat ((first | refine tk1 ?_ | refine tk2 ?_ | refine tk3 ?_ | refine tk12 (fun _ => ?_) | refine tk4 ?_ | refine tk5 ?_ | refine tk6 ?_ | refine tk7 ?_ | refine tk8 ?_ | refine tk9 ?_ | refine tk10 (fun _ _ => ?_) | refine tk11 (fun _ => ?_) | refine tk13 ?_ | refine tk14 ?_); (conv => whnf))
      refine Cmp.of (decide (3000 < gs (l.take 1000))) (by simp; omega) ?_
      (conv => whnf); repeat ((first | refine tk1 ?_ | refine tk2 ?_ | refine tk3 ?_ | refine tk12 (fun _ => ?_) | refine tk4 ?_ | refine tk5 ?_ | refine tk6 ?_ | refine tk7 ?_ | refine tk8 ?_ | refine tk9 ?_ | refine tk10 (fun _ _ => ?_) | refine tk11 (fun _ => ?_) | refine tk13 ?_ | refine tk14 ?_); (conv => whnf))
      intro w' _
      rfl
  · have he : l.take k = l.take 1000 := by rw [List.take_of_length_le (by omega), List.take_of_length_le (by omega)]
    (conv => whnf); repeat ((first | refine tk1 ?_ | refine tk2 ?_ | refine tk3 ?_ | refine tk12 (fun _ => ?_) | refine tk4 ?_ | refine tk5 ?_ | refine tk6 ?_ | refine tk7 ?_ | refine tk8 ?_ | refine tk9 ?_ | refine tk10 (fun _ _ => ?_) | refine tk11 (fun _ => ?_) | refine tk13 ?_ | refine tk14 ?_); (conv => whnf))
    refine Cmp.of (decide (3000 < gs (l.take 1000))) (by rw [he]; simp; omega) ?_
    (conv => whnf); repeat ((first | refine tk1 ?_ | refine tk2 ?_ | refine tk3 ?_ | refine tk12 (fun _ => ?_) | refine tk4 ?_ | refine tk5 ?_ | refine tk6 ?_ | refine tk7 ?_ | refine tk8 ?_ | refine tk9 ?_ | refine tk10 (fun _ _ => ?_) | refine tk11 (fun _ => ?_) | refine tk13 ?_ | refine tk14 ?_); (conv => whnf))
    intro w' _
    rfl
/-- A name's values. -/
def allOf (l : List Fld) (s : List UInt8) : List (List UInt8) := (l.filter fun p => smallOf p.1 == smallOf s).map (·.2)
theorem allOf_take (l : List Fld) (s : List UInt8) (k : Nat) (h : k < l.length) : allOf (l.take (k + 1)) s = allOf (l.take k) s ++ (if smallOf l[k].1 = smallOf s then [l[k].2] else []) := by
  unfold allOf
  rw [List.take_succ_eq_append_getElem h, List.filter_append, List.map_append]
  congr 1
  by_cases hq : smallOf l[k].1 = smallOf s <;> simp [hq]
theorem allOf_le (l : List Fld) (s : List UInt8) : (allOf l s).length ≤ l.length := by
  unfold allOf
  rw [List.length_map]
  exact List.length_filter_le _ _
end Go.Proofs.YtmdmmncoigeijaaGreatDoor.Vex
/- Texts between the places of a byte; items of a value. No program in sight. -/
namespace Go.Proofs.YtmdmmncoigeijaaGreatDoor

def splitB (c : UInt8) : List UInt8 → List (List UInt8)
  | [] => [[]]
  | x :: r => if x = c then [] :: splitB c r else (match splitB c r with | [] => [[x]] | p :: q => (x :: p) :: q)
theorem splitB_ne (c : UInt8) (l : List UInt8) : splitB c l ≠ [] := by
  cases l with
  | nil => simp [splitB]
  | cons x r =>
    unfold splitB
    split
    · simp
    · split <;> simp
theorem splitB_app (c : UInt8) : ∀ (a b : List UInt8), c ∉ a → splitB c (a ++ c :: b) = a :: splitB c b
  | [], b, _ => by simp [splitB]
  | x :: a, b, h => by
    have hx : x ≠ c := fun e => h (by simp [e])
    simp only [List.cons_append, splitB, if_neg hx, splitB_app c a b (fun e => h (List.mem_cons_of_mem _ e))]
theorem splitB_none (c : UInt8) : ∀ (l : List UInt8), c ∉ l → splitB c l = [l]
  | [], _ => rfl
  | x :: r, h => by
    have hx : x ≠ c := fun e => h (by simp [e])
    simp only [splitB, if_neg hx, splitB_none c r (fun e => h (List.mem_cons_of_mem _ e))]
theorem splitB_join (c : UInt8) : ∀ (a b : List UInt8), splitB c (a ++ c :: b) = splitB c a ++ splitB c b
  | [], b => by simp [splitB]
  | x :: a, b => by
    simp only [List.cons_append, splitB, splitB_join c a b]
    by_cases hx : x = c
    · simp [hx]
    · simp only [if_neg hx]
      cases h : splitB c a with
      | nil => exact absurd h (splitB_ne c a)
      | cons p q => rfl
theorem splitB_at (c : UInt8) (l : List UInt8) (k : Nat) (h : c ∉ l.take k) (hk : l[k]? = some c) : splitB c l = l.take k :: splitB c (l.drop (k + 1)) := by
  obtain ⟨hlt, he⟩ := List.getElem?_eq_some_iff.1 hk
  conv => lhs; rw [← List.take_append_drop k l, List.drop_eq_getElem_cons hlt, he]
  exact splitB_app c _ _ h
theorem splitB_mem (c : UInt8) : ∀ (l p : List UInt8), p ∈ splitB c l → c ∉ p ∧ p.length ≤ l.length
  | [], p, h => by simp [splitB] at h; subst h; simp
  | x :: r, p, h => by
    unfold splitB at h
    split at h
    · rcases List.mem_cons.1 h with rfl | h
      · simp
      · have := splitB_mem c r p h
        exact ⟨this.1, by simp; omega⟩
    · rename_i hx
      split at h
      · rename_i h0; exact absurd h0 (splitB_ne c r)
      · rename_i q qs hq
        rcases List.mem_cons.1 h with rfl | h
        · have := splitB_mem c r q (by rw [hq]; simp)
          refine ⟨fun hm => ?_, by simp; omega⟩
          rcases List.mem_cons.1 hm with e | e
          · exact hx e.symm
          · exact this.1 e
        · have := splitB_mem c r p (by rw [hq]; exact List.mem_cons_of_mem _ h)
          exact ⟨this.1, by simp; omega⟩
theorem splitB_length (c : UInt8) : ∀ l : List UInt8, (splitB c l).length ≤ l.length + 1
  | [] => by simp [splitB]
  | x :: r => by
    have := splitB_length c r
    unfold splitB
    split
    · simp; omega
    · split
      · simp
      · rename_i h; rw [h] at this; simp at this ⊢; omega
theorem index_one (c : UInt8) : ∀ l : List UInt8, (Lib.index l [c] = -1 ∧ c ∉ l) ∨ ∃ k : Nat, Lib.index l [c] = k ∧ k < l.length ∧ c ∉ l.take k ∧ l[k]? = some c
  | [] => .inl ⟨rfl, by simp⟩
  | x :: r => by
    unfold Lib.index
    by_cases hx : c = x
    · subst hx
      exact .inr ⟨0, by simp [List.isPrefixOf], by simp, by simp, by simp⟩
    · have h0 : ([c] : List UInt8).isPrefixOf (x :: r) = false := by simp [List.isPrefixOf, hx]
      rw [h0]
      rcases index_one c r with ⟨h1, h2⟩ | ⟨k, h1, h2, h3, h4⟩
      · exact .inl ⟨by simp [h1], by simp [hx, h2]⟩
      · refine .inr ⟨k + 1, ?_, by simp; omega, by simp [hx, h3], by simpa using h4⟩
        rw [h1]
        simp only [Bool.false_eq_true, if_false]
        rw [if_neg (by simp)]
        omega
theorem drop_drop_idem (p : UInt8 → Bool) : ∀ l : List UInt8, (l.dropWhile p).dropWhile p = l.dropWhile p
  | [] => rfl
  | x :: r => by
    by_cases h : p x
    · simp [h, drop_drop_idem p r]
    · simp [h]
theorem trimLB_idem (l : List UInt8) : trimLB (trimLB l) = trimLB l := drop_drop_idem _ l
theorem trimRB_idem (l : List UInt8) : trimRB (trimRB l) = trimRB l := by
  unfold trimRB Lib.trimRightS
  rw [List.reverse_reverse, drop_drop_idem]
theorem trimB_idem (l : List UInt8) : trimB (trimB l) = trimB l := by
  rw [trimB_eq (trimB l), trimB_eq l]
  have h : ∀ m, trimLB (trimRB m) = trimRB (trimLB m) := fun m => trim_comm [32, 9] m
  rw [h, trimLB_idem, trimRB_idem]
theorem trimB_sub (x : UInt8) (l : List UInt8) (h : x ∈ trimB l) : x ∈ l := by
  unfold trimB Lib.trimS Lib.trimLeftS Lib.trimRightS at h
  have h1 := (List.dropWhile_sublist _).subset h
  rw [List.mem_reverse] at h1
  have h2 := (List.dropWhile_sublist _).subset h1
  exact List.mem_reverse.1 h2

/-- What stands between commas, trimmed, if anything is left. -/
def itemsOf (l : List UInt8) : List (List UInt8) := ((splitB 44 l).map trimB).filter fun s => !s.isEmpty
def itemOf (p : List UInt8) : List (List UInt8) := if trimB p = [] then [] else [trimB p]
theorem items_cons (l p : List UInt8) (q : List (List UInt8)) (h : splitB 44 l = p :: q) : itemsOf l = itemOf p ++ (q.map trimB).filter fun s => !s.isEmpty := by
  unfold itemsOf itemOf
  rw [h, List.map_cons, List.filter_cons]
  by_cases h0 : trimB p = []
  · simp [h0]
  · rw [if_pos (by simpa using h0), if_neg h0]; rfl
theorem items_at (l : List UInt8) (k : Nat) (h : 44 ∉ l.take k) (hk : l[k]? = some 44) : itemsOf l = itemOf (l.take k) ++ itemsOf (l.drop (k + 1)) :=
  items_cons _ _ _ (splitB_at 44 l k h hk)
theorem items_none (l : List UInt8) (h : 44 ∉ l) : itemsOf l = itemOf l := by
  rw [items_cons _ _ _ (splitB_none 44 l h)]
  simp
theorem items_join (a b : List UInt8) : itemsOf (a ++ 44 :: b) = itemsOf a ++ itemsOf b := by
  unfold itemsOf
  rw [splitB_join, List.map_append, List.filter_append]
theorem items_mem {l s : List UInt8} (h : s ∈ itemsOf l) : s ≠ [] ∧ trimB s = s ∧ 44 ∉ s ∧ s.length ≤ l.length := by
  unfold itemsOf at h
  obtain ⟨h1, h2⟩ := List.mem_filter.1 h
  obtain ⟨p, hp, rfl⟩ := List.mem_map.1 h1
  obtain ⟨h3, h4⟩ := splitB_mem 44 l p hp
  refine ⟨by simpa using h2, trimB_idem p, fun hm => h3 (trimB_sub _ _ hm), Nat.le_trans (trimB_length p) h4⟩
theorem items_length (l : List UInt8) : (itemsOf l).length ≤ l.length + 1 := by
  unfold itemsOf
  refine Nat.le_trans (List.length_filter_le _ _) ?_
  rw [List.length_map]
  exact splitB_length 44 l
theorem itemOf_length (p : List UInt8) : (itemOf p).length ≤ 1 := by unfold itemOf; split <;> simp
end Go.Proofs.YtmdmmncoigeijaaGreatDoor
/- How much lists of texts, and of fields, hold. No program in sight. -/
namespace Go.Proofs.YtmdmmncoigeijaaGreatDoor
def lsum (l : List (List UInt8)) : Nat := (l.map fun s => s.length + 1).sum
theorem lsum_cons (x : List UInt8) (l : List (List UInt8)) : lsum (x :: l) = x.length + 1 + lsum l := rfl
theorem lsum_append : ∀ a b : List (List UInt8), lsum (a ++ b) = lsum a + lsum b
  | [], b => by simp [lsum]
  | x :: a, b => by rw [List.cons_append, lsum_cons, lsum_cons, lsum_append a b]; omega
theorem split_sum (c : UInt8) : ∀ l : List UInt8, lsum (splitB c l) = l.length + 1
  | [] => rfl
  | x :: r => by
    have ih := split_sum c r
    unfold splitB
    split
    · rw [lsum_cons, ih]; simp; omega
    · cases h : splitB c r with
      | nil => exact absurd h (splitB_ne c r)
      | cons p q => rw [h, lsum_cons] at ih; rw [lsum_cons]; simp only [List.length_cons]; omega
theorem lsum_trim : ∀ l : List (List UInt8), lsum ((l.map trimB).filter fun s => !s.isEmpty) ≤ lsum l
  | [] => Nat.le_refl _
  | x :: r => by
    have ih := lsum_trim r
    have := trimB_length x
    rw [List.map_cons, List.filter_cons, lsum_cons]
    split
    · rw [lsum_cons]; omega
    · omega
theorem items_sum (l : List UInt8) : lsum (itemsOf l) ≤ l.length + 1 := by
  unfold itemsOf
  rw [← split_sum 44 l]
  exact lsum_trim _
end Go.Proofs.YtmdmmncoigeijaaGreatDoor
namespace Go.Proofs.YtmdmmncoigeijaaGreatDoor.Vex
open Go Go.RowKit
def fsum (l : List Fld) : Nat := (l.map fun p => p.1.length + p.2.length + 3).sum
theorem fsum_cons (p : Fld) (l : List Fld) : fsum (p :: l) = p.1.length + p.2.length + 3 + fsum l := rfl
theorem fsum_append : ∀ a b : List Fld, fsum (a ++ b) = fsum a + fsum b
  | [], b => by simp [fsum]
  | x :: a, b => by rw [List.cons_append, fsum_cons, fsum_cons, fsum_append a b]; omega
theorem fsum_mem {l : List Fld} {p : Fld} (h : p ∈ l) : p.1.length + p.2.length + 3 ≤ fsum l := by
  induction l with
  | nil => cases h
  | cons y r ih =>
    rw [fsum_cons]
    rcases List.mem_cons.1 h with rfl | h
    · omega
    · have := ih h; omega
theorem fsum_length : ∀ l : List Fld, 3 * l.length ≤ fsum l
  | [] => Nat.le_refl _
  | x :: r => by have := fsum_length r; rw [fsum_cons, List.length_cons]; omega
theorem allOf_sum (s : List UInt8) : ∀ l : List Fld, lsum (allOf l s) ≤ fsum l
  | [] => Nat.le_refl _
  | x :: r => by
    have := allOf_sum s r
    unfold allOf at this ⊢
    rw [List.filter_cons, fsum_cons]
    split
    · rw [List.map_cons, lsum_cons]; omega
    · omega
theorem lsum_length (l : List (List UInt8)) : l.length ≤ lsum l := by
  induction l with
  | nil => exact Nat.le_refl _
  | cons x r ih => rw [lsum_cons, List.length_cons]; omega
end Go.Proofs.YtmdmmncoigeijaaGreatDoor.Vex
/- The kinds of data that this program's statements take: fields, requests, bytes. -/
namespace Go.Proofs.YtmdmmncoigeijaaGreatDoor.Vex
open Go Go.RowKit Go.ChangeShapes Go.WideShapes Go.Deep
set_option maxRecDepth 100000

/-- Another form of the same data. -/
theorem opens_map {P : Program} {t : TypeId} {S T : Shape} (h : Opens P t S) (g : S.α → T.α) (hn : S.n = T.n) (hf : ∀ W x, S.ok W x → S.f x = T.f (g x)) (hok : ∀ W x, S.ok W x → T.ok W (g x)) (hw : ∀ W x, S.ok W x → T.wt (g x) ≤ S.wt x) : Opens P t T := ⟨h.1.trans hn, fun hd => by
  obtain ⟨x, h1, h2, h3, h4⟩ := h.2 hd
  exact ⟨g x, h1.trans (hf _ x h2), hok _ x h2, Nat.le_trans (hw _ x h2) h3, by rw [← hf _ x h2, h4, hn]⟩⟩
abbrev byteShape : Shape := ⟨UInt8, 1, fun b => [byteV b], fun _ _ => True, fun _ => 1⟩
theorem opens_byte {P : Program} {t : TypeId} (ht : P.underlying t = some (.int .u8)) (hc : P.cellsOf t = 1) : Opens P t byteShape :=
  opens_map (opens_int ht hc) (fun (n : Int) => UInt8.ofNat n.toNat) rfl (fun W (x : Int) (h : IntKind.u8.min ≤ x ∧ x ≤ IntKind.u8.max) => by
    have h1 : (0 : Int) ≤ x := h.1
    have h2 : x ≤ 255 := h.2
    clear h
    show [Value.int .u8 x] = [byteV _]
    unfold byteV
    rw [UInt8.toNat_ofNat_of_lt' (by show x.toNat < 256; omega), Int.toNat_of_nonneg h1]) (fun _ _ _ => trivial) (fun _ _ _ => Nat.le_refl _)
abbrev u16Shape : Shape := ⟨Nat, 1, fun n => [.int .u16 (n : Nat)], fun _ n => n < 65536, fun _ => 1⟩
theorem opens_nat16 {P : Program} {t : TypeId} (ht : P.underlying t = some (.int .u16)) (hc : P.cellsOf t = 1) : Opens P t u16Shape :=
  opens_map (opens_int ht hc) (fun (n : Int) => n.toNat) rfl (fun W (x : Int) (h : IntKind.u16.min ≤ x ∧ x ≤ IntKind.u16.max) => by
    have h1 : (0 : Int) ≤ x := h.1
    show [Value.int .u16 x] = [Value.int .u16 (x.toNat : Nat)]
    rw [Int.toNat_of_nonneg h1]) (fun W (x : Int) (h : IntKind.u16.min ≤ x ∧ x ≤ IntKind.u16.max) => by
    have h1 : (0 : Int) ≤ x := h.1
    have h2 : x ≤ 65535 := h.2
    clear h
    show x.toNat < 65536
    omega) (fun _ _ _ => Nat.le_refl _)
abbrev bytesShape : Shape := sliceShape byteShape
theorem flat_bytes (l : List UInt8) : l.flatMap (fun b => [byteV b]) = l.map byteV := by
  induction l with
  | nil => rfl
  | cons a r ih => rw [List.flatMap_cons, ih]; rfl
theorem flat_strs (l : List (List UInt8)) : l.flatMap (fun b => [str b]) = l.map str := by
  induction l with
  | nil => rfl
  | cons a r ih => rw [List.flatMap_cons, ih]; rfl
theorem flat_fields (l : List Fld) : l.flatMap (fun p => [str p.1, str p.2]) = fcells l := by
  induction l with
  | nil => rfl
  | cons a r ih => rw [List.flatMap_cons, ih]; rfl
abbrev fldShape : Shape := ⟨Fld, 2, fun p => [str p.1, str p.2], fun _ p => p.1.length ≤ 9223372036854775807 ∧ p.2.length ≤ 9223372036854775807, fun p => p.1.length + p.2.length + 3⟩
theorem opens_string : Opens Tryz.prog 9 strShape := opens_str Tryz.underlying9 (by kernel_rfl)
theorem opens_i64 : Opens Tryz.prog 3 (intShape .i64) := opens_int Tryz.underlying3 (by kernel_rfl)
theorem opens_tf : Opens Tryz.prog 4 boolShape := opens_bool Tryz.underlying4 (by kernel_rfl)
theorem opens_u8 : Opens Tryz.prog 5 byteShape := opens_byte Tryz.underlying5 (by kernel_rfl)
theorem opens_bytes : Opens Tryz.prog 26 bytesShape := opens_slice Tryz.underlying26 (by kernel_rfl) opens_u8
theorem opens_strings : Opens Tryz.prog 95 (sliceShape strShape) := opens_slice Tryz.underlying95 (by kernel_rfl) opens_string
theorem opens_field : Opens Tryz.prog 47 fldShape := by
  have h := opens_struct Tryz.underlying47 (by kernel_rfl) (opensL_cons rfl opens_string (opensL_cons rfl opens_string (opensL_nil _)))
  exact opens_map h (fun x => (x.1, x.2.1)) rfl (fun _ _ _ => rfl) (fun _ _ h => ⟨h.1, h.2.1⟩) (fun _ _ _ => by dsimp only; omega)
abbrev fieldsShape : Shape := sliceShape fldShape
theorem opens_fields : Opens Tryz.prog 22 fieldsShape := opens_slice Tryz.underlying22 (by kernel_rfl) opens_field
/-- A request that came in. -/
structure Req where
  m : List UInt8
  p : List UInt8
  q : List UInt8
  v : Int
  F : Sl Fld
  B : Sl UInt8
def Req.cells (r : Req) : List Value := [str r.m, str r.p, str r.q, .int .i64 r.v, .slice r.F.A r.F.l.length r.F.cp, .slice r.B.A r.B.l.length r.B.cp]
abbrev reqShape : Shape := ⟨Req, 6, Req.cells, fun w r => (-9223372036854775808 ≤ r.v ∧ r.v ≤ 9223372036854775807) ∧ fieldsShape.ok w r.F ∧ bytesShape.ok w r.B ∧ r.m.length ≤ 9223372036854775807 ∧ r.p.length ≤ 9223372036854775807 ∧ r.q.length ≤ 9223372036854775807,
  fun r => r.m.length + r.p.length + r.q.length + fieldsShape.wt r.F + bytesShape.wt r.B⟩
theorem opens_request : Opens Tryz.prog 28 reqShape := by
  have h := opens_struct Tryz.underlying28 (by kernel_rfl) (opensL_cons rfl opens_string (opensL_cons rfl opens_string (opensL_cons rfl opens_string (opensL_cons rfl opens_i64 (opensL_cons rfl opens_fields (opensL_cons rfl opens_bytes (opensL_nil _)))))))
  exact opens_map h (fun x => Req.mk x.1 x.2.1 x.2.2.1 x.2.2.2.1 x.2.2.2.2.1 x.2.2.2.2.2.1) rfl (fun _ _ _ => rfl) (fun _ _ h => ⟨h.2.2.2.1, h.2.2.2.2.1, h.2.2.2.2.2.1, h.1, h.2.1, h.2.2.1⟩) (fun _ _ _ => by dsimp only; omega)
theorem req_fsum (x : Req) : fsum x.F.l ≤ reqShape.wt x := by
  show fsum x.F.l ≤ x.m.length + x.p.length + x.q.length + (fsum x.F.l + 1) + bytesShape.wt x.B
  omega
theorem fld_len (x : Fld) : x.1.length + x.2.length ≤ fldShape.wt x := by
  show x.1.length + x.2.length ≤ x.1.length + x.2.length + 3
  omega
theorem rd_bytes {W : World} {x : Sl UInt8} (h : bytesShape.ok W x) : Rdw W x.A (x.l.map byteV) := flat_bytes x.l ▸ h.2.1
theorem rd_fields {W : World} {x : Sl Fld} (h : fieldsShape.ok W x) : Rdw W x.A (fcells x.l) := flat_fields x.l ▸ h.2.1
end Go.Proofs.YtmdmmncoigeijaaGreatDoor.Vex
/- The cell of internal/bytealg.MaxLen holds a number, in every world of the program's shape. -/
namespace Go.Proofs.YtmdmmncoigeijaaGreatDoor

theorem maxLen_cell {w : World} (h : w.ShapedOpen Tryz.prog) : ∃ m, w.cell? ⟨0, 0, none⟩ = some (.int .i64 m) :=
  Go.Proofs.cell_of_shapedOpen_int (zero := #[.int .i64 0]) (t := 3) h (of_decide_eq_true (by kernel_rfl)) (by kernel_rfl) rfl (by kernel_rfl) (by kernel_rfl) Tryz.underlying3
end Go.Proofs.YtmdmmncoigeijaaGreatDoor
/- What a row's listed variables give the walks: the two sentinels of strconv, the table of powers, the cell of MaxLen. -/
namespace Go.Proofs.YtmdmmncoigeijaaGreatDoor.Vex
open Go Go.RowKit Go.ChangeShapes

theorem reads_of {l : List (String × DataW Unit)} {W : World} (h : laidMetH Tryz.prog l W) (hp : (l.all fun x => x.2.handleName?.isNone) = true) {n : String} {d : DataW Unit} (hm : (n, d) ∈ l) : Lib.VarReads Tryz.prog W n d := by
  rw [MakeChecks.laidMetH_plain _ _ _ hp] at h
  exact Lib.laidMet.reads h hm
theorem errCell_of {P : Program} {W : World} {n nm : String} {d : DataW Unit} {g : Nat} {ti : TypeId} {ms : Array (String × TypeId)} (h : Lib.VarReads P W n (.iface nm d)) (hg : P.globalNamed n = some g) (ht : (P.globals[g]?).map (·.type) = some ti) (hi : P.underlying ti = some (.interface ms)) : ErrCell g W := by
  obtain ⟨g', t', cs, fuel, p, hg', ht', hv, hd⟩ := h
  obtain rfl := Option.some.inj (hg.symm.trans hg')
  obtain rfl := Option.some.inj (ht.symm.trans ht')
  obtain ⟨f1, u, v, hcs, hn, h1⟩ := iface_of_trod hi hd
  have h2 := World.var?_cell hg hv 0
  rw [show cs = #[.iface u v] by rw [← Array.toList_inj, hcs]] at h2
  exact ⟨.iface u v, by simpa using h2, .inr ⟨u, v, rfl⟩⟩
theorem tab_of {P : Program} {W : World} {n : String} {k : IntKind} {zs : List Int} {g : Nat} {t e : TypeId} {m : Nat} (h : Lib.VarReads P W n (Lib.tabData k zs)) (hg : P.globalNamed n = some g) (ht : (P.globals[g]?).map (·.type) = some t) (hu : P.underlying t = some (.array m e)) (he : P.underlying e = some (.int k)) (hce : P.cellsOf e = 1) (hct : P.cellsOf t = m) : Lib.TabIs P W n k zs := by
  obtain ⟨g', t', cs, fuel, p, hg', ht', hv, hd⟩ := h
  obtain rfl := Option.some.inj (hg.symm.trans hg')
  obtain rfl := Option.some.inj (ht.symm.trans ht')
  unfold Lib.TabIs
  rw [hv, ← Lib.cells_of_tab hu he hce hct hd]
theorem gB_of {W : World} (hS : W.ShapedOpen Tryz.prog) : gB.G W := maxLen_cell hS
theorem gE_of {l : List (String × DataW Unit)} {W : World} (hL : laidMetH Tryz.prog l W) (hS : W.ShapedOpen Tryz.prog) (hp : (l.all fun x => x.2.handleName?.isNone) = true)
    (h1 : ("strconv.ErrSyntax", Rows.laid_strconv_ErrSyntax) ∈ l) (h2 : ("strconv.ErrRange", Rows.laid_strconv_ErrRange) ∈ l) : gE.G W :=
  ⟨gB_of hS, errCell_of (ti := 135) (reads_of hL hp h1) (g := 6) (by kernel_rfl) (by kernel_rfl) Tryz.underlying135, errCell_of (ti := 135) (reads_of hL hp h2) (g := 7) (by kernel_rfl) (by kernel_rfl) Tryz.underlying135⟩
theorem gP_of {l : List (String × DataW Unit)} {W : World} (hL : laidMetH Tryz.prog l W) (hS : W.ShapedOpen Tryz.prog) (hp : (l.all fun x => x.2.handleName?.isNone) = true)
    (h1 : ("strconv.ErrSyntax", Rows.laid_strconv_ErrSyntax) ∈ l) (h2 : ("strconv.ErrRange", Rows.laid_strconv_ErrRange) ∈ l) (h3 : ("internal/strconv.uint64pow10", Rows.laid_internal_strconv_uint64pow10) ∈ l) : gP.G W :=
  ⟨gE_of hL hS hp h1 h2, tab_of (t := 209) (e := 171) (m := 20) (reads_of hL hp h3) pow_name (by kernel_rfl) Tryz.underlying209 Tryz.underlying171 (by kernel_rfl) (by kernel_rfl)⟩
end Go.Proofs.YtmdmmncoigeijaaGreatDoor.Vex
/- The first line of a request, as byte lists: what is told, what is written. No program in sight. -/
namespace Go.Proofs.YtmdmmncoigeijaaGreatDoor

def freeL : List UInt8 := [45, 46, 95, 126]
def pathL : List UInt8 := [45, 46, 95, 126, 33, 36, 38, 39, 40, 41, 42, 43, 44, 59, 61, 58, 64, 47]
def queryL : List UInt8 := pathL ++ [63]
/-- A letter, a digit, or one of some marks. -/
def plainB (marks : List UInt8) (x : UInt8) : Bool := smallI x.toNat || greatI x.toNat || marks.contains x
def digI (x : Int) : Int := if 48 ≤ x ∧ x ≤ 57 then x - 48 else if 97 ≤ x ∧ x ≤ 102 then x - 87 else if 65 ≤ x ∧ x ≤ 70 then x - 55 else -1
def hexB (x : UInt8) : Bool := decide (0 ≤ digI x.toNat)
def hexV (a b : UInt8) : UInt8 := (16 * digI a.toNat + digI b.toNat).toNat.toUInt8
/-- Has a text just such bytes, or quoted ones? -/
def madeOf (marks : List UInt8) : List UInt8 → Bool
  | [] => true
  | 37 :: a :: b :: r => hexB a && hexB b && madeOf marks r
  | x :: r => plainB marks x && madeOf marks r
def pathOf (s : List UInt8) : Bool := (s.head? == some 47) && madeOf pathL s
def queryOf (s : List UInt8) : Bool := madeOf queryL s
def methodsL : List (List UInt8) := [[71, 69, 84], [72, 69, 65, 68], [80, 79, 83, 84], [80, 85, 84], [68, 69, 76, 69, 84, 69], [79, 80, 84, 73, 79, 78, 83]]
def methodOf (s : List UInt8) : Bool := methodsL.contains s
/-- Bytes for what was quoted. -/
def unq : List UInt8 → List UInt8
  | [] => []
  | 37 :: a :: b :: r => if hexB a && hexB b then hexV a b :: unq r else 37 :: unq (a :: b :: r)
  | x :: r => x :: unq r
def segs (s : List UInt8) : List (List UInt8) := (splitB 47 (s.drop 1)).map unq
def segE (s : List UInt8) : Int := if pathOf s then 0 else 3
def segO (s : List UInt8) : List (List UInt8) := if pathOf s then segs s else []
def hexD (n : Nat) : UInt8 := if n < 10 then (48 + n).toUInt8 else (55 + n).toUInt8
def quoteB (x : UInt8) : List UInt8 := if plainB freeL x then [x] else [37, hexD (x.toNat / 16), hexD (x.toNat % 16)]
def quoteOf (s : List UInt8) : List UInt8 := s.flatMap quoteB
/-- What stands ahead of the first place of a byte, what behind it, and whether there is one. -/
def cutB (c : UInt8) : List UInt8 → List UInt8 × List UInt8 × Bool
  | [] => ([], [], false)
  | x :: r => if x = c then ([], r, true) else (x :: (cutB c r).1, (cutB c r).2.1, (cutB c r).2.2)
def httpL : List UInt8 := [72, 84, 84, 80, 47, 49, 46]
/-- The version of a line's end; none: it tells none. -/
def versionOf (s : List UInt8) : Option Int := match s with
  | [72, 84, 84, 80, 47, 49, 46, d] => if 48 ≤ d.toNat ∧ d.toNat ≤ 57 then some (if d.toNat = 48 then 0 else 1) else none
  | _ => none
structure Rq where
  m : List UInt8
  p : List UInt8
  q : List UInt8
  v : Int
deriving DecidableEq
def rq0 : Rq := ⟨[], [], [], 0⟩
def lineTarget (s : List UInt8) : List UInt8 := (cutB 32 (cutB 32 s).2.1).1
def lineRq (s : List UInt8) : Rq := ⟨(cutB 32 s).1, (cutB 63 (lineTarget s)).1, (cutB 63 (lineTarget s)).2.1, (versionOf (cutB 32 (cutB 32 s).2.1).2.1).getD 0⟩
def lineOK (s : List UInt8) : Bool := decide (s.length ≤ 4096) && (cutB 32 s).2.2 && (cutB 32 (cutB 32 s).2.1).2.2 && (versionOf (cutB 32 (cutB 32 s).2.1).2.1).isSome && tokenOf (lineRq s).m && pathOf (lineRq s).p && queryOf (lineRq s).q
def lineR (s : List UInt8) : Rq := if lineOK s && methodOf (lineRq s).m then lineRq s else rq0
def lineSt (s : List UInt8) : Int := if lineOK s then (if methodOf (lineRq s).m then 200 else 501) else 400
def targetOf (r : Rq) : List UInt8 := if r.q = [] then r.p else r.p ++ 63 :: r.q
def writeL (r : Rq) : List UInt8 := r.m ++ [32] ++ targetOf r ++ [32, 72, 84, 84, 80, 47, 49, 46] ++ (if r.v = 0 then [48] else [49])
def writeOK (r : Rq) : Bool := methodOf r.m && pathOf r.p && queryOf r.q && decide (0 ≤ r.v) && decide (r.v ≤ 1) && decide ((writeL r).length ≤ 4096)
def writeS (r : Rq) : List UInt8 := if writeOK r then writeL r else []
def writeE (r : Rq) : Int := if writeOK r then 0 else 3

/-! ## Plain facts -/
theorem dig_range (x : UInt8) : -1 ≤ digI x.toNat ∧ digI x.toNat ≤ 15 := by unfold digI; split <;> (try split) <;> (try split) <;> omega
theorem hexB_iff (x : UInt8) : hexB x = true ↔ 0 ≤ digI x.toNat := by simp [hexB]
theorem hex_not_slash (x : UInt8) (h : hexB x = true) : x ≠ 47 := by
  intro e; subst e; revert h; decide
theorem hexV_toNat (a b : UInt8) (ha : hexB a = true) (hb : hexB b = true) : ((hexV a b).toNat : Int) = 16 * digI a.toNat + digI b.toNat := by
  rw [hexB_iff] at ha hb
  have h1 := dig_range a
  have h2 := dig_range b
  unfold hexV
  have : (16 * digI a.toNat + digI b.toNat).toNat < 256 := by omega
  rw [Nat.toUInt8, UInt8.toNat_ofNat', Nat.mod_eq_of_lt (by omega)]
  omega
theorem plain_not_37 {marks : List UInt8} (h : marks.contains 37 = false) : plainB marks 37 = false := by
  unfold plainB
  rw [h]; decide
theorem made_cons (marks : List UInt8) (x : UInt8) (r : List UInt8) (hx : x ≠ 37) : madeOf marks (x :: r) = (plainB marks x && madeOf marks r) := by
  simp [madeOf, hx]
theorem made_37 (marks : List UInt8) (h : marks.contains 37 = false) (r : List UInt8) : madeOf marks (37 :: r) = match r with | a :: b :: r => hexB a && hexB b && madeOf marks r | _ => false := by
  match r with
  | [] => simp [madeOf, plain_not_37 h]
  | [a] => simp [madeOf, plain_not_37 h]
  | a :: b :: r => simp [madeOf]
theorem unq_cons (x : UInt8) (r : List UInt8) (hx : x ≠ 37) : unq (x :: r) = x :: unq r := by
  simp [unq, hx]
theorem unq_37 (a b : UInt8) (r : List UInt8) (ha : hexB a = true) (hb : hexB b = true) : unq (37 :: a :: b :: r) = hexV a b :: unq r := by simp [unq, ha, hb]
theorem cutB_at (c : UInt8) : ∀ (l : List UInt8) (k : Nat), c ∉ l.take k → l[k]? = some c → cutB c l = (l.take k, l.drop (k + 1), true)
  | [], k, _, h => by simp at h
  | x :: r, 0, _, h => by simp at h; simp [cutB, h]
  | x :: r, k + 1, hn, h => by
    have hx : x ≠ c := fun e => hn (by simp [e])
    have ih := cutB_at c r k (fun e => hn (by simp [e])) (by simpa using h)
    simp [cutB, hx, ih]
theorem cutB_none (c : UInt8) : ∀ (l : List UInt8), c ∉ l → cutB c l = (l, [], false)
  | [], _ => rfl
  | x :: r, hn => by
    have hx : x ≠ c := fun e => hn (by simp [e])
    simp [cutB, hx, cutB_none c r (fun e => hn (by simp [e]))]
theorem cutB_length (c : UInt8) : ∀ l : List UInt8, (cutB c l).1.length + (cutB c l).2.1.length ≤ l.length
  | [] => by simp [cutB]
  | x :: r => by
    have := cutB_length c r
    unfold cutB
    split
    · simp
    · simp; omega
/-- The library's cut, at one byte. -/
theorem cut_one (c : UInt8) : ∀ l : List UInt8, Lib.cut l [c] = cutB c l := fun l => by
  unfold Lib.cut
  rcases index_one c l with ⟨h1, h2⟩ | ⟨k, h1, h2, h3, h4⟩
  · rw [h1, cutB_none c l h2]; simp
  · rw [h1, cutB_at c l k h3 h4]; simp
end Go.Proofs.YtmdmmncoigeijaaGreatDoor
/- A head's text, as a plain function. No program in sight. -/
namespace Go.Proofs.YtmdmmncoigeijaaGreatDoor.Vex

def crlf : List UInt8 := [13, 10]
def linesOf (fs : List Fld) : List (List UInt8) := fs.map fun f => lineOf f.1 f.2
def catL (ls : List (List UInt8)) : List UInt8 := (ls.map (· ++ crlf)).flatten
def headOK (r : Rq) (fs : List Fld) : Bool := writeOK r && fs.all fun f => fieldOK f.1 f.2
def headL (r : Rq) (fs : List Fld) : List UInt8 := writeL r ++ crlf ++ catL (linesOf fs)
def textS (r : Rq) (fs : List Fld) : List UInt8 := if headOK r fs then headL r fs ++ crlf else []
def textE (r : Rq) (fs : List Fld) : Int := if headOK r fs then 0 else 3
theorem catL_snoc (ls : List (List UInt8)) (x : List UInt8) : catL (ls ++ [x]) = catL ls ++ x ++ crlf := by unfold catL; simp
theorem tail_cat : ∀ ls : List (List UInt8), Lib.joinTail crlf ls ++ crlf = crlf ++ catL ls
  | [] => by simp [Lib.joinTail, catL]
  | x :: r => by
    have ih := tail_cat r
    unfold Lib.joinTail catL at ih ⊢
    simp only [List.map_cons, List.flatten_cons, List.append_assoc] at ih ⊢
    rw [ih]
theorem join_cat (w : List UInt8) (ls : List (List UInt8)) : Lib.join (w :: ls) crlf ++ crlf = w ++ crlf ++ catL ls := by
  rw [Lib.join_cons, List.append_assoc, tail_cat, List.append_assoc]
theorem linesOf_take (fs : List Fld) (k : Nat) (h : k < fs.length) : linesOf (fs.take (k + 1)) = linesOf (fs.take k) ++ [lineOf fs[k].1 fs[k].2] := by
  unfold linesOf
  rw [List.take_succ_eq_append_getElem h, List.map_append]
  rfl
theorem line_le (n v : List UInt8) : (lineOf n v).length ≤ n.length + v.length + 2 := by
  unfold lineOf
  split
  · simp only [List.length_append, List.length_cons, List.length_nil]; omega
  · exact Nat.zero_le _
theorem catL_le : ∀ fs : List Fld, (catL (linesOf fs)).length ≤ 2 * fsum fs
  | [] => Nat.zero_le _
  | f :: r => by
    have ih := catL_le r
    have := line_le f.1 f.2
    unfold catL linesOf at ih ⊢
    rw [List.map_cons, List.map_cons, List.flatten_cons, List.length_append, List.length_append, fsum_cons]
    have h2 : crlf.length = 2 := rfl
    omega
theorem fsum_take (fs : List Fld) (k : Nat) : fsum (fs.take k) ≤ fsum fs := by
  have h := fsum_append (fs.take k) (fs.drop k)
  rw [List.take_append_drop] at h
  omega
end Go.Proofs.YtmdmmncoigeijaaGreatDoor.Vex
/- Two fields, compared. -/
namespace Go.Proofs.YtmdmmncoigeijaaGreatDoor.Vex
open Go Go.RowKit
set_option maxRecDepth 100000
set_option linter.unusedSectionVars false
variable {gI : GI} [HasMax gI]

theorem toList_str (a b : List UInt8) : ((⟨⟨a⟩⟩ : ByteArray).toList == (⟨⟨b⟩⟩ : ByteArray).toList) = (a == b) := by
  rw [ByteArray.toList_eq, ByteArray.toList_eq]
theorem eqF_run (a b a' b' : List UInt8) (w : World) : (Op.equalIn 10000 47 (.agg ⟨[str a, str b]⟩) (.agg ⟨[str a', str b']⟩)).run Tryz.prog w = .ok (a == a' && b == b') w := by
  rw [show (10000 : Nat) = 9999 + 1 from rfl, run_equalIn_struct w 9999 _ _ _ (by kernel_rfl) (by kernel_rfl)]
  rw [show (Tryz.prog.fieldsOf 47).toList = [{ name := "Name", type := 9, offset := 0, embedded := false, tag := "", pkgPath := "", byteOffset := 0 }, { name := "Value", type := 9, offset := 1, embedded := false, tag := "", pkgPath := "", byteOffset := 16 }] from by kernel_rfl]
  have p0 : ∀ (u v : Value) w, (part 9 #[u, v] 0).run Tryz.prog w = .ok u w := fun u v w => by simp [go_sem]
  have p1 : ∀ (u v : Value) w, (part 9 #[u, v] 1).run Tryz.prog w = .ok v w := fun u v w => by simp [go_sem]
  have e0 : ∀ (x y : List UInt8) w, (Op.equalIn 9999 9 (str x) (str y)).run Tryz.prog w = .ok (x == y) w := fun x y w => by
    rw [show (9999 : Nat) = 9998 + 1 from rfl, run_equalIn_string w 9998 _ _ _ Tryz.underlying9, toList_str]
  simp only [Op.eqFields]
  cases h : a == a'
  · simp [go_sem, h, e0]
  · simp [go_sem, h, e0]
    split <;> simp_all
theorem OthP.eqF {c : Ctx} {H : Hp} {d : Option Nat} {x y : Operand} {yt ty : TypeId} {pos : String} {after : Array Edge} {gd : Option (Nat × Bool)} {fr : Fr} {a b a' b' : List UInt8} {K : Value → Prop} (hP : c.P = Tryz.prog)
    (hx : evK fr x fun v => v = .agg ⟨[str a, str b]⟩) (hy : evK fr y fun v => v = .agg ⟨[str a', str b']⟩) (k : K (.bool (a == a' && b == b'))) : OthP c ⟨d, .binOp .eql 47 x y yt, ty, pos, after, gd⟩ fr H K := ⟨⟨_, k, fun w _ => by
  rw [evK_eq] at hx hy
  rw [hP]
  have hg := run_eqGuard_agg (P := Tryz.prog) w .eql 47 x y ⟨[str a, str b]⟩ ⟨[str a', str b']⟩ (by kernel_rfl)
  have hb := run_eql_struct (P := Tryz.prog) w 47 ⟨[str a, str b]⟩ ⟨[str a', str b']⟩
  rw [eqF_run] at hb
  simp only [execOp, hx, hy, Sem.run_bind, hg, Result.andThen_ok, hb]
  rfl⟩⟩
theorem OthP.neF {c : Ctx} {H : Hp} {d : Option Nat} {x y : Operand} {yt ty : TypeId} {pos : String} {after : Array Edge} {gd : Option (Nat × Bool)} {fr : Fr} {a b a' b' : List UInt8} {K : Value → Prop} (hP : c.P = Tryz.prog)
    (hx : evK fr x fun v => v = .agg ⟨[str a, str b]⟩) (hy : evK fr y fun v => v = .agg ⟨[str a', str b']⟩) (k : K (.bool (!(a == a' && b == b')))) : OthP c ⟨d, .binOp .neq 47 x y yt, ty, pos, after, gd⟩ fr H K := ⟨⟨_, k, fun w _ => by
  rw [evK_eq] at hx hy
  rw [hP]
  have hg : (eqGuard .neq 47 x y (.agg ⟨[str a, str b]⟩) (.agg ⟨[str a', str b']⟩)).run Tryz.prog w = .ok () w := run_eqGuard_agg (P := Tryz.prog) w .neq 47 x y ⟨[str a, str b]⟩ ⟨[str a', str b']⟩ (by kernel_rfl)
  have hb : (binOp .neq 47 (.agg ⟨[str a, str b]⟩) (.agg ⟨[str a', str b']⟩)).run Tryz.prog w = .ok (.bool (!(a == a' && b == b'))) w := by
    show (do pure (.bool (!(← Op.equal 47 (.agg ⟨[str a, str b]⟩) (.agg ⟨[str a', str b']⟩)))) : Sem Value).run Tryz.prog w = _
    have e : Op.equal 47 (.agg ⟨[str a, str b]⟩) (.agg ⟨[str a', str b']⟩) = Op.equalIn 10000 47 (.agg ⟨[str a, str b]⟩) (.agg ⟨[str a', str b']⟩) := rfl
    rw [e, Sem.run_bind, eqF_run]
    rfl
  simp only [execOp, hx, hy, Sem.run_bind, hg, Result.andThen_ok, hb]
  rfl⟩⟩
end Go.Proofs.YtmdmmncoigeijaaGreatDoor.Vex
/- field.Items, reckoned: a range over strings.SplitSeq. -/
namespace Go.Proofs.YtmdmmncoigeijaaGreatDoor.Vex
open Go Go.RowKit
set_option maxRecDepth 100000
set_option linter.unusedSectionVars false
variable {gI : GI} [HasMax gI]

theorem itemsLeft {l r : List UInt8} {out : List (List UInt8)} (h : out ++ itemsOf r = itemsOf l) : out.length ≤ l.length + 1 := by
  have := items_length l
  rw [← h, List.length_append] at this
  omega
end Go.Proofs.YtmdmmncoigeijaaGreatDoor.Vex
/- What vary tells, as byte lists. No program in sight. -/
namespace Go.Proofs.YtmdmmncoigeijaaGreatDoor

/-- Is a text one of some, in small letters? -/
def inS (l : List (List UInt8)) (s : List UInt8) : Bool := l.any fun x => smallOf x == smallOf s
def namesOf (v n : List UInt8) : Bool := (itemsOf v).any fun s => smallOf s == [42] || smallOf s == smallOf n
/-- Each text once, in small letters, in the order of their coming. -/
def dedup : List (List UInt8) → List (List UInt8) → List (List UInt8)
  | out, [] => out
  | out, s :: r => dedup (if inS out s then out else out ++ [s]) r
def allV (values : List (List UInt8)) (name : List UInt8) : List (List UInt8) := values.flatMap itemsOf ++ [name]
def mergeOK (values : List (List UInt8)) (name : List UInt8) : Bool := (allV values name).all tokenOf
def mergeO (values : List (List UInt8)) (name : List UInt8) : List (List UInt8) := dedup [] (allV values name)
def mergeS (values : List (List UInt8)) (name : List UInt8) : List UInt8 :=
  if mergeOK values name then (if inS (mergeO values name) [42] then [42] else Lib.join (mergeO values name) [44, 32]) else []
def mergeE (values : List (List UInt8)) (name : List UInt8) : Int := if mergeOK values name then 0 else 3
theorem small_star : smallOf [42] = [42] := by decide
theorem small_eq_star {s : List UInt8} : smallOf s = [42] ↔ s = [42] := by
  constructor
  · intro h
    have hl : s.length = 1 := by rw [← smallOf_length s, h]; rfl
    match s, hl with
    | [x], _ =>
      have h1 : lowB x = 42 := by simpa [smallOf] using h
      have h2 : ∀ n : Fin 256, lowB n.val.toUInt8 = 42 → n.val.toUInt8 = 42 := by decide +kernel
      have h3 := h2 ⟨x.toNat, x.toNat_lt⟩
      simp at h3
      rw [h3 h1]
  · rintro rfl; decide
theorem names_in (v n : List UInt8) : namesOf v n = (inS (itemsOf v) [42] || inS (itemsOf v) n) := by
  unfold namesOf inS
  rw [small_star]
  induction itemsOf v with
  | nil => rfl
  | cons x r ih => simp only [List.any_cons, ih]; cases smallOf x == [42] <;> cases smallOf x == smallOf n <;> simp
/-- Items of values that are put behind one another. -/
theorem join_cons (x y : List UInt8) (r : List (List UInt8)) (sep : List UInt8) : Lib.join (x :: y :: r) sep = x ++ sep ++ Lib.join (y :: r) sep := by
  simp [Lib.join, List.intercalate]
theorem items_of_join : ∀ values : List (List UInt8), itemsOf (Lib.join values [44]) = values.flatMap itemsOf
  | [] => by decide
  | [x] => by simp [Lib.join_one]
  | x :: y :: r => by
    rw [join_cons, List.flatMap_cons, ← items_of_join (y :: r), List.append_assoc]
    exact items_join x _
theorem join_length : ∀ (values : List (List UInt8)) (sep : List UInt8), (Lib.join values sep).length ≤ (values.map fun v => v.length + sep.length).sum
  | [], sep => by simp [Lib.join, List.intercalate]
  | [x], sep => by simp [Lib.join_one]
  | x :: y :: r, sep => by
    have := join_length (y :: r) sep
    rw [join_cons, List.map_cons, List.sum_cons, List.length_append, List.length_append]
    omega
theorem dedup_length : ∀ (l out : List (List UInt8)), (dedup out l).length ≤ out.length + l.length
  | [], out => by simp [dedup]
  | s :: r, out => by
    cases h : inS out s with
    | true =>
      have := dedup_length r out
      simp only [dedup, h, if_true, List.length_cons]
      omega
    | false =>
      have := dedup_length r (out ++ [s])
      simp only [List.length_append, List.length_singleton] at this
      simp only [dedup, h, Bool.false_eq_true, if_false, List.length_cons]
      omega
theorem dedup_mem : ∀ (l out : List (List UInt8)) (x : List UInt8), x ∈ dedup out l → x ∈ out ∨ x ∈ l
  | [], out, x, h => .inl h
  | s :: r, out, x, h => by
    unfold dedup at h
    rcases dedup_mem r _ x h with h | h
    · split at h
      · exact .inl h
      · rcases List.mem_append.1 h with h | h
        · exact .inl h
        · rw [List.mem_singleton] at h
          exact .inr (by rw [h]; exact List.mem_cons_self ..)
    · exact .inr (List.mem_cons_of_mem _ h)
theorem inS_append (a b : List (List UInt8)) (s : List UInt8) : inS (a ++ b) s = (inS a s || inS b s) := by simp [inS]
/-- What is put together names all that was named. -/
theorem inS_dedup (s : List UInt8) : ∀ (l out : List (List UInt8)), inS (dedup out l) s = (inS out s || inS l s)
  | [], out => by simp [dedup, inS]
  | x :: r, out => by
    have ih := inS_dedup s r (if inS out x then out else out ++ [x])
    unfold dedup
    rw [ih]
    have hc : inS (x :: r) s = (smallOf x == smallOf s || inS r s) := by simp [inS]
    rw [hc]
    split
    · rename_i h
      cases hx : smallOf x == smallOf s with
      | false => simp
      | true =>
        have hx : smallOf x = smallOf s := by simpa using hx
        have : inS out s = true := by unfold inS at h ⊢; rw [← hx]; exact h
        simp [this]
    · rw [inS_append]
      simp [inS, Bool.or_assoc]
end Go.Proofs.YtmdmmncoigeijaaGreatDoor
/- Library functions on lists of texts and of fields, and the references' ones, reckoned. -/
namespace Go.Proofs.YtmdmmncoigeijaaGreatDoor.Vex
open Go Go.RowKit
set_option maxRecDepth 100000
set_option linter.unusedSectionVars false
variable {gI : GI} [HasMax gI]

theorem rdw_addr {w : World} {A : Option Addr} {x : Value} {xs : List Value} (h : Rdw w A (x :: xs)) : ∃ b o, A = some ⟨b, o, none⟩ ∧ b < w.heap.size := by
  obtain ⟨a, ha, hc⟩ := h 0 x rfl
  obtain ⟨b, o, sp⟩ := a
  have hs : sp = none := by
    cases sp with
    | none => rfl
    | some s =>
      exfalso
      have : (⟨b, o, some s⟩ : Addr).add 0 = ⟨b, o, some s⟩ ∨ ((⟨b, o, some s⟩ : Addr).add 0).spot.isSome = true := by
        right; unfold Addr.add; split <;> simp_all
      unfold World.cell? at hc
      rcases this with h | h <;> simp [h] at hc <;> split at hc <;> simp_all
  subst hs
  refine ⟨b, o, ha, ?_⟩
  have := World.block_lt_of_cell? _ _ hc
  rwa [add_block] at this
theorem Join_f (A : Option Addr) (cp : Nat) (xs : List (List UInt8)) (sep : List UInt8) (hn : xs.length ≤ 1000000000000) (hl : (Lib.join xs sep).length ≤ 140737488355328) :
    FnE Tryz.prog gI 51 [.slice A xs.length cp, str sep] (fun w => Rdw w A (xs.map str) ∧ xs.length ≤ cp) (fun _ v _ => v = str (Lib.join xs sep)) :=
  ⟨callable Tryz.func51 rfl (by kernel_rfl), fun w _ ⟨hr, hc⟩ => by
    cases xs with
    | nil => exact (Tryz.strings_Join_none A cp ⟨⟨sep⟩⟩ w).mono fun e w' ⟨he, hw⟩ => ⟨_, he, rfl, by rw [hw]; exact R.refl _⟩
    | cons x r =>
      obtain ⟨b, o, rfl, hb⟩ := rdw_addr hr
      have hm : ((x :: r).map fun l => (⟨⟨l⟩⟩ : ByteArray)).map (·.data.toList) = x :: r := by
        rw [List.map_map]
        exact List.map_id _
      have h := Tryz.strings_Join b o cp ((x :: r).map fun l => ⟨⟨l⟩⟩) ⟨⟨sep⟩⟩ w (fun j y hj => by
        rw [List.getElem?_map] at hj
        cases hx : (x :: r)[j]? with
        | none => rw [hx] at hj; cases hj
        | some l =>
          rw [hx] at hj
          cases hj
          obtain ⟨a, ha, hcell⟩ := hr j (str l) (by rw [List.getElem?_map, hx]; rfl)
          cases ha
          rw [Addr.add_lit] at hcell
          exact hcell) hb (by rw [List.length_map]; omega) (by rw [List.length_map]; exact hc) (by rw [hm]; exact hl)
      rw [List.length_map, hm] at h
      exact h.mono fun e w' ⟨he, hw⟩ => ⟨_, he, rfl, hw⟩⟩
end Go.Proofs.YtmdmmncoigeijaaGreatDoor.Vex
/- Numbers to the base of 16, reckoned: strconv.ParseUint at the base 16; library functions on texts. -/
namespace Go.Proofs.YtmdmmncoigeijaaGreatDoor.Vex
open Go Go.RowKit
set_option maxRecDepth 100000
set_option linter.unusedSectionVars false
variable {gI : GI} [HasMax gI] [HasErr gI]

theorem idx_in (c : UInt8) : ∀ l : List UInt8, (0 ≤ Lib.indexByte l c) ↔ c ∈ l
  | [] => by simp [Lib.indexByte]
  | x :: r => by
    have ih := idx_in c r
    have hg := Lib.indexByte_ge r c
    unfold Lib.indexByte
    by_cases h : x = c
    · simp [h]
    · have h1 : (x == c) = false := by simpa using h
      rw [h1]
      simp only [Bool.false_eq_true, if_false, List.mem_cons]
      have h2 : ¬ c = x := fun e => h e.symm
      simp only [h2, false_or, ← ih]
      by_cases h3 : Lib.indexByte r c = -1
      · simp [h3]
      · have : (Lib.indexByte r c == -1) = false := by simpa using h3
        rw [this]
        simp only [Bool.false_eq_true, if_false]
        omega
theorem HasPrefix_f (s p : List UInt8) : Fn Tryz.prog gI 105 [str s, str p] (.bool (Lib.hasPrefix s p)) :=
  ⟨callable Tryz.func105 rfl (by kernel_rfl), fun w _ => (Tryz.strings_HasPrefix ⟨⟨s⟩⟩ ⟨⟨p⟩⟩ w).mono fun _ _ ⟨he, hw⟩ => ⟨he, by rw [hw]; exact R.refl _⟩⟩
theorem CutPrefix_f (s p : List UInt8) : Fn Tryz.prog gI 165 [str s, str p] (.tuple #[str (Lib.trimPrefix s p), .bool (Lib.hasPrefix s p)]) :=
  ⟨callable Tryz.func165 rfl (by kernel_rfl), fun w _ => (Tryz.strings_CutPrefix ⟨⟨s⟩⟩ ⟨⟨p⟩⟩ w).mono fun _ _ ⟨he, hw⟩ => ⟨he, by rw [hw]; exact R.refl _⟩⟩
theorem mem_bytes (l : List (List UInt8)) (x : List UInt8) : (⟨⟨x⟩⟩ : ByteArray) ∈ l.map (fun y => (⟨⟨y⟩⟩ : ByteArray)) ↔ x ∈ l := by
  constructor
  · intro h
    obtain ⟨y, hy, e⟩ := List.mem_map.1 h
    cases e
    exact hy
  · exact fun h => List.mem_map.2 ⟨x, h, rfl⟩
theorem Contains_f (A : Option Addr) (cp : Nat) (l : List (List UInt8)) (x : List UInt8) (hl : l.length ≤ 1000000000) : FnR Tryz.prog gI 45 [.slice A l.length cp, str x] [(A, l.map str)] (.bool (l.contains x)) :=
  ⟨callable Tryz.func45 rfl (by kernel_rfl), fun w _ ⟨hr, _⟩ => by
    cases l with
    | nil => exact (Tryz.slices_Contains_string_empty A cp ⟨⟨x⟩⟩ w).mono fun e w' ⟨he, hw⟩ => ⟨_, he, by simp, by rw [hw]; exact R.refl _⟩
    | cons y r =>
      obtain ⟨b, o, rfl, hb⟩ := rdw_addr hr
      have h := Tryz.slices_Contains_string b o (y :: r).length cp ((y :: r).map fun l => ⟨⟨l⟩⟩) ⟨⟨x⟩⟩ w (by rw [List.length_map]; exact Nat.le_refl _) (by omega) (fun j hj => by
        rw [List.length_map] at hj
        obtain ⟨a, ha, hcell⟩ := hr j (str (y :: r)[j]) (by rw [List.getElem?_map, List.getElem?_eq_getElem hj]; rfl)
        cases ha
        rw [Addr.add_lit] at hcell
        rw [hcell, List.getD_eq_getElem?_getD, List.getElem?_map, List.getElem?_eq_getElem hj]
        rfl)
      refine h.mono fun e w' ⟨he, hw⟩ => ⟨_, he, ?_, by rw [hw]; exact R.refl _⟩
      congr 1
      rw [Bool.eq_iff_iff, Lib.containsS_iff, List.take_of_length_le (by rw [List.length_map]; exact Nat.le_refl _), mem_bytes, List.contains_iff_mem]⟩
/-! ## To the base of 16 -/
def lwI (x : UInt8) : Int := bits .or .u8 x.toNat 32
theorem lw_facts (x : UInt8) : (48 ≤ x.toNat ∧ x.toNat ≤ 57 ∧ digI x.toNat = x.toNat - 48) ∨ (¬ (48 ≤ x.toNat ∧ x.toNat ≤ 57) ∧ ((97 ≤ lwI x ∧ lwI x ≤ 122 ∧ (digI x.toNat = lwI x - 87 ∧ lwI x ≤ 102 ∨ digI x.toNat = -1 ∧ 102 < lwI x)) ∨ (¬ (97 ≤ lwI x ∧ lwI x ≤ 122) ∧ digI x.toNat = -1))) := by
  have : ∀ n : Fin 256, (48 ≤ n.val ∧ n.val ≤ 57 ∧ digI n.val = n.val - 48) ∨ (¬ (48 ≤ n.val ∧ n.val ≤ 57) ∧ ((97 ≤ bits .or .u8 n.val 32 ∧ bits .or .u8 n.val 32 ≤ 122 ∧ (digI n.val = bits .or .u8 n.val 32 - 87 ∧ bits .or .u8 n.val 32 ≤ 102 ∨ digI n.val = -1 ∧ 102 < bits .or .u8 n.val 32)) ∨ (¬ (97 ≤ bits .or .u8 n.val 32 ∧ bits .or .u8 n.val 32 ≤ 122) ∧ digI n.val = -1))) := by decide +kernel
  exact this ⟨x.toNat, x.toNat_lt⟩
theorem lw_95 (x : UInt8) (h : x.toNat = 95) : digI x.toNat = -1 := by rw [h]; decide
theorem lower_f (x : UInt8) : Fn Tryz.prog gI 188 [.int .u8 x.toNat] (.int .u8 (lwI x)) :=
  ⟨callable Tryz.func188 rfl (by kernel_rfl), fun w _ => (Tryz.internal_strconv_lower x.toNat w).mono fun _ _ ⟨he, hw⟩ => ⟨he, by rw [hw]; exact R.refl _⟩⟩
/-- The value and the error's number: 0 none, 1 out of range, 2 no number. -/
def puGo (mx : Int) : Int → List UInt8 → Int × Int
  | n, [] => (n, 0)
  | n, x :: r => if digI x.toNat < 0 then (0, 2) else if 1152921504606846976 ≤ n then (mx, 1) else if mx < n * 16 + digI x.toNat then (mx, 1) else puGo mx (n * 16 + digI x.toNat) r
def puV (mx : Int) (l : List UInt8) : Int × Int := if l = [] then (0, 2) else puGo mx 0 l
def errV (k : Int) : Value := if k = 0 then .nilIface else .iface 220 (.int .i64 k)
theorem puGo_err (mx : Int) : ∀ (l : List UInt8) (n : Int), (puGo mx n l).2 = 0 ∨ (puGo mx n l).2 = 1 ∨ (puGo mx n l).2 = 2
  | [], n => .inl rfl
  | x :: r, n => by
    unfold puGo
    split
    · exact .inr (.inr rfl)
    · split
      · exact .inr (.inl rfl)
      · split
        · exact .inr (.inl rfl)
        · exact puGo_err mx r _
theorem Parse16_f (l : List UInt8) (bs mx : Int) (hb : bs = 8 ∧ mx = 255 ∨ bs = 64 ∧ mx = 18446744073709551615) (hl : l.length ≤ 1000000000) :
    Fn Tryz.prog gI 171 [str l, .int .i64 16, .int .i64 bs] (.tuple #[.int .u64 (puV mx l).1, errV (puV mx l).2]) := by
  refine Fn.of tys_ok Tryz.func171 rfl (by kernel_rfl) rfl rfl ?_; intro w hG
  (conv => whnf); repeat ((first | refine tk1 ?_ | refine tk2 ?_ | refine tk3 ?_ | refine tk12 (fun _ => ?_) | refine tk4 ?_ | refine tk5 ?_ | refine tk6 ?_ | refine tk7 ?_ | refine tk8 ?_ | refine tk9 ?_ | refine tk10 (fun _ _ => ?_) | refine tk11 (fun _ => ?_) | refine tk13 ?_ | refine tk14 ?_); (conv => whnf))
  refine Cmp.cases (fun h0 => ?_) (fun h0 => ?_)
  · (conv => whnf); repeat ((first | refine tk1 ?_ | refine tk2 ?_ | refine tk3 ?_ | refine tk12 (fun _ => ?_) | refine tk4 ?_ | refine tk5 ?_ | refine tk6 ?_ | refine tk7 ?_ | refine tk8 ?_ | refine tk9 ?_ | refine tk10 (fun _ _ => ?_) | refine tk11 (fun _ => ?_) | refine tk13 ?_ | refine tk14 ?_); (conv => whnf))
    refine OthP.mkI tys_ok rfl rfl ?_
    (conv => whnf); repeat ((first | refine tk1 ?_ | refine tk2 ?_ | refine tk3 ?_ | refine tk12 (fun _ => ?_) | refine tk4 ?_ | refine tk5 ?_ | refine tk6 ?_ | refine tk7 ?_ | refine tk8 ?_ | refine tk9 ?_ | refine tk10 (fun _ _ => ?_) | refine tk11 (fun _ => ?_) | refine tk13 ?_ | refine tk14 ?_); (conv => whnf))
    simp [puV, h0, errV]
  · have hpv : puV mx l = puGo mx 0 l := by unfold puV; rw [if_neg h0]
    have h255 : 255 ≤ mx := by omega
    (conv => whnf); repeat ((first | refine tk1 ?_ | refine tk2 ?_ | refine tk3 ?_ | refine tk12 (fun _ => ?_) | refine tk4 ?_ | refine tk5 ?_ | refine tk6 ?_ | refine tk7 ?_ | refine tk8 ?_ | refine tk9 ?_ | refine tk10 (fun _ _ => ?_) | refine tk11 (fun _ => ?_) | refine tk13 ?_ | refine tk14 ?_); (conv => whnf))
    refine Ar.any ?_
    rw [show IntKind.u64.wrap bs = bs by rcases hb with ⟨rfl, _⟩ | ⟨rfl, _⟩ <;> rfl]
    (conv => whnf); repeat ((first | refine tk1 ?_ | refine tk2 ?_ | refine tk3 ?_ | refine tk12 (fun _ => ?_) | refine tk4 ?_ | refine tk5 ?_ | refine tk6 ?_ | refine tk7 ?_ | refine tk8 ?_ | refine tk9 ?_ | refine tk10 (fun _ _ => ?_) | refine tk11 (fun _ => ?_) | refine tk13 ?_ | refine tk14 ?_); (conv => whnf))
    refine OthP.ints rfl rfl (v := .int .u64 (if bs = 8 then 256 else 0)) (fun w => by rcases hb with ⟨rfl, _⟩ | ⟨rfl, _⟩ <;> rfl) ?_
    (conv => whnf); repeat ((first | refine tk1 ?_ | refine tk2 ?_ | refine tk3 ?_ | refine tk12 (fun _ => ?_) | refine tk4 ?_ | refine tk5 ?_ | refine tk6 ?_ | refine tk7 ?_ | refine tk8 ?_ | refine tk9 ?_ | refine tk10 (fun _ _ => ?_) | refine tk11 (fun _ => ?_) | refine tk13 ?_ | refine tk14 ?_); (conv => whnf))
    refine Ar.any ?_
    rw [show IntKind.u64.wrap ((if bs = 8 then 256 else 0) - 1) = mx by rcases hb with ⟨rfl, rfl⟩ | ⟨rfl, rfl⟩ <;> rfl]
    (conv => whnf); repeat ((first | refine tk1 ?_ | refine tk2 ?_ | refine tk3 ?_ | refine tk12 (fun _ => ?_) | refine tk4 ?_ | refine tk5 ?_ | refine tk6 ?_ | refine tk7 ?_ | refine tk8 ?_ | refine tk9 ?_ | refine tk10 (fun _ _ => ?_) | refine tk11 (fun _ => ?_) | refine tk13 ?_ | refine tk14 ?_); (conv => whnf))
    rename_i b cp
    refine LoopS.lp tys_ok (fun (x : Nat × Int) u => [u 0, .int .i64 16, u 2, u 3, u 4, u 5, u 6, u 7, .bool false, str l, .int .u64 1152921504606846976, .int .u64 mx, .bool false, .int .u64 x.2, u 14, u 15, u 16, u 17, u 18, u 19, u 20, u 21, u 22, u 23, u 24, u 25, u 26, u 27, u 28, u 29, u 30, u 31, u 32, u 33, u 34, u 35, u 36, u 37, u 38, u 39, u 40, u 41, u 42, u 43, u 44, u 45, u 46, u 47, u 48, u 49, u 50, u 51, u 52, u 53, u 54, u 55, u 56, u 57, u 58, u 59, u 60, u 61, u 62, u 63, u 64, u 65, u 66, u 67, u 68, u 69, u 70, u 71, u 72, u 73, u 74, u 75, u 76, u 77, u 78, u 79, u 80, u 81, u 82, u 83, u 84, u 85, u 86, u 87, u 88, u 89, u 90, u 91, u 92, u 93, u 94, u 95, u 96, u 97, u 98, .slice (some ⟨b, 0, none⟩) l.length cp, .int .i64 l.length, .int .i64 (x.1 : Nat), u 102, u 103, u 104, u 105, u 106, u 107, u 108, u 109, u 110, u 111, u 112, u 113, u 114, u 115, u 116, u 117, u 118, u 119, u 120, u 121, u 122, u 123, u 124, u 125, u 126, u 127, u 128, u 129, u 130, u 131, u 132, u 133, u 134, u 135, u 136, u 137, u 138, u 139, u 140, u 141, u 142, u 143, u 144, u 145, u 146, u 147, u 148, u 149, u 150, u 151, u 152, u 153, u 154, u 155, u 156, u 157, u 158, u 159, u 160, u 161, u 162, u 163, u 164, u 165, u 166, u 167, u 168, u 169, u 170, u 171])
      (fun _ => [.row (.slice (some ⟨b, 0, none⟩) l.length cp) 5 1 l.length (l.map byteV)])
      (fun x => x.1 ≤ l.length ∧ 0 ≤ x.2 ∧ x.2 ≤ mx ∧ puGo mx 0 l = puGo mx x.2 (l.drop x.1)) (fun x => l.length - x.1) (0, 0) ⟨Nat.zero_le _, Int.le_refl _, by dsimp only; omega, rfl⟩ rfl (by repeat' (first | exact List.Sublist.refl _ | exact List.nil_sublist _ | apply List.Sublist.cons_cons | apply List.Sublist.cons)) ?_
    rintro ⟨k, n⟩ u ⟨hk, hn0, hnm, hI⟩
    dsimp only at hk hn0 hnm hI ⊢
    (conv => whnf); repeat ((first | refine tk1 ?_ | refine tk2 ?_ | refine tk3 ?_ | refine tk12 (fun _ => ?_) | refine tk4 ?_ | refine tk5 ?_ | refine tk6 ?_ | refine tk7 ?_ | refine tk8 ?_ | refine tk9 ?_ | refine tk10 (fun _ _ => ?_) | refine tk11 (fun _ => ?_) | refine tk13 ?_ | refine tk14 ?_); (conv => whnf))
    refine Cmp.cases (fun hlt => ?_) (fun hlt => ?_)
    · have hlt' : k < l.length := by omega
      obtain ⟨x, hx⟩ : ∃ x, l[k] = x := ⟨_, rfl⟩
      have hd : l.drop k = x :: l.drop (k + 1) := by rw [← hx]; exact List.drop_eq_getElem_cons hlt'
      have hlw := lw_facts x
      have hxt := x.toNat_lt
      rw [hd, puGo] at hI
      have bad : digI x.toNat = -1 → puV mx l = (0, 2) := fun h => by rw [hpv, hI, if_pos (by omega)]
      (conv => whnf); repeat ((first | refine tk1 ?_ | refine tk2 ?_ | refine tk3 ?_ | refine tk12 (fun _ => ?_) | refine tk4 ?_ | refine tk5 ?_ | refine tk6 ?_ | refine tk7 ?_ | refine tk8 ?_ | refine tk9 ?_ | refine tk10 (fun _ _ => ?_) | refine tk11 (fun _ => ?_) | refine tk13 ?_ | refine tk14 ?_); (conv => whnf))
      refine IdxA.tc (by simp; omega) (by omega) (by omega) ?_
      (conv => whnf); repeat ((first | refine tk1 ?_ | refine tk2 ?_ | refine tk3 ?_ | refine tk12 (fun _ => ?_) | refine tk4 ?_ | refine tk5 ?_ | refine tk6 ?_ | refine tk7 ?_ | refine tk8 ?_ | refine tk9 ?_ | refine tk10 (fun _ _ => ?_) | refine tk11 (fun _ => ?_) | refine tk13 ?_ | refine tk14 ?_); (conv => whnf))
      refine Ld.ta (v := .int .u8 x.toNat) (by simp [hlt', hx, byteV]) ?_
      (conv => whnf); repeat ((first | refine tk1 ?_ | refine tk2 ?_ | refine tk3 ?_ | refine tk12 (fun _ => ?_) | refine tk4 ?_ | refine tk5 ?_ | refine tk6 ?_ | refine tk7 ?_ | refine tk8 ?_ | refine tk9 ?_ | refine tk10 (fun _ _ => ?_) | refine tk11 (fun _ => ?_) | refine tk13 ?_ | refine tk14 ?_); (conv => whnf))
      refine Cmp.cases (fun h95 => ?_) (fun h95 => ?_)
      · have hbad := bad (lw_95 x (by omega))
        have h5 : lwI x = 127 := by unfold lwI; rw [show x.toNat = 95 by omega]; rfl
        (conv => whnf); repeat ((first | refine tk1 ?_ | refine tk2 ?_ | refine tk3 ?_ | refine tk12 (fun _ => ?_) | refine tk4 ?_ | refine tk5 ?_ | refine tk6 ?_ | refine tk7 ?_ | refine tk8 ?_ | refine tk9 ?_ | refine tk10 (fun _ _ => ?_) | refine tk11 (fun _ => ?_) | refine tk13 ?_ | refine tk14 ?_); (conv => whnf))
        refine CallK.fn (lower_f x) ?_
        (conv => whnf); repeat ((first | refine tk1 ?_ | refine tk2 ?_ | refine tk3 ?_ | refine tk12 (fun _ => ?_) | refine tk4 ?_ | refine tk5 ?_ | refine tk6 ?_ | refine tk7 ?_ | refine tk8 ?_ | refine tk9 ?_ | refine tk10 (fun _ _ => ?_) | refine tk11 (fun _ => ?_) | refine tk13 ?_ | refine tk14 ?_); (conv => whnf))
        refine CallK.fn (lower_f x) ?_
        (conv => whnf); repeat ((first | refine tk1 ?_ | refine tk2 ?_ | refine tk3 ?_ | refine tk12 (fun _ => ?_) | refine tk4 ?_ | refine tk5 ?_ | refine tk6 ?_ | refine tk7 ?_ | refine tk8 ?_ | refine tk9 ?_ | refine tk10 (fun _ _ => ?_) | refine tk11 (fun _ => ?_) | refine tk13 ?_ | refine tk14 ?_); (conv => whnf))
        refine OthP.mkI tys_ok rfl rfl ?_
        (conv => whnf); repeat ((first | refine tk1 ?_ | refine tk2 ?_ | refine tk3 ?_ | refine tk12 (fun _ => ?_) | refine tk4 ?_ | refine tk5 ?_ | refine tk6 ?_ | refine tk7 ?_ | refine tk8 ?_ | refine tk9 ?_ | refine tk10 (fun _ _ => ?_) | refine tk11 (fun _ => ?_) | refine tk13 ?_ | refine tk14 ?_); (conv => whnf))
        rw [hbad]; rfl
      · rcases hlw with ⟨g1, g2, g3⟩ | ⟨g1, ⟨g2, g3, ⟨g4, g5⟩ | ⟨g4, g5⟩⟩ | ⟨g2, g3⟩⟩
        · (conv => whnf); repeat ((first | refine tk1 ?_ | refine tk2 ?_ | refine tk3 ?_ | refine tk12 (fun _ => ?_) | refine tk4 ?_ | refine tk5 ?_ | refine tk6 ?_ | refine tk7 ?_ | refine tk8 ?_ | refine tk9 ?_ | refine tk10 (fun _ _ => ?_) | refine tk11 (fun _ => ?_) | refine tk13 ?_ | refine tk14 ?_); (conv => whnf))
          refine Ar.in8 (by omega) (by omega) ?_
          (conv => whnf); repeat ((first | refine tk1 ?_ | refine tk2 ?_ | refine tk3 ?_ | refine tk12 (fun _ => ?_) | refine tk4 ?_ | refine tk5 ?_ | refine tk6 ?_ | refine tk7 ?_ | refine tk8 ?_ | refine tk9 ?_ | refine tk10 (fun _ _ => ?_) | refine tk11 (fun _ => ?_) | refine tk13 ?_ | refine tk14 ?_); (conv => whnf))
          rw [show (x.toNat : Int) - 48 = digI x.toNat by omega]
          rw [if_neg (show ¬ digI x.toNat < 0 by omega)] at hI
          have hdr := dig_range x
          refine Ar.in8 (by omega) (by omega) ?_
          (conv => whnf); repeat ((first | refine tk1 ?_ | refine tk2 ?_ | refine tk3 ?_ | refine tk12 (fun _ => ?_) | refine tk4 ?_ | refine tk5 ?_ | refine tk6 ?_ | refine tk7 ?_ | refine tk8 ?_ | refine tk9 ?_ | refine tk10 (fun _ _ => ?_) | refine tk11 (fun _ => ?_) | refine tk13 ?_ | refine tk14 ?_); (conv => whnf))
          refine Cmp.cases (fun c1 => ?_) (fun c1 => ?_)
          · rw [if_pos (show 1152921504606846976 ≤ n by omega)] at hI
            (conv => whnf); repeat ((first | refine tk1 ?_ | refine tk2 ?_ | refine tk3 ?_ | refine tk12 (fun _ => ?_) | refine tk4 ?_ | refine tk5 ?_ | refine tk6 ?_ | refine tk7 ?_ | refine tk8 ?_ | refine tk9 ?_ | refine tk10 (fun _ _ => ?_) | refine tk11 (fun _ => ?_) | refine tk13 ?_ | refine tk14 ?_); (conv => whnf))
            refine OthP.mkI tys_ok rfl rfl ?_
            (conv => whnf); repeat ((first | refine tk1 ?_ | refine tk2 ?_ | refine tk3 ?_ | refine tk12 (fun _ => ?_) | refine tk4 ?_ | refine tk5 ?_ | refine tk6 ?_ | refine tk7 ?_ | refine tk8 ?_ | refine tk9 ?_ | refine tk10 (fun _ _ => ?_) | refine tk11 (fun _ => ?_) | refine tk13 ?_ | refine tk14 ?_); (conv => whnf))
            rw [hpv, hI]; rfl
          · rw [if_neg (show ¬ 1152921504606846976 ≤ n by omega)] at hI
            (conv => whnf); repeat ((first | refine tk1 ?_ | refine tk2 ?_ | refine tk3 ?_ | refine tk12 (fun _ => ?_) | refine tk4 ?_ | refine tk5 ?_ | refine tk6 ?_ | refine tk7 ?_ | refine tk8 ?_ | refine tk9 ?_ | refine tk10 (fun _ _ => ?_) | refine tk11 (fun _ => ?_) | refine tk13 ?_ | refine tk14 ?_); (conv => whnf))
            refine Ar.any ?_
            rw [show IntKind.u64.wrap 16 = 16 from rfl]
            (conv => whnf); repeat ((first | refine tk1 ?_ | refine tk2 ?_ | refine tk3 ?_ | refine tk12 (fun _ => ?_) | refine tk4 ?_ | refine tk5 ?_ | refine tk6 ?_ | refine tk7 ?_ | refine tk8 ?_ | refine tk9 ?_ | refine tk10 (fun _ _ => ?_) | refine tk11 (fun _ => ?_) | refine tk13 ?_ | refine tk14 ?_); (conv => whnf))
            refine Ar.any ?_
            rw [show IntKind.u64.wrap (n * 16) = n * 16 by rw [IntKind.wrap_u64]; omega]
            (conv => whnf); repeat ((first | refine tk1 ?_ | refine tk2 ?_ | refine tk3 ?_ | refine tk12 (fun _ => ?_) | refine tk4 ?_ | refine tk5 ?_ | refine tk6 ?_ | refine tk7 ?_ | refine tk8 ?_ | refine tk9 ?_ | refine tk10 (fun _ _ => ?_) | refine tk11 (fun _ => ?_) | refine tk13 ?_ | refine tk14 ?_); (conv => whnf))
            refine Ar.any ?_
            rw [show IntKind.u64.wrap (digI x.toNat) = digI x.toNat by rw [IntKind.wrap_u64]; omega]
            (conv => whnf); repeat ((first | refine tk1 ?_ | refine tk2 ?_ | refine tk3 ?_ | refine tk12 (fun _ => ?_) | refine tk4 ?_ | refine tk5 ?_ | refine tk6 ?_ | refine tk7 ?_ | refine tk8 ?_ | refine tk9 ?_ | refine tk10 (fun _ _ => ?_) | refine tk11 (fun _ => ?_) | refine tk13 ?_ | refine tk14 ?_); (conv => whnf))
            refine Ar.any ?_
            rw [show IntKind.u64.wrap (n * 16 + digI x.toNat) = n * 16 + digI x.toNat by rw [IntKind.wrap_u64]; omega]
            (conv => whnf); repeat ((first | refine tk1 ?_ | refine tk2 ?_ | refine tk3 ?_ | refine tk12 (fun _ => ?_) | refine tk4 ?_ | refine tk5 ?_ | refine tk6 ?_ | refine tk7 ?_ | refine tk8 ?_ | refine tk9 ?_ | refine tk10 (fun _ _ => ?_) | refine tk11 (fun _ => ?_) | refine tk13 ?_ | refine tk14 ?_); (conv => whnf))
            refine Cmp.cases (fun c2 => ?_) (fun c2 => ?_)
            · rw [if_pos (show mx < n * 16 + digI x.toNat by omega)] at hI
              (conv => whnf); repeat ((first | refine tk1 ?_ | refine tk2 ?_ | refine tk3 ?_ | refine tk12 (fun _ => ?_) | refine tk4 ?_ | refine tk5 ?_ | refine tk6 ?_ | refine tk7 ?_ | refine tk8 ?_ | refine tk9 ?_ | refine tk10 (fun _ _ => ?_) | refine tk11 (fun _ => ?_) | refine tk13 ?_ | refine tk14 ?_); (conv => whnf))
              refine OthP.mkI tys_ok rfl rfl ?_
              (conv => whnf); repeat ((first | refine tk1 ?_ | refine tk2 ?_ | refine tk3 ?_ | refine tk12 (fun _ => ?_) | refine tk4 ?_ | refine tk5 ?_ | refine tk6 ?_ | refine tk7 ?_ | refine tk8 ?_ | refine tk9 ?_ | refine tk10 (fun _ _ => ?_) | refine tk11 (fun _ => ?_) | refine tk13 ?_ | refine tk14 ?_); (conv => whnf))
              rw [hpv, hI]; rfl
            · rw [if_neg (show ¬ mx < n * 16 + digI x.toNat by omega)] at hI
              (conv => whnf); repeat ((first | refine tk1 ?_ | refine tk2 ?_ | refine tk3 ?_ | refine tk12 (fun _ => ?_) | refine tk4 ?_ | refine tk5 ?_ | refine tk6 ?_ | refine tk7 ?_ | refine tk8 ?_ | refine tk9 ?_ | refine tk10 (fun _ _ => ?_) | refine tk11 (fun _ => ?_) | refine tk13 ?_ | refine tk14 ?_); (conv => whnf))
              exact ⟨(k + 1, n * 16 + digI x.toNat), ⟨by dsimp only; omega, by dsimp only; omega, by dsimp only; omega, hI⟩, rfl, (by repeat' (first | exact List.Sublist.refl _ | exact List.nil_sublist _ | apply List.Sublist.cons_cons | apply List.Sublist.cons)), by dsimp only; omega⟩
        · (conv => whnf); repeat ((first | refine tk1 ?_ | refine tk2 ?_ | refine tk3 ?_ | refine tk12 (fun _ => ?_) | refine tk4 ?_ | refine tk5 ?_ | refine tk6 ?_ | refine tk7 ?_ | refine tk8 ?_ | refine tk9 ?_ | refine tk10 (fun _ _ => ?_) | refine tk11 (fun _ => ?_) | refine tk13 ?_ | refine tk14 ?_); (conv => whnf))
          refine Cmp.cases (fun q1 => ?_) (fun q1 => ?_)
          · (conv => whnf); repeat ((first | refine tk1 ?_ | refine tk2 ?_ | refine tk3 ?_ | refine tk12 (fun _ => ?_) | refine tk4 ?_ | refine tk5 ?_ | refine tk6 ?_ | refine tk7 ?_ | refine tk8 ?_ | refine tk9 ?_ | refine tk10 (fun _ _ => ?_) | refine tk11 (fun _ => ?_) | refine tk13 ?_ | refine tk14 ?_); (conv => whnf))
            refine CallK.fn (lower_f x) ?_
            (conv => whnf); repeat ((first | refine tk1 ?_ | refine tk2 ?_ | refine tk3 ?_ | refine tk12 (fun _ => ?_) | refine tk4 ?_ | refine tk5 ?_ | refine tk6 ?_ | refine tk7 ?_ | refine tk8 ?_ | refine tk9 ?_ | refine tk10 (fun _ _ => ?_) | refine tk11 (fun _ => ?_) | refine tk13 ?_ | refine tk14 ?_); (conv => whnf))
            refine CallK.fn (lower_f x) ?_
            (conv => whnf); repeat ((first | refine tk1 ?_ | refine tk2 ?_ | refine tk3 ?_ | refine tk12 (fun _ => ?_) | refine tk4 ?_ | refine tk5 ?_ | refine tk6 ?_ | refine tk7 ?_ | refine tk8 ?_ | refine tk9 ?_ | refine tk10 (fun _ _ => ?_) | refine tk11 (fun _ => ?_) | refine tk13 ?_ | refine tk14 ?_); (conv => whnf))
            refine CallK.fn (lower_f x) ?_
            (conv => whnf); repeat ((first | refine tk1 ?_ | refine tk2 ?_ | refine tk3 ?_ | refine tk12 (fun _ => ?_) | refine tk4 ?_ | refine tk5 ?_ | refine tk6 ?_ | refine tk7 ?_ | refine tk8 ?_ | refine tk9 ?_ | refine tk10 (fun _ _ => ?_) | refine tk11 (fun _ => ?_) | refine tk13 ?_ | refine tk14 ?_); (conv => whnf))
            refine Ar.in8 (by omega) (by omega) ?_
            (conv => whnf); repeat ((first | refine tk1 ?_ | refine tk2 ?_ | refine tk3 ?_ | refine tk12 (fun _ => ?_) | refine tk4 ?_ | refine tk5 ?_ | refine tk6 ?_ | refine tk7 ?_ | refine tk8 ?_ | refine tk9 ?_ | refine tk10 (fun _ _ => ?_) | refine tk11 (fun _ => ?_) | refine tk13 ?_ | refine tk14 ?_); (conv => whnf))
            refine Ar.in8 (by omega) (by omega) ?_
            rw [show lwI x - 97 + 10 = digI x.toNat by omega]
            (conv => whnf); repeat ((first | refine tk1 ?_ | refine tk2 ?_ | refine tk3 ?_ | refine tk12 (fun _ => ?_) | refine tk4 ?_ | refine tk5 ?_ | refine tk6 ?_ | refine tk7 ?_ | refine tk8 ?_ | refine tk9 ?_ | refine tk10 (fun _ _ => ?_) | refine tk11 (fun _ => ?_) | refine tk13 ?_ | refine tk14 ?_); (conv => whnf))
            rw [if_neg (show ¬ digI x.toNat < 0 by omega)] at hI
            have hdr := dig_range x
            refine Ar.in8 (by omega) (by omega) ?_
            (conv => whnf); repeat ((first | refine tk1 ?_ | refine tk2 ?_ | refine tk3 ?_ | refine tk12 (fun _ => ?_) | refine tk4 ?_ | refine tk5 ?_ | refine tk6 ?_ | refine tk7 ?_ | refine tk8 ?_ | refine tk9 ?_ | refine tk10 (fun _ _ => ?_) | refine tk11 (fun _ => ?_) | refine tk13 ?_ | refine tk14 ?_); (conv => whnf))
            refine Cmp.cases (fun c1 => ?_) (fun c1 => ?_)
            · rw [if_pos (show 1152921504606846976 ≤ n by omega)] at hI
              (conv => whnf); repeat ((first | refine tk1 ?_ | refine tk2 ?_ | refine tk3 ?_ | refine tk12 (fun _ => ?_) | refine tk4 ?_ | refine tk5 ?_ | refine tk6 ?_ | refine tk7 ?_ | refine tk8 ?_ | refine tk9 ?_ | refine tk10 (fun _ _ => ?_) | refine tk11 (fun _ => ?_) | refine tk13 ?_ | refine tk14 ?_); (conv => whnf))
              refine OthP.mkI tys_ok rfl rfl ?_
              (conv => whnf); repeat ((first | refine tk1 ?_ | refine tk2 ?_ | refine tk3 ?_ | refine tk12 (fun _ => ?_) | refine tk4 ?_ | refine tk5 ?_ | refine tk6 ?_ | refine tk7 ?_ | refine tk8 ?_ | refine tk9 ?_ | refine tk10 (fun _ _ => ?_) | refine tk11 (fun _ => ?_) | refine tk13 ?_ | refine tk14 ?_); (conv => whnf))
              rw [hpv, hI]; rfl
            · rw [if_neg (show ¬ 1152921504606846976 ≤ n by omega)] at hI
              (conv => whnf); repeat ((first | refine tk1 ?_ | refine tk2 ?_ | refine tk3 ?_ | refine tk12 (fun _ => ?_) | refine tk4 ?_ | refine tk5 ?_ | refine tk6 ?_ | refine tk7 ?_ | refine tk8 ?_ | refine tk9 ?_ | refine tk10 (fun _ _ => ?_) | refine tk11 (fun _ => ?_) | refine tk13 ?_ | refine tk14 ?_); (conv => whnf))
              refine Ar.any ?_
              rw [show IntKind.u64.wrap 16 = 16 from rfl]
              (conv => whnf); repeat ((first | refine tk1 ?_ | refine tk2 ?_ | refine tk3 ?_ | refine tk12 (fun _ => ?_) | refine tk4 ?_ | refine tk5 ?_ | refine tk6 ?_ | refine tk7 ?_ | refine tk8 ?_ | refine tk9 ?_ | refine tk10 (fun _ _ => ?_) | refine tk11 (fun _ => ?_) | refine tk13 ?_ | refine tk14 ?_); (conv => whnf))
              refine Ar.any ?_
              rw [show IntKind.u64.wrap (n * 16) = n * 16 by rw [IntKind.wrap_u64]; omega]
              (conv => whnf); repeat ((first | refine tk1 ?_ | refine tk2 ?_ | refine tk3 ?_ | refine tk12 (fun _ => ?_) | refine tk4 ?_ | refine tk5 ?_ | refine tk6 ?_ | refine tk7 ?_ | refine tk8 ?_ | refine tk9 ?_ | refine tk10 (fun _ _ => ?_) | refine tk11 (fun _ => ?_) | refine tk13 ?_ | refine tk14 ?_); (conv => whnf))
              refine Ar.any ?_
              rw [show IntKind.u64.wrap (digI x.toNat) = digI x.toNat by rw [IntKind.wrap_u64]; omega]
              (conv => whnf); repeat ((first | refine tk1 ?_ | refine tk2 ?_ | refine tk3 ?_ | refine tk12 (fun _ => ?_) | refine tk4 ?_ | refine tk5 ?_ | refine tk6 ?_ | refine tk7 ?_ | refine tk8 ?_ | refine tk9 ?_ | refine tk10 (fun _ _ => ?_) | refine tk11 (fun _ => ?_) | refine tk13 ?_ | refine tk14 ?_); (conv => whnf))
              refine Ar.any ?_
              rw [show IntKind.u64.wrap (n * 16 + digI x.toNat) = n * 16 + digI x.toNat by rw [IntKind.wrap_u64]; omega]
              (conv => whnf); repeat ((first | refine tk1 ?_ | refine tk2 ?_ | refine tk3 ?_ | refine tk12 (fun _ => ?_) | refine tk4 ?_ | refine tk5 ?_ | refine tk6 ?_ | refine tk7 ?_ | refine tk8 ?_ | refine tk9 ?_ | refine tk10 (fun _ _ => ?_) | refine tk11 (fun _ => ?_) | refine tk13 ?_ | refine tk14 ?_); (conv => whnf))
              refine Cmp.cases (fun c2 => ?_) (fun c2 => ?_)
              · rw [if_pos (show mx < n * 16 + digI x.toNat by omega)] at hI
                (conv => whnf); repeat ((first | refine tk1 ?_ | refine tk2 ?_ | refine tk3 ?_ | refine tk12 (fun _ => ?_) | refine tk4 ?_ | refine tk5 ?_ | refine tk6 ?_ | refine tk7 ?_ | refine tk8 ?_ | refine tk9 ?_ | refine tk10 (fun _ _ => ?_) | refine tk11 (fun _ => ?_) | refine tk13 ?_ | refine tk14 ?_); (conv => whnf))
                refine OthP.mkI tys_ok rfl rfl ?_
                (conv => whnf); repeat ((first | refine tk1 ?_ | refine tk2 ?_ | refine tk3 ?_ | refine tk12 (fun _ => ?_) | refine tk4 ?_ | refine tk5 ?_ | refine tk6 ?_ | refine tk7 ?_ | refine tk8 ?_ | refine tk9 ?_ | refine tk10 (fun _ _ => ?_) | refine tk11 (fun _ => ?_) | refine tk13 ?_ | refine tk14 ?_); (conv => whnf))
                rw [hpv, hI]; rfl
              · rw [if_neg (show ¬ mx < n * 16 + digI x.toNat by omega)] at hI
                (conv => whnf); repeat ((first | refine tk1 ?_ | refine tk2 ?_ | refine tk3 ?_ | refine tk12 (fun _ => ?_) | refine tk4 ?_ | refine tk5 ?_ | refine tk6 ?_ | refine tk7 ?_ | refine tk8 ?_ | refine tk9 ?_ | refine tk10 (fun _ _ => ?_) | refine tk11 (fun _ => ?_) | refine tk13 ?_ | refine tk14 ?_); (conv => whnf))
                exact ⟨(k + 1, n * 16 + digI x.toNat), ⟨by dsimp only; omega, by dsimp only; omega, by dsimp only; omega, hI⟩, rfl, (by repeat' (first | exact List.Sublist.refl _ | exact List.nil_sublist _ | apply List.Sublist.cons_cons | apply List.Sublist.cons)), by dsimp only; omega⟩
          · (conv => whnf); repeat ((first | refine tk1 ?_ | refine tk2 ?_ | refine tk3 ?_ | refine tk12 (fun _ => ?_) | refine tk4 ?_ | refine tk5 ?_ | refine tk6 ?_ | refine tk7 ?_ | refine tk8 ?_ | refine tk9 ?_ | refine tk10 (fun _ _ => ?_) | refine tk11 (fun _ => ?_) | refine tk13 ?_ | refine tk14 ?_); (conv => whnf))
            refine CallK.fn (lower_f x) ?_
            (conv => whnf); repeat ((first | refine tk1 ?_ | refine tk2 ?_ | refine tk3 ?_ | refine tk12 (fun _ => ?_) | refine tk4 ?_ | refine tk5 ?_ | refine tk6 ?_ | refine tk7 ?_ | refine tk8 ?_ | refine tk9 ?_ | refine tk10 (fun _ _ => ?_) | refine tk11 (fun _ => ?_) | refine tk13 ?_ | refine tk14 ?_); (conv => whnf))
            refine CallK.fn (lower_f x) ?_
            (conv => whnf); repeat ((first | refine tk1 ?_ | refine tk2 ?_ | refine tk3 ?_ | refine tk12 (fun _ => ?_) | refine tk4 ?_ | refine tk5 ?_ | refine tk6 ?_ | refine tk7 ?_ | refine tk8 ?_ | refine tk9 ?_ | refine tk10 (fun _ _ => ?_) | refine tk11 (fun _ => ?_) | refine tk13 ?_ | refine tk14 ?_); (conv => whnf))
            refine CallK.fn (lower_f x) ?_
            (conv => whnf); repeat ((first | refine tk1 ?_ | refine tk2 ?_ | refine tk3 ?_ | refine tk12 (fun _ => ?_) | refine tk4 ?_ | refine tk5 ?_ | refine tk6 ?_ | refine tk7 ?_ | refine tk8 ?_ | refine tk9 ?_ | refine tk10 (fun _ _ => ?_) | refine tk11 (fun _ => ?_) | refine tk13 ?_ | refine tk14 ?_); (conv => whnf))
            refine Ar.in8 (by omega) (by omega) ?_
            (conv => whnf); repeat ((first | refine tk1 ?_ | refine tk2 ?_ | refine tk3 ?_ | refine tk12 (fun _ => ?_) | refine tk4 ?_ | refine tk5 ?_ | refine tk6 ?_ | refine tk7 ?_ | refine tk8 ?_ | refine tk9 ?_ | refine tk10 (fun _ _ => ?_) | refine tk11 (fun _ => ?_) | refine tk13 ?_ | refine tk14 ?_); (conv => whnf))
            refine Ar.in8 (by omega) (by omega) ?_
            rw [show lwI x - 97 + 10 = digI x.toNat by omega]
            (conv => whnf); repeat ((first | refine tk1 ?_ | refine tk2 ?_ | refine tk3 ?_ | refine tk12 (fun _ => ?_) | refine tk4 ?_ | refine tk5 ?_ | refine tk6 ?_ | refine tk7 ?_ | refine tk8 ?_ | refine tk9 ?_ | refine tk10 (fun _ _ => ?_) | refine tk11 (fun _ => ?_) | refine tk13 ?_ | refine tk14 ?_); (conv => whnf))
            rw [if_neg (show ¬ digI x.toNat < 0 by omega)] at hI
            have hdr := dig_range x
            refine Ar.in8 (by omega) (by omega) ?_
            (conv => whnf); repeat ((first | refine tk1 ?_ | refine tk2 ?_ | refine tk3 ?_ | refine tk12 (fun _ => ?_) | refine tk4 ?_ | refine tk5 ?_ | refine tk6 ?_ | refine tk7 ?_ | refine tk8 ?_ | refine tk9 ?_ | refine tk10 (fun _ _ => ?_) | refine tk11 (fun _ => ?_) | refine tk13 ?_ | refine tk14 ?_); (conv => whnf))
            refine Cmp.cases (fun c1 => ?_) (fun c1 => ?_)
            · rw [if_pos (show 1152921504606846976 ≤ n by omega)] at hI
              (conv => whnf); repeat ((first | refine tk1 ?_ | refine tk2 ?_ | refine tk3 ?_ | refine tk12 (fun _ => ?_) | refine tk4 ?_ | refine tk5 ?_ | refine tk6 ?_ | refine tk7 ?_ | refine tk8 ?_ | refine tk9 ?_ | refine tk10 (fun _ _ => ?_) | refine tk11 (fun _ => ?_) | refine tk13 ?_ | refine tk14 ?_); (conv => whnf))
              refine OthP.mkI tys_ok rfl rfl ?_
              (conv => whnf); repeat ((first | refine tk1 ?_ | refine tk2 ?_ | refine tk3 ?_ | refine tk12 (fun _ => ?_) | refine tk4 ?_ | refine tk5 ?_ | refine tk6 ?_ | refine tk7 ?_ | refine tk8 ?_ | refine tk9 ?_ | refine tk10 (fun _ _ => ?_) | refine tk11 (fun _ => ?_) | refine tk13 ?_ | refine tk14 ?_); (conv => whnf))
              rw [hpv, hI]; rfl
            · rw [if_neg (show ¬ 1152921504606846976 ≤ n by omega)] at hI
              (conv => whnf); repeat ((first | refine tk1 ?_ | refine tk2 ?_ | refine tk3 ?_ | refine tk12 (fun _ => ?_) | refine tk4 ?_ | refine tk5 ?_ | refine tk6 ?_ | refine tk7 ?_ | refine tk8 ?_ | refine tk9 ?_ | refine tk10 (fun _ _ => ?_) | refine tk11 (fun _ => ?_) | refine tk13 ?_ | refine tk14 ?_); (conv => whnf))
              refine Ar.any ?_
              rw [show IntKind.u64.wrap 16 = 16 from rfl]
              (conv => whnf); repeat ((first | refine tk1 ?_ | refine tk2 ?_ | refine tk3 ?_ | refine tk12 (fun _ => ?_) | refine tk4 ?_ | refine tk5 ?_ | refine tk6 ?_ | refine tk7 ?_ | refine tk8 ?_ | refine tk9 ?_ | refine tk10 (fun _ _ => ?_) | refine tk11 (fun _ => ?_) | refine tk13 ?_ | refine tk14 ?_); (conv => whnf))
              refine Ar.any ?_
              rw [show IntKind.u64.wrap (n * 16) = n * 16 by rw [IntKind.wrap_u64]; omega]
              (conv => whnf); repeat ((first | refine tk1 ?_ | refine tk2 ?_ | refine tk3 ?_ | refine tk12 (fun _ => ?_) | refine tk4 ?_ | refine tk5 ?_ | refine tk6 ?_ | refine tk7 ?_ | refine tk8 ?_ | refine tk9 ?_ | refine tk10 (fun _ _ => ?_) | refine tk11 (fun _ => ?_) | refine tk13 ?_ | refine tk14 ?_); (conv => whnf))
              refine Ar.any ?_
              rw [show IntKind.u64.wrap (digI x.toNat) = digI x.toNat by rw [IntKind.wrap_u64]; omega]
              (conv => whnf); repeat ((first | refine tk1 ?_ | refine tk2 ?_ | refine tk3 ?_ | refine tk12 (fun _ => ?_) | refine tk4 ?_ | refine tk5 ?_ | refine tk6 ?_ | refine tk7 ?_ | refine tk8 ?_ | refine tk9 ?_ | refine tk10 (fun _ _ => ?_) | refine tk11 (fun _ => ?_) | refine tk13 ?_ | refine tk14 ?_); (conv => whnf))
              refine Ar.any ?_
              rw [show IntKind.u64.wrap (n * 16 + digI x.toNat) = n * 16 + digI x.toNat by rw [IntKind.wrap_u64]; omega]
              (conv => whnf); repeat ((first | refine tk1 ?_ | refine tk2 ?_ | refine tk3 ?_ | refine tk12 (fun _ => ?_) | refine tk4 ?_ | refine tk5 ?_ | refine tk6 ?_ | refine tk7 ?_ | refine tk8 ?_ | refine tk9 ?_ | refine tk10 (fun _ _ => ?_) | refine tk11 (fun _ => ?_) | refine tk13 ?_ | refine tk14 ?_); (conv => whnf))
              refine Cmp.cases (fun c2 => ?_) (fun c2 => ?_)
              · rw [if_pos (show mx < n * 16 + digI x.toNat by omega)] at hI
                (conv => whnf); repeat ((first | refine tk1 ?_ | refine tk2 ?_ | refine tk3 ?_ | refine tk12 (fun _ => ?_) | refine tk4 ?_ | refine tk5 ?_ | refine tk6 ?_ | refine tk7 ?_ | refine tk8 ?_ | refine tk9 ?_ | refine tk10 (fun _ _ => ?_) | refine tk11 (fun _ => ?_) | refine tk13 ?_ | refine tk14 ?_); (conv => whnf))
                refine OthP.mkI tys_ok rfl rfl ?_
                (conv => whnf); repeat ((first | refine tk1 ?_ | refine tk2 ?_ | refine tk3 ?_ | refine tk12 (fun _ => ?_) | refine tk4 ?_ | refine tk5 ?_ | refine tk6 ?_ | refine tk7 ?_ | refine tk8 ?_ | refine tk9 ?_ | refine tk10 (fun _ _ => ?_) | refine tk11 (fun _ => ?_) | refine tk13 ?_ | refine tk14 ?_); (conv => whnf))
                rw [hpv, hI]; rfl
              · rw [if_neg (show ¬ mx < n * 16 + digI x.toNat by omega)] at hI
                (conv => whnf); repeat ((first | refine tk1 ?_ | refine tk2 ?_ | refine tk3 ?_ | refine tk12 (fun _ => ?_) | refine tk4 ?_ | refine tk5 ?_ | refine tk6 ?_ | refine tk7 ?_ | refine tk8 ?_ | refine tk9 ?_ | refine tk10 (fun _ _ => ?_) | refine tk11 (fun _ => ?_) | refine tk13 ?_ | refine tk14 ?_); (conv => whnf))
                exact ⟨(k + 1, n * 16 + digI x.toNat), ⟨by dsimp only; omega, by dsimp only; omega, by dsimp only; omega, hI⟩, rfl, (by repeat' (first | exact List.Sublist.refl _ | exact List.nil_sublist _ | apply List.Sublist.cons_cons | apply List.Sublist.cons)), by dsimp only; omega⟩
        · have hbad := bad g4
          (conv => whnf); repeat ((first | refine tk1 ?_ | refine tk2 ?_ | refine tk3 ?_ | refine tk12 (fun _ => ?_) | refine tk4 ?_ | refine tk5 ?_ | refine tk6 ?_ | refine tk7 ?_ | refine tk8 ?_ | refine tk9 ?_ | refine tk10 (fun _ _ => ?_) | refine tk11 (fun _ => ?_) | refine tk13 ?_ | refine tk14 ?_); (conv => whnf))
          refine Cmp.cases (fun q1 => ?_) (fun q1 => ?_)
          · (conv => whnf); repeat ((first | refine tk1 ?_ | refine tk2 ?_ | refine tk3 ?_ | refine tk12 (fun _ => ?_) | refine tk4 ?_ | refine tk5 ?_ | refine tk6 ?_ | refine tk7 ?_ | refine tk8 ?_ | refine tk9 ?_ | refine tk10 (fun _ _ => ?_) | refine tk11 (fun _ => ?_) | refine tk13 ?_ | refine tk14 ?_); (conv => whnf))
            refine CallK.fn (lower_f x) ?_
            (conv => whnf); repeat ((first | refine tk1 ?_ | refine tk2 ?_ | refine tk3 ?_ | refine tk12 (fun _ => ?_) | refine tk4 ?_ | refine tk5 ?_ | refine tk6 ?_ | refine tk7 ?_ | refine tk8 ?_ | refine tk9 ?_ | refine tk10 (fun _ _ => ?_) | refine tk11 (fun _ => ?_) | refine tk13 ?_ | refine tk14 ?_); (conv => whnf))
            refine CallK.fn (lower_f x) ?_
            (conv => whnf); repeat ((first | refine tk1 ?_ | refine tk2 ?_ | refine tk3 ?_ | refine tk12 (fun _ => ?_) | refine tk4 ?_ | refine tk5 ?_ | refine tk6 ?_ | refine tk7 ?_ | refine tk8 ?_ | refine tk9 ?_ | refine tk10 (fun _ _ => ?_) | refine tk11 (fun _ => ?_) | refine tk13 ?_ | refine tk14 ?_); (conv => whnf))
            refine CallK.fn (lower_f x) ?_
            (conv => whnf); repeat ((first | refine tk1 ?_ | refine tk2 ?_ | refine tk3 ?_ | refine tk12 (fun _ => ?_) | refine tk4 ?_ | refine tk5 ?_ | refine tk6 ?_ | refine tk7 ?_ | refine tk8 ?_ | refine tk9 ?_ | refine tk10 (fun _ _ => ?_) | refine tk11 (fun _ => ?_) | refine tk13 ?_ | refine tk14 ?_); (conv => whnf))
            refine Ar.in8 (by omega) (by omega) ?_
            (conv => whnf); repeat ((first | refine tk1 ?_ | refine tk2 ?_ | refine tk3 ?_ | refine tk12 (fun _ => ?_) | refine tk4 ?_ | refine tk5 ?_ | refine tk6 ?_ | refine tk7 ?_ | refine tk8 ?_ | refine tk9 ?_ | refine tk10 (fun _ _ => ?_) | refine tk11 (fun _ => ?_) | refine tk13 ?_ | refine tk14 ?_); (conv => whnf))
            refine Ar.in8 (by omega) (by omega) ?_
            (conv => whnf); repeat ((first | refine tk1 ?_ | refine tk2 ?_ | refine tk3 ?_ | refine tk12 (fun _ => ?_) | refine tk4 ?_ | refine tk5 ?_ | refine tk6 ?_ | refine tk7 ?_ | refine tk8 ?_ | refine tk9 ?_ | refine tk10 (fun _ _ => ?_) | refine tk11 (fun _ => ?_) | refine tk13 ?_ | refine tk14 ?_); (conv => whnf))
            refine Ar.in8 (by omega) (by omega) ?_
            (conv => whnf); repeat ((first | refine tk1 ?_ | refine tk2 ?_ | refine tk3 ?_ | refine tk12 (fun _ => ?_) | refine tk4 ?_ | refine tk5 ?_ | refine tk6 ?_ | refine tk7 ?_ | refine tk8 ?_ | refine tk9 ?_ | refine tk10 (fun _ _ => ?_) | refine tk11 (fun _ => ?_) | refine tk13 ?_ | refine tk14 ?_); (conv => whnf))
            refine OthP.mkI tys_ok rfl rfl ?_
            (conv => whnf); repeat ((first | refine tk1 ?_ | refine tk2 ?_ | refine tk3 ?_ | refine tk12 (fun _ => ?_) | refine tk4 ?_ | refine tk5 ?_ | refine tk6 ?_ | refine tk7 ?_ | refine tk8 ?_ | refine tk9 ?_ | refine tk10 (fun _ _ => ?_) | refine tk11 (fun _ => ?_) | refine tk13 ?_ | refine tk14 ?_); (conv => whnf))
            rw [hbad]; rfl
          · (conv => whnf); repeat ((first | refine tk1 ?_ | refine tk2 ?_ | refine tk3 ?_ | refine tk12 (fun _ => ?_) | refine tk4 ?_ | refine tk5 ?_ | refine tk6 ?_ | refine tk7 ?_ | refine tk8 ?_ | refine tk9 ?_ | refine tk10 (fun _ _ => ?_) | refine tk11 (fun _ => ?_) | refine tk13 ?_ | refine tk14 ?_); (conv => whnf))
            refine CallK.fn (lower_f x) ?_
            (conv => whnf); repeat ((first | refine tk1 ?_ | refine tk2 ?_ | refine tk3 ?_ | refine tk12 (fun _ => ?_) | refine tk4 ?_ | refine tk5 ?_ | refine tk6 ?_ | refine tk7 ?_ | refine tk8 ?_ | refine tk9 ?_ | refine tk10 (fun _ _ => ?_) | refine tk11 (fun _ => ?_) | refine tk13 ?_ | refine tk14 ?_); (conv => whnf))
            refine CallK.fn (lower_f x) ?_
            (conv => whnf); repeat ((first | refine tk1 ?_ | refine tk2 ?_ | refine tk3 ?_ | refine tk12 (fun _ => ?_) | refine tk4 ?_ | refine tk5 ?_ | refine tk6 ?_ | refine tk7 ?_ | refine tk8 ?_ | refine tk9 ?_ | refine tk10 (fun _ _ => ?_) | refine tk11 (fun _ => ?_) | refine tk13 ?_ | refine tk14 ?_); (conv => whnf))
            refine CallK.fn (lower_f x) ?_
            (conv => whnf); repeat ((first | refine tk1 ?_ | refine tk2 ?_ | refine tk3 ?_ | refine tk12 (fun _ => ?_) | refine tk4 ?_ | refine tk5 ?_ | refine tk6 ?_ | refine tk7 ?_ | refine tk8 ?_ | refine tk9 ?_ | refine tk10 (fun _ _ => ?_) | refine tk11 (fun _ => ?_) | refine tk13 ?_ | refine tk14 ?_); (conv => whnf))
            refine Ar.in8 (by omega) (by omega) ?_
            (conv => whnf); repeat ((first | refine tk1 ?_ | refine tk2 ?_ | refine tk3 ?_ | refine tk12 (fun _ => ?_) | refine tk4 ?_ | refine tk5 ?_ | refine tk6 ?_ | refine tk7 ?_ | refine tk8 ?_ | refine tk9 ?_ | refine tk10 (fun _ _ => ?_) | refine tk11 (fun _ => ?_) | refine tk13 ?_ | refine tk14 ?_); (conv => whnf))
            refine Ar.in8 (by omega) (by omega) ?_
            (conv => whnf); repeat ((first | refine tk1 ?_ | refine tk2 ?_ | refine tk3 ?_ | refine tk12 (fun _ => ?_) | refine tk4 ?_ | refine tk5 ?_ | refine tk6 ?_ | refine tk7 ?_ | refine tk8 ?_ | refine tk9 ?_ | refine tk10 (fun _ _ => ?_) | refine tk11 (fun _ => ?_) | refine tk13 ?_ | refine tk14 ?_); (conv => whnf))
            refine Ar.in8 (by omega) (by omega) ?_
            (conv => whnf); repeat ((first | refine tk1 ?_ | refine tk2 ?_ | refine tk3 ?_ | refine tk12 (fun _ => ?_) | refine tk4 ?_ | refine tk5 ?_ | refine tk6 ?_ | refine tk7 ?_ | refine tk8 ?_ | refine tk9 ?_ | refine tk10 (fun _ _ => ?_) | refine tk11 (fun _ => ?_) | refine tk13 ?_ | refine tk14 ?_); (conv => whnf))
            refine OthP.mkI tys_ok rfl rfl ?_
            (conv => whnf); repeat ((first | refine tk1 ?_ | refine tk2 ?_ | refine tk3 ?_ | refine tk12 (fun _ => ?_) | refine tk4 ?_ | refine tk5 ?_ | refine tk6 ?_ | refine tk7 ?_ | refine tk8 ?_ | refine tk9 ?_ | refine tk10 (fun _ _ => ?_) | refine tk11 (fun _ => ?_) | refine tk13 ?_ | refine tk14 ?_); (conv => whnf))
            rw [hbad]; rfl
        · have hbad := bad g3
          (repeat' ((conv => whnf); first | (first | refine tk1 ?_ | refine tk2 ?_ | refine tk3 ?_ | refine tk12 (fun _ => ?_) | refine tk4 ?_ | refine tk5 ?_ | refine tk6 ?_ | refine tk7 ?_ | refine tk8 ?_ | refine tk9 ?_ | refine tk10 (fun _ _ => ?_) | refine tk11 (fun _ => ?_) | refine tk13 ?_ | refine tk14 ?_) | refine Cmp.cases (fun _ => ?_) (fun _ => ?_) | refine IdxS.nat (by omega) ?_ | refine IdxS.go (by omega) (by omega) (fun _ _ _ => ?_) | refine SlcS.at (by omega) (by omega) (by omega) ?_ | refine CatS.at (by simp only [List.length_append, List.length_cons, List.length_nil]; omega) ?_ | refine CallK.fn (lower_f x) ?_ | refine OthP.mkI tys_ok rfl rfl ?_)); all_goals (conv => whnf)
          all_goals (rw [hbad]; rfl)
    · (conv => whnf); repeat ((first | refine tk1 ?_ | refine tk2 ?_ | refine tk3 ?_ | refine tk12 (fun _ => ?_) | refine tk4 ?_ | refine tk5 ?_ | refine tk6 ?_ | refine tk7 ?_ | refine tk8 ?_ | refine tk9 ?_ | refine tk10 (fun _ _ => ?_) | refine tk11 (fun _ => ?_) | refine tk13 ?_ | refine tk14 ?_); (conv => whnf))
      rw [hpv, hI, List.drop_eq_nil_of_le (by omega)]; rfl
end Go.Proofs.YtmdmmncoigeijaaGreatDoor.Vex
/- The law VaryAll, over byte lists: what is put together names all that was named; a second time it changes nothing. No program in sight. -/
namespace Go.Proofs.YtmdmmncoigeijaaGreatDoor

theorem tok_byte (x : UInt8) (h : tokB x = true) : x ≠ 44 ∧ blankB x = false := by
  have : ∀ n : Fin 256, tokB n.val.toUInt8 = true → n.val.toUInt8 ≠ 44 ∧ blankB n.val.toUInt8 = false := by decide +kernel
  have h2 := this ⟨x.toNat, x.toNat_lt⟩
  simp at h2
  exact h2 h
theorem trimLB_no (l : List UInt8) (h : ∀ x ∈ l, blankB x = false) : trimLB l = l := by
  cases l with
  | nil => rfl
  | cons x r => exact trimLB_other _ _ (h x (List.mem_cons_self ..))
theorem trimRB_no (l : List UInt8) (h : ∀ x ∈ l, blankB x = false) : trimRB l = l := by
  rcases List.eq_nil_or_concat l with rfl | ⟨m, y, rfl⟩
  · rfl
  · rw [List.concat_eq_append] at h ⊢
    exact trimRB_other _ _ (h y (by simp))
theorem tok_parts {s : List UInt8} (h : tokenOf s = true) : s ≠ [] ∧ 44 ∉ s ∧ trimB s = s := by
  have ha := token_all h
  rw [List.all_eq_true] at ha
  refine ⟨fun e => by subst e; simp [tokenOf] at h, fun hm => (tok_byte _ (ha _ hm)).1 rfl, ?_⟩
  rw [trimB_eq, trimLB_no s fun x hx => (tok_byte x (ha x hx)).2, trimRB_no s fun x hx => (tok_byte x (ha x hx)).2]
theorem items_tok {s : List UInt8} (h : tokenOf s = true) : itemsOf s = [s] := by
  obtain ⟨h1, h2, h3⟩ := tok_parts h
  rw [items_none s h2]
  unfold itemOf
  rw [h3, if_neg h1]
theorem items_blank (x : UInt8) (m : List UInt8) (hx : blankB x = true) : itemsOf (x :: m) = itemsOf m := by
  have h44 : x ≠ 44 := fun e => by subst e; revert hx; decide
  unfold itemsOf
  simp only [splitB, if_neg h44]
  cases h : splitB 44 m with
  | nil => exact absurd h (splitB_ne 44 m)
  | cons p q => simp only [List.map_cons, trimB_front x p hx]
theorem items_out : ∀ out : List (List UInt8), (∀ x ∈ out, tokenOf x = true) → itemsOf (Lib.join out [44, 32]) = out
  | [], _ => by decide
  | [x], h => by rw [Lib.join_one]; exact items_tok (h x (List.mem_cons_self ..))
  | x :: y :: r, h => by
    rw [join_cons, show x ++ [44, 32] ++ Lib.join (y :: r) [44, 32] = x ++ 44 :: (32 :: Lib.join (y :: r) [44, 32]) by simp, items_join, items_tok (h x (List.mem_cons_self ..)), items_blank 32 _ (by decide), items_out (y :: r) fun z hz => h z (List.mem_cons_of_mem _ hz)]
    rfl
def nodS (l : List (List UInt8)) : Prop := l.Pairwise fun a b => smallOf a ≠ smallOf b
theorem inS_false {l : List (List UInt8)} {s : List UInt8} (h : inS l s = false) : ∀ x ∈ l, smallOf x ≠ smallOf s := by
  unfold inS at h
  rw [List.any_eq_false] at h
  exact fun x hx e => h x hx (by simp [e])
theorem inS_true {l : List (List UInt8)} {s : List UInt8} : inS l s = true ↔ ∃ x ∈ l, smallOf x = smallOf s := by
  unfold inS
  rw [List.any_eq_true]
  simp
theorem dedup_nod : ∀ (l out : List (List UInt8)), nodS out → nodS (dedup out l)
  | [], _, h => h
  | s :: r, out, h => by
    unfold dedup
    refine dedup_nod r _ ?_
    cases hs : inS out s with
    | true => exact h
    | false => exact List.pairwise_append.2 ⟨h, List.pairwise_singleton _ _, fun a ha b hb => by rw [List.mem_singleton] at hb; subst hb; exact inS_false hs a ha⟩
theorem dedup_same : ∀ (l out : List (List UInt8)), nodS (out ++ l) → dedup out l = out ++ l
  | [], out, _ => by simp [dedup]
  | s :: r, out, h => by
    have hs : inS out s = false := by
      cases hi : inS out s with
      | false => rfl
      | true =>
        obtain ⟨x, hx, he⟩ := inS_true.1 hi
        exact absurd he ((List.pairwise_append.1 h).2.2 x hx s (List.mem_cons_self ..))
    unfold dedup
    rw [hs, if_neg Bool.false_ne_true, dedup_same r (out ++ [s]) (by simpa using h)]
    simp
theorem dedup_append : ∀ (a b out : List (List UInt8)), dedup out (a ++ b) = dedup (dedup out a) b
  | [], _, _ => rfl
  | s :: a, b, out => by simp only [List.cons_append, dedup]; exact dedup_append a b _
theorem mergeO_tok {values : List (List UInt8)} {name : List UInt8} (h : mergeOK values name = true) : ∀ x ∈ mergeO values name, tokenOf x = true := fun x hx => by
  unfold mergeOK at h
  rw [List.all_eq_true] at h
  exact h x ((dedup_mem _ _ x hx).elim (fun h => by cases h) id)
theorem inS_mergeO (values : List (List UInt8)) (name s : List UInt8) : inS (mergeO values name) s = inS (allV values name) s := by
  unfold mergeO
  rw [inS_dedup]
  simp [inS]
theorem inS_name (values : List (List UInt8)) (name : List UInt8) : inS (allV values name) name = true := by
  rw [inS_true]
  exact ⟨name, by simp [allV], rfl⟩
theorem mergeO_nil (values : List (List UInt8)) (name : List UInt8) : mergeO values name ≠ [] := fun h => by
  have := inS_mergeO values name name
  rw [inS_name, h] at this
  cases this
/-- What is put together is the item * just where one of all is it. -/
theorem merge_star {values : List (List UInt8)} {name : List UInt8} (h : mergeOK values name = true) : mergeS values name = [42] ↔ inS (mergeO values name) [42] = true := by
  unfold mergeS
  rw [if_pos h]
  constructor
  · intro he
    cases hs : inS (mergeO values name) [42] with
    | true => rfl
    | false =>
      exfalso
      rw [hs, if_neg Bool.false_ne_true] at he
      have h1 := items_out _ (mergeO_tok h)
      rw [he] at h1
      rw [← h1] at hs
      revert hs
      decide
  · intro hs
    rw [hs, if_pos rfl]
theorem merge_items {values : List (List UInt8)} {name : List UInt8} (h : mergeOK values name = true) : itemsOf (mergeS values name) = if inS (mergeO values name) [42] then [[42]] else mergeO values name := by
  unfold mergeS
  rw [if_pos h]
  split
  · decide
  · exact items_out _ (mergeO_tok h)
theorem merge_again {values : List (List UInt8)} {name : List UInt8} (h : mergeOK values name = true) : mergeOK [mergeS values name] name = true ∧ mergeS [mergeS values name] name = mergeS values name := by
  have hn : tokenOf name = true := by
    unfold mergeOK allV at h
    rw [List.all_append] at h
    simp at h
    exact h.2
  have hi := merge_items h
  have hall : allV [mergeS values name] name = itemsOf (mergeS values name) ++ [name] := by simp [allV]
  have hok : mergeOK [mergeS values name] name = true := by
    unfold mergeOK
    rw [hall, hi, List.all_append]
    split
    · simp [hn]; decide
    · rw [List.all_eq_true.2 (mergeO_tok h)]; simp [hn]
  refine ⟨hok, ?_⟩
  cases hs : inS (mergeO values name) [42] with
  | true =>
    rw [(merge_star h).2 hs]
    have : inS (mergeO [[42]] name) [42] = true := by
      rw [inS_mergeO]
      unfold allV
      rw [inS_append]
      have : inS ([[42]].flatMap itemsOf) [42] = true := by decide
      rw [this]; rfl
    have hok2 : mergeOK [[42]] name = true := by rw [(merge_star h).2 hs] at hok; exact hok
    exact (merge_star hok2).2 this
  | false =>
    have ho : mergeO [mergeS values name] name = mergeO values name := by
      have hnod : nodS (mergeO values name) := dedup_nod _ _ List.Pairwise.nil
      show dedup [] (allV [mergeS values name] name) = _
      rw [hall, hi, hs, if_neg Bool.false_ne_true, dedup_append, dedup_same _ [] (by simpa using hnod)]
      have hin : inS (mergeO values name) name = true := by rw [inS_mergeO, inS_name]
      simp only [List.nil_append, dedup, hin, if_true]
    have hse : mergeS values name = Lib.join (mergeO values name) [44, 32] := by unfold mergeS; rw [if_pos h, hs, if_neg Bool.false_ne_true]
    rw [hse] at hok ho ⊢
    unfold mergeS
    rw [if_pos hok, ho, hs, if_neg Bool.false_ne_true]
theorem merge_names {values : List (List UInt8)} {name : List UInt8} (h : mergeOK values name = true) (s : List UInt8) : namesOf (mergeS values name) s = (inS (mergeO values name) [42] || inS (mergeO values name) s) := by
  rw [names_in, merge_items h]
  cases hs : inS (mergeO values name) [42] with
  | true =>
    have : inS [[42]] [42] = true := by decide
    simp [this]
  | false => simp [hs]
theorem inS_flat (s : List UInt8) : ∀ values : List (List UInt8), inS (values.flatMap itemsOf) s = values.any fun v => inS (itemsOf v) s
  | [] => rfl
  | v :: r => by rw [List.flatMap_cons, inS_append, inS_flat s r, List.any_cons]
/-- What is named behind: what was named, or the name, or all. -/
theorem merge_was {values : List (List UInt8)} {name : List UInt8} (h : mergeOK values name = true) (s : List UInt8) :
    namesOf (mergeS values name) s = ((smallOf s == smallOf name || values.any fun v => namesOf v s) || decide (mergeS values name = [42])) := by
  rw [merge_names h]
  cases hs : inS (mergeO values name) [42] with
  | true => rw [decide_eq_true ((merge_star h).2 hs)]; simp
  | false =>
    rw [decide_eq_false (fun e => by rw [(merge_star h).1 e] at hs; cases hs)]
    have hno : ∀ v ∈ values, inS (itemsOf v) [42] = false := fun v hv => by
      rw [inS_mergeO] at hs
      unfold allV at hs
      rw [inS_append, inS_flat, Bool.or_eq_false_iff, List.any_eq_false] at hs
      simpa using hs.1 v hv
    have hv : (values.any fun v => namesOf v s) = values.any fun v => inS (itemsOf v) s := by
      rw [Bool.eq_iff_iff, List.any_eq_true, List.any_eq_true]
      constructor
      · rintro ⟨v, hv, h1⟩
        rw [names_in, hno v hv] at h1
        exact ⟨v, hv, h1⟩
      · rintro ⟨v, hv, h1⟩
        exact ⟨v, hv, by rw [names_in, h1]; simp⟩
    rw [hv, inS_mergeO]
    unfold allV
    rw [inS_append, inS_flat]
    have : inS [name] s = (smallOf s == smallOf name) := by simp [inS, Bool.beq_comm]
    rw [this, Bool.false_or, Bool.or_false, Bool.or_comm]
/-! ## How long -/
theorem dedup_sum : ∀ (l out : List (List UInt8)), lsum (dedup out l) ≤ lsum out + lsum l
  | [], out => by simp [dedup]
  | s :: r, out => by
    unfold dedup
    rw [lsum_cons]
    cases inS out s with
    | true => have := dedup_sum r out; simp only [if_true]; omega
    | false =>
      have := dedup_sum r (out ++ [s])
      rw [lsum_append] at this
      have h1 : lsum [s] = s.length + 1 := rfl
      simp only [Bool.false_eq_true, if_false]
      omega
theorem join2_length : ∀ l : List (List UInt8), (Lib.join l [44, 32]).length ≤ 2 * lsum l := fun l => by
  refine Nat.le_trans (join_length l [44, 32]) ?_
  induction l with
  | nil => simp
  | cons x r ih => rw [lsum_cons]; simp only [List.map_cons, List.sum_cons, List.length_cons, List.length_nil] at ih ⊢; omega
theorem allV_sum (values : List (List UInt8)) (name : List UInt8) : lsum (allV values name) ≤ (Lib.join values [44]).length + 1 + name.length + 1 := by
  unfold allV
  rw [lsum_append, ← items_of_join]
  have := items_sum (Lib.join values [44])
  have h1 : lsum [name] = name.length + 1 := rfl
  omega
theorem mergeS_length (values : List (List UInt8)) (name : List UInt8) : (mergeS values name).length ≤ 2 * ((Lib.join values [44]).length + name.length + 2) := by
  have h1 := allV_sum values name
  have h2 := dedup_sum (allV values name) []
  have h3 := join2_length (mergeO values name)
  have h4 : lsum [] = 0 := rfl
  unfold mergeO at h3
  unfold mergeS
  split
  · split
    · simp; omega
    · unfold mergeO; omega
  · simp
theorem join_snoc : ∀ (l : List (List UInt8)) (x sep : List UInt8), l ≠ [] → Lib.join (l ++ [x]) sep = Lib.join l sep ++ sep ++ x
  | [], _, _, h => absurd rfl h
  | [y], x, sep, _ => by rw [List.singleton_append, join_cons, Lib.join_one, Lib.join_one]
  | y :: z :: r, x, sep, _ => by
    rw [List.cons_append, List.cons_append, join_cons, ← List.cons_append, join_snoc (z :: r) x sep (by simp), join_cons]
    simp
end Go.Proofs.YtmdmmncoigeijaaGreatDoor
/- The laws of the first line, over byte lists. No program in sight. -/
namespace Go.Proofs.YtmdmmncoigeijaaGreatDoor

theorem made_x (marks : List UInt8) (h37 : marks.contains 37 = false) (x : UInt8) (r : List UInt8) (h : madeOf marks (x :: r) = true) :
    (x ≠ 37 ∧ plainB marks x = true ∧ madeOf marks r = true) ∨ ∃ a b t, x = 37 ∧ r = a :: b :: t ∧ hexB a = true ∧ hexB b = true ∧ madeOf marks t = true := by
  by_cases hx : x = 37
  · subst hx
    rw [made_37 marks h37] at h
    match r with
    | [] => cases h
    | [_] => cases h
    | a :: b :: t => simp only [Bool.and_eq_true] at h; exact .inr ⟨a, b, t, rfl, rfl, h.1.1, h.1.2, h.2⟩
  · rw [made_cons marks x r hx, Bool.and_eq_true] at h
    exact .inl ⟨hx, h.1, h.2⟩
theorem made_app (marks : List UInt8) (h37 : marks.contains 37 = false) : ∀ (n : Nat) (a b : List UInt8), a.length ≤ n → madeOf marks a = true → madeOf marks (a ++ b) = madeOf marks b
  | _, [], _, _, _ => rfl
  | 0, x :: r, _, hl, _ => by simp at hl
  | n + 1, x :: r, b, hl, h => by
    rcases made_x marks h37 x r h with ⟨hx, h1, h2⟩ | ⟨p, q, t, rfl, rfl, h1, h2, h3⟩
    · rw [List.cons_append, made_cons marks x _ hx, h1, made_app marks h37 n r b (by simpa using hl) h2]; rfl
    · rw [List.cons_append, List.cons_append, List.cons_append, made_37 marks h37]
      dsimp only
      rw [made_app marks h37 n t b (by simp at hl; omega) h3]
      simp [h1, h2]
theorem made_sub {m1 m2 : List UInt8} (h1 : m1.contains 37 = false) (h2 : m2.contains 37 = false) (hs : ∀ x, plainB m1 x = true → plainB m2 x = true) : ∀ (n : Nat) (a : List UInt8), a.length ≤ n → madeOf m1 a = true → madeOf m2 a = true
  | _, [], _, _ => rfl
  | 0, x :: r, hl, _ => by simp at hl
  | n + 1, x :: r, hl, h => by
    rcases made_x m1 h1 x r h with ⟨hx, h3, h4⟩ | ⟨p, q, t, rfl, rfl, h3, h4, h5⟩
    · rw [made_cons m2 x _ hx, hs x h3, made_sub h1 h2 hs n r (by simpa using hl) h4]; rfl
    · rw [made_37 m2 h2]
      dsimp only
      rw [made_sub h1 h2 hs n t (by simp at hl; omega) h5]
      simp [h3, h4]
/-- A byte that is neither plain, nor a digit, nor the sign of a quoted one, does not stand there. -/
theorem made_no {marks : List UInt8} (h37 : marks.contains 37 = false) {c : UInt8} (hc : plainB marks c = false) (hh : hexB c = false) (hc3 : c ≠ 37) : ∀ (n : Nat) (a : List UInt8), a.length ≤ n → madeOf marks a = true → c ∉ a
  | _, [], _, _ => by simp
  | 0, x :: r, hl, _ => by simp at hl
  | n + 1, x :: r, hl, h => by
    rcases made_x marks h37 x r h with ⟨hx, h3, h4⟩ | ⟨p, q, t, rfl, rfl, h3, h4, h5⟩
    · have ih := made_no h37 hc hh hc3 n r (by simpa using hl) h4
      intro hm
      rcases List.mem_cons.1 hm with e | e
      · rw [← e, hc] at h3; cases h3
      · exact ih e
    · have ih := made_no h37 hc hh hc3 n t (by simp at hl; omega) h5
      intro hm
      simp only [List.mem_cons] at hm
      rcases hm with e | e | e | e
      · exact hc3 e
      · rw [← e, hh] at h3; cases h3
      · rw [← e, hh] at h4; cases h4
      · exact ih e
theorem path_37 : pathL.contains 37 = false := by decide
theorem query_37 : queryL.contains 37 = false := by decide
theorem path_query {s : List UInt8} (h : pathOf s = true) : queryOf s = true := by
  unfold pathOf at h
  rw [Bool.and_eq_true] at h
  refine made_sub path_37 query_37 (fun x hx => ?_) s.length s (Nat.le_refl _) h.2
  unfold plainB at hx ⊢
  unfold queryL
  simp only [Bool.or_eq_true, List.contains_iff_mem, List.mem_append] at hx ⊢
  rcases hx with (h | h) | h
  · exact .inl (.inl h)
  · exact .inl (.inr h)
  · exact .inr (.inl h)
theorem query_app {a b : List UInt8} (ha : queryOf a = true) (hb : queryOf b = true) : queryOf (a ++ b) = true := by
  unfold queryOf
  rw [made_app _ query_37 a.length a b (Nat.le_refl _) ha]
  exact hb
theorem path_app {a b : List UInt8} (ha : pathOf a = true) (hb : pathOf b = true) : pathOf (a ++ b) = true := by
  unfold pathOf at *
  rw [Bool.and_eq_true] at *
  rw [made_app _ path_37 a.length a b (Nat.le_refl _) ha.2]
  refine ⟨?_, hb.2⟩
  cases a with
  | nil => exact hb.1
  | cons x r => exact ha.1
theorem path_head {s : List UInt8} (h : pathOf s = true) : ∃ r, s = 47 :: r := by
  unfold pathOf at h
  rw [Bool.and_eq_true] at h
  cases s with
  | nil => cases h.1
  | cons x r =>
    have := h.1
    simp at this
    exact ⟨r, by rw [this]⟩
theorem segs_app {a b : List UInt8} (ha : pathOf a = true) (hb : pathOf b = true) : segs (a ++ b) = segs a ++ segs b := by
  obtain ⟨r, rfl⟩ := path_head ha
  obtain ⟨t, rfl⟩ := path_head hb
  unfold segs
  simp only [List.cons_append, List.drop_succ_cons, List.drop_zero]
  rw [splitB_join, List.map_append]
/-! ## What is quoted -/
theorem quoteB_facts (x : UInt8) : (∀ y ∈ quoteB x, y ≠ 47) ∧ madeOf pathL (quoteB x) = true ∧ (quoteB x = [x] ∧ x ≠ 37 ∨ ∃ a b, quoteB x = [37, a, b] ∧ hexB a = true ∧ hexB b = true ∧ hexV a b = x) := by
  have : ∀ n : Fin 256, ((quoteB n.val.toUInt8).all fun y => y != 47) && madeOf pathL (quoteB n.val.toUInt8) && (match quoteB n.val.toUInt8 with | [y] => y == n.val.toUInt8 && y != 37 | [z, a, b] => z == 37 && hexB a && hexB b && hexV a b == n.val.toUInt8 | _ => false) = true := by decide +kernel
  have h := this ⟨x.toNat, x.toNat_lt⟩
  simp only [show x.toNat.toUInt8 = x by simp, Bool.and_eq_true] at h
  refine ⟨fun y hy => by have := List.all_eq_true.1 h.1.1 y hy; simpa using this, h.1.2, ?_⟩
  have h2 := h.2
  split at h2
  · rename_i y hy
    simp at h2
    exact .inl ⟨by rw [hy, h2.1], fun e => h2.2 (by rw [h2.1, e])⟩
  · rename_i z a b hy
    simp at h2
    exact .inr ⟨a, b, by rw [hy, h2.1.1.1], h2.1.1.2, h2.1.2, h2.2⟩
  · cases h2
theorem quote_slash (s : List UInt8) : 47 ∉ quoteOf s := by
  intro h
  obtain ⟨x, _, hx⟩ := List.mem_flatMap.1 h
  exact (quoteB_facts x).1 47 hx rfl
theorem made_quote : ∀ s : List UInt8, madeOf pathL (quoteOf s) = true
  | [] => rfl
  | x :: r => by
    unfold quoteOf
    rw [List.flatMap_cons, made_app _ path_37 _ _ _ (Nat.le_refl _) (quoteB_facts x).2.1]
    exact made_quote r
theorem unq_quote : ∀ s : List UInt8, unq (quoteOf s) = s
  | [] => rfl
  | x :: r => by
    have ih := unq_quote r
    unfold quoteOf at ih ⊢
    rw [List.flatMap_cons]
    rcases (quoteB_facts x).2.2 with ⟨h1, h2⟩ | ⟨a, b, h1, h2, h3, h4⟩
    · rw [h1, List.singleton_append, unq_cons x _ h2, ih]
    · rw [h1, show ([37, a, b] ++ List.flatMap quoteB r) = 37 :: a :: b :: List.flatMap quoteB r from rfl, unq_37 a b _ h2 h3, ih, h4]
def pathOfL (l : List (List UInt8)) : List UInt8 := l.flatMap fun s => 47 :: quoteOf s
theorem pathOfL_made : ∀ l : List (List UInt8), madeOf pathL (pathOfL l) = true
  | [] => rfl
  | x :: r => by
    unfold pathOfL
    rw [List.flatMap_cons, List.cons_append, made_cons pathL 47 _ (by decide), made_app _ path_37 _ _ _ (Nat.le_refl _) (made_quote x)]
    rw [show plainB pathL 47 = true by decide]
    exact pathOfL_made r
theorem pathOfL_path {l : List (List UInt8)} (h : l ≠ []) : pathOf (pathOfL l) = true := by
  unfold pathOf
  rw [pathOfL_made, Bool.and_true]
  cases l with
  | nil => exact absurd rfl h
  | cons x r => rfl
theorem splitB_quotes : ∀ (x : List UInt8) (r : List (List UInt8)), splitB 47 ((pathOfL (x :: r)).drop 1) = quoteOf x :: r.map quoteOf
  | x, [] => by
    unfold pathOfL
    simp only [List.flatMap_cons, List.flatMap_nil, List.append_nil, List.drop_succ_cons, List.drop_zero, List.map_nil]
    exact splitB_none 47 _ (quote_slash x)
  | x, y :: r => by
    have ih := splitB_quotes y r
    have e : (pathOfL (x :: y :: r)).drop 1 = quoteOf x ++ 47 :: (pathOfL (y :: r)).drop 1 := by
      unfold pathOfL
      simp
    rw [e, splitB_app 47 _ _ (quote_slash x), ih]
    rfl
theorem segs_quotes {l : List (List UInt8)} (h : l ≠ []) : segs (pathOfL l) = l := by
  cases l with
  | nil => exact absurd rfl h
  | cons x r =>
    unfold segs
    rw [splitB_quotes, List.map_cons, unq_quote, List.map_map]
    congr 1
    rw [show unq ∘ quoteOf = id from funext unq_quote, List.map_id]
/-! ## Written, and read again -/
theorem version_end {v : Int} (h : v = 0 ∨ v = 1) : versionOf ([72, 84, 84, 80, 47, 49, 46] ++ (if v = 0 then [48] else [49])) = some v := by rcases h with rfl | rfl <;> rfl
theorem method_facts {m : List UInt8} (h : methodOf m = true) : tokenOf m = true ∧ 32 ∉ m := by
  have : ∀ x ∈ methodsL, tokenOf x = true ∧ 32 ∉ x := by decide +kernel
  unfold methodOf at h
  rw [List.contains_iff_mem] at h
  exact this m h
theorem path_no {p : List UInt8} (h : pathOf p = true) : 32 ∉ p ∧ 63 ∉ p := by
  unfold pathOf at h
  rw [Bool.and_eq_true] at h
  exact ⟨made_no path_37 (by decide) (by decide) (by decide) p.length p (Nat.le_refl _) h.2, made_no path_37 (by decide) (by decide) (by decide) p.length p (Nat.le_refl _) h.2⟩
theorem query_no {q : List UInt8} (h : queryOf q = true) : 32 ∉ q := made_no query_37 (by decide) (by decide) (by decide) q.length q (Nat.le_refl _) h
theorem cutB_app (c : UInt8) (a b : List UInt8) (h : c ∉ a) : cutB c (a ++ c :: b) = (a, b, true) := by
  rw [cutB_at c (a ++ c :: b) a.length (by simpa using h) (by simp)]
  simp
theorem write_line {r : Rq} (h : writeOK r = true) : lineSt (writeL r) = 200 ∧ lineR (writeL r) = r := by
  unfold writeOK at h
  simp only [Bool.and_eq_true, decide_eq_true_eq] at h
  obtain ⟨⟨⟨⟨⟨hm, hp⟩, hq⟩, h0⟩, h1⟩, hl⟩ := h
  have hv : r.v = 0 ∨ r.v = 1 := by omega
  obtain ⟨ht, hm32⟩ := method_facts hm
  obtain ⟨hp32, hp63⟩ := path_no hp
  have hq32 := query_no hq
  have htg : 32 ∉ targetOf r := by
    unfold targetOf
    split
    · exact hp32
    · intro hx
      rcases List.mem_append.1 hx with h | h
      · exact hp32 h
      · rcases List.mem_cons.1 h with e | e
        · exact absurd e (by decide)
        · exact hq32 e
  have hw : writeL r = r.m ++ 32 :: (targetOf r ++ 32 :: ([72, 84, 84, 80, 47, 49, 46] ++ (if r.v = 0 then [48] else [49]))) := by unfold writeL; simp
  have c1 := cutB_app 32 r.m (targetOf r ++ 32 :: ([72, 84, 84, 80, 47, 49, 46] ++ (if r.v = 0 then [48] else [49]))) hm32
  have c2 := cutB_app 32 (targetOf r) ([72, 84, 84, 80, 47, 49, 46] ++ (if r.v = 0 then [48] else [49])) htg
  have c3 : (cutB 63 (targetOf r)).1 = r.p ∧ (cutB 63 (targetOf r)).2.1 = r.q := by
    unfold targetOf
    split
    · rename_i hq0
      rw [cutB_none 63 _ hp63]
      exact ⟨rfl, hq0.symm⟩
    · rw [cutB_app 63 r.p r.q hp63]
      exact ⟨rfl, rfl⟩
  have e : lineRq (writeL r) = r := by
    unfold lineRq lineTarget
    rw [hw, c1]
    simp only [c2, version_end hv, c3.1, c3.2, Option.getD_some]
  have hok : lineOK (writeL r) = true := by
    unfold lineOK
    rw [e]
    rw [hw] at hl ⊢
    rw [c1]
    simp only [c2, version_end hv, ht, hp, hq, decide_eq_true hl, Option.isSome_some, Bool.and_self]
  unfold lineSt lineR
  rw [hok, e, hm]
  exact ⟨rfl, rfl⟩
theorem cutB_yes (c : UInt8) : ∀ l : List UInt8, (cutB c l).2.2 = true → l = (cutB c l).1 ++ c :: (cutB c l).2.1 ∧ c ∉ (cutB c l).1
  | [], h => by cases h
  | x :: r, h => by
    unfold cutB at h ⊢
    split
    · rename_i hx; subst hx; simp
    · rename_i hx
      rw [if_neg hx] at h
      obtain ⟨h1, h2⟩ := cutB_yes c r h
      refine ⟨by simp only [List.cons_append]; rw [← h1], fun hm => ?_⟩
      rcases List.mem_cons.1 hm with e | e
      · exact hx e.symm
      · exact h2 e
theorem cutB_nope (c : UInt8) : ∀ l : List UInt8, (cutB c l).2.2 = false → (cutB c l).1 = l ∧ (cutB c l).2.1 = []
  | [], _ => ⟨rfl, rfl⟩
  | x :: r, h => by
    unfold cutB at h ⊢
    split
    · rename_i hx; rw [if_pos hx] at h; cases h
    · rename_i hx
      rw [if_neg hx] at h
      obtain ⟨h1, h2⟩ := cutB_nope c r h
      exact ⟨by rw [h1], h2⟩
theorem version_some {s : List UInt8} {v : Int} (h : versionOf s = some v) : (v = 0 ∨ v = 1) ∧ ∃ d, s = [72, 84, 84, 80, 47, 49, 46, d] := by
  unfold versionOf at h
  split at h
  · rename_i d
    split at h
    · have := Option.some.inj h
      refine ⟨?_, d, rfl⟩
      split at this <;> omega
    · cases h
  · cases h
/-- What a line tells is written as that line, but for an empty query's sign and the version's digit. -/
theorem line_write {s : List UInt8} (h : lineSt s = 200) : lineR s = lineRq s ∧ writeOK (lineRq s) = true ∧ (writeL (lineRq s)).length ≤ s.length ∧ ((writeL (lineRq s)).length < s.length ∨ (writeL (lineRq s)).take ((writeL (lineRq s)).length - 1) = s.take (s.length - 1)) := by
  have hok : lineOK s = true := by
    unfold lineSt at h
    split at h
    · assumption
    · cases h
  have hmo : methodOf (lineRq s).m = true := by
    unfold lineSt at h
    rw [if_pos hok] at h
    split at h
    · assumption
    · cases h
  have hr : lineR s = lineRq s := by unfold lineR; rw [hok, hmo]; rfl
  have hok' := hok
  unfold lineOK at hok
  simp only [Bool.and_eq_true, decide_eq_true_eq] at hok
  obtain ⟨⟨⟨⟨⟨⟨hl, h1⟩, h2⟩, h3⟩, ht⟩, hp⟩, hq⟩ := hok
  obtain ⟨e1, n1⟩ := cutB_yes 32 s h1
  obtain ⟨e2, n2⟩ := cutB_yes 32 _ h2
  obtain ⟨v, hv⟩ := Option.isSome_iff_exists.1 h3
  obtain ⟨hv01, d, hd⟩ := version_some hv
  have hrv : (lineRq s).v = v := by unfold lineRq; simp only [hv, Option.getD_some]
  have hrm : (lineRq s).m = (cutB 32 s).1 := rfl
  have htgt : lineTarget s = (cutB 32 (cutB 32 s).2.1).1 := rfl
  have hs : s = (lineRq s).m ++ 32 :: (lineTarget s ++ 32 :: [72, 84, 84, 80, 47, 49, 46, d]) := by rw [hrm, htgt, ← hd, ← e2]; exact e1
  have hw : writeL (lineRq s) = (lineRq s).m ++ 32 :: (targetOf (lineRq s) ++ 32 :: ([72, 84, 84, 80, 47, 49, 46] ++ (if (lineRq s).v = 0 then [48] else [49]))) := by unfold writeL; simp
  have htg : targetOf (lineRq s) = lineTarget s ∨ (targetOf (lineRq s)).length < (lineTarget s).length := by
    have hpq : (lineRq s).p = (cutB 63 (lineTarget s)).1 ∧ (lineRq s).q = (cutB 63 (lineTarget s)).2.1 := ⟨rfl, rfl⟩
    unfold targetOf
    rw [hpq.1, hpq.2]
    cases hc : (cutB 63 (lineTarget s)).2.2 with
    | true =>
      obtain ⟨e3, _⟩ := cutB_yes 63 _ hc
      split
      · right
        conv => rhs; rw [e3]
        simp
      · exact .inl e3.symm
    | false =>
      obtain ⟨e3, e4⟩ := cutB_nope 63 _ hc
      rw [e4, if_pos rfl]
      exact .inl e3
  have hone : ((if (lineRq s).v = 0 then [48] else [49]) : List UInt8).length = 1 := by split <;> rfl
  have hwl : (writeL (lineRq s)).length = (lineRq s).m.length + (targetOf (lineRq s)).length + 10 := by rw [hw]; simp only [List.length_append, List.length_cons, List.length_nil, hone]; omega
  have hsl : s.length = (lineRq s).m.length + (lineTarget s).length + 10 := by
    conv => lhs; rw [hs]
    simp only [List.length_append, List.length_cons, List.length_nil]; omega
  have hle : (writeL (lineRq s)).length ≤ s.length := by
    rcases htg with e | e
    · rw [e] at hwl; omega
    · omega
  refine ⟨hr, ?_, hle, ?_⟩
  · unfold writeOK
    simp only [hmo, hp, hq, hrv, Bool.and_eq_true, decide_eq_true_eq, true_and]
    omega
  · rcases htg with e | e
    · right
      have k : ∀ (x : UInt8) (a : List UInt8), (a ++ [x]).take ((a ++ [x]).length - 1) = a := fun x a => by simp
      obtain ⟨x, hx⟩ : ∃ x, (if (lineRq s).v = 0 then [48] else [49] : List UInt8) = [x] := by split <;> exact ⟨_, rfl⟩
      have w1 : writeL (lineRq s) = ((lineRq s).m ++ 32 :: (lineTarget s ++ 32 :: [72, 84, 84, 80, 47, 49, 46])) ++ [x] := by rw [hw, hx, e]; simp
      have w2 : s = ((lineRq s).m ++ 32 :: (lineTarget s ++ 32 :: [72, 84, 84, 80, 47, 49, 46])) ++ [d] := by
        conv => lhs; rw [hs]
        simp
      rw [w1, k]
      conv => rhs; rw [w2]
      rw [k]
    · left; omega
theorem line_not {s : List UInt8} (h : lineSt s ≠ 200) : (lineSt s = 400 ∨ lineSt s = 501) ∧ lineR s = rq0 := by
  unfold lineSt lineR at *
  cases h1 : lineOK s <;> cases h2 : methodOf (lineRq s).m <;> simp_all
end Go.Proofs.YtmdmmncoigeijaaGreatDoor
/- The program's functions on first lines, reckoned. -/
namespace Go.Proofs.YtmdmmncoigeijaaGreatDoor.Vex
open Go Go.RowKit
set_option maxRecDepth 100000
set_option linter.unusedSectionVars false
variable {gI : GI} [HasMax gI] [HasErr gI]

theorem toErr_f (s : List UInt8) (bs k : Int) (hs : s.length ≤ 1000000000) (hk : k = 1 ∨ k = 2) : FnE Tryz.prog gI 172 [str [80, 97, 114, 115, 101, 85, 105, 110, 116], str s, .int .i64 16, .int .i64 bs, errV k] (fun _ => True) (fun _ v _ => ∃ te p, v = .iface te p) :=
  ⟨callable Tryz.func172 rfl (by kernel_rfl), fun w hG _ => by
    obtain ⟨⟨e1, c1, d1⟩, ⟨e2, c2, d2⟩⟩ := HasErr.ok w hG
    rcases hk with rfl | rfl
    · exact (Tryz.strconv_toError_range ⟨⟨_⟩⟩ ⟨⟨s⟩⟩ 16 bs e2 w (by show s.length ≤ _; omega) c2 d2).mono fun _ _ ⟨N, he, _, _, hb⟩ => ⟨_, he, ⟨_, _, rfl⟩, hb⟩
    · exact (Tryz.strconv_toError_syntax ⟨⟨_⟩⟩ ⟨⟨s⟩⟩ 16 bs e1 w (by show s.length ≤ _; omega) c1 d1).mono fun _ _ ⟨N, he, _, _, hb⟩ => ⟨_, he, ⟨_, _, rfl⟩, hb⟩⟩
theorem PU_f (l : List UInt8) (bs mx : Int) (hb : bs = 8 ∧ mx = 255 ∨ bs = 64 ∧ mx = 18446744073709551615) (hl : l.length ≤ 1000000000) :
    FnE Tryz.prog gI 133 [str l, .int .i64 16, .int .i64 bs] (fun _ => True) fun _ v _ => ((puV mx l).2 = 0 ∧ v = .tuple #[.int .u64 (puV mx l).1, .nilIface]) ∨ ((puV mx l).2 ≠ 0 ∧ ∃ te p, v = .tuple #[.int .u64 (puV mx l).1, .iface te p]) := by
  have hk : (puV mx l).2 = 0 ∨ (puV mx l).2 = 1 ∨ (puV mx l).2 = 2 := by
    unfold puV
    split
    · exact .inr (.inr rfl)
    · exact puGo_err mx l 0
  refine FnE.of tys_ok Tryz.func133 rfl (by kernel_rfl) rfl rfl ?_; intro w hG hP
  (conv => whnf); repeat ((first | refine tk1 ?_ | refine tk2 ?_ | refine tk3 ?_ | refine tk12 (fun _ => ?_) | refine tk4 ?_ | refine tk5 ?_ | refine tk6 ?_ | refine tk7 ?_ | refine tk8 ?_ | refine tk9 ?_ | refine tk10 (fun _ _ => ?_) | refine tk11 (fun _ => ?_) | refine tk13 ?_ | refine tk14 ?_); (conv => whnf))
  refine CallK.fn (Parse16_f l bs mx hb hl) ?_
  generalize hn : (puV mx l).1 = n at *
  generalize hq : (puV mx l).2 = k at *
  rcases hk with rfl | hk
  · (conv => whnf); repeat ((first | refine tk1 ?_ | refine tk2 ?_ | refine tk3 ?_ | refine tk12 (fun _ => ?_) | refine tk4 ?_ | refine tk5 ?_ | refine tk6 ?_ | refine tk7 ?_ | refine tk8 ?_ | refine tk9 ?_ | refine tk10 (fun _ _ => ?_) | refine tk11 (fun _ => ?_) | refine tk13 ?_ | refine tk14 ?_); (conv => whnf))
    refine OthP.ifNe tys_ok rfl rfl (v := errV 0) (b := true) rfl ?_
    (conv => whnf); repeat ((first | refine tk1 ?_ | refine tk2 ?_ | refine tk3 ?_ | refine tk12 (fun _ => ?_) | refine tk4 ?_ | refine tk5 ?_ | refine tk6 ?_ | refine tk7 ?_ | refine tk8 ?_ | refine tk9 ?_ | refine tk10 (fun _ _ => ?_) | refine tk11 (fun _ => ?_) | refine tk13 ?_ | refine tk14 ?_); (conv => whnf))
    exact fun w' _ => .inl ⟨rfl, rfl⟩
  · have hne : k ≠ 0 := by omega
    obtain ⟨tk, pk, he⟩ : ∃ tk pk, errV k = .iface tk pk := by rcases hk with rfl | rfl <;> exact ⟨_, _, rfl⟩
    have hte := toErr_f (gI := gI) l bs k hl hk
    rw [he] at hte ⊢
    (conv => whnf); repeat ((first | refine tk1 ?_ | refine tk2 ?_ | refine tk3 ?_ | refine tk12 (fun _ => ?_) | refine tk4 ?_ | refine tk5 ?_ | refine tk6 ?_ | refine tk7 ?_ | refine tk8 ?_ | refine tk9 ?_ | refine tk10 (fun _ _ => ?_) | refine tk11 (fun _ => ?_) | refine tk13 ?_ | refine tk14 ?_); (conv => whnf))
    refine OthP.ifNe tys_ok rfl rfl (v := .iface tk pk) rfl ?_
    (conv => whnf); repeat ((first | refine tk1 ?_ | refine tk2 ?_ | refine tk3 ?_ | refine tk12 (fun _ => ?_) | refine tk4 ?_ | refine tk5 ?_ | refine tk6 ?_ | refine tk7 ?_ | refine tk8 ?_ | refine tk9 ?_ | refine tk10 (fun _ _ => ?_) | refine tk11 (fun _ => ?_) | refine tk13 ?_ | refine tk14 ?_); (conv => whnf))
    refine CallK.fnE hte (fun _ _ => trivial) (fun w1 v w2 hs hv hr => ⟨_, hs.below hr, ?_⟩)
    obtain ⟨te, p, rfl⟩ := hv
    (conv => whnf); repeat ((first | refine tk1 ?_ | refine tk2 ?_ | refine tk3 ?_ | refine tk12 (fun _ => ?_) | refine tk4 ?_ | refine tk5 ?_ | refine tk6 ?_ | refine tk7 ?_ | refine tk8 ?_ | refine tk9 ?_ | refine tk10 (fun _ _ => ?_) | refine tk11 (fun _ => ?_) | refine tk13 ?_ | refine tk14 ?_); (conv => whnf))
    exact fun w' _ => .inr ⟨hne, te, p, rfl⟩
theorem plain_f (x : UInt8) (marks : List UInt8) : Fn Tryz.prog gI 157 [.int .u8 x.toNat, str marks] (.bool (plainB marks x)) := by
  have hi := idx_in x marks
  have hx : (((x.toNat : Nat) : Int).toNat.toUInt8) = x := by simp
  have hp : plainB marks x = (smallI x.toNat || greatI x.toNat || decide (0 ≤ Lib.indexByte marks x)) := by
    unfold plainB
    congr 1
    rw [Bool.eq_iff_iff, List.contains_iff_mem, decide_eq_true_iff, hi]
  have hf := IndexByte_f (gI := gI) marks x.toNat
  rw [hx] at hf
  rw [hp]
  refine Fn.of tys_ok Tryz.func157 rfl (by kernel_rfl) rfl rfl ?_; intro w hG
  (repeat' ((conv => whnf); first | (first | refine tk1 ?_ | refine tk2 ?_ | refine tk3 ?_ | refine tk12 (fun _ => ?_) | refine tk4 ?_ | refine tk5 ?_ | refine tk6 ?_ | refine tk7 ?_ | refine tk8 ?_ | refine tk9 ?_ | refine tk10 (fun _ _ => ?_) | refine tk11 (fun _ => ?_) | refine tk13 ?_ | refine tk14 ?_) | refine Cmp.cases (fun _ => ?_) (fun _ => ?_) | refine IdxS.nat (by omega) ?_ | refine IdxS.go (by omega) (by omega) (fun _ _ _ => ?_) | refine SlcS.at (by omega) (by omega) (by omega) ?_ | refine CatS.at (by simp only [List.length_append, List.length_cons, List.length_nil]; omega) ?_ | refine CallK.fn hf ?_)); all_goals (conv => whnf)
  all_goals first | rfl | (refine congrArg Value.bool ?_; first | (simp [smallI, greatI, *]; done) | (rw [Bool.eq_iff_iff]; simp [smallI, greatI]; omega) | (rw [Bool.eq_iff_iff]; simp [smallI, greatI, *]; omega))
def codeV : List UInt8 → UInt8 × Bool
  | a :: b :: _ => if hexB a && hexB b then (hexV a b, true) else (0, false)
  | _ => (0, false)
theorem pu_two (a b : UInt8) : puV 255 [a, b] = if hexB a && hexB b then (16 * digI a.toNat + digI b.toNat, 0) else (0, 2) := by
  have h1 := dig_range a
  have h2 := dig_range b
  have e1 : hexB a = decide (0 ≤ digI a.toNat) := rfl
  have e2 : hexB b = decide (0 ≤ digI b.toNat) := rfl
  unfold puV
  rw [if_neg (by simp)]
  simp only [puGo]
  by_cases ha : 0 ≤ digI a.toNat
  · by_cases hb : 0 ≤ digI b.toNat
    · rw [e1, e2, decide_eq_true ha, decide_eq_true hb]
      rw [if_neg (by omega), if_neg (by omega), if_neg (by omega), if_neg (by omega), if_neg (by omega), if_neg (by omega)]
      simp only [Bool.and_self, if_true]
      congr 1
      omega
    · rw [e1, e2, decide_eq_true ha, decide_eq_false hb]
      rw [if_neg (by omega), if_neg (by omega), if_neg (by omega), if_pos (by omega)]
      simp
  · rw [e1, decide_eq_false ha, if_pos (by omega)]
    simp
theorem code_f (s : List UInt8) (hs : s.length ≤ 1000000000) : Fn Tryz.prog gI 158 [str s] (.tuple #[.int .u8 (codeV s).1.toNat, .bool (codeV s).2]) := by
  refine Fn.of tys_ok Tryz.func158 rfl (by kernel_rfl) rfl rfl ?_; intro w hG
  match s with
  | [] => (conv => whnf); repeat ((first | refine tk1 ?_ | refine tk2 ?_ | refine tk3 ?_ | refine tk12 (fun _ => ?_) | refine tk4 ?_ | refine tk5 ?_ | refine tk6 ?_ | refine tk7 ?_ | refine tk8 ?_ | refine tk9 ?_ | refine tk10 (fun _ _ => ?_) | refine tk11 (fun _ => ?_) | refine tk13 ?_ | refine tk14 ?_); (conv => whnf)); rfl
  | [_] => (conv => whnf); repeat ((first | refine tk1 ?_ | refine tk2 ?_ | refine tk3 ?_ | refine tk12 (fun _ => ?_) | refine tk4 ?_ | refine tk5 ?_ | refine tk6 ?_ | refine tk7 ?_ | refine tk8 ?_ | refine tk9 ?_ | refine tk10 (fun _ _ => ?_) | refine tk11 (fun _ => ?_) | refine tk13 ?_ | refine tk14 ?_); (conv => whnf)); rfl
  | a :: b :: r =>
    have hl : (((a :: b :: r).length : Nat) : Int) = (r.length : Int) + 2 := by simp; omega
    have hpu := PU_f (gI := gI) [a, b] 8 255 (.inl ⟨rfl, rfl⟩) (by simp)
    rw [pu_two] at hpu
    (conv => whnf); repeat ((first | refine tk1 ?_ | refine tk2 ?_ | refine tk3 ?_ | refine tk12 (fun _ => ?_) | refine tk4 ?_ | refine tk5 ?_ | refine tk6 ?_ | refine tk7 ?_ | refine tk8 ?_ | refine tk9 ?_ | refine tk10 (fun _ _ => ?_) | refine tk11 (fun _ => ?_) | refine tk13 ?_ | refine tk14 ?_); (conv => whnf))
    refine SlcS.at (by omega) (by omega) (by rw [hl]; omega) ?_
    (conv => whnf); repeat ((first | refine tk1 ?_ | refine tk2 ?_ | refine tk3 ?_ | refine tk12 (fun _ => ?_) | refine tk4 ?_ | refine tk5 ?_ | refine tk6 ?_ | refine tk7 ?_ | refine tk8 ?_ | refine tk9 ?_ | refine tk10 (fun _ _ => ?_) | refine tk11 (fun _ => ?_) | refine tk13 ?_ | refine tk14 ?_); (conv => whnf))
    refine CallK.fnE hpu (fun _ _ => trivial) (fun w1 v w2 hs hv hr => ⟨_, hs.below hr, ?_⟩)
    cases hh : hexB a && hexB b
    · rw [hh] at hv
      simp only [Bool.false_eq_true, if_false] at hv
      rcases hv with ⟨h2, _⟩ | ⟨_, te, p, rfl⟩
      · exact absurd h2 (by decide)
      (conv => whnf); repeat ((first | refine tk1 ?_ | refine tk2 ?_ | refine tk3 ?_ | refine tk12 (fun _ => ?_) | refine tk4 ?_ | refine tk5 ?_ | refine tk6 ?_ | refine tk7 ?_ | refine tk8 ?_ | refine tk9 ?_ | refine tk10 (fun _ _ => ?_) | refine tk11 (fun _ => ?_) | refine tk13 ?_ | refine tk14 ?_); (conv => whnf))
      refine DrawS.go (qs 26) tys_ok mixed (by kernel_rfl) ?_
      (conv => whnf); repeat ((first | refine tk1 ?_ | refine tk2 ?_ | refine tk3 ?_ | refine tk12 (fun _ => ?_) | refine tk4 ?_ | refine tk5 ?_ | refine tk6 ?_ | refine tk7 ?_ | refine tk8 ?_ | refine tk9 ?_ | refine tk10 (fun _ _ => ?_) | refine tk11 (fun _ => ?_) | refine tk13 ?_ | refine tk14 ?_); (conv => whnf))
      refine Ar.in8 (by omega) (by omega) ?_
      (conv => whnf); repeat ((first | refine tk1 ?_ | refine tk2 ?_ | refine tk3 ?_ | refine tk12 (fun _ => ?_) | refine tk4 ?_ | refine tk5 ?_ | refine tk6 ?_ | refine tk7 ?_ | refine tk8 ?_ | refine tk9 ?_ | refine tk10 (fun _ _ => ?_) | refine tk11 (fun _ => ?_) | refine tk13 ?_ | refine tk14 ?_); (conv => whnf))
      refine OthP.ifEq tys_ok rfl rfl (v := .iface te p) rfl ?_
      (conv => whnf); repeat ((first | refine tk1 ?_ | refine tk2 ?_ | refine tk3 ?_ | refine tk12 (fun _ => ?_) | refine tk4 ?_ | refine tk5 ?_ | refine tk6 ?_ | refine tk7 ?_ | refine tk8 ?_ | refine tk9 ?_ | refine tk10 (fun _ _ => ?_) | refine tk11 (fun _ => ?_) | refine tk13 ?_ | refine tk14 ?_); (conv => whnf))
      simp [codeV, hh]
    · rw [hh] at hv
      simp only [if_true] at hv
      rcases hv with ⟨_, rfl⟩ | ⟨h2, _⟩
      rotate_left
      · exact absurd rfl h2
      rw [Bool.and_eq_true] at hh
      have hv := hexV_toNat a b hh.1 hh.2
      have ra := dig_range a
      have rb := dig_range b
      have ha0 := hh.1
      have hb0 := hh.2
      rw [hexB_iff] at ha0 hb0
      have na : ¬ (a.toNat : Int) = 43 ∧ ¬ (a.toNat : Int) = 45 ∧ ¬ (a.toNat : Int) = 95 := by
        refine ⟨?_, ?_, ?_⟩ <;> (intro e; rw [e] at ha0; revert ha0; decide)
      have nb : ¬ (b.toNat : Int) = 95 := by intro e; rw [e] at hb0; revert hb0; decide
      (conv => whnf); repeat ((first | refine tk1 ?_ | refine tk2 ?_ | refine tk3 ?_ | refine tk12 (fun _ => ?_) | refine tk4 ?_ | refine tk5 ?_ | refine tk6 ?_ | refine tk7 ?_ | refine tk8 ?_ | refine tk9 ?_ | refine tk10 (fun _ _ => ?_) | refine tk11 (fun _ => ?_) | refine tk13 ?_ | refine tk14 ?_); (conv => whnf))
      refine DrawS.go (qs 26) tys_ok mixed (by kernel_rfl) ?_
      (conv => whnf); repeat ((first | refine tk1 ?_ | refine tk2 ?_ | refine tk3 ?_ | refine tk12 (fun _ => ?_) | refine tk4 ?_ | refine tk5 ?_ | refine tk6 ?_ | refine tk7 ?_ | refine tk8 ?_ | refine tk9 ?_ | refine tk10 (fun _ _ => ?_) | refine tk11 (fun _ => ?_) | refine tk13 ?_ | refine tk14 ?_); (conv => whnf))
      refine Ar.in8 (by omega) (by omega) ?_
      (conv => whnf); repeat ((first | refine tk1 ?_ | refine tk2 ?_ | refine tk3 ?_ | refine tk12 (fun _ => ?_) | refine tk4 ?_ | refine tk5 ?_ | refine tk6 ?_ | refine tk7 ?_ | refine tk8 ?_ | refine tk9 ?_ | refine tk10 (fun _ _ => ?_) | refine tk11 (fun _ => ?_) | refine tk13 ?_ | refine tk14 ?_); (conv => whnf))
      refine OthP.ifEq tys_ok rfl rfl (v := .nilIface) rfl ?_
      (conv => whnf); repeat ((first | refine tk1 ?_ | refine tk2 ?_ | refine tk3 ?_ | refine tk12 (fun _ => ?_) | refine tk4 ?_ | refine tk5 ?_ | refine tk6 ?_ | refine tk7 ?_ | refine tk8 ?_ | refine tk9 ?_ | refine tk10 (fun _ _ => ?_) | refine tk11 (fun _ => ?_) | refine tk13 ?_ | refine tk14 ?_); (conv => whnf))
      refine IdxS.at a rfl (by omega) ?_
      (conv => whnf); repeat ((first | refine tk1 ?_ | refine tk2 ?_ | refine tk3 ?_ | refine tk12 (fun _ => ?_) | refine tk4 ?_ | refine tk5 ?_ | refine tk6 ?_ | refine tk7 ?_ | refine tk8 ?_ | refine tk9 ?_ | refine tk10 (fun _ _ => ?_) | refine tk11 (fun _ => ?_) | refine tk13 ?_ | refine tk14 ?_); (conv => whnf))
      refine IdxS.at a rfl (by omega) ?_
      (conv => whnf); repeat ((first | refine tk1 ?_ | refine tk2 ?_ | refine tk3 ?_ | refine tk12 (fun _ => ?_) | refine tk4 ?_ | refine tk5 ?_ | refine tk6 ?_ | refine tk7 ?_ | refine tk8 ?_ | refine tk9 ?_ | refine tk10 (fun _ _ => ?_) | refine tk11 (fun _ => ?_) | refine tk13 ?_ | refine tk14 ?_); (conv => whnf))
      refine IdxS.at a rfl (by omega) ?_
      (conv => whnf); repeat ((first | refine tk1 ?_ | refine tk2 ?_ | refine tk3 ?_ | refine tk12 (fun _ => ?_) | refine tk4 ?_ | refine tk5 ?_ | refine tk6 ?_ | refine tk7 ?_ | refine tk8 ?_ | refine tk9 ?_ | refine tk10 (fun _ _ => ?_) | refine tk11 (fun _ => ?_) | refine tk13 ?_ | refine tk14 ?_); (conv => whnf))
      refine IdxS.at b rfl (by omega) ?_
      (conv => whnf); repeat ((first | refine tk1 ?_ | refine tk2 ?_ | refine tk3 ?_ | refine tk12 (fun _ => ?_) | refine tk4 ?_ | refine tk5 ?_ | refine tk6 ?_ | refine tk7 ?_ | refine tk8 ?_ | refine tk9 ?_ | refine tk10 (fun _ _ => ?_) | refine tk11 (fun _ => ?_) | refine tk13 ?_ | refine tk14 ?_); (conv => whnf))
      simp [codeV, hh, hv]
theorem made_f (s marks : List UInt8) (h37 : marks.contains 37 = false) (hs : s.length ≤ 1000000000) : Fn Tryz.prog gI 120 [str s, str marks] (.bool (madeOf marks s)) := by
  refine Fn.of tys_ok Tryz.func120 rfl (by kernel_rfl) rfl rfl ?_; intro w hG
  (conv => whnf); repeat ((first | refine tk1 ?_ | refine tk2 ?_ | refine tk3 ?_ | refine tk12 (fun _ => ?_) | refine tk4 ?_ | refine tk5 ?_ | refine tk6 ?_ | refine tk7 ?_ | refine tk8 ?_ | refine tk9 ?_ | refine tk10 (fun _ _ => ?_) | refine tk11 (fun _ => ?_) | refine tk13 ?_ | refine tk14 ?_); (conv => whnf))
  refine LoopS.lp tys_ok (fun (i : Nat) u => [str s, str marks, u 2, u 3, u 4, .int .i64 (i : Nat), u 6, u 7, u 8, u 9, u 10, u 11, u 12, u 13, u 14, u 15, u 16, u 17, u 18, u 19, u 20, u 21, u 22, u 23, u 24, u 25, u 26, u 27, u 28, u 29, u 30, u 31, u 32, u 33, u 34]) (fun _ => [])
    (fun i => i ≤ s.length ∧ madeOf marks s = madeOf marks (s.drop i)) (fun i => s.length - i) 0 ⟨Nat.zero_le _, rfl⟩ rfl (by repeat' (first | exact List.Sublist.refl _ | exact List.nil_sublist _ | apply List.Sublist.cons_cons | apply List.Sublist.cons)) ?_
  intro i u ⟨hi, hI⟩
  (conv => whnf); repeat ((first | refine tk1 ?_ | refine tk2 ?_ | refine tk3 ?_ | refine tk12 (fun _ => ?_) | refine tk4 ?_ | refine tk5 ?_ | refine tk6 ?_ | refine tk7 ?_ | refine tk8 ?_ | refine tk9 ?_ | refine tk10 (fun _ _ => ?_) | refine tk11 (fun _ => ?_) | refine tk13 ?_ | refine tk14 ?_); (conv => whnf))
  refine Cmp.cases (fun hlt => ?_) (fun hlt => ?_)
  · have hlt' : i < s.length := by omega
    obtain ⟨x, hx⟩ : ∃ x, s[i] = x := ⟨_, rfl⟩
    have hd : s.drop i = x :: s.drop (i + 1) := by rw [← hx]; exact List.drop_eq_getElem_cons hlt'
    have hxi : s[(i : Int).toNat]? = some x := by rw [Int.toNat_natCast, List.getElem?_eq_getElem hlt', hx]
    rw [hd] at hI
    (conv => whnf); repeat ((first | refine tk1 ?_ | refine tk2 ?_ | refine tk3 ?_ | refine tk12 (fun _ => ?_) | refine tk4 ?_ | refine tk5 ?_ | refine tk6 ?_ | refine tk7 ?_ | refine tk8 ?_ | refine tk9 ?_ | refine tk10 (fun _ _ => ?_) | refine tk11 (fun _ => ?_) | refine tk13 ?_ | refine tk14 ?_); (conv => whnf))
    refine IdxS.at x hxi (by omega) ?_
    (conv => whnf); repeat ((first | refine tk1 ?_ | refine tk2 ?_ | refine tk3 ?_ | refine tk12 (fun _ => ?_) | refine tk4 ?_ | refine tk5 ?_ | refine tk6 ?_ | refine tk7 ?_ | refine tk8 ?_ | refine tk9 ?_ | refine tk10 (fun _ _ => ?_) | refine tk11 (fun _ => ?_) | refine tk13 ?_ | refine tk14 ?_); (conv => whnf))
    refine CallK.fnB (plain_f x marks) (fun hp => ?_) (fun hp => ?_)
    · have hx37 : x ≠ 37 := fun e => by subst e; rw [plain_not_37 h37] at hp; cases hp
      rw [made_cons marks x _ hx37, hp] at hI
      (conv => whnf); repeat ((first | refine tk1 ?_ | refine tk2 ?_ | refine tk3 ?_ | refine tk12 (fun _ => ?_) | refine tk4 ?_ | refine tk5 ?_ | refine tk6 ?_ | refine tk7 ?_ | refine tk8 ?_ | refine tk9 ?_ | refine tk10 (fun _ _ => ?_) | refine tk11 (fun _ => ?_) | refine tk13 ?_ | refine tk14 ?_); (conv => whnf))
      exact ⟨i + 1, ⟨by omega, hI⟩, rfl, (by repeat' (first | exact List.Sublist.refl _ | exact List.nil_sublist _ | apply List.Sublist.cons_cons | apply List.Sublist.cons)), by dsimp only; omega⟩
    · (conv => whnf); repeat ((first | refine tk1 ?_ | refine tk2 ?_ | refine tk3 ?_ | refine tk12 (fun _ => ?_) | refine tk4 ?_ | refine tk5 ?_ | refine tk6 ?_ | refine tk7 ?_ | refine tk8 ?_ | refine tk9 ?_ | refine tk10 (fun _ _ => ?_) | refine tk11 (fun _ => ?_) | refine tk13 ?_ | refine tk14 ?_); (conv => whnf))
      refine IdxS.at x hxi (by omega) ?_
      (conv => whnf); repeat ((first | refine tk1 ?_ | refine tk2 ?_ | refine tk3 ?_ | refine tk12 (fun _ => ?_) | refine tk4 ?_ | refine tk5 ?_ | refine tk6 ?_ | refine tk7 ?_ | refine tk8 ?_ | refine tk9 ?_ | refine tk10 (fun _ _ => ?_) | refine tk11 (fun _ => ?_) | refine tk13 ?_ | refine tk14 ?_); (conv => whnf))
      refine Cmp.cases (fun hq => ?_) (fun hq => ?_)
      · have hx37 : x ≠ 37 := fun e => by subst e; exact hq rfl
        rw [made_cons marks x _ hx37, hp] at hI
        (conv => whnf); repeat ((first | refine tk1 ?_ | refine tk2 ?_ | refine tk3 ?_ | refine tk12 (fun _ => ?_) | refine tk4 ?_ | refine tk5 ?_ | refine tk6 ?_ | refine tk7 ?_ | refine tk8 ?_ | refine tk9 ?_ | refine tk10 (fun _ _ => ?_) | refine tk11 (fun _ => ?_) | refine tk13 ?_ | refine tk14 ?_); (conv => whnf))
        rw [hI]; rfl
      · have hx37 : x = 37 := b8 (n := 37) (by decide) (by omega)
        subst hx37
        rw [made_37 marks h37] at hI
        (conv => whnf); repeat ((first | refine tk1 ?_ | refine tk2 ?_ | refine tk3 ?_ | refine tk12 (fun _ => ?_) | refine tk4 ?_ | refine tk5 ?_ | refine tk6 ?_ | refine tk7 ?_ | refine tk8 ?_ | refine tk9 ?_ | refine tk10 (fun _ _ => ?_) | refine tk11 (fun _ => ?_) | refine tk13 ?_ | refine tk14 ?_); (conv => whnf))
        refine SlcS.at (by omega) (by omega) (by omega) ?_
        rw [show (List.take (s.length : Int).toNat s).drop ((i : Int) + 1).toNat = s.drop (i + 1) by rw [Int.toNat_natCast, List.take_length]; congr 1]
        (conv => whnf); repeat ((first | refine tk1 ?_ | refine tk2 ?_ | refine tk3 ?_ | refine tk12 (fun _ => ?_) | refine tk4 ?_ | refine tk5 ?_ | refine tk6 ?_ | refine tk7 ?_ | refine tk8 ?_ | refine tk9 ?_ | refine tk10 (fun _ _ => ?_) | refine tk11 (fun _ => ?_) | refine tk13 ?_ | refine tk14 ?_); (conv => whnf))
        refine CallK.fn (code_f (s.drop (i + 1)) (by rw [List.length_drop]; omega)) ?_
        have hz : (s.drop (i + 1)).length = s.length - (i + 1) := List.length_drop
        match hr : s.drop (i + 1) with
        | [] =>
          rw [hr] at hI
          (conv => whnf); repeat ((first | refine tk1 ?_ | refine tk2 ?_ | refine tk3 ?_ | refine tk12 (fun _ => ?_) | refine tk4 ?_ | refine tk5 ?_ | refine tk6 ?_ | refine tk7 ?_ | refine tk8 ?_ | refine tk9 ?_ | refine tk10 (fun _ _ => ?_) | refine tk11 (fun _ => ?_) | refine tk13 ?_ | refine tk14 ?_); (conv => whnf))
          rw [hI]
        | [y] =>
          rw [hr] at hI
          (conv => whnf); repeat ((first | refine tk1 ?_ | refine tk2 ?_ | refine tk3 ?_ | refine tk12 (fun _ => ?_) | refine tk4 ?_ | refine tk5 ?_ | refine tk6 ?_ | refine tk7 ?_ | refine tk8 ?_ | refine tk9 ?_ | refine tk10 (fun _ _ => ?_) | refine tk11 (fun _ => ?_) | refine tk13 ?_ | refine tk14 ?_); (conv => whnf))
          rw [hI]
        | a :: b :: t =>
          rw [hr] at hI hz
          simp only [List.length_cons] at hz
          have ht : s.drop (i + 3) = t := by
            rw [show i + 3 = (i + 1) + 2 by omega, ← List.drop_drop, hr]; rfl
          cases hh : hexB a && hexB b
          · have hc : codeV (a :: b :: t) = (0, false) := by simp only [codeV, hh]; rfl
            rw [hc]
            simp only [hh, Bool.false_and] at hI
            (conv => whnf); repeat ((first | refine tk1 ?_ | refine tk2 ?_ | refine tk3 ?_ | refine tk12 (fun _ => ?_) | refine tk4 ?_ | refine tk5 ?_ | refine tk6 ?_ | refine tk7 ?_ | refine tk8 ?_ | refine tk9 ?_ | refine tk10 (fun _ _ => ?_) | refine tk11 (fun _ => ?_) | refine tk13 ?_ | refine tk14 ?_); (conv => whnf))
            rw [hI]
          · have hc : codeV (a :: b :: t) = (hexV a b, true) := by simp only [codeV, hh]; rfl
            rw [hc]
            simp only [hh, Bool.true_and] at hI
            (conv => whnf); repeat ((first | refine tk1 ?_ | refine tk2 ?_ | refine tk3 ?_ | refine tk12 (fun _ => ?_) | refine tk4 ?_ | refine tk5 ?_ | refine tk6 ?_ | refine tk7 ?_ | refine tk8 ?_ | refine tk9 ?_ | refine tk10 (fun _ _ => ?_) | refine tk11 (fun _ => ?_) | refine tk13 ?_ | refine tk14 ?_); (conv => whnf))
            exact ⟨i + 3, ⟨by omega, by rw [hI, ht]⟩, rfl, (by repeat' (first | exact List.Sublist.refl _ | exact List.nil_sublist _ | apply List.Sublist.cons_cons | apply List.Sublist.cons)), by dsimp only; omega⟩
  · (conv => whnf); repeat ((first | refine tk1 ?_ | refine tk2 ?_ | refine tk3 ?_ | refine tk12 (fun _ => ?_) | refine tk4 ?_ | refine tk5 ?_ | refine tk6 ?_ | refine tk7 ?_ | refine tk8 ?_ | refine tk9 ?_ | refine tk10 (fun _ _ => ?_) | refine tk11 (fun _ => ?_) | refine tk13 ?_ | refine tk14 ?_); (conv => whnf))
    rw [hI, List.drop_eq_nil_of_le (by omega)]; rfl
theorem head_prefix (s : List UInt8) : Lib.hasPrefix s [47] = (s.head? == some 47) := by
  cases s with
  | nil => rfl
  | cons x r => simp [Lib.hasPrefix, List.isPrefixOf, Bool.beq_comm]
theorem Path_f (s : List UInt8) (hs : s.length ≤ 1000000000) : Fn Tryz.prog gI 86 [str s] (.bool (pathOf s)) := by
  refine Fn.of tys_ok Tryz.func86 rfl (by kernel_rfl) rfl rfl ?_; intro w hG
  (conv => whnf); repeat ((first | refine tk1 ?_ | refine tk2 ?_ | refine tk3 ?_ | refine tk12 (fun _ => ?_) | refine tk4 ?_ | refine tk5 ?_ | refine tk6 ?_ | refine tk7 ?_ | refine tk8 ?_ | refine tk9 ?_ | refine tk10 (fun _ _ => ?_) | refine tk11 (fun _ => ?_) | refine tk13 ?_ | refine tk14 ?_); (conv => whnf))
  refine CallK.fn (HasPrefix_f s [47]) ?_
  rw [head_prefix]
  cases h : (s.head? == some 47)
  · (conv => whnf); repeat ((first | refine tk1 ?_ | refine tk2 ?_ | refine tk3 ?_ | refine tk12 (fun _ => ?_) | refine tk4 ?_ | refine tk5 ?_ | refine tk6 ?_ | refine tk7 ?_ | refine tk8 ?_ | refine tk9 ?_ | refine tk10 (fun _ _ => ?_) | refine tk11 (fun _ => ?_) | refine tk13 ?_ | refine tk14 ?_); (conv => whnf))
    unfold pathOf; rw [h]; rfl
  · (conv => whnf); repeat ((first | refine tk1 ?_ | refine tk2 ?_ | refine tk3 ?_ | refine tk12 (fun _ => ?_) | refine tk4 ?_ | refine tk5 ?_ | refine tk6 ?_ | refine tk7 ?_ | refine tk8 ?_ | refine tk9 ?_ | refine tk10 (fun _ _ => ?_) | refine tk11 (fun _ => ?_) | refine tk13 ?_ | refine tk14 ?_); (conv => whnf))
    refine CallK.fn (made_f s pathL path_37 hs) ?_
    (conv => whnf); repeat ((first | refine tk1 ?_ | refine tk2 ?_ | refine tk3 ?_ | refine tk12 (fun _ => ?_) | refine tk4 ?_ | refine tk5 ?_ | refine tk6 ?_ | refine tk7 ?_ | refine tk8 ?_ | refine tk9 ?_ | refine tk10 (fun _ _ => ?_) | refine tk11 (fun _ => ?_) | refine tk13 ?_ | refine tk14 ?_); (conv => whnf))
    unfold pathOf; rw [h]; rfl
theorem Query_f (s : List UInt8) (hs : s.length ≤ 1000000000) : Fn Tryz.prog gI 87 [str s] (.bool (queryOf s)) := by
  refine Fn.of tys_ok Tryz.func87 rfl (by kernel_rfl) rfl rfl ?_; intro w hG
  (conv => whnf); repeat ((first | refine tk1 ?_ | refine tk2 ?_ | refine tk3 ?_ | refine tk12 (fun _ => ?_) | refine tk4 ?_ | refine tk5 ?_ | refine tk6 ?_ | refine tk7 ?_ | refine tk8 ?_ | refine tk9 ?_ | refine tk10 (fun _ _ => ?_) | refine tk11 (fun _ => ?_) | refine tk13 ?_ | refine tk14 ?_); (conv => whnf))
  refine CallK.fn (made_f s queryL query_37 hs) ?_
  (conv => whnf); repeat ((first | refine tk1 ?_ | refine tk2 ?_ | refine tk3 ?_ | refine tk12 (fun _ => ?_) | refine tk4 ?_ | refine tk5 ?_ | refine tk6 ?_ | refine tk7 ?_ | refine tk8 ?_ | refine tk9 ?_ | refine tk10 (fun _ _ => ?_) | refine tk11 (fun _ => ?_) | refine tk13 ?_ | refine tk14 ?_); (conv => whnf))
  rfl
theorem methods_f : FnS Tryz.prog gI 85 [] [] 9 1 6 (methodsL.map str) := by
  refine FnE.of tys_ok Tryz.func85 rfl (by kernel_rfl) rfl rfl ?_; intro w hG hP
  (conv => whnf); repeat ((first | refine tk1 ?_ | refine tk2 ?_ | refine tk3 ?_ | refine tk12 (fun _ => ?_) | refine tk4 ?_ | refine tk5 ?_ | refine tk6 ?_ | refine tk7 ?_ | refine tk8 ?_ | refine tk9 ?_ | refine tk10 (fun _ _ => ?_) | refine tk11 (fun _ => ?_) | refine tk13 ?_ | refine tk14 ?_); (conv => whnf))
  exact rowPost.of (List.mem_cons_self ..)
def verV (s : List UInt8) : Int × Bool := match versionOf s with | some v => (v, true) | none => (0, false)
theorem version_f (s : List UInt8) (hs : s.length ≤ 1000000000) : Fn Tryz.prog gI 126 [str s] (.tuple #[.int .i64 (verV s).1, .bool (verV s).2]) := by
  refine Fn.of tys_ok Tryz.func126 rfl (by kernel_rfl) rfl rfl ?_; intro w hG
  (conv => whnf); repeat ((first | refine tk1 ?_ | refine tk2 ?_ | refine tk3 ?_ | refine tk12 (fun _ => ?_) | refine tk4 ?_ | refine tk5 ?_ | refine tk6 ?_ | refine tk7 ?_ | refine tk8 ?_ | refine tk9 ?_ | refine tk10 (fun _ _ => ?_) | refine tk11 (fun _ => ?_) | refine tk13 ?_ | refine tk14 ?_); (conv => whnf))
  refine CallK.fn (CutPrefix_f s httpL) ?_
  cases hp : Lib.hasPrefix s httpL
  · have hn : versionOf s = none := by
      unfold versionOf
      split
      · rename_i d; simp [Lib.hasPrefix, httpL, List.isPrefixOf] at hp
      · rfl
    (conv => whnf); repeat ((first | refine tk1 ?_ | refine tk2 ?_ | refine tk3 ?_ | refine tk12 (fun _ => ?_) | refine tk4 ?_ | refine tk5 ?_ | refine tk6 ?_ | refine tk7 ?_ | refine tk8 ?_ | refine tk9 ?_ | refine tk10 (fun _ _ => ?_) | refine tk11 (fun _ => ?_) | refine tk13 ?_ | refine tk14 ?_); (conv => whnf))
    simp [verV, hn]
  · obtain ⟨t, rfl⟩ : ∃ t, s = httpL ++ t := by
      unfold Lib.hasPrefix at hp
      rw [List.isPrefixOf_iff_prefix] at hp
      obtain ⟨t, ht⟩ := hp
      exact ⟨t, ht.symm⟩
    have htr : Lib.trimPrefix (httpL ++ t) httpL = t := by unfold Lib.trimPrefix; rw [hp]; simp
    rw [htr]
    match t with
    | [] => (conv => whnf); repeat ((first | refine tk1 ?_ | refine tk2 ?_ | refine tk3 ?_ | refine tk12 (fun _ => ?_) | refine tk4 ?_ | refine tk5 ?_ | refine tk6 ?_ | refine tk7 ?_ | refine tk8 ?_ | refine tk9 ?_ | refine tk10 (fun _ _ => ?_) | refine tk11 (fun _ => ?_) | refine tk13 ?_ | refine tk14 ?_); (conv => whnf)); rfl
    | [d] =>
      have hv : versionOf (httpL ++ [d]) = if 48 ≤ d.toNat ∧ d.toNat ≤ 57 then some (if d.toNat = 48 then 0 else 1) else none := rfl
      (conv => whnf); repeat ((first | refine tk1 ?_ | refine tk2 ?_ | refine tk3 ?_ | refine tk12 (fun _ => ?_) | refine tk4 ?_ | refine tk5 ?_ | refine tk6 ?_ | refine tk7 ?_ | refine tk8 ?_ | refine tk9 ?_ | refine tk10 (fun _ _ => ?_) | refine tk11 (fun _ => ?_) | refine tk13 ?_ | refine tk14 ?_); (conv => whnf))
      refine IdxS.at d rfl (by omega) ?_
      (conv => whnf); repeat ((first | refine tk1 ?_ | refine tk2 ?_ | refine tk3 ?_ | refine tk12 (fun _ => ?_) | refine tk4 ?_ | refine tk5 ?_ | refine tk6 ?_ | refine tk7 ?_ | refine tk8 ?_ | refine tk9 ?_ | refine tk10 (fun _ _ => ?_) | refine tk11 (fun _ => ?_) | refine tk13 ?_ | refine tk14 ?_); (conv => whnf))
      refine Cmp.cases (fun h1 => ?_) (fun h1 => ?_)
      · (conv => whnf); repeat ((first | refine tk1 ?_ | refine tk2 ?_ | refine tk3 ?_ | refine tk12 (fun _ => ?_) | refine tk4 ?_ | refine tk5 ?_ | refine tk6 ?_ | refine tk7 ?_ | refine tk8 ?_ | refine tk9 ?_ | refine tk10 (fun _ _ => ?_) | refine tk11 (fun _ => ?_) | refine tk13 ?_ | refine tk14 ?_); (conv => whnf))
        rw [show verV (httpL ++ [d]) = (0, false) by unfold verV; rw [hv, if_neg (by omega)]]
      · (conv => whnf); repeat ((first | refine tk1 ?_ | refine tk2 ?_ | refine tk3 ?_ | refine tk12 (fun _ => ?_) | refine tk4 ?_ | refine tk5 ?_ | refine tk6 ?_ | refine tk7 ?_ | refine tk8 ?_ | refine tk9 ?_ | refine tk10 (fun _ _ => ?_) | refine tk11 (fun _ => ?_) | refine tk13 ?_ | refine tk14 ?_); (conv => whnf))
        refine IdxS.at d rfl (by omega) ?_
        (conv => whnf); repeat ((first | refine tk1 ?_ | refine tk2 ?_ | refine tk3 ?_ | refine tk12 (fun _ => ?_) | refine tk4 ?_ | refine tk5 ?_ | refine tk6 ?_ | refine tk7 ?_ | refine tk8 ?_ | refine tk9 ?_ | refine tk10 (fun _ _ => ?_) | refine tk11 (fun _ => ?_) | refine tk13 ?_ | refine tk14 ?_); (conv => whnf))
        refine Cmp.cases (fun h2 => ?_) (fun h2 => ?_)
        · (conv => whnf); repeat ((first | refine tk1 ?_ | refine tk2 ?_ | refine tk3 ?_ | refine tk12 (fun _ => ?_) | refine tk4 ?_ | refine tk5 ?_ | refine tk6 ?_ | refine tk7 ?_ | refine tk8 ?_ | refine tk9 ?_ | refine tk10 (fun _ _ => ?_) | refine tk11 (fun _ => ?_) | refine tk13 ?_ | refine tk14 ?_); (conv => whnf))
          rw [show verV (httpL ++ [d]) = (0, false) by unfold verV; rw [hv, if_neg (by omega)]]
        · (conv => whnf); repeat ((first | refine tk1 ?_ | refine tk2 ?_ | refine tk3 ?_ | refine tk12 (fun _ => ?_) | refine tk4 ?_ | refine tk5 ?_ | refine tk6 ?_ | refine tk7 ?_ | refine tk8 ?_ | refine tk9 ?_ | refine tk10 (fun _ _ => ?_) | refine tk11 (fun _ => ?_) | refine tk13 ?_ | refine tk14 ?_); (conv => whnf))
          refine IdxS.at d rfl (by omega) ?_
          (conv => whnf); repeat ((first | refine tk1 ?_ | refine tk2 ?_ | refine tk3 ?_ | refine tk12 (fun _ => ?_) | refine tk4 ?_ | refine tk5 ?_ | refine tk6 ?_ | refine tk7 ?_ | refine tk8 ?_ | refine tk9 ?_ | refine tk10 (fun _ _ => ?_) | refine tk11 (fun _ => ?_) | refine tk13 ?_ | refine tk14 ?_); (conv => whnf))
          refine Ar.in8 (by omega) (by omega) ?_
          (conv => whnf); repeat ((first | refine tk1 ?_ | refine tk2 ?_ | refine tk3 ?_ | refine tk12 (fun _ => ?_) | refine tk4 ?_ | refine tk5 ?_ | refine tk6 ?_ | refine tk7 ?_ | refine tk8 ?_ | refine tk9 ?_ | refine tk10 (fun _ _ => ?_) | refine tk11 (fun _ => ?_) | refine tk13 ?_ | refine tk14 ?_); (conv => whnf))
          refine OthP.min2 (if d.toNat = 48 then 0 else 1) rfl rfl (by split <;> omega) ?_
          (conv => whnf); repeat ((first | refine tk1 ?_ | refine tk2 ?_ | refine tk3 ?_ | refine tk12 (fun _ => ?_) | refine tk4 ?_ | refine tk5 ?_ | refine tk6 ?_ | refine tk7 ?_ | refine tk8 ?_ | refine tk9 ?_ | refine tk10 (fun _ _ => ?_) | refine tk11 (fun _ => ?_) | refine tk13 ?_ | refine tk14 ?_); (conv => whnf))
          rw [show verV (httpL ++ [d]) = ((if d.toNat = 48 then 0 else 1), true) by unfold verV; rw [hv, if_pos (by omega)]]
    | a :: b :: r =>
      have hn : versionOf (httpL ++ a :: b :: r) = none := rfl
      (conv => whnf); repeat ((first | refine tk1 ?_ | refine tk2 ?_ | refine tk3 ?_ | refine tk12 (fun _ => ?_) | refine tk4 ?_ | refine tk5 ?_ | refine tk6 ?_ | refine tk7 ?_ | refine tk8 ?_ | refine tk9 ?_ | refine tk10 (fun _ _ => ?_) | refine tk11 (fun _ => ?_) | refine tk13 ?_ | refine tk14 ?_); (conv => whnf))
      simp [verV, hn]
end Go.Proofs.YtmdmmncoigeijaaGreatDoor.Vex
/- The program's functions on first lines, reckoned: Parse, Write, Quote, Segments. -/
namespace Go.Proofs.YtmdmmncoigeijaaGreatDoor.Vex
open Go Go.RowKit
set_option maxRecDepth 100000
set_option linter.unusedSectionVars false
variable {gI : GI} [HasMax gI] [HasErr gI]

def rqV (r : Rq) : Value := .agg ⟨[str r.m, str r.p, str r.q, .int .i64 r.v, .slice none 0 0, .slice none 0 0]⟩
theorem LParse_f (s : List UInt8) (hs : s.length ≤ 1000000) : Fn Tryz.prog gI 95 [str s] (.tuple #[rqV (lineR s), .int .i64 (lineSt s)]) := by
  have z1 := cutB_length 32 s
  have z2 := cutB_length 32 (cutB 32 s).2.1
  have z3 := cutB_length 63 (cutB 32 (cutB 32 s).2.1).1
  have bad : lineOK s = false → Value.tuple #[rqV (lineR s), Value.int .i64 (lineSt s)] = .tuple #[.agg ⟨[str [], str [], str [], .int .i64 0, .slice none 0 0, .slice none 0 0]⟩, .int .i64 400] := fun h => by
    unfold lineR lineSt
    rw [h]; rfl
  refine Fn.of tys_ok Tryz.func95 rfl (by kernel_rfl) rfl rfl ?_; intro w hG
  (conv => whnf); repeat ((first | refine tk1 ?_ | refine tk2 ?_ | refine tk3 ?_ | refine tk12 (fun _ => ?_) | refine tk4 ?_ | refine tk5 ?_ | refine tk6 ?_ | refine tk7 ?_ | refine tk8 ?_ | refine tk9 ?_ | refine tk10 (fun _ _ => ?_) | refine tk11 (fun _ => ?_) | refine tk13 ?_ | refine tk14 ?_); (conv => whnf))
  refine CallK.fn (Cut_f s [32] (by omega)) ?_
  rw [cut_one]
  (conv => whnf); repeat ((first | refine tk1 ?_ | refine tk2 ?_ | refine tk3 ?_ | refine tk12 (fun _ => ?_) | refine tk4 ?_ | refine tk5 ?_ | refine tk6 ?_ | refine tk7 ?_ | refine tk8 ?_ | refine tk9 ?_ | refine tk10 (fun _ _ => ?_) | refine tk11 (fun _ => ?_) | refine tk13 ?_ | refine tk14 ?_); (conv => whnf))
  refine CallK.fn (Cut_f (cutB 32 s).2.1 [32] (by omega)) ?_
  rw [cut_one]
  (conv => whnf); repeat ((first | refine tk1 ?_ | refine tk2 ?_ | refine tk3 ?_ | refine tk12 (fun _ => ?_) | refine tk4 ?_ | refine tk5 ?_ | refine tk6 ?_ | refine tk7 ?_ | refine tk8 ?_ | refine tk9 ?_ | refine tk10 (fun _ _ => ?_) | refine tk11 (fun _ => ?_) | refine tk13 ?_ | refine tk14 ?_); (conv => whnf))
  refine CallK.fn (version_f (cutB 32 (cutB 32 s).2.1).2.1 (by omega)) ?_
  (conv => whnf); repeat ((first | refine tk1 ?_ | refine tk2 ?_ | refine tk3 ?_ | refine tk12 (fun _ => ?_) | refine tk4 ?_ | refine tk5 ?_ | refine tk6 ?_ | refine tk7 ?_ | refine tk8 ?_ | refine tk9 ?_ | refine tk10 (fun _ _ => ?_) | refine tk11 (fun _ => ?_) | refine tk13 ?_ | refine tk14 ?_); (conv => whnf))
  refine CallK.fn (Cut_f (cutB 32 (cutB 32 s).2.1).1 [63] (by omega)) ?_
  rw [cut_one]
  (conv => whnf); repeat ((first | refine tk1 ?_ | refine tk2 ?_ | refine tk3 ?_ | refine tk12 (fun _ => ?_) | refine tk4 ?_ | refine tk5 ?_ | refine tk6 ?_ | refine tk7 ?_ | refine tk8 ?_ | refine tk9 ?_ | refine tk10 (fun _ _ => ?_) | refine tk11 (fun _ => ?_) | refine tk13 ?_ | refine tk14 ?_); (conv => whnf))
  refine Cmp.cases (fun h1 => ?_) (fun h1 => ?_)
  · rw [bad (by unfold lineOK; rw [decide_eq_false (by omega)]; simp)]
    (conv => whnf); repeat ((first | refine tk1 ?_ | refine tk2 ?_ | refine tk3 ?_ | refine tk12 (fun _ => ?_) | refine tk4 ?_ | refine tk5 ?_ | refine tk6 ?_ | refine tk7 ?_ | refine tk8 ?_ | refine tk9 ?_ | refine tk10 (fun _ _ => ?_) | refine tk11 (fun _ => ?_) | refine tk13 ?_ | refine tk14 ?_); (conv => whnf))
  have d1 : decide (s.length ≤ 4096) = true := decide_eq_true (by omega)
  cases h2 : (cutB 32 s).2.2
  · rw [bad (by unfold lineOK; rw [h2]; simp)]
    (conv => whnf); repeat ((first | refine tk1 ?_ | refine tk2 ?_ | refine tk3 ?_ | refine tk12 (fun _ => ?_) | refine tk4 ?_ | refine tk5 ?_ | refine tk6 ?_ | refine tk7 ?_ | refine tk8 ?_ | refine tk9 ?_ | refine tk10 (fun _ _ => ?_) | refine tk11 (fun _ => ?_) | refine tk13 ?_ | refine tk14 ?_); (conv => whnf))
  cases h3 : (cutB 32 (cutB 32 s).2.1).2.2
  · rw [bad (by unfold lineOK; rw [h3]; simp)]
    (conv => whnf); repeat ((first | refine tk1 ?_ | refine tk2 ?_ | refine tk3 ?_ | refine tk12 (fun _ => ?_) | refine tk4 ?_ | refine tk5 ?_ | refine tk6 ?_ | refine tk7 ?_ | refine tk8 ?_ | refine tk9 ?_ | refine tk10 (fun _ _ => ?_) | refine tk11 (fun _ => ?_) | refine tk13 ?_ | refine tk14 ?_); (conv => whnf))
  cases h4 : versionOf (cutB 32 (cutB 32 s).2.1).2.1 with
  | none =>
    have e4 : verV (cutB 32 (cutB 32 s).2.1).2.1 = (0, false) := by unfold verV; rw [h4]
    rw [e4, bad (by unfold lineOK; rw [h4]; simp)]
    (conv => whnf); repeat ((first | refine tk1 ?_ | refine tk2 ?_ | refine tk3 ?_ | refine tk12 (fun _ => ?_) | refine tk4 ?_ | refine tk5 ?_ | refine tk6 ?_ | refine tk7 ?_ | refine tk8 ?_ | refine tk9 ?_ | refine tk10 (fun _ _ => ?_) | refine tk11 (fun _ => ?_) | refine tk13 ?_ | refine tk14 ?_); (conv => whnf))
  | some v =>
    have e4 : verV (cutB 32 (cutB 32 s).2.1).2.1 = (v, true) := by unfold verV; rw [h4]
    have hlr : lineRq s = ⟨(cutB 32 s).1, (cutB 63 (cutB 32 (cutB 32 s).2.1).1).1, (cutB 63 (cutB 32 (cutB 32 s).2.1).1).2.1, v⟩ := by unfold lineRq lineTarget; rw [h4]; rfl
    rw [e4]
    (conv => whnf); repeat ((first | refine tk1 ?_ | refine tk2 ?_ | refine tk3 ?_ | refine tk12 (fun _ => ?_) | refine tk4 ?_ | refine tk5 ?_ | refine tk6 ?_ | refine tk7 ?_ | refine tk8 ?_ | refine tk9 ?_ | refine tk10 (fun _ _ => ?_) | refine tk11 (fun _ => ?_) | refine tk13 ?_ | refine tk14 ?_); (conv => whnf))
    refine CallK.fn (Token_f (cutB 32 s).1 (by omega)) ?_
    cases h5 : tokenOf (cutB 32 s).1
    · rw [bad (by unfold lineOK; rw [hlr]; simp only [h5]; simp)]
      (conv => whnf); repeat ((first | refine tk1 ?_ | refine tk2 ?_ | refine tk3 ?_ | refine tk12 (fun _ => ?_) | refine tk4 ?_ | refine tk5 ?_ | refine tk6 ?_ | refine tk7 ?_ | refine tk8 ?_ | refine tk9 ?_ | refine tk10 (fun _ _ => ?_) | refine tk11 (fun _ => ?_) | refine tk13 ?_ | refine tk14 ?_); (conv => whnf))
    (conv => whnf); repeat ((first | refine tk1 ?_ | refine tk2 ?_ | refine tk3 ?_ | refine tk12 (fun _ => ?_) | refine tk4 ?_ | refine tk5 ?_ | refine tk6 ?_ | refine tk7 ?_ | refine tk8 ?_ | refine tk9 ?_ | refine tk10 (fun _ _ => ?_) | refine tk11 (fun _ => ?_) | refine tk13 ?_ | refine tk14 ?_); (conv => whnf))
    refine CallK.fn (Path_f _ (by omega)) ?_
    cases h6 : pathOf (cutB 63 (cutB 32 (cutB 32 s).2.1).1).1
    · rw [bad (by unfold lineOK; rw [hlr]; simp only [h6]; simp)]
      (conv => whnf); repeat ((first | refine tk1 ?_ | refine tk2 ?_ | refine tk3 ?_ | refine tk12 (fun _ => ?_) | refine tk4 ?_ | refine tk5 ?_ | refine tk6 ?_ | refine tk7 ?_ | refine tk8 ?_ | refine tk9 ?_ | refine tk10 (fun _ _ => ?_) | refine tk11 (fun _ => ?_) | refine tk13 ?_ | refine tk14 ?_); (conv => whnf))
    (conv => whnf); repeat ((first | refine tk1 ?_ | refine tk2 ?_ | refine tk3 ?_ | refine tk12 (fun _ => ?_) | refine tk4 ?_ | refine tk5 ?_ | refine tk6 ?_ | refine tk7 ?_ | refine tk8 ?_ | refine tk9 ?_ | refine tk10 (fun _ _ => ?_) | refine tk11 (fun _ => ?_) | refine tk13 ?_ | refine tk14 ?_); (conv => whnf))
    refine CallK.fn (Query_f _ (by omega)) ?_
    cases h7 : queryOf (cutB 63 (cutB 32 (cutB 32 s).2.1).1).2.1
    · rw [bad (by unfold lineOK; rw [hlr]; simp only [h7]; simp)]
      (conv => whnf); repeat ((first | refine tk1 ?_ | refine tk2 ?_ | refine tk3 ?_ | refine tk12 (fun _ => ?_) | refine tk4 ?_ | refine tk5 ?_ | refine tk6 ?_ | refine tk7 ?_ | refine tk8 ?_ | refine tk9 ?_ | refine tk10 (fun _ _ => ?_) | refine tk11 (fun _ => ?_) | refine tk13 ?_ | refine tk14 ?_); (conv => whnf))
    have hok : lineOK s = true := by
      unfold lineOK
      rw [hlr, d1, h2, h3, h4]
      simp only [h5, h6, h7]
      rfl
    (conv => whnf); repeat ((first | refine tk1 ?_ | refine tk2 ?_ | refine tk3 ?_ | refine tk12 (fun _ => ?_) | refine tk4 ?_ | refine tk5 ?_ | refine tk6 ?_ | refine tk7 ?_ | refine tk8 ?_ | refine tk9 ?_ | refine tk10 (fun _ _ => ?_) | refine tk11 (fun _ => ?_) | refine tk13 ?_ | refine tk14 ?_); (conv => whnf))
    refine CallK.fnS methods_f trivial (fun A cp => ?_)
    (conv => whnf); repeat ((first | refine tk1 ?_ | refine tk2 ?_ | refine tk3 ?_ | refine tk12 (fun _ => ?_) | refine tk4 ?_ | refine tk5 ?_ | refine tk6 ?_ | refine tk7 ?_ | refine tk8 ?_ | refine tk9 ?_ | refine tk10 (fun _ _ => ?_) | refine tk11 (fun _ => ?_) | refine tk13 ?_ | refine tk14 ?_); (conv => whnf))
    refine CallK.fnR (Contains_f A cp methodsL (cutB 32 s).1 (by decide)) ⟨RdA.ok, trivial⟩ ?_
    have hmm : methodsL.contains (cutB 32 s).1 = methodOf (lineRq s).m := by rw [hlr]; rfl
    rw [hmm]
    cases h8 : methodOf (lineRq s).m
    · rw [show lineR s = rq0 by unfold lineR; rw [hok, h8]; rfl, show lineSt s = 501 by unfold lineSt; rw [hok, h8]; rfl]
      (conv => whnf); repeat ((first | refine tk1 ?_ | refine tk2 ?_ | refine tk3 ?_ | refine tk12 (fun _ => ?_) | refine tk4 ?_ | refine tk5 ?_ | refine tk6 ?_ | refine tk7 ?_ | refine tk8 ?_ | refine tk9 ?_ | refine tk10 (fun _ _ => ?_) | refine tk11 (fun _ => ?_) | refine tk13 ?_ | refine tk14 ?_); (conv => whnf))
      rfl
    · rw [show lineR s = lineRq s by unfold lineR; rw [hok, h8]; rfl, show lineSt s = 200 by unfold lineSt; rw [hok, h8]; rfl, hlr]
      (conv => whnf); repeat ((first | refine tk1 ?_ | refine tk2 ?_ | refine tk3 ?_ | refine tk12 (fun _ => ?_) | refine tk4 ?_ | refine tk5 ?_ | refine tk6 ?_ | refine tk7 ?_ | refine tk8 ?_ | refine tk9 ?_ | refine tk10 (fun _ _ => ?_) | refine tk11 (fun _ => ?_) | refine tk13 ?_ | refine tk14 ?_); (conv => whnf))
      rfl
theorem Itoa_f [HasPow gI] (n : Int) (h0 : -9223372036854775808 ≤ n) (h1 : n ≤ 9223372036854775807) : Fn Tryz.prog gI 40 [.int .i64 n] (str (Lib.itoa n)) :=
  ⟨callable Tryz.func40 rfl (by kernel_rfl), fun w hG => (Tryz.strconv_Itoa n h0 h1 w (HasPow.ok w hG)).mono fun _ _ ⟨he, k, os, hw⟩ => ⟨he, by
    rw [hw]
    exact ⟨rfl, rfl, rfl, by simp [«Sort».grow, World.drewN], fun i hi => by
      show (w.heap ++ os)[i]? = w.heap[i]?
      exact Array.getElem?_append_left hi⟩⟩⟩
theorem itoa_01 {v : Int} (h : v = 0 ∨ v = 1) : Lib.itoa v = if v = 0 then [48] else [49] := by rcases h with rfl | rfl <;> decide +kernel
theorem LWrite_f [HasPow gI] (r : Rq) (c4 c5 : Value) (hm : r.m.length ≤ 1000000) (hp : r.p.length ≤ 1000000) (hq : r.q.length ≤ 1000000) (h0 : -9223372036854775808 ≤ r.v) (h1 : r.v ≤ 9223372036854775807) :
    Fn Tryz.prog gI 49 [.agg ⟨[str r.m, str r.p, str r.q, .int .i64 r.v, c4, c5]⟩] (.tuple #[str (writeS r), .int .i64 (writeE r)]) := by
  have hil := Lib.itoa_length_le r.v h0 h1
  have htl : (targetOf r).length ≤ 2000001 := by
    unfold targetOf
    split
    · omega
    · simp only [List.length_append, List.length_cons]; omega
  have bad : writeOK r = false → Value.tuple #[str (writeS r), Value.int .i64 (writeE r)] = .tuple #[str [], .int .i64 3] := fun h => by unfold writeS writeE; rw [h]; rfl
  refine Fn.of tys_ok Tryz.func49 rfl (by kernel_rfl) rfl rfl ?_; intro w hG
  (conv => whnf); repeat ((first | refine tk1 ?_ | refine tk2 ?_ | refine tk3 ?_ | refine tk12 (fun _ => ?_) | refine tk4 ?_ | refine tk5 ?_ | refine tk6 ?_ | refine tk7 ?_ | refine tk8 ?_ | refine tk9 ?_ | refine tk10 (fun _ _ => ?_) | refine tk11 (fun _ => ?_) | refine tk13 ?_ | refine tk14 ?_); (conv => whnf))
  by_cases hq0 : r.q = []
  · have ht : targetOf r = r.p := by unfold targetOf; rw [if_pos hq0]
    refine Cmp.f (fun h => h hq0) ?_
    (conv => whnf); repeat ((first | refine tk1 ?_ | refine tk2 ?_ | refine tk3 ?_ | refine tk12 (fun _ => ?_) | refine tk4 ?_ | refine tk5 ?_ | refine tk6 ?_ | refine tk7 ?_ | refine tk8 ?_ | refine tk9 ?_ | refine tk10 (fun _ _ => ?_) | refine tk11 (fun _ => ?_) | refine tk13 ?_ | refine tk14 ?_); (conv => whnf))
    refine DrawS.go (qs 11) tys_ok mixed (by kernel_rfl) ?_
    (conv => whnf); repeat ((first | refine tk1 ?_ | refine tk2 ?_ | refine tk3 ?_ | refine tk12 (fun _ => ?_) | refine tk4 ?_ | refine tk5 ?_ | refine tk6 ?_ | refine tk7 ?_ | refine tk8 ?_ | refine tk9 ?_ | refine tk10 (fun _ _ => ?_) | refine tk11 (fun _ => ?_) | refine tk13 ?_ | refine tk14 ?_); (conv => whnf))
    refine CatS.at (by simp; omega) ?_
    (conv => whnf); repeat ((first | refine tk1 ?_ | refine tk2 ?_ | refine tk3 ?_ | refine tk12 (fun _ => ?_) | refine tk4 ?_ | refine tk5 ?_ | refine tk6 ?_ | refine tk7 ?_ | refine tk8 ?_ | refine tk9 ?_ | refine tk10 (fun _ _ => ?_) | refine tk11 (fun _ => ?_) | refine tk13 ?_ | refine tk14 ?_); (conv => whnf))
    refine CatS.at (by rw [← ht]; simp; omega) ?_
    (conv => whnf); repeat ((first | refine tk1 ?_ | refine tk2 ?_ | refine tk3 ?_ | refine tk12 (fun _ => ?_) | refine tk4 ?_ | refine tk5 ?_ | refine tk6 ?_ | refine tk7 ?_ | refine tk8 ?_ | refine tk9 ?_ | refine tk10 (fun _ _ => ?_) | refine tk11 (fun _ => ?_) | refine tk13 ?_ | refine tk14 ?_); (conv => whnf))
    refine CatS.at (by rw [← ht]; simp; omega) ?_
    (conv => whnf); repeat ((first | refine tk1 ?_ | refine tk2 ?_ | refine tk3 ?_ | refine tk12 (fun _ => ?_) | refine tk4 ?_ | refine tk5 ?_ | refine tk6 ?_ | refine tk7 ?_ | refine tk8 ?_ | refine tk9 ?_ | refine tk10 (fun _ _ => ?_) | refine tk11 (fun _ => ?_) | refine tk13 ?_ | refine tk14 ?_); (conv => whnf))
    refine CallQ.fn (Itoa_f r.v h0 h1) ?_
    (conv => whnf); repeat ((first | refine tk1 ?_ | refine tk2 ?_ | refine tk3 ?_ | refine tk12 (fun _ => ?_) | refine tk4 ?_ | refine tk5 ?_ | refine tk6 ?_ | refine tk7 ?_ | refine tk8 ?_ | refine tk9 ?_ | refine tk10 (fun _ _ => ?_) | refine tk11 (fun _ => ?_) | refine tk13 ?_ | refine tk14 ?_); (conv => whnf))
    refine CatS.at (by rw [← ht]; simp; omega) ?_
    (conv => whnf); repeat ((first | refine tk1 ?_ | refine tk2 ?_ | refine tk3 ?_ | refine tk12 (fun _ => ?_) | refine tk4 ?_ | refine tk5 ?_ | refine tk6 ?_ | refine tk7 ?_ | refine tk8 ?_ | refine tk9 ?_ | refine tk10 (fun _ _ => ?_) | refine tk11 (fun _ => ?_) | refine tk13 ?_ | refine tk14 ?_); (conv => whnf))
    refine DrawS.go ([(1, true), (2, true), (0, false)] ++ (List.range 29).map fun i => (i + 3, true)) tys_ok mixed (by kernel_rfl) ?_
    (conv => whnf); repeat ((first | refine tk1 ?_ | refine tk2 ?_ | refine tk3 ?_ | refine tk12 (fun _ => ?_) | refine tk4 ?_ | refine tk5 ?_ | refine tk6 ?_ | refine tk7 ?_ | refine tk8 ?_ | refine tk9 ?_ | refine tk10 (fun _ _ => ?_) | refine tk11 (fun _ => ?_) | refine tk13 ?_ | refine tk14 ?_); (conv => whnf))
    refine CallK.fnS methods_f trivial (fun A cp => ?_)
    (conv => whnf); repeat ((first | refine tk1 ?_ | refine tk2 ?_ | refine tk3 ?_ | refine tk12 (fun _ => ?_) | refine tk4 ?_ | refine tk5 ?_ | refine tk6 ?_ | refine tk7 ?_ | refine tk8 ?_ | refine tk9 ?_ | refine tk10 (fun _ _ => ?_) | refine tk11 (fun _ => ?_) | refine tk13 ?_ | refine tk14 ?_); (conv => whnf))
    refine CallQ.fnR (Contains_f A cp methodsL r.m (by decide)) ⟨RdA.ok, trivial⟩ ?_
    have hmm : methodsL.contains r.m = methodOf r.m := rfl
    rw [hmm]
    cases c1 : methodOf r.m
    · rw [bad (by unfold writeOK; rw [c1]; rfl)]
      (conv => whnf); repeat ((first | refine tk1 ?_ | refine tk2 ?_ | refine tk3 ?_ | refine tk12 (fun _ => ?_) | refine tk4 ?_ | refine tk5 ?_ | refine tk6 ?_ | refine tk7 ?_ | refine tk8 ?_ | refine tk9 ?_ | refine tk10 (fun _ _ => ?_) | refine tk11 (fun _ => ?_) | refine tk13 ?_ | refine tk14 ?_); (conv => whnf))
    (conv => whnf); repeat ((first | refine tk1 ?_ | refine tk2 ?_ | refine tk3 ?_ | refine tk12 (fun _ => ?_) | refine tk4 ?_ | refine tk5 ?_ | refine tk6 ?_ | refine tk7 ?_ | refine tk8 ?_ | refine tk9 ?_ | refine tk10 (fun _ _ => ?_) | refine tk11 (fun _ => ?_) | refine tk13 ?_ | refine tk14 ?_); (conv => whnf))
    refine CallQ.fn (Path_f r.p (by omega)) ?_
    cases c2 : pathOf r.p
    · rw [bad (by unfold writeOK; rw [c2]; simp)]
      (conv => whnf); repeat ((first | refine tk1 ?_ | refine tk2 ?_ | refine tk3 ?_ | refine tk12 (fun _ => ?_) | refine tk4 ?_ | refine tk5 ?_ | refine tk6 ?_ | refine tk7 ?_ | refine tk8 ?_ | refine tk9 ?_ | refine tk10 (fun _ _ => ?_) | refine tk11 (fun _ => ?_) | refine tk13 ?_ | refine tk14 ?_); (conv => whnf))
    (conv => whnf); repeat ((first | refine tk1 ?_ | refine tk2 ?_ | refine tk3 ?_ | refine tk12 (fun _ => ?_) | refine tk4 ?_ | refine tk5 ?_ | refine tk6 ?_ | refine tk7 ?_ | refine tk8 ?_ | refine tk9 ?_ | refine tk10 (fun _ _ => ?_) | refine tk11 (fun _ => ?_) | refine tk13 ?_ | refine tk14 ?_); (conv => whnf))
    refine CallQ.fn (Query_f r.q (by omega)) ?_
    cases c3 : queryOf r.q
    · rw [bad (by unfold writeOK; rw [c3]; simp)]
      (conv => whnf); repeat ((first | refine tk1 ?_ | refine tk2 ?_ | refine tk3 ?_ | refine tk12 (fun _ => ?_) | refine tk4 ?_ | refine tk5 ?_ | refine tk6 ?_ | refine tk7 ?_ | refine tk8 ?_ | refine tk9 ?_ | refine tk10 (fun _ _ => ?_) | refine tk11 (fun _ => ?_) | refine tk13 ?_ | refine tk14 ?_); (conv => whnf))
    (conv => whnf); repeat ((first | refine tk1 ?_ | refine tk2 ?_ | refine tk3 ?_ | refine tk12 (fun _ => ?_) | refine tk4 ?_ | refine tk5 ?_ | refine tk6 ?_ | refine tk7 ?_ | refine tk8 ?_ | refine tk9 ?_ | refine tk10 (fun _ _ => ?_) | refine tk11 (fun _ => ?_) | refine tk13 ?_ | refine tk14 ?_); (conv => whnf))
    refine Cmp.cases (fun c4 => ?_) (fun c4 => ?_)
    · rw [bad (by unfold writeOK; rw [decide_eq_false (show ¬ 0 ≤ r.v by omega)]; simp)]
      (conv => whnf); repeat ((first | refine tk1 ?_ | refine tk2 ?_ | refine tk3 ?_ | refine tk12 (fun _ => ?_) | refine tk4 ?_ | refine tk5 ?_ | refine tk6 ?_ | refine tk7 ?_ | refine tk8 ?_ | refine tk9 ?_ | refine tk10 (fun _ _ => ?_) | refine tk11 (fun _ => ?_) | refine tk13 ?_ | refine tk14 ?_); (conv => whnf))
    (conv => whnf); repeat ((first | refine tk1 ?_ | refine tk2 ?_ | refine tk3 ?_ | refine tk12 (fun _ => ?_) | refine tk4 ?_ | refine tk5 ?_ | refine tk6 ?_ | refine tk7 ?_ | refine tk8 ?_ | refine tk9 ?_ | refine tk10 (fun _ _ => ?_) | refine tk11 (fun _ => ?_) | refine tk13 ?_ | refine tk14 ?_); (conv => whnf))
    refine Cmp.cases (fun c5 => ?_) (fun c5 => ?_)
    · rw [bad (by unfold writeOK; rw [decide_eq_false (show ¬ r.v ≤ 1 by omega)]; simp)]
      (conv => whnf); repeat ((first | refine tk1 ?_ | refine tk2 ?_ | refine tk3 ?_ | refine tk12 (fun _ => ?_) | refine tk4 ?_ | refine tk5 ?_ | refine tk6 ?_ | refine tk7 ?_ | refine tk8 ?_ | refine tk9 ?_ | refine tk10 (fun _ _ => ?_) | refine tk11 (fun _ => ?_) | refine tk13 ?_ | refine tk14 ?_); (conv => whnf))
    have hv : r.v = 0 ∨ r.v = 1 := by omega
    have hw : r.m ++ [32] ++ (r.p) ++ [32, 72, 84, 84, 80, 47, 49, 46] ++ Lib.itoa r.v = writeL r := by unfold writeL; rw [itoa_01 hv, ht]
    rw [hw]
    (conv => whnf); repeat ((first | refine tk1 ?_ | refine tk2 ?_ | refine tk3 ?_ | refine tk12 (fun _ => ?_) | refine tk4 ?_ | refine tk5 ?_ | refine tk6 ?_ | refine tk7 ?_ | refine tk8 ?_ | refine tk9 ?_ | refine tk10 (fun _ _ => ?_) | refine tk11 (fun _ => ?_) | refine tk13 ?_ | refine tk14 ?_); (conv => whnf))
    refine Cmp.cases (fun c6 => ?_) (fun c6 => ?_)
    · rw [bad (by unfold writeOK; rw [decide_eq_false (show ¬ (writeL r).length ≤ 4096 by omega)]; simp)]
      (conv => whnf); repeat ((first | refine tk1 ?_ | refine tk2 ?_ | refine tk3 ?_ | refine tk12 (fun _ => ?_) | refine tk4 ?_ | refine tk5 ?_ | refine tk6 ?_ | refine tk7 ?_ | refine tk8 ?_ | refine tk9 ?_ | refine tk10 (fun _ _ => ?_) | refine tk11 (fun _ => ?_) | refine tk13 ?_ | refine tk14 ?_); (conv => whnf))
    · have hok : writeOK r = true := by
        unfold writeOK
        rw [c1, c2, c3, decide_eq_true (show 0 ≤ r.v by omega), decide_eq_true (show r.v ≤ 1 by omega), decide_eq_true (show (writeL r).length ≤ 4096 by omega)]
        rfl
      (conv => whnf); repeat ((first | refine tk1 ?_ | refine tk2 ?_ | refine tk3 ?_ | refine tk12 (fun _ => ?_) | refine tk4 ?_ | refine tk5 ?_ | refine tk6 ?_ | refine tk7 ?_ | refine tk8 ?_ | refine tk9 ?_ | refine tk10 (fun _ _ => ?_) | refine tk11 (fun _ => ?_) | refine tk13 ?_ | refine tk14 ?_); (conv => whnf))
      simp [writeS, writeE, hok]
  · have ht : targetOf r = r.p ++ ([63] ++ r.q) := by unfold targetOf; rw [if_neg hq0]; rfl
    refine Cmp.t hq0 ?_
    (conv => whnf); repeat ((first | refine tk1 ?_ | refine tk2 ?_ | refine tk3 ?_ | refine tk12 (fun _ => ?_) | refine tk4 ?_ | refine tk5 ?_ | refine tk6 ?_ | refine tk7 ?_ | refine tk8 ?_ | refine tk9 ?_ | refine tk10 (fun _ _ => ?_) | refine tk11 (fun _ => ?_) | refine tk13 ?_ | refine tk14 ?_); (conv => whnf))
    refine CatS.at (by simp; omega) ?_
    (conv => whnf); repeat ((first | refine tk1 ?_ | refine tk2 ?_ | refine tk3 ?_ | refine tk12 (fun _ => ?_) | refine tk4 ?_ | refine tk5 ?_ | refine tk6 ?_ | refine tk7 ?_ | refine tk8 ?_ | refine tk9 ?_ | refine tk10 (fun _ _ => ?_) | refine tk11 (fun _ => ?_) | refine tk13 ?_ | refine tk14 ?_); (conv => whnf))
    refine CatS.at (by simp; omega) ?_
    (conv => whnf); repeat ((first | refine tk1 ?_ | refine tk2 ?_ | refine tk3 ?_ | refine tk12 (fun _ => ?_) | refine tk4 ?_ | refine tk5 ?_ | refine tk6 ?_ | refine tk7 ?_ | refine tk8 ?_ | refine tk9 ?_ | refine tk10 (fun _ _ => ?_) | refine tk11 (fun _ => ?_) | refine tk13 ?_ | refine tk14 ?_); (conv => whnf))
    refine DrawS.go (qs 11) tys_ok mixed (by kernel_rfl) ?_
    (conv => whnf); repeat ((first | refine tk1 ?_ | refine tk2 ?_ | refine tk3 ?_ | refine tk12 (fun _ => ?_) | refine tk4 ?_ | refine tk5 ?_ | refine tk6 ?_ | refine tk7 ?_ | refine tk8 ?_ | refine tk9 ?_ | refine tk10 (fun _ _ => ?_) | refine tk11 (fun _ => ?_) | refine tk13 ?_ | refine tk14 ?_); (conv => whnf))
    refine CatS.at (by simp; omega) ?_
    (conv => whnf); repeat ((first | refine tk1 ?_ | refine tk2 ?_ | refine tk3 ?_ | refine tk12 (fun _ => ?_) | refine tk4 ?_ | refine tk5 ?_ | refine tk6 ?_ | refine tk7 ?_ | refine tk8 ?_ | refine tk9 ?_ | refine tk10 (fun _ _ => ?_) | refine tk11 (fun _ => ?_) | refine tk13 ?_ | refine tk14 ?_); (conv => whnf))
    refine CatS.at (by rw [← ht]; simp; omega) ?_
    (conv => whnf); repeat ((first | refine tk1 ?_ | refine tk2 ?_ | refine tk3 ?_ | refine tk12 (fun _ => ?_) | refine tk4 ?_ | refine tk5 ?_ | refine tk6 ?_ | refine tk7 ?_ | refine tk8 ?_ | refine tk9 ?_ | refine tk10 (fun _ _ => ?_) | refine tk11 (fun _ => ?_) | refine tk13 ?_ | refine tk14 ?_); (conv => whnf))
    refine CatS.at (by rw [← ht]; simp; omega) ?_
    (conv => whnf); repeat ((first | refine tk1 ?_ | refine tk2 ?_ | refine tk3 ?_ | refine tk12 (fun _ => ?_) | refine tk4 ?_ | refine tk5 ?_ | refine tk6 ?_ | refine tk7 ?_ | refine tk8 ?_ | refine tk9 ?_ | refine tk10 (fun _ _ => ?_) | refine tk11 (fun _ => ?_) | refine tk13 ?_ | refine tk14 ?_); (conv => whnf))
    refine CallQ.fn (Itoa_f r.v h0 h1) ?_
    (conv => whnf); repeat ((first | refine tk1 ?_ | refine tk2 ?_ | refine tk3 ?_ | refine tk12 (fun _ => ?_) | refine tk4 ?_ | refine tk5 ?_ | refine tk6 ?_ | refine tk7 ?_ | refine tk8 ?_ | refine tk9 ?_ | refine tk10 (fun _ _ => ?_) | refine tk11 (fun _ => ?_) | refine tk13 ?_ | refine tk14 ?_); (conv => whnf))
    refine CatS.at (by rw [← ht]; simp; omega) ?_
    (conv => whnf); repeat ((first | refine tk1 ?_ | refine tk2 ?_ | refine tk3 ?_ | refine tk12 (fun _ => ?_) | refine tk4 ?_ | refine tk5 ?_ | refine tk6 ?_ | refine tk7 ?_ | refine tk8 ?_ | refine tk9 ?_ | refine tk10 (fun _ _ => ?_) | refine tk11 (fun _ => ?_) | refine tk13 ?_ | refine tk14 ?_); (conv => whnf))
    refine DrawS.go ([(1, true), (2, true), (0, false)] ++ (List.range 29).map fun i => (i + 3, true)) tys_ok mixed (by kernel_rfl) ?_
    (conv => whnf); repeat ((first | refine tk1 ?_ | refine tk2 ?_ | refine tk3 ?_ | refine tk12 (fun _ => ?_) | refine tk4 ?_ | refine tk5 ?_ | refine tk6 ?_ | refine tk7 ?_ | refine tk8 ?_ | refine tk9 ?_ | refine tk10 (fun _ _ => ?_) | refine tk11 (fun _ => ?_) | refine tk13 ?_ | refine tk14 ?_); (conv => whnf))
    refine CallK.fnS methods_f trivial (fun A cp => ?_)
    (conv => whnf); repeat ((first | refine tk1 ?_ | refine tk2 ?_ | refine tk3 ?_ | refine tk12 (fun _ => ?_) | refine tk4 ?_ | refine tk5 ?_ | refine tk6 ?_ | refine tk7 ?_ | refine tk8 ?_ | refine tk9 ?_ | refine tk10 (fun _ _ => ?_) | refine tk11 (fun _ => ?_) | refine tk13 ?_ | refine tk14 ?_); (conv => whnf))
    refine CallQ.fnR (Contains_f A cp methodsL r.m (by decide)) ⟨RdA.ok, trivial⟩ ?_
    have hmm : methodsL.contains r.m = methodOf r.m := rfl
    rw [hmm]
    cases c1 : methodOf r.m
    · rw [bad (by unfold writeOK; rw [c1]; rfl)]
      (conv => whnf); repeat ((first | refine tk1 ?_ | refine tk2 ?_ | refine tk3 ?_ | refine tk12 (fun _ => ?_) | refine tk4 ?_ | refine tk5 ?_ | refine tk6 ?_ | refine tk7 ?_ | refine tk8 ?_ | refine tk9 ?_ | refine tk10 (fun _ _ => ?_) | refine tk11 (fun _ => ?_) | refine tk13 ?_ | refine tk14 ?_); (conv => whnf))
    (conv => whnf); repeat ((first | refine tk1 ?_ | refine tk2 ?_ | refine tk3 ?_ | refine tk12 (fun _ => ?_) | refine tk4 ?_ | refine tk5 ?_ | refine tk6 ?_ | refine tk7 ?_ | refine tk8 ?_ | refine tk9 ?_ | refine tk10 (fun _ _ => ?_) | refine tk11 (fun _ => ?_) | refine tk13 ?_ | refine tk14 ?_); (conv => whnf))
    refine CallQ.fn (Path_f r.p (by omega)) ?_
    cases c2 : pathOf r.p
    · rw [bad (by unfold writeOK; rw [c2]; simp)]
      (conv => whnf); repeat ((first | refine tk1 ?_ | refine tk2 ?_ | refine tk3 ?_ | refine tk12 (fun _ => ?_) | refine tk4 ?_ | refine tk5 ?_ | refine tk6 ?_ | refine tk7 ?_ | refine tk8 ?_ | refine tk9 ?_ | refine tk10 (fun _ _ => ?_) | refine tk11 (fun _ => ?_) | refine tk13 ?_ | refine tk14 ?_); (conv => whnf))
    (conv => whnf); repeat ((first | refine tk1 ?_ | refine tk2 ?_ | refine tk3 ?_ | refine tk12 (fun _ => ?_) | refine tk4 ?_ | refine tk5 ?_ | refine tk6 ?_ | refine tk7 ?_ | refine tk8 ?_ | refine tk9 ?_ | refine tk10 (fun _ _ => ?_) | refine tk11 (fun _ => ?_) | refine tk13 ?_ | refine tk14 ?_); (conv => whnf))
    refine CallQ.fn (Query_f r.q (by omega)) ?_
    cases c3 : queryOf r.q
    · rw [bad (by unfold writeOK; rw [c3]; simp)]
      (conv => whnf); repeat ((first | refine tk1 ?_ | refine tk2 ?_ | refine tk3 ?_ | refine tk12 (fun _ => ?_) | refine tk4 ?_ | refine tk5 ?_ | refine tk6 ?_ | refine tk7 ?_ | refine tk8 ?_ | refine tk9 ?_ | refine tk10 (fun _ _ => ?_) | refine tk11 (fun _ => ?_) | refine tk13 ?_ | refine tk14 ?_); (conv => whnf))
    (conv => whnf); repeat ((first | refine tk1 ?_ | refine tk2 ?_ | refine tk3 ?_ | refine tk12 (fun _ => ?_) | refine tk4 ?_ | refine tk5 ?_ | refine tk6 ?_ | refine tk7 ?_ | refine tk8 ?_ | refine tk9 ?_ | refine tk10 (fun _ _ => ?_) | refine tk11 (fun _ => ?_) | refine tk13 ?_ | refine tk14 ?_); (conv => whnf))
    refine Cmp.cases (fun c4 => ?_) (fun c4 => ?_)
    · rw [bad (by unfold writeOK; rw [decide_eq_false (show ¬ 0 ≤ r.v by omega)]; simp)]
      (conv => whnf); repeat ((first | refine tk1 ?_ | refine tk2 ?_ | refine tk3 ?_ | refine tk12 (fun _ => ?_) | refine tk4 ?_ | refine tk5 ?_ | refine tk6 ?_ | refine tk7 ?_ | refine tk8 ?_ | refine tk9 ?_ | refine tk10 (fun _ _ => ?_) | refine tk11 (fun _ => ?_) | refine tk13 ?_ | refine tk14 ?_); (conv => whnf))
    (conv => whnf); repeat ((first | refine tk1 ?_ | refine tk2 ?_ | refine tk3 ?_ | refine tk12 (fun _ => ?_) | refine tk4 ?_ | refine tk5 ?_ | refine tk6 ?_ | refine tk7 ?_ | refine tk8 ?_ | refine tk9 ?_ | refine tk10 (fun _ _ => ?_) | refine tk11 (fun _ => ?_) | refine tk13 ?_ | refine tk14 ?_); (conv => whnf))
    refine Cmp.cases (fun c5 => ?_) (fun c5 => ?_)
    · rw [bad (by unfold writeOK; rw [decide_eq_false (show ¬ r.v ≤ 1 by omega)]; simp)]
      (conv => whnf); repeat ((first | refine tk1 ?_ | refine tk2 ?_ | refine tk3 ?_ | refine tk12 (fun _ => ?_) | refine tk4 ?_ | refine tk5 ?_ | refine tk6 ?_ | refine tk7 ?_ | refine tk8 ?_ | refine tk9 ?_ | refine tk10 (fun _ _ => ?_) | refine tk11 (fun _ => ?_) | refine tk13 ?_ | refine tk14 ?_); (conv => whnf))
    have hv : r.v = 0 ∨ r.v = 1 := by omega
    have hw : r.m ++ [32] ++ (r.p ++ ([63] ++ r.q)) ++ [32, 72, 84, 84, 80, 47, 49, 46] ++ Lib.itoa r.v = writeL r := by unfold writeL; rw [itoa_01 hv, ht]
    rw [hw]
    (conv => whnf); repeat ((first | refine tk1 ?_ | refine tk2 ?_ | refine tk3 ?_ | refine tk12 (fun _ => ?_) | refine tk4 ?_ | refine tk5 ?_ | refine tk6 ?_ | refine tk7 ?_ | refine tk8 ?_ | refine tk9 ?_ | refine tk10 (fun _ _ => ?_) | refine tk11 (fun _ => ?_) | refine tk13 ?_ | refine tk14 ?_); (conv => whnf))
    refine Cmp.cases (fun c6 => ?_) (fun c6 => ?_)
    · rw [bad (by unfold writeOK; rw [decide_eq_false (show ¬ (writeL r).length ≤ 4096 by omega)]; simp)]
      (conv => whnf); repeat ((first | refine tk1 ?_ | refine tk2 ?_ | refine tk3 ?_ | refine tk12 (fun _ => ?_) | refine tk4 ?_ | refine tk5 ?_ | refine tk6 ?_ | refine tk7 ?_ | refine tk8 ?_ | refine tk9 ?_ | refine tk10 (fun _ _ => ?_) | refine tk11 (fun _ => ?_) | refine tk13 ?_ | refine tk14 ?_); (conv => whnf))
    · have hok : writeOK r = true := by
        unfold writeOK
        rw [c1, c2, c3, decide_eq_true (show 0 ≤ r.v by omega), decide_eq_true (show r.v ≤ 1 by omega), decide_eq_true (show (writeL r).length ≤ 4096 by omega)]
        rfl
      (conv => whnf); repeat ((first | refine tk1 ?_ | refine tk2 ?_ | refine tk3 ?_ | refine tk12 (fun _ => ?_) | refine tk4 ?_ | refine tk5 ?_ | refine tk6 ?_ | refine tk7 ?_ | refine tk8 ?_ | refine tk9 ?_ | refine tk10 (fun _ _ => ?_) | refine tk11 (fun _ => ?_) | refine tk13 ?_ | refine tk14 ?_); (conv => whnf))
      simp [writeS, writeE, hok]
end Go.Proofs.YtmdmmncoigeijaaGreatDoor.Vex
/- line.Quote, line.unquoted, line.Segments, reckoned. -/
namespace Go.Proofs.YtmdmmncoigeijaaGreatDoor.Vex
open Go Go.RowKit
set_option maxRecDepth 100000
set_option linter.unusedSectionVars false
variable {gI : GI} [HasMax gI] [HasErr gI]

theorem made_cut : ∀ (n : Nat) (a b : List UInt8), a.length ≤ n → madeOf pathL (a ++ 47 :: b) = true → madeOf pathL a = true ∧ madeOf pathL b = true
  | _, [], b, _, h => by
    rcases made_x pathL path_37 47 b h with ⟨_, _, h2⟩ | ⟨_, _, _, h, _⟩
    · exact ⟨rfl, h2⟩
    · cases h
  | 0, x :: r, _, hl, _ => by simp at hl
  | n + 1, x :: r, b, hl, h => by
    rcases made_x pathL path_37 x (r ++ 47 :: b) h with ⟨hx, h1, h2⟩ | ⟨p, q, t, rfl, hr, h1, h2, h3⟩
    · have ih := made_cut n r b (by simpa using hl) h2
      rw [made_cons pathL x _ hx, h1, ih.1]
      exact ⟨rfl, ih.2⟩
    · match r with
      | [] =>
        cases hr
        exact absurd h1 (by decide)
      | [y] =>
        cases hr
        exact absurd h2 (by decide)
      | y :: z :: r =>
        cases hr
        have ih := made_cut n r b (by simp at hl; omega) h3
        rw [made_37 pathL path_37]
        simp [h1, h2, ih.1, ih.2]
theorem quoteB_le (x : UInt8) : (quoteB x).length ≤ 3 := by unfold quoteB; split <;> simp
theorem quote_le (l : List UInt8) : (quoteOf l).length ≤ 3 * l.length := by
  induction l with
  | nil => simp [quoteOf]
  | cons x r ih =>
    have := quoteB_le x
    simp only [quoteOf, List.flatMap_cons, List.length_append, List.length_cons] at ih ⊢
    omega
theorem quote_take (s : List UInt8) (k : Nat) (h : k < s.length) : quoteOf (s.take (k + 1)) = quoteOf (s.take k) ++ quoteB s[k] := by
  unfold quoteOf
  rw [List.take_succ_eq_append_getElem h, List.flatMap_append]
  simp
def hexT : List UInt8 := [48, 49, 50, 51, 52, 53, 54, 55, 56, 57, 65, 66, 67, 68, 69, 70]
theorem hexT_at (n : Nat) (h : n < 16) : hexT[n]? = some (hexD n) := by
  have : ∀ n : Fin 16, hexT[n.val]? = some (hexD n.val) := by decide
  exact this ⟨n, h⟩
theorem and_15 (x : UInt8) : ((x.toNat % 16 : Nat) : Int) = bits .and .u8 x.toNat 15 := by
  have : ∀ n : Fin 256, ((n.val % 16 : Nat) : Int) = bits .and .u8 n.val 15 := by decide +kernel
  exact this ⟨x.toNat, x.toNat_lt⟩
def segPost (s : List UInt8) (w : World) (v : Value) (w' : World) : Prop := ∃ u, v = .tuple #[u, .int .i64 (segE s)] ∧ rowPost 9 1 (segO s).length ((segO s).map str) w u w'
end Go.Proofs.YtmdmmncoigeijaaGreatDoor.Vex
