/- The references' functions on texts, reckoned. -/
import Derived.Test.YtbgnogdlkmhnkaaGreatDoorMChunkNames2
import Derived.Test.YtbgnogdlkmhnkaaGreatDoorRows
import Derived.Lib.LaidU8
import Derived.LaidLaws
import Derived.MakeChecks
import Derived.Lib.ItoaNum
import Derived.RangeFuncRecord
import Derived.Laws.RangeString
import Derived.Lib.Join
import Derived.Laws.MakeOwn
import Derived.Laws.CopyRow
import Derived.Lib.Bytealg
import Derived.Laws.Runes
import Derived.Shelf.Spec.DecodeRune
import Derived.Lib.LaidU8T
namespace Go.Proofs.YtbgnogdlkmhnkaaGreatDoor.Vex
open Go Go.RowKit
set_option maxRecDepth 100000
set_option linter.unusedSectionVars false
variable {gI : GI} [HasMax gI]

theorem byte_le (x : UInt8) : ((x.toNat : Nat) : Int) ≤ 255 := by have := x.toNat_lt; omega
theorem Letter_r (x : Int) : Fn Tryz.prog gI 122 [.int .u8 x] (.bool (smallI x || greatI x)) := by
  refine Fn.of tys_ok Tryz.func122 rfl (by kernel_rfl) rfl rfl ?_; intro w hG
  repeat' ((conv => whnf); first | (first | refine tk1 ?_ | refine tk2 ?_ | refine tk3 ?_ | refine tk12 (fun _ => ?_) | refine tk4 ?_ | refine tk5 ?_ | refine tk6 ?_ | refine tk7 ?_ | refine tk8 ?_ | refine tk9 ?_ | refine tk10 (fun _ _ => ?_) | refine tk11 (fun _ => ?_) | refine tk13 ?_ | refine tk14 ?_) | refine Cmp.cases (fun _ => ?_) (fun _ => ?_)); all_goals (conv => whnf)
  all_goals first | rfl | (refine congrArg Value.bool ?_; first | (simp [smallI, greatI, *]; done) | (rw [Bool.eq_iff_iff]; simp [smallI, greatI]; omega) | (rw [Bool.eq_iff_iff]; simp [smallI, greatI, *]; done) | (rw [Bool.eq_iff_iff]; simp [smallI, greatI, *]; omega))
theorem Blank_r (x : Int) : Fn Tryz.prog gI 107 [.int .u8 x] (.bool (x == 32 || x == 9)) := by
  refine Fn.of tys_ok Tryz.func107 rfl (by kernel_rfl) rfl rfl ?_; intro w hG
  repeat' ((conv => whnf); first | (first | refine tk1 ?_ | refine tk2 ?_ | refine tk3 ?_ | refine tk12 (fun _ => ?_) | refine tk4 ?_ | refine tk5 ?_ | refine tk6 ?_ | refine tk7 ?_ | refine tk8 ?_ | refine tk9 ?_ | refine tk10 (fun _ _ => ?_) | refine tk11 (fun _ => ?_) | refine tk13 ?_ | refine tk14 ?_) | refine Cmp.cases (fun _ => ?_) (fun _ => ?_)); all_goals (conv => whnf)
  all_goals first | rfl | (refine congrArg Value.bool ?_; first | (simp [*]; done) | (rw [Bool.eq_iff_iff]; simp; omega))
theorem blank_is (x : UInt8) : (((x.toNat : Nat) : Int) == 32 || ((x.toNat : Nat) : Int) == 9) = blankB x := by
  unfold blankB blankI
  rw [Bool.eq_iff_iff]
theorem mark_r (x : Int) : Fn Tryz.prog gI 123 [.int .u8 x] (.bool (markI x)) := by
  refine Fn.of tys_ok Tryz.func123 rfl (by kernel_rfl) rfl rfl ?_; intro w hG
  (conv => whnf); repeat ((first | refine tk1 ?_ | refine tk2 ?_ | refine tk3 ?_ | refine tk12 (fun _ => ?_) | refine tk4 ?_ | refine tk5 ?_ | refine tk6 ?_ | refine tk7 ?_ | refine tk8 ?_ | refine tk9 ?_ | refine tk10 (fun _ _ => ?_) | refine tk11 (fun _ => ?_) | refine tk13 ?_ | refine tk14 ?_); (conv => whnf))
  refine LoopS.lp tys_ok (fun k u => [.int .u8 x, u 1, u 2, str marksL, .int .i64 (k : Nat), u 5, u 6, u 7, u 8, u 9, u 10, u 11, u 12, u 13, u 14, u 15]) (fun _ => [])
    (fun k => k ≤ 15 ∧ markI x = ((marksL.drop k).any fun m => ((m.toNat : Nat) : Int) == x)) (fun k => 15 - k) 0 ⟨by omega, rfl⟩ rfl (by repeat' (first | exact List.Sublist.refl _ | exact List.nil_sublist _ | apply List.Sublist.cons_cons | apply List.Sublist.cons)) ?_
  intro k u ⟨hk, hI⟩
  have hz : marksL.length = 15 := rfl
  (conv => whnf); repeat ((first | refine tk1 ?_ | refine tk2 ?_ | refine tk3 ?_ | refine tk12 (fun _ => ?_) | refine tk4 ?_ | refine tk5 ?_ | refine tk6 ?_ | refine tk7 ?_ | refine tk8 ?_ | refine tk9 ?_ | refine tk10 (fun _ _ => ?_) | refine tk11 (fun _ => ?_) | refine tk13 ?_ | refine tk14 ?_); (conv => whnf))
  refine Cmp.cases (fun hlt => ?_) (fun hlt => ?_)
  · have hd : marksL.drop k = marksL[k]'(by omega) :: marksL.drop (k + 1) := List.drop_eq_getElem_cons (by omega)
    (conv => whnf); repeat ((first | refine tk1 ?_ | refine tk2 ?_ | refine tk3 ?_ | refine tk12 (fun _ => ?_) | refine tk4 ?_ | refine tk5 ?_ | refine tk6 ?_ | refine tk7 ?_ | refine tk8 ?_ | refine tk9 ?_ | refine tk10 (fun _ _ => ?_) | refine tk11 (fun _ => ?_) | refine tk13 ?_ | refine tk14 ?_); (conv => whnf))
    refine IdxS.at (marksL[k]'(by omega)) (List.getElem?_eq_getElem _) (by omega) ?_
    (conv => whnf); repeat ((first | refine tk1 ?_ | refine tk2 ?_ | refine tk3 ?_ | refine tk12 (fun _ => ?_) | refine tk4 ?_ | refine tk5 ?_ | refine tk6 ?_ | refine tk7 ?_ | refine tk8 ?_ | refine tk9 ?_ | refine tk10 (fun _ _ => ?_) | refine tk11 (fun _ => ?_) | refine tk13 ?_ | refine tk14 ?_); (conv => whnf))
    refine Cmp.cases (fun hq => ?_) (fun hq => ?_)
    · (conv => whnf); repeat ((first | refine tk1 ?_ | refine tk2 ?_ | refine tk3 ?_ | refine tk12 (fun _ => ?_) | refine tk4 ?_ | refine tk5 ?_ | refine tk6 ?_ | refine tk7 ?_ | refine tk8 ?_ | refine tk9 ?_ | refine tk10 (fun _ _ => ?_) | refine tk11 (fun _ => ?_) | refine tk13 ?_ | refine tk14 ?_); (conv => whnf))
      rw [hI, hd, List.any_cons, hq]; simp
    · (conv => whnf); repeat ((first | refine tk1 ?_ | refine tk2 ?_ | refine tk3 ?_ | refine tk12 (fun _ => ?_) | refine tk4 ?_ | refine tk5 ?_ | refine tk6 ?_ | refine tk7 ?_ | refine tk8 ?_ | refine tk9 ?_ | refine tk10 (fun _ _ => ?_) | refine tk11 (fun _ => ?_) | refine tk13 ?_ | refine tk14 ?_); (conv => whnf))
      exact ⟨k + 1, ⟨by omega, by rw [hI, hd, List.any_cons, beq_false_of_ne hq]; rfl⟩, rfl, (by repeat' (first | exact List.Sublist.refl _ | exact List.nil_sublist _ | apply List.Sublist.cons_cons | apply List.Sublist.cons)), by dsimp only; omega⟩
  · (conv => whnf); repeat ((first | refine tk1 ?_ | refine tk2 ?_ | refine tk3 ?_ | refine tk12 (fun _ => ?_) | refine tk4 ?_ | refine tk5 ?_ | refine tk6 ?_ | refine tk7 ?_ | refine tk8 ?_ | refine tk9 ?_ | refine tk10 (fun _ _ => ?_) | refine tk11 (fun _ => ?_) | refine tk13 ?_ | refine tk14 ?_); (conv => whnf))
    rw [hI, List.drop_eq_nil_of_le (by omega)]
    rfl
theorem Token_r (l : List UInt8) (hl : l.length ≤ 1000000000000) : Fn Tryz.prog gI 118 [str l] (.bool (tokenOf l)) := by
  refine Fn.of tys_ok Tryz.func118 rfl (by kernel_rfl) rfl rfl ?_; intro w hG
  (conv => whnf); repeat ((first | refine tk1 ?_ | refine tk2 ?_ | refine tk3 ?_ | refine tk12 (fun _ => ?_) | refine tk4 ?_ | refine tk5 ?_ | refine tk6 ?_ | refine tk7 ?_ | refine tk8 ?_ | refine tk9 ?_ | refine tk10 (fun _ _ => ?_) | refine tk11 (fun _ => ?_) | refine tk13 ?_ | refine tk14 ?_); (conv => whnf))
  refine LoopS.lp tys_ok (fun k u => [str l, u 1, u 2, .int .i64 (k : Nat), u 4, u 5, u 6, u 7, u 8, u 9, u 10, u 11, u 12, u 13, u 14, u 15, u 16, u 17, u 18, u 19, u 20, u 21, u 22, u 23, u 24]) (fun _ => [])
    (fun k => k ≤ l.length ∧ l.all tokB = (l.drop k).all tokB) (fun k => l.length - k) 0 ⟨Nat.zero_le _, rfl⟩ rfl (by repeat' (first | exact List.Sublist.refl _ | exact List.nil_sublist _ | apply List.Sublist.cons_cons | apply List.Sublist.cons)) ?_
  intro k u ⟨hk, hI⟩
  (conv => whnf); repeat ((first | refine tk1 ?_ | refine tk2 ?_ | refine tk3 ?_ | refine tk12 (fun _ => ?_) | refine tk4 ?_ | refine tk5 ?_ | refine tk6 ?_ | refine tk7 ?_ | refine tk8 ?_ | refine tk9 ?_ | refine tk10 (fun _ _ => ?_) | refine tk11 (fun _ => ?_) | refine tk13 ?_ | refine tk14 ?_); (conv => whnf))
  refine Cmp.cases (fun hlt => ?_) (fun hlt => ?_)
  · have hd : l.drop k = l[k]'(by omega) :: l.drop (k + 1) := List.drop_eq_getElem_cons (by omega)
    have ht : tokB (l[k]'(by omega)) = (smallI (l[k]'(by omega)).toNat || greatI (l[k]'(by omega)).toNat || markI (l[k]'(by omega)).toNat) := rfl
    (conv => whnf); repeat ((first | refine tk1 ?_ | refine tk2 ?_ | refine tk3 ?_ | refine tk12 (fun _ => ?_) | refine tk4 ?_ | refine tk5 ?_ | refine tk6 ?_ | refine tk7 ?_ | refine tk8 ?_ | refine tk9 ?_ | refine tk10 (fun _ _ => ?_) | refine tk11 (fun _ => ?_) | refine tk13 ?_ | refine tk14 ?_); (conv => whnf))
    refine IdxS.at (l[k]'(by omega)) (List.getElem?_eq_getElem _) (by omega) ?_
    (conv => whnf); repeat ((first | refine tk1 ?_ | refine tk2 ?_ | refine tk3 ?_ | refine tk12 (fun _ => ?_) | refine tk4 ?_ | refine tk5 ?_ | refine tk6 ?_ | refine tk7 ?_ | refine tk8 ?_ | refine tk9 ?_ | refine tk10 (fun _ _ => ?_) | refine tk11 (fun _ => ?_) | refine tk13 ?_ | refine tk14 ?_); (conv => whnf))
    refine CallK.fn (Letter_r _) ?_
    cases h1 : (smallI (l[k]'(by omega)).toNat || greatI (l[k]'(by omega)).toNat)
    · (conv => whnf); repeat ((first | refine tk1 ?_ | refine tk2 ?_ | refine tk3 ?_ | refine tk12 (fun _ => ?_) | refine tk4 ?_ | refine tk5 ?_ | refine tk6 ?_ | refine tk7 ?_ | refine tk8 ?_ | refine tk9 ?_ | refine tk10 (fun _ _ => ?_) | refine tk11 (fun _ => ?_) | refine tk13 ?_ | refine tk14 ?_); (conv => whnf))
      refine IdxS.at (l[k]'(by omega)) (List.getElem?_eq_getElem _) (by omega) ?_
      (conv => whnf); repeat ((first | refine tk1 ?_ | refine tk2 ?_ | refine tk3 ?_ | refine tk12 (fun _ => ?_) | refine tk4 ?_ | refine tk5 ?_ | refine tk6 ?_ | refine tk7 ?_ | refine tk8 ?_ | refine tk9 ?_ | refine tk10 (fun _ _ => ?_) | refine tk11 (fun _ => ?_) | refine tk13 ?_ | refine tk14 ?_); (conv => whnf))
      refine CallK.fn (mark_r _) ?_
      cases h2 : markI (l[k]'(by omega)).toNat
      · (conv => whnf); repeat ((first | refine tk1 ?_ | refine tk2 ?_ | refine tk3 ?_ | refine tk12 (fun _ => ?_) | refine tk4 ?_ | refine tk5 ?_ | refine tk6 ?_ | refine tk7 ?_ | refine tk8 ?_ | refine tk9 ?_ | refine tk10 (fun _ _ => ?_) | refine tk11 (fun _ => ?_) | refine tk13 ?_ | refine tk14 ?_); (conv => whnf))
        rw [show tokenOf l = false from by unfold tokenOf; rw [hI, hd, List.all_cons, ht, h1, h2]; exact Bool.and_false _]
      · (conv => whnf); repeat ((first | refine tk1 ?_ | refine tk2 ?_ | refine tk3 ?_ | refine tk12 (fun _ => ?_) | refine tk4 ?_ | refine tk5 ?_ | refine tk6 ?_ | refine tk7 ?_ | refine tk8 ?_ | refine tk9 ?_ | refine tk10 (fun _ _ => ?_) | refine tk11 (fun _ => ?_) | refine tk13 ?_ | refine tk14 ?_); (conv => whnf))
        exact ⟨k + 1, ⟨by omega, by rw [hI, hd, List.all_cons, ht, h1, h2]; rfl⟩, rfl, (by repeat' (first | exact List.Sublist.refl _ | exact List.nil_sublist _ | apply List.Sublist.cons_cons | apply List.Sublist.cons)), by dsimp only; omega⟩
    · (conv => whnf); repeat ((first | refine tk1 ?_ | refine tk2 ?_ | refine tk3 ?_ | refine tk12 (fun _ => ?_) | refine tk4 ?_ | refine tk5 ?_ | refine tk6 ?_ | refine tk7 ?_ | refine tk8 ?_ | refine tk9 ?_ | refine tk10 (fun _ _ => ?_) | refine tk11 (fun _ => ?_) | refine tk13 ?_ | refine tk14 ?_); (conv => whnf))
      exact ⟨k + 1, ⟨by omega, by rw [hI, hd, List.all_cons, ht, h1]; rfl⟩, rfl, (by repeat' (first | exact List.Sublist.refl _ | exact List.nil_sublist _ | apply List.Sublist.cons_cons | apply List.Sublist.cons)), by dsimp only; omega⟩
  · have h0 : l.all tokB = true := by rw [hI, List.drop_eq_nil_of_le (by omega)]; rfl
    (conv => whnf); repeat ((first | refine tk1 ?_ | refine tk2 ?_ | refine tk3 ?_ | refine tk12 (fun _ => ?_) | refine tk4 ?_ | refine tk5 ?_ | refine tk6 ?_ | refine tk7 ?_ | refine tk8 ?_ | refine tk9 ?_ | refine tk10 (fun _ _ => ?_) | refine tk11 (fun _ => ?_) | refine tk13 ?_ | refine tk14 ?_); (conv => whnf))
    refine Cmp.cases (fun hq => ?_) (fun hq => ?_)
    · (conv => whnf); repeat ((first | refine tk1 ?_ | refine tk2 ?_ | refine tk3 ?_ | refine tk12 (fun _ => ?_) | refine tk4 ?_ | refine tk5 ?_ | refine tk6 ?_ | refine tk7 ?_ | refine tk8 ?_ | refine tk9 ?_ | refine tk10 (fun _ _ => ?_) | refine tk11 (fun _ => ?_) | refine tk13 ?_ | refine tk14 ?_); (conv => whnf))
      cases l with
      | nil => simp at hq
      | cons a r => simp [tokenOf, h0]
    · (conv => whnf); repeat ((first | refine tk1 ?_ | refine tk2 ?_ | refine tk3 ?_ | refine tk12 (fun _ => ?_) | refine tk4 ?_ | refine tk5 ?_ | refine tk6 ?_ | refine tk7 ?_ | refine tk8 ?_ | refine tk9 ?_ | refine tk10 (fun _ _ => ?_) | refine tk11 (fun _ => ?_) | refine tk13 ?_ | refine tk14 ?_); (conv => whnf))
      obtain rfl : l = [] := List.eq_nil_of_length_eq_zero (by omega)
      rfl
theorem valB_is (x : UInt8) : valB x = !((decide (((x.toNat : Nat) : Int) < 32) && ((x.toNat : Nat) : Int) != 9) || ((x.toNat : Nat) : Int) == 127) := by
  have : ∀ n : Fin 256, valI ((n.val : Nat) : Int) = !((decide (((n.val : Nat) : Int) < 32) && ((n.val : Nat) : Int) != 9) || ((n.val : Nat) : Int) == 127) := by decide +kernel
  exact this ⟨x.toNat, x.toNat_lt⟩
theorem Value_r (l : List UInt8) (hl : l.length ≤ 1000000000000) : Fn Tryz.prog gI 119 [str l] (.bool (valueOf l)) := by
  refine Fn.of tys_ok Tryz.func119 rfl (by kernel_rfl) rfl rfl ?_; intro w hG
  (conv => whnf); repeat ((first | refine tk1 ?_ | refine tk2 ?_ | refine tk3 ?_ | refine tk12 (fun _ => ?_) | refine tk4 ?_ | refine tk5 ?_ | refine tk6 ?_ | refine tk7 ?_ | refine tk8 ?_ | refine tk9 ?_ | refine tk10 (fun _ _ => ?_) | refine tk11 (fun _ => ?_) | refine tk13 ?_ | refine tk14 ?_); (conv => whnf))
  refine LoopS.lp tys_ok (fun k u => [str l, u 1, u 2, .int .i64 (k : Nat), u 4, u 5, u 6, u 7, u 8, u 9, u 10, u 11, u 12, u 13, u 14, u 15, u 16, u 17, u 18, u 19, u 20, u 21, u 22, u 23, u 24, u 25, u 26, u 27, u 28, u 29, u 30, u 31, u 32, u 33, u 34, u 35, u 36, u 37, u 38, u 39, u 40, u 41, u 42, u 43]) (fun _ => [])
    (fun k => k ≤ l.length ∧ l.all valB = (l.drop k).all valB) (fun k => l.length - k) 0 ⟨Nat.zero_le _, rfl⟩ rfl (by repeat' (first | exact List.Sublist.refl _ | exact List.nil_sublist _ | apply List.Sublist.cons_cons | apply List.Sublist.cons)) ?_
  intro k u ⟨hk, hI⟩
  (conv => whnf); repeat ((first | refine tk1 ?_ | refine tk2 ?_ | refine tk3 ?_ | refine tk12 (fun _ => ?_) | refine tk4 ?_ | refine tk5 ?_ | refine tk6 ?_ | refine tk7 ?_ | refine tk8 ?_ | refine tk9 ?_ | refine tk10 (fun _ _ => ?_) | refine tk11 (fun _ => ?_) | refine tk13 ?_ | refine tk14 ?_); (conv => whnf))
  refine Cmp.cases (fun hlt => ?_) (fun hlt => ?_)
  · have hd : l.drop k = l[k]'(by omega) :: l.drop (k + 1) := List.drop_eq_getElem_cons (by omega)
    have ht := valB_is (l[k]'(by omega))
    have no : valB (l[k]'(by omega)) = false → valueOf l = false := fun h => by unfold valueOf; rw [hI, hd, List.all_cons, h]; exact Bool.and_false _
    have on : valB (l[k]'(by omega)) = true → l.all valB = (l.drop (k + 1)).all valB := fun h => by rw [hI, hd, List.all_cons, h]; rfl
    (conv => whnf); repeat ((first | refine tk1 ?_ | refine tk2 ?_ | refine tk3 ?_ | refine tk12 (fun _ => ?_) | refine tk4 ?_ | refine tk5 ?_ | refine tk6 ?_ | refine tk7 ?_ | refine tk8 ?_ | refine tk9 ?_ | refine tk10 (fun _ _ => ?_) | refine tk11 (fun _ => ?_) | refine tk13 ?_ | refine tk14 ?_); (conv => whnf))
    refine IdxS.at (l[k]'(by omega)) (List.getElem?_eq_getElem _) (by omega) ?_
    (conv => whnf); repeat ((first | refine tk1 ?_ | refine tk2 ?_ | refine tk3 ?_ | refine tk12 (fun _ => ?_) | refine tk4 ?_ | refine tk5 ?_ | refine tk6 ?_ | refine tk7 ?_ | refine tk8 ?_ | refine tk9 ?_ | refine tk10 (fun _ _ => ?_) | refine tk11 (fun _ => ?_) | refine tk13 ?_ | refine tk14 ?_); (conv => whnf))
    refine Cmp.cases (fun h1 => ?_) (fun h1 => ?_)
    · (conv => whnf); repeat ((first | refine tk1 ?_ | refine tk2 ?_ | refine tk3 ?_ | refine tk12 (fun _ => ?_) | refine tk4 ?_ | refine tk5 ?_ | refine tk6 ?_ | refine tk7 ?_ | refine tk8 ?_ | refine tk9 ?_ | refine tk10 (fun _ _ => ?_) | refine tk11 (fun _ => ?_) | refine tk13 ?_ | refine tk14 ?_); (conv => whnf))
      refine IdxS.at (l[k]'(by omega)) (List.getElem?_eq_getElem _) (by omega) ?_
      (conv => whnf); repeat ((first | refine tk1 ?_ | refine tk2 ?_ | refine tk3 ?_ | refine tk12 (fun _ => ?_) | refine tk4 ?_ | refine tk5 ?_ | refine tk6 ?_ | refine tk7 ?_ | refine tk8 ?_ | refine tk9 ?_ | refine tk10 (fun _ _ => ?_) | refine tk11 (fun _ => ?_) | refine tk13 ?_ | refine tk14 ?_); (conv => whnf))
      refine Cmp.cases (fun h2 => ?_) (fun h2 => ?_)
      · (conv => whnf); repeat ((first | refine tk1 ?_ | refine tk2 ?_ | refine tk3 ?_ | refine tk12 (fun _ => ?_) | refine tk4 ?_ | refine tk5 ?_ | refine tk6 ?_ | refine tk7 ?_ | refine tk8 ?_ | refine tk9 ?_ | refine tk10 (fun _ _ => ?_) | refine tk11 (fun _ => ?_) | refine tk13 ?_ | refine tk14 ?_); (conv => whnf))
        rw [no (by rw [ht]; simp; omega)]
      · (conv => whnf); repeat ((first | refine tk1 ?_ | refine tk2 ?_ | refine tk3 ?_ | refine tk12 (fun _ => ?_) | refine tk4 ?_ | refine tk5 ?_ | refine tk6 ?_ | refine tk7 ?_ | refine tk8 ?_ | refine tk9 ?_ | refine tk10 (fun _ _ => ?_) | refine tk11 (fun _ => ?_) | refine tk13 ?_ | refine tk14 ?_); (conv => whnf))
        refine IdxS.at (l[k]'(by omega)) (List.getElem?_eq_getElem _) (by omega) ?_
        (conv => whnf); repeat ((first | refine tk1 ?_ | refine tk2 ?_ | refine tk3 ?_ | refine tk12 (fun _ => ?_) | refine tk4 ?_ | refine tk5 ?_ | refine tk6 ?_ | refine tk7 ?_ | refine tk8 ?_ | refine tk9 ?_ | refine tk10 (fun _ _ => ?_) | refine tk11 (fun _ => ?_) | refine tk13 ?_ | refine tk14 ?_); (conv => whnf))
        exact ⟨k + 1, ⟨by omega, on (by rw [ht]; simp; omega)⟩, rfl, (by repeat' (first | exact List.Sublist.refl _ | exact List.nil_sublist _ | apply List.Sublist.cons_cons | apply List.Sublist.cons)), by dsimp only; omega⟩
    · (conv => whnf); repeat ((first | refine tk1 ?_ | refine tk2 ?_ | refine tk3 ?_ | refine tk12 (fun _ => ?_) | refine tk4 ?_ | refine tk5 ?_ | refine tk6 ?_ | refine tk7 ?_ | refine tk8 ?_ | refine tk9 ?_ | refine tk10 (fun _ _ => ?_) | refine tk11 (fun _ => ?_) | refine tk13 ?_ | refine tk14 ?_); (conv => whnf))
      refine IdxS.at (l[k]'(by omega)) (List.getElem?_eq_getElem _) (by omega) ?_
      (conv => whnf); repeat ((first | refine tk1 ?_ | refine tk2 ?_ | refine tk3 ?_ | refine tk12 (fun _ => ?_) | refine tk4 ?_ | refine tk5 ?_ | refine tk6 ?_ | refine tk7 ?_ | refine tk8 ?_ | refine tk9 ?_ | refine tk10 (fun _ _ => ?_) | refine tk11 (fun _ => ?_) | refine tk13 ?_ | refine tk14 ?_); (conv => whnf))
      refine Cmp.cases (fun h2 => ?_) (fun h2 => ?_)
      · (conv => whnf); repeat ((first | refine tk1 ?_ | refine tk2 ?_ | refine tk3 ?_ | refine tk12 (fun _ => ?_) | refine tk4 ?_ | refine tk5 ?_ | refine tk6 ?_ | refine tk7 ?_ | refine tk8 ?_ | refine tk9 ?_ | refine tk10 (fun _ _ => ?_) | refine tk11 (fun _ => ?_) | refine tk13 ?_ | refine tk14 ?_); (conv => whnf))
        rw [no (by rw [ht]; simp [h2])]
      · (conv => whnf); repeat ((first | refine tk1 ?_ | refine tk2 ?_ | refine tk3 ?_ | refine tk12 (fun _ => ?_) | refine tk4 ?_ | refine tk5 ?_ | refine tk6 ?_ | refine tk7 ?_ | refine tk8 ?_ | refine tk9 ?_ | refine tk10 (fun _ _ => ?_) | refine tk11 (fun _ => ?_) | refine tk13 ?_ | refine tk14 ?_); (conv => whnf))
        exact ⟨k + 1, ⟨by omega, on (by rw [ht]; simp; omega)⟩, rfl, (by repeat' (first | exact List.Sublist.refl _ | exact List.nil_sublist _ | apply List.Sublist.cons_cons | apply List.Sublist.cons)), by dsimp only; omega⟩
  · have h0 : l.all valB = true := by rw [hI, List.drop_eq_nil_of_le (by omega)]; rfl
    (conv => whnf); repeat ((first | refine tk1 ?_ | refine tk2 ?_ | refine tk3 ?_ | refine tk12 (fun _ => ?_) | refine tk4 ?_ | refine tk5 ?_ | refine tk6 ?_ | refine tk7 ?_ | refine tk8 ?_ | refine tk9 ?_ | refine tk10 (fun _ _ => ?_) | refine tk11 (fun _ => ?_) | refine tk13 ?_ | refine tk14 ?_); (conv => whnf))
    refine Cmp.cases (fun hq => ?_) (fun hq => ?_)
    · (conv => whnf); repeat ((first | refine tk1 ?_ | refine tk2 ?_ | refine tk3 ?_ | refine tk12 (fun _ => ?_) | refine tk4 ?_ | refine tk5 ?_ | refine tk6 ?_ | refine tk7 ?_ | refine tk8 ?_ | refine tk9 ?_ | refine tk10 (fun _ _ => ?_) | refine tk11 (fun _ => ?_) | refine tk13 ?_ | refine tk14 ?_); (conv => whnf))
      obtain rfl : l = [] := List.eq_nil_of_length_eq_zero (by omega)
      rfl
    · cases l with
      | nil => simp at hq
      | cons a r =>
        have hlast : (a :: r) = (a :: r).take r.length ++ [(a :: r)[r.length]'(by simp)] := by
          have := List.take_append_drop r.length (a :: r)
          rw [List.drop_eq_getElem_cons (by simp), List.drop_eq_nil_of_le (by simp)] at this
          exact this.symm
        have hv := valueOf_ends a r _ _ hlast
        rw [h0] at hv
        have hl1 : (((a :: r).length : Nat) : Int) = (r.length : Int) + 1 := by simp
        (conv => whnf); repeat ((first | refine tk1 ?_ | refine tk2 ?_ | refine tk3 ?_ | refine tk12 (fun _ => ?_) | refine tk4 ?_ | refine tk5 ?_ | refine tk6 ?_ | refine tk7 ?_ | refine tk8 ?_ | refine tk9 ?_ | refine tk10 (fun _ _ => ?_) | refine tk11 (fun _ => ?_) | refine tk13 ?_ | refine tk14 ?_); (conv => whnf))
        refine IdxS.at a rfl (by omega) ?_
        (conv => whnf); repeat ((first | refine tk1 ?_ | refine tk2 ?_ | refine tk3 ?_ | refine tk12 (fun _ => ?_) | refine tk4 ?_ | refine tk5 ?_ | refine tk6 ?_ | refine tk7 ?_ | refine tk8 ?_ | refine tk9 ?_ | refine tk10 (fun _ _ => ?_) | refine tk11 (fun _ => ?_) | refine tk13 ?_ | refine tk14 ?_); (conv => whnf))
        refine CallK.fn (Blank_r _) ?_
        rw [blank_is]
        cases hb : blankB a
        · (conv => whnf); repeat ((first | refine tk1 ?_ | refine tk2 ?_ | refine tk3 ?_ | refine tk12 (fun _ => ?_) | refine tk4 ?_ | refine tk5 ?_ | refine tk6 ?_ | refine tk7 ?_ | refine tk8 ?_ | refine tk9 ?_ | refine tk10 (fun _ _ => ?_) | refine tk11 (fun _ => ?_) | refine tk13 ?_ | refine tk14 ?_); (conv => whnf))
          refine IdxS.at ((a :: r)[r.length]'(by simp)) (by rw [hl1, show ((r.length : Int) + 1 - 1).toNat = r.length by omega]; exact List.getElem?_eq_getElem _) (by omega) ?_
          (conv => whnf); repeat ((first | refine tk1 ?_ | refine tk2 ?_ | refine tk3 ?_ | refine tk12 (fun _ => ?_) | refine tk4 ?_ | refine tk5 ?_ | refine tk6 ?_ | refine tk7 ?_ | refine tk8 ?_ | refine tk9 ?_ | refine tk10 (fun _ _ => ?_) | refine tk11 (fun _ => ?_) | refine tk13 ?_ | refine tk14 ?_); (conv => whnf))
          refine CallK.fn (Blank_r _) ?_
          rw [blank_is]
          (conv => whnf); repeat ((first | refine tk1 ?_ | refine tk2 ?_ | refine tk3 ?_ | refine tk12 (fun _ => ?_) | refine tk4 ?_ | refine tk5 ?_ | refine tk6 ?_ | refine tk7 ?_ | refine tk8 ?_ | refine tk9 ?_ | refine tk10 (fun _ _ => ?_) | refine tk11 (fun _ => ?_) | refine tk13 ?_ | refine tk14 ?_); (conv => whnf))
          rw [hv, hb]; simp
        · (conv => whnf); repeat ((first | refine tk1 ?_ | refine tk2 ?_ | refine tk3 ?_ | refine tk12 (fun _ => ?_) | refine tk4 ?_ | refine tk5 ?_ | refine tk6 ?_ | refine tk7 ?_ | refine tk8 ?_ | refine tk9 ?_ | refine tk10 (fun _ _ => ?_) | refine tk11 (fun _ => ?_) | refine tk13 ?_ | refine tk14 ?_); (conv => whnf))
          rw [hv, hb]; simp
theorem Small_r (l : List UInt8) (hl : l.length ≤ 1000000000000) : Fn Tryz.prog gI 108 [str l] (str (smallOf l)) := by
  refine Fn.of tys_ok Tryz.func108 rfl (by kernel_rfl) rfl rfl ?_; intro w hG
  (conv => whnf); repeat ((first | refine tk1 ?_ | refine tk2 ?_ | refine tk3 ?_ | refine tk12 (fun _ => ?_) | refine tk4 ?_ | refine tk5 ?_ | refine tk6 ?_ | refine tk7 ?_ | refine tk8 ?_ | refine tk9 ?_ | refine tk10 (fun _ _ => ?_) | refine tk11 (fun _ => ?_) | refine tk13 ?_ | refine tk14 ?_); (conv => whnf))
  refine LoopS.lp tys_ok (fun k u => [str l, u 1, u 2, str (smallOf (l.take k)), .int .i64 (k : Nat), u 5, u 6, u 7, u 8, u 9, u 10, u 11, u 12, u 13, u 14, u 15, u 16, u 17, u 18, u 19, u 20, u 21, u 22, u 23, u 24, u 25, u 26, u 27, u 28]) (fun _ => [])
    (fun k => k ≤ l.length) (fun k => l.length - k) 0 (Nat.zero_le _) rfl (by repeat' (first | exact List.Sublist.refl _ | exact List.nil_sublist _ | apply List.Sublist.cons_cons | apply List.Sublist.cons)) ?_
  intro k u hk
  (conv => whnf); repeat ((first | refine tk1 ?_ | refine tk2 ?_ | refine tk3 ?_ | refine tk12 (fun _ => ?_) | refine tk4 ?_ | refine tk5 ?_ | refine tk6 ?_ | refine tk7 ?_ | refine tk8 ?_ | refine tk9 ?_ | refine tk10 (fun _ _ => ?_) | refine tk11 (fun _ => ?_) | refine tk13 ?_ | refine tk14 ?_); (conv => whnf))
  refine Cmp.cases (fun hlt => ?_) (fun hlt => ?_)
  · have hlt' : k < l.length := by omega
    have hx := byte_le l[k]
    have ht : smallOf (l.take (k + 1)) = smallOf (l.take k) ++ [lowB l[k]] := by
      unfold smallOf
      rw [List.take_succ_eq_append_getElem hlt', List.map_append]; rfl
    have hs9 : (smallOf (l.take k)).length ≤ l.length := by rw [smallOf_length, List.length_take]; omega
    have hv := lowB_toNat l[k]
    unfold lowI greatI at hv
    (conv => whnf); repeat ((first | refine tk1 ?_ | refine tk2 ?_ | refine tk3 ?_ | refine tk12 (fun _ => ?_) | refine tk4 ?_ | refine tk5 ?_ | refine tk6 ?_ | refine tk7 ?_ | refine tk8 ?_ | refine tk9 ?_ | refine tk10 (fun _ _ => ?_) | refine tk11 (fun _ => ?_) | refine tk13 ?_ | refine tk14 ?_); (conv => whnf))
    refine IdxS.at l[k] (List.getElem?_eq_getElem _) (by omega) ?_
    (conv => whnf); repeat ((first | refine tk1 ?_ | refine tk2 ?_ | refine tk3 ?_ | refine tk12 (fun _ => ?_) | refine tk4 ?_ | refine tk5 ?_ | refine tk6 ?_ | refine tk7 ?_ | refine tk8 ?_ | refine tk9 ?_ | refine tk10 (fun _ _ => ?_) | refine tk11 (fun _ => ?_) | refine tk13 ?_ | refine tk14 ?_); (conv => whnf))
    refine Cmp.cases (fun h1 => ?_) (fun h1 => ?_)
    · (conv => whnf); repeat ((first | refine tk1 ?_ | refine tk2 ?_ | refine tk3 ?_ | refine tk12 (fun _ => ?_) | refine tk4 ?_ | refine tk5 ?_ | refine tk6 ?_ | refine tk7 ?_ | refine tk8 ?_ | refine tk9 ?_ | refine tk10 (fun _ _ => ?_) | refine tk11 (fun _ => ?_) | refine tk13 ?_ | refine tk14 ?_); (conv => whnf))
      refine Cmp.cases (fun h2 => ?_) (fun h2 => ?_)
      · (conv => whnf); repeat ((first | refine tk1 ?_ | refine tk2 ?_ | refine tk3 ?_ | refine tk12 (fun _ => ?_) | refine tk4 ?_ | refine tk5 ?_ | refine tk6 ?_ | refine tk7 ?_ | refine tk8 ?_ | refine tk9 ?_ | refine tk10 (fun _ _ => ?_) | refine tk11 (fun _ => ?_) | refine tk13 ?_ | refine tk14 ?_); (conv => whnf))
        refine Ar.in8 (by omega) (by omega) ?_
        (conv => whnf); repeat ((first | refine tk1 ?_ | refine tk2 ?_ | refine tk3 ?_ | refine tk12 (fun _ => ?_) | refine tk4 ?_ | refine tk5 ?_ | refine tk6 ?_ | refine tk7 ?_ | refine tk8 ?_ | refine tk9 ?_ | refine tk10 (fun _ _ => ?_) | refine tk11 (fun _ => ?_) | refine tk13 ?_ | refine tk14 ?_); (conv => whnf))
        rename_i b
        refine B2S.rd (l := [lowB l[k]]) (by rw [show [Value.int .u8 (((l[k].toNat : Nat) : Int) + 32)] = [lowB l[k]].map byteV from by simp [byteV]; rw [hv]; simp; omega]; exact RdS.here) rfl ?_
        (conv => whnf); repeat ((first | refine tk1 ?_ | refine tk2 ?_ | refine tk3 ?_ | refine tk12 (fun _ => ?_) | refine tk4 ?_ | refine tk5 ?_ | refine tk6 ?_ | refine tk7 ?_ | refine tk8 ?_ | refine tk9 ?_ | refine tk10 (fun _ _ => ?_) | refine tk11 (fun _ => ?_) | refine tk13 ?_ | refine tk14 ?_); (conv => whnf))
        refine CatS.at (by simp; omega) ?_
        (conv => whnf); repeat ((first | refine tk1 ?_ | refine tk2 ?_ | refine tk3 ?_ | refine tk12 (fun _ => ?_) | refine tk4 ?_ | refine tk5 ?_ | refine tk6 ?_ | refine tk7 ?_ | refine tk8 ?_ | refine tk9 ?_ | refine tk10 (fun _ _ => ?_) | refine tk11 (fun _ => ?_) | refine tk13 ?_ | refine tk14 ?_); (conv => whnf))
        exact ⟨k + 1, by omega, by dsimp only; rw [ht]; rfl, (by repeat' (first | exact List.Sublist.refl _ | exact List.nil_sublist _ | apply List.Sublist.cons_cons | apply List.Sublist.cons)), by dsimp only; omega⟩
      · (conv => whnf); repeat ((first | refine tk1 ?_ | refine tk2 ?_ | refine tk3 ?_ | refine tk12 (fun _ => ?_) | refine tk4 ?_ | refine tk5 ?_ | refine tk6 ?_ | refine tk7 ?_ | refine tk8 ?_ | refine tk9 ?_ | refine tk10 (fun _ _ => ?_) | refine tk11 (fun _ => ?_) | refine tk13 ?_ | refine tk14 ?_); (conv => whnf))
        refine B2S.rd (l := [lowB l[k]]) (by rw [show [Value.int .u8 ((l[k].toNat : Nat) : Int)] = [lowB l[k]].map byteV from by simp [byteV]; rw [hv]; simp; omega]; exact RdS.here) rfl ?_
        (conv => whnf); repeat ((first | refine tk1 ?_ | refine tk2 ?_ | refine tk3 ?_ | refine tk12 (fun _ => ?_) | refine tk4 ?_ | refine tk5 ?_ | refine tk6 ?_ | refine tk7 ?_ | refine tk8 ?_ | refine tk9 ?_ | refine tk10 (fun _ _ => ?_) | refine tk11 (fun _ => ?_) | refine tk13 ?_ | refine tk14 ?_); (conv => whnf))
        refine CatS.at (by simp; omega) ?_
        (conv => whnf); repeat ((first | refine tk1 ?_ | refine tk2 ?_ | refine tk3 ?_ | refine tk12 (fun _ => ?_) | refine tk4 ?_ | refine tk5 ?_ | refine tk6 ?_ | refine tk7 ?_ | refine tk8 ?_ | refine tk9 ?_ | refine tk10 (fun _ _ => ?_) | refine tk11 (fun _ => ?_) | refine tk13 ?_ | refine tk14 ?_); (conv => whnf))
        exact ⟨k + 1, by omega, by dsimp only; rw [ht]; rfl, (by repeat' (first | exact List.Sublist.refl _ | exact List.nil_sublist _ | apply List.Sublist.cons_cons | apply List.Sublist.cons)), by dsimp only; omega⟩
    · (conv => whnf); repeat ((first | refine tk1 ?_ | refine tk2 ?_ | refine tk3 ?_ | refine tk12 (fun _ => ?_) | refine tk4 ?_ | refine tk5 ?_ | refine tk6 ?_ | refine tk7 ?_ | refine tk8 ?_ | refine tk9 ?_ | refine tk10 (fun _ _ => ?_) | refine tk11 (fun _ => ?_) | refine tk13 ?_ | refine tk14 ?_); (conv => whnf))
      refine B2S.rd (l := [lowB l[k]]) (by rw [show [Value.int .u8 ((l[k].toNat : Nat) : Int)] = [lowB l[k]].map byteV from by simp [byteV]; rw [hv]; simp; omega]; exact RdS.here) rfl ?_
      (conv => whnf); repeat ((first | refine tk1 ?_ | refine tk2 ?_ | refine tk3 ?_ | refine tk12 (fun _ => ?_) | refine tk4 ?_ | refine tk5 ?_ | refine tk6 ?_ | refine tk7 ?_ | refine tk8 ?_ | refine tk9 ?_ | refine tk10 (fun _ _ => ?_) | refine tk11 (fun _ => ?_) | refine tk13 ?_ | refine tk14 ?_); (conv => whnf))
      refine CatS.at (by simp; omega) ?_
      (conv => whnf); repeat ((first | refine tk1 ?_ | refine tk2 ?_ | refine tk3 ?_ | refine tk12 (fun _ => ?_) | refine tk4 ?_ | refine tk5 ?_ | refine tk6 ?_ | refine tk7 ?_ | refine tk8 ?_ | refine tk9 ?_ | refine tk10 (fun _ _ => ?_) | refine tk11 (fun _ => ?_) | refine tk13 ?_ | refine tk14 ?_); (conv => whnf))
      exact ⟨k + 1, by omega, by dsimp only; rw [ht]; rfl, (by repeat' (first | exact List.Sublist.refl _ | exact List.nil_sublist _ | apply List.Sublist.cons_cons | apply List.Sublist.cons)), by dsimp only; omega⟩
  · (conv => whnf); repeat ((first | refine tk1 ?_ | refine tk2 ?_ | refine tk3 ?_ | refine tk12 (fun _ => ?_) | refine tk4 ?_ | refine tk5 ?_ | refine tk6 ?_ | refine tk7 ?_ | refine tk8 ?_ | refine tk9 ?_ | refine tk10 (fun _ _ => ?_) | refine tk11 (fun _ => ?_) | refine tk13 ?_ | refine tk14 ?_); (conv => whnf))
    rw [List.take_of_length_le (by omega)]
theorem last_of (t : List UInt8) (h : 0 < t.length) : t = t.take (t.length - 1) ++ [t[t.length - 1]'(by omega)] := by
  have := List.take_append_drop (t.length - 1) t
  rw [List.drop_eq_getElem_cons (by omega), List.drop_eq_nil_of_le (by omega)] at this
  exact this.symm
theorem Trim_r (l : List UInt8) (hl : l.length ≤ 1000000000000) : Fn Tryz.prog gI 109 [str l] (str (trimB l)) := by
  refine Fn.of tys_ok Tryz.func109 rfl (by kernel_rfl) rfl rfl ?_; intro w hG
  (conv => whnf); repeat ((first | refine tk1 ?_ | refine tk2 ?_ | refine tk3 ?_ | refine tk12 (fun _ => ?_) | refine tk4 ?_ | refine tk5 ?_ | refine tk6 ?_ | refine tk7 ?_ | refine tk8 ?_ | refine tk9 ?_ | refine tk10 (fun _ _ => ?_) | refine tk11 (fun _ => ?_) | refine tk13 ?_ | refine tk14 ?_); (conv => whnf))
  refine LoopS.lp tys_ok (fun (t : List UInt8) u => [str t, u 1, u 2, u 3, u 4, u 5, u 6, u 7, u 8, u 9, u 10, u 11, u 12, u 13, u 14, u 15, u 16, u 17, u 18, u 19, u 20, u 21, u 22, u 23, u 24, u 25, u 26, u 27, u 28, u 29]) (fun _ => [])
    (fun t => trimB l = trimRB (trimLB t) ∧ t.length ≤ l.length) (fun t => t.length) l ⟨trimB_eq l, Nat.le_refl _⟩ rfl (by repeat' (first | exact List.Sublist.refl _ | exact List.nil_sublist _ | apply List.Sublist.cons_cons | apply List.Sublist.cons)) ?_
  intro t u ⟨hI, hz⟩
  cases t with
  | nil =>
    have hI : trimB l = trimRB [] := hI
    (conv => whnf); repeat ((first | refine tk1 ?_ | refine tk2 ?_ | refine tk3 ?_ | refine tk12 (fun _ => ?_) | refine tk4 ?_ | refine tk5 ?_ | refine tk6 ?_ | refine tk7 ?_ | refine tk8 ?_ | refine tk9 ?_ | refine tk10 (fun _ _ => ?_) | refine tk11 (fun _ => ?_) | refine tk13 ?_ | refine tk14 ?_); (conv => whnf))
    refine LoopS.lp tys_ok (fun (t : List UInt8) u => [str t, u 1, u 2, u 3, u 4, u 5, u 6, u 7, u 8, u 9, u 10, u 11, u 12, u 13, u 14, u 15, u 16, u 17, u 18, u 19, u 20, u 21, u 22, u 23, u 24, u 25, u 26, u 27, u 28, u 29]) (fun _ => []) (fun t => trimB l = trimRB t ∧ t.length ≤ l.length) (fun t => t.length) (([] : List UInt8)) ⟨hI, hz⟩ rfl (by repeat' (first | exact List.Sublist.refl _ | exact List.nil_sublist _ | apply List.Sublist.cons_cons | apply List.Sublist.cons)) ?_
    clear hI hz
    intro s v ⟨hI, hz⟩
    (conv => whnf); repeat ((first | refine tk1 ?_ | refine tk2 ?_ | refine tk3 ?_ | refine tk12 (fun _ => ?_) | refine tk4 ?_ | refine tk5 ?_ | refine tk6 ?_ | refine tk7 ?_ | refine tk8 ?_ | refine tk9 ?_ | refine tk10 (fun _ _ => ?_) | refine tk11 (fun _ => ?_) | refine tk13 ?_ | refine tk14 ?_); (conv => whnf))
    refine Cmp.cases (fun h0 => ?_) (fun h0 => ?_)
    · (conv => whnf); repeat ((first | refine tk1 ?_ | refine tk2 ?_ | refine tk3 ?_ | refine tk12 (fun _ => ?_) | refine tk4 ?_ | refine tk5 ?_ | refine tk6 ?_ | refine tk7 ?_ | refine tk8 ?_ | refine tk9 ?_ | refine tk10 (fun _ _ => ?_) | refine tk11 (fun _ => ?_) | refine tk13 ?_ | refine tk14 ?_); (conv => whnf))
      refine IdxS.at (s[s.length - 1]'(by omega)) (by rw [show ((s.length : Int) - 1).toNat = s.length - 1 by omega]; exact List.getElem?_eq_getElem _) (by omega) ?_
      (conv => whnf); repeat ((first | refine tk1 ?_ | refine tk2 ?_ | refine tk3 ?_ | refine tk12 (fun _ => ?_) | refine tk4 ?_ | refine tk5 ?_ | refine tk6 ?_ | refine tk7 ?_ | refine tk8 ?_ | refine tk9 ?_ | refine tk10 (fun _ _ => ?_) | refine tk11 (fun _ => ?_) | refine tk13 ?_ | refine tk14 ?_); (conv => whnf))
      refine CallK.fn (Blank_r _) ?_
      rw [blank_is]
      have h9 := last_of s (by omega)
      cases hb2 : blankB (s[s.length - 1]'(by omega))
      · (conv => whnf); repeat ((first | refine tk1 ?_ | refine tk2 ?_ | refine tk3 ?_ | refine tk12 (fun _ => ?_) | refine tk4 ?_ | refine tk5 ?_ | refine tk6 ?_ | refine tk7 ?_ | refine tk8 ?_ | refine tk9 ?_ | refine tk10 (fun _ _ => ?_) | refine tk11 (fun _ => ?_) | refine tk13 ?_ | refine tk14 ?_); (conv => whnf))
        rw [hI, h9, trimRB_other _ _ hb2]
      · (conv => whnf); repeat ((first | refine tk1 ?_ | refine tk2 ?_ | refine tk3 ?_ | refine tk12 (fun _ => ?_) | refine tk4 ?_ | refine tk5 ?_ | refine tk6 ?_ | refine tk7 ?_ | refine tk8 ?_ | refine tk9 ?_ | refine tk10 (fun _ _ => ?_) | refine tk11 (fun _ => ?_) | refine tk13 ?_ | refine tk14 ?_); (conv => whnf))
        refine SlcS.at (by omega) (by omega) (by omega) ?_
        (conv => whnf); repeat ((first | refine tk1 ?_ | refine tk2 ?_ | refine tk3 ?_ | refine tk12 (fun _ => ?_) | refine tk4 ?_ | refine tk5 ?_ | refine tk6 ?_ | refine tk7 ?_ | refine tk8 ?_ | refine tk9 ?_ | refine tk10 (fun _ _ => ?_) | refine tk11 (fun _ => ?_) | refine tk13 ?_ | refine tk14 ?_); (conv => whnf))
        exact ⟨s.take (s.length - 1), ⟨by rw [hI]; exact (congrArg trimRB h9).trans (trimRB_blank _ _ hb2), by rw [List.length_take]; omega⟩, by dsimp only; rw [show ((s.length : Int) - 1).toNat = s.length - 1 by omega]; rfl, (by repeat' (first | exact List.Sublist.refl _ | exact List.nil_sublist _ | apply List.Sublist.cons_cons | apply List.Sublist.cons)), by dsimp only; rw [List.length_take]; omega⟩
    · (conv => whnf); repeat ((first | refine tk1 ?_ | refine tk2 ?_ | refine tk3 ?_ | refine tk12 (fun _ => ?_) | refine tk4 ?_ | refine tk5 ?_ | refine tk6 ?_ | refine tk7 ?_ | refine tk8 ?_ | refine tk9 ?_ | refine tk10 (fun _ _ => ?_) | refine tk11 (fun _ => ?_) | refine tk13 ?_ | refine tk14 ?_); (conv => whnf))
      obtain rfl : s = [] := List.eq_nil_of_length_eq_zero (by omega)
      rw [hI]
      rfl
  | cons a r =>
    have hl1 : (((a :: r).length : Nat) : Int) = (r.length : Int) + 1 := by simp
    (conv => whnf); repeat ((first | refine tk1 ?_ | refine tk2 ?_ | refine tk3 ?_ | refine tk12 (fun _ => ?_) | refine tk4 ?_ | refine tk5 ?_ | refine tk6 ?_ | refine tk7 ?_ | refine tk8 ?_ | refine tk9 ?_ | refine tk10 (fun _ _ => ?_) | refine tk11 (fun _ => ?_) | refine tk13 ?_ | refine tk14 ?_); (conv => whnf))
    refine IdxS.at a rfl (by omega) ?_
    (conv => whnf); repeat ((first | refine tk1 ?_ | refine tk2 ?_ | refine tk3 ?_ | refine tk12 (fun _ => ?_) | refine tk4 ?_ | refine tk5 ?_ | refine tk6 ?_ | refine tk7 ?_ | refine tk8 ?_ | refine tk9 ?_ | refine tk10 (fun _ _ => ?_) | refine tk11 (fun _ => ?_) | refine tk13 ?_ | refine tk14 ?_); (conv => whnf))
    refine CallK.fn (Blank_r _) ?_
    rw [blank_is]
    cases hb : blankB a
    · have hI : trimB l = trimRB (a :: r) := by rw [hI, trimLB_other _ _ hb]
      (conv => whnf); repeat ((first | refine tk1 ?_ | refine tk2 ?_ | refine tk3 ?_ | refine tk12 (fun _ => ?_) | refine tk4 ?_ | refine tk5 ?_ | refine tk6 ?_ | refine tk7 ?_ | refine tk8 ?_ | refine tk9 ?_ | refine tk10 (fun _ _ => ?_) | refine tk11 (fun _ => ?_) | refine tk13 ?_ | refine tk14 ?_); (conv => whnf))
      refine LoopS.lp tys_ok (fun (t : List UInt8) u => [str t, u 1, u 2, u 3, u 4, u 5, u 6, u 7, u 8, u 9, u 10, u 11, u 12, u 13, u 14, u 15, u 16, u 17, u 18, u 19, u 20, u 21, u 22, u 23, u 24, u 25, u 26, u 27, u 28, u 29]) (fun _ => []) (fun t => trimB l = trimRB t ∧ t.length ≤ l.length) (fun t => t.length) (a :: r) ⟨hI, hz⟩ rfl (by repeat' (first | exact List.Sublist.refl _ | exact List.nil_sublist _ | apply List.Sublist.cons_cons | apply List.Sublist.cons)) ?_
      clear hI hz
      intro s v ⟨hI, hz⟩
      (conv => whnf); repeat ((first | refine tk1 ?_ | refine tk2 ?_ | refine tk3 ?_ | refine tk12 (fun _ => ?_) | refine tk4 ?_ | refine tk5 ?_ | refine tk6 ?_ | refine tk7 ?_ | refine tk8 ?_ | refine tk9 ?_ | refine tk10 (fun _ _ => ?_) | refine tk11 (fun _ => ?_) | refine tk13 ?_ | refine tk14 ?_); (conv => whnf))
      refine Cmp.cases (fun h0 => ?_) (fun h0 => ?_)
      · (conv => whnf); repeat ((first | refine tk1 ?_ | refine tk2 ?_ | refine tk3 ?_ | refine tk12 (fun _ => ?_) | refine tk4 ?_ | refine tk5 ?_ | refine tk6 ?_ | refine tk7 ?_ | refine tk8 ?_ | refine tk9 ?_ | refine tk10 (fun _ _ => ?_) | refine tk11 (fun _ => ?_) | refine tk13 ?_ | refine tk14 ?_); (conv => whnf))
        refine IdxS.at (s[s.length - 1]'(by omega)) (by rw [show ((s.length : Int) - 1).toNat = s.length - 1 by omega]; exact List.getElem?_eq_getElem _) (by omega) ?_
        (conv => whnf); repeat ((first | refine tk1 ?_ | refine tk2 ?_ | refine tk3 ?_ | refine tk12 (fun _ => ?_) | refine tk4 ?_ | refine tk5 ?_ | refine tk6 ?_ | refine tk7 ?_ | refine tk8 ?_ | refine tk9 ?_ | refine tk10 (fun _ _ => ?_) | refine tk11 (fun _ => ?_) | refine tk13 ?_ | refine tk14 ?_); (conv => whnf))
        refine CallK.fn (Blank_r _) ?_
        rw [blank_is]
        have h9 := last_of s (by omega)
        cases hb2 : blankB (s[s.length - 1]'(by omega))
        · (conv => whnf); repeat ((first | refine tk1 ?_ | refine tk2 ?_ | refine tk3 ?_ | refine tk12 (fun _ => ?_) | refine tk4 ?_ | refine tk5 ?_ | refine tk6 ?_ | refine tk7 ?_ | refine tk8 ?_ | refine tk9 ?_ | refine tk10 (fun _ _ => ?_) | refine tk11 (fun _ => ?_) | refine tk13 ?_ | refine tk14 ?_); (conv => whnf))
          rw [hI, h9, trimRB_other _ _ hb2]
        · (conv => whnf); repeat ((first | refine tk1 ?_ | refine tk2 ?_ | refine tk3 ?_ | refine tk12 (fun _ => ?_) | refine tk4 ?_ | refine tk5 ?_ | refine tk6 ?_ | refine tk7 ?_ | refine tk8 ?_ | refine tk9 ?_ | refine tk10 (fun _ _ => ?_) | refine tk11 (fun _ => ?_) | refine tk13 ?_ | refine tk14 ?_); (conv => whnf))
          refine SlcS.at (by omega) (by omega) (by omega) ?_
          (conv => whnf); repeat ((first | refine tk1 ?_ | refine tk2 ?_ | refine tk3 ?_ | refine tk12 (fun _ => ?_) | refine tk4 ?_ | refine tk5 ?_ | refine tk6 ?_ | refine tk7 ?_ | refine tk8 ?_ | refine tk9 ?_ | refine tk10 (fun _ _ => ?_) | refine tk11 (fun _ => ?_) | refine tk13 ?_ | refine tk14 ?_); (conv => whnf))
          exact ⟨s.take (s.length - 1), ⟨by rw [hI]; exact (congrArg trimRB h9).trans (trimRB_blank _ _ hb2), by rw [List.length_take]; omega⟩, by dsimp only; rw [show ((s.length : Int) - 1).toNat = s.length - 1 by omega]; rfl, (by repeat' (first | exact List.Sublist.refl _ | exact List.nil_sublist _ | apply List.Sublist.cons_cons | apply List.Sublist.cons)), by dsimp only; rw [List.length_take]; omega⟩
      · (conv => whnf); repeat ((first | refine tk1 ?_ | refine tk2 ?_ | refine tk3 ?_ | refine tk12 (fun _ => ?_) | refine tk4 ?_ | refine tk5 ?_ | refine tk6 ?_ | refine tk7 ?_ | refine tk8 ?_ | refine tk9 ?_ | refine tk10 (fun _ _ => ?_) | refine tk11 (fun _ => ?_) | refine tk13 ?_ | refine tk14 ?_); (conv => whnf))
        obtain rfl : s = [] := List.eq_nil_of_length_eq_zero (by omega)
        rw [hI]
        rfl
    · have hsl : ((a :: r).take (((a :: r).length : Nat) : Int).toNat).drop (1 : Int).toNat = r := by rw [Int.toNat_natCast, List.take_length]; rfl
      (conv => whnf); repeat ((first | refine tk1 ?_ | refine tk2 ?_ | refine tk3 ?_ | refine tk12 (fun _ => ?_) | refine tk4 ?_ | refine tk5 ?_ | refine tk6 ?_ | refine tk7 ?_ | refine tk8 ?_ | refine tk9 ?_ | refine tk10 (fun _ _ => ?_) | refine tk11 (fun _ => ?_) | refine tk13 ?_ | refine tk14 ?_); (conv => whnf))
      refine SlcS.at (by omega) (by omega) (by omega) ?_
      (conv => whnf); repeat ((first | refine tk1 ?_ | refine tk2 ?_ | refine tk3 ?_ | refine tk12 (fun _ => ?_) | refine tk4 ?_ | refine tk5 ?_ | refine tk6 ?_ | refine tk7 ?_ | refine tk8 ?_ | refine tk9 ?_ | refine tk10 (fun _ _ => ?_) | refine tk11 (fun _ => ?_) | refine tk13 ?_ | refine tk14 ?_); (conv => whnf))
      exact ⟨r, ⟨by rw [hI, trimLB_blank _ _ hb], by simp at hz; omega⟩, by dsimp only; rw [hsl]; rfl, (by repeat' (first | exact List.Sublist.refl _ | exact List.nil_sublist _ | apply List.Sublist.cons_cons | apply List.Sublist.cons)), by simp⟩
end Go.Proofs.YtbgnogdlkmhnkaaGreatDoor.Vex
/- The references' functions on fields, reckoned. -/
namespace Go.Proofs.YtbgnogdlkmhnkaaGreatDoor.Vex
open Go Go.RowKit
set_option maxRecDepth 100000
set_option linter.unusedSectionVars false
variable {gI : GI} [HasMax gI]

theorem May_r (n v : List UInt8) : Fn Tryz.prog gI 110 [.agg ⟨[str n, str v]⟩] (.bool (fieldOK n v)) := by
  refine Fn.of tys_ok Tryz.func110 rfl (by kernel_rfl) rfl rfl ?_; intro w hG
  (conv => whnf); repeat ((first | refine tk1 ?_ | refine tk2 ?_ | refine tk3 ?_ | refine tk12 (fun _ => ?_) | refine tk4 ?_ | refine tk5 ?_ | refine tk6 ?_ | refine tk7 ?_ | refine tk8 ?_ | refine tk9 ?_ | refine tk10 (fun _ _ => ?_) | refine tk11 (fun _ => ?_) | refine tk13 ?_ | refine tk14 ?_); (conv => whnf))
  refine DrawS.go (qs 29) tys_ok mixed (by kernel_rfl) ?_
  (conv => whnf); repeat ((first | refine tk1 ?_ | refine tk2 ?_ | refine tk3 ?_ | refine tk12 (fun _ => ?_) | refine tk4 ?_ | refine tk5 ?_ | refine tk6 ?_ | refine tk7 ?_ | refine tk8 ?_ | refine tk9 ?_ | refine tk10 (fun _ _ => ?_) | refine tk11 (fun _ => ?_) | refine tk13 ?_ | refine tk14 ?_); (conv => whnf))
  refine Cmp.cases (fun h1 => ?_) (fun h1 => ?_)
  · (conv => whnf); repeat ((first | refine tk1 ?_ | refine tk2 ?_ | refine tk3 ?_ | refine tk12 (fun _ => ?_) | refine tk4 ?_ | refine tk5 ?_ | refine tk6 ?_ | refine tk7 ?_ | refine tk8 ?_ | refine tk9 ?_ | refine tk10 (fun _ _ => ?_) | refine tk11 (fun _ => ?_) | refine tk13 ?_ | refine tk14 ?_); (conv => whnf))
    refine Cmp.cases (fun h2 => ?_) (fun h2 => ?_)
    · (conv => whnf); repeat ((first | refine tk1 ?_ | refine tk2 ?_ | refine tk3 ?_ | refine tk12 (fun _ => ?_) | refine tk4 ?_ | refine tk5 ?_ | refine tk6 ?_ | refine tk7 ?_ | refine tk8 ?_ | refine tk9 ?_ | refine tk10 (fun _ _ => ?_) | refine tk11 (fun _ => ?_) | refine tk13 ?_ | refine tk14 ?_); (conv => whnf))
      refine CallQ.fn (Token_r n (by omega)) ?_
      have e1 : n.length ≤ 4096 := by omega
      have e2 : v.length ≤ 4096 := by omega
      cases h3 : tokenOf n
      · (conv => whnf); repeat ((first | refine tk1 ?_ | refine tk2 ?_ | refine tk3 ?_ | refine tk12 (fun _ => ?_) | refine tk4 ?_ | refine tk5 ?_ | refine tk6 ?_ | refine tk7 ?_ | refine tk8 ?_ | refine tk9 ?_ | refine tk10 (fun _ _ => ?_) | refine tk11 (fun _ => ?_) | refine tk13 ?_ | refine tk14 ?_); (conv => whnf))
        simp [fieldOK, h3]
      · (conv => whnf); repeat ((first | refine tk1 ?_ | refine tk2 ?_ | refine tk3 ?_ | refine tk12 (fun _ => ?_) | refine tk4 ?_ | refine tk5 ?_ | refine tk6 ?_ | refine tk7 ?_ | refine tk8 ?_ | refine tk9 ?_ | refine tk10 (fun _ _ => ?_) | refine tk11 (fun _ => ?_) | refine tk13 ?_ | refine tk14 ?_); (conv => whnf))
        refine CallQ.fn (Small_r n (by omega)) ?_
        (conv => whnf); repeat ((first | refine tk1 ?_ | refine tk2 ?_ | refine tk3 ?_ | refine tk12 (fun _ => ?_) | refine tk4 ?_ | refine tk5 ?_ | refine tk6 ?_ | refine tk7 ?_ | refine tk8 ?_ | refine tk9 ?_ | refine tk10 (fun _ _ => ?_) | refine tk11 (fun _ => ?_) | refine tk13 ?_ | refine tk14 ?_); (conv => whnf))
        refine Cmp.cases (fun h4 => ?_) (fun h4 => ?_)
        · (conv => whnf); repeat ((first | refine tk1 ?_ | refine tk2 ?_ | refine tk3 ?_ | refine tk12 (fun _ => ?_) | refine tk4 ?_ | refine tk5 ?_ | refine tk6 ?_ | refine tk7 ?_ | refine tk8 ?_ | refine tk9 ?_ | refine tk10 (fun _ _ => ?_) | refine tk11 (fun _ => ?_) | refine tk13 ?_ | refine tk14 ?_); (conv => whnf))
          refine CallQ.fn (Value_r v (by omega)) ?_
          (conv => whnf); repeat ((first | refine tk1 ?_ | refine tk2 ?_ | refine tk3 ?_ | refine tk12 (fun _ => ?_) | refine tk4 ?_ | refine tk5 ?_ | refine tk6 ?_ | refine tk7 ?_ | refine tk8 ?_ | refine tk9 ?_ | refine tk10 (fun _ _ => ?_) | refine tk11 (fun _ => ?_) | refine tk13 ?_ | refine tk14 ?_); (conv => whnf))
          simp [fieldOK, h3, h4, e1, e2]
        · (conv => whnf); repeat ((first | refine tk1 ?_ | refine tk2 ?_ | refine tk3 ?_ | refine tk12 (fun _ => ?_) | refine tk4 ?_ | refine tk5 ?_ | refine tk6 ?_ | refine tk7 ?_ | refine tk8 ?_ | refine tk9 ?_ | refine tk10 (fun _ _ => ?_) | refine tk11 (fun _ => ?_) | refine tk13 ?_ | refine tk14 ?_); (conv => whnf))
          simp [fieldOK, h3, h4]
    · (conv => whnf); repeat ((first | refine tk1 ?_ | refine tk2 ?_ | refine tk3 ?_ | refine tk12 (fun _ => ?_) | refine tk4 ?_ | refine tk5 ?_ | refine tk6 ?_ | refine tk7 ?_ | refine tk8 ?_ | refine tk9 ?_ | refine tk10 (fun _ _ => ?_) | refine tk11 (fun _ => ?_) | refine tk13 ?_ | refine tk14 ?_); (conv => whnf))
      simp [fieldOK]; omega
  · (conv => whnf); repeat ((first | refine tk1 ?_ | refine tk2 ?_ | refine tk3 ?_ | refine tk12 (fun _ => ?_) | refine tk4 ?_ | refine tk5 ?_ | refine tk6 ?_ | refine tk7 ?_ | refine tk8 ?_ | refine tk9 ?_ | refine tk10 (fun _ _ => ?_) | refine tk11 (fun _ => ?_) | refine tk13 ?_ | refine tk14 ?_); (conv => whnf))
    simp [fieldOK]; omega
theorem Parse_r (l : List UInt8) (hl : l.length ≤ 1000000000000) : Fn Tryz.prog gI 85 [str l] (.tuple #[.agg ⟨[str (parseN l), str (parseV l)]⟩, .int .i64 (parseE l)]) := by
  refine Fn.of tys_ok Tryz.func85 rfl (by kernel_rfl) rfl rfl ?_; intro w hG
  (conv => whnf); repeat ((first | refine tk1 ?_ | refine tk2 ?_ | refine tk3 ?_ | refine tk12 (fun _ => ?_) | refine tk4 ?_ | refine tk5 ?_ | refine tk6 ?_ | refine tk7 ?_ | refine tk8 ?_ | refine tk9 ?_ | refine tk10 (fun _ _ => ?_) | refine tk11 (fun _ => ?_) | refine tk13 ?_ | refine tk14 ?_); (conv => whnf))
  rename_i b
  refine LoopS.lp tys_ok (fun k u => [str l, u 1, .pointer (some ⟨b, 0, none⟩), u 3, .int .i64 (k : Nat), u 5, u 6, u 7, u 8, u 9, u 10, u 11, u 12, u 13, u 14, u 15, u 16, u 17, u 18, u 19, u 20, u 21, u 22, u 23, u 24, u 25, u 26, u 27, u 28, u 29, u 30, u 31, u 32, u 33, u 34, u 35, u 36, u 37, u 38, u 39, u 40, u 41, u 42])
    (fun _ => [.box b [str [], str []] 62])
    (fun k => k ≤ l.length ∧ ∀ j (x : UInt8), j < k → l[j]? = some x → ¬ x.toNat = 58) (fun k => l.length - k) 0 ⟨Nat.zero_le _, fun j x hj => by omega⟩ rfl (by repeat' (first | exact List.Sublist.refl _ | exact List.nil_sublist _ | apply List.Sublist.cons_cons | apply List.Sublist.cons)) ?_
  intro k u ⟨hk, hI⟩
  (conv => whnf); repeat ((first | refine tk1 ?_ | refine tk2 ?_ | refine tk3 ?_ | refine tk12 (fun _ => ?_) | refine tk4 ?_ | refine tk5 ?_ | refine tk6 ?_ | refine tk7 ?_ | refine tk8 ?_ | refine tk9 ?_ | refine tk10 (fun _ _ => ?_) | refine tk11 (fun _ => ?_) | refine tk13 ?_ | refine tk14 ?_); (conv => whnf))
  refine Cmp.cases (fun hlt => ?_) (fun hlt => ?_)
  · have hlt' : k < l.length := by omega
    (conv => whnf); repeat ((first | refine tk1 ?_ | refine tk2 ?_ | refine tk3 ?_ | refine tk12 (fun _ => ?_) | refine tk4 ?_ | refine tk5 ?_ | refine tk6 ?_ | refine tk7 ?_ | refine tk8 ?_ | refine tk9 ?_ | refine tk10 (fun _ _ => ?_) | refine tk11 (fun _ => ?_) | refine tk13 ?_ | refine tk14 ?_); (conv => whnf))
    refine IdxS.at l[k] (List.getElem?_eq_getElem _) (by omega) ?_
    (conv => whnf); repeat ((first | refine tk1 ?_ | refine tk2 ?_ | refine tk3 ?_ | refine tk12 (fun _ => ?_) | refine tk4 ?_ | refine tk5 ?_ | refine tk6 ?_ | refine tk7 ?_ | refine tk8 ?_ | refine tk9 ?_ | refine tk10 (fun _ _ => ?_) | refine tk11 (fun _ => ?_) | refine tk13 ?_ | refine tk14 ?_); (conv => whnf))
    refine Cmp.cases (fun hq => ?_) (fun hq => ?_)
    · (conv => whnf); repeat ((first | refine tk1 ?_ | refine tk2 ?_ | refine tk3 ?_ | refine tk12 (fun _ => ?_) | refine tk4 ?_ | refine tk5 ?_ | refine tk6 ?_ | refine tk7 ?_ | refine tk8 ?_ | refine tk9 ?_ | refine tk10 (fun _ _ => ?_) | refine tk11 (fun _ => ?_) | refine tk13 ?_ | refine tk14 ?_); (conv => whnf))
      exact ⟨k + 1, ⟨by omega, fun j x hj hx => by
        by_cases hjk : j < k
        · exact hI j x hjk hx
        · obtain rfl : j = k := by omega
          rw [List.getElem?_eq_getElem hlt'] at hx
          cases hx
          omega⟩, rfl, (by repeat' (first | exact List.Sublist.refl _ | exact List.nil_sublist _ | apply List.Sublist.cons_cons | apply List.Sublist.cons)), by dsimp only; omega⟩
    · have HC := cutC_at l k hI l[k] (List.getElem?_eq_getElem _) (by omega)
      (conv => whnf); repeat ((first | refine tk1 ?_ | refine tk2 ?_ | refine tk3 ?_ | refine tk12 (fun _ => ?_) | refine tk4 ?_ | refine tk5 ?_ | refine tk6 ?_ | refine tk7 ?_ | refine tk8 ?_ | refine tk9 ?_ | refine tk10 (fun _ _ => ?_) | refine tk11 (fun _ => ?_) | refine tk13 ?_ | refine tk14 ?_); (conv => whnf))
      refine Cmp.cases (fun h4 => ?_) (fun h4 => ?_)
      · have HF : parseOK l = false := by unfold parseOK; rw [decide_eq_false (by omega)]; rfl
        (conv => whnf); repeat ((first | refine tk1 ?_ | refine tk2 ?_ | refine tk3 ?_ | refine tk12 (fun _ => ?_) | refine tk4 ?_ | refine tk5 ?_ | refine tk6 ?_ | refine tk7 ?_ | refine tk8 ?_ | refine tk9 ?_ | refine tk10 (fun _ _ => ?_) | refine tk11 (fun _ => ?_) | refine tk13 ?_ | refine tk14 ?_); (conv => whnf))
        simp [parseN, parseV, parseE, HF]
      · have HP : parseOK l = fieldOK (smallOf (l.take k)) (trimB (l.drop (k + 1))) := by
          unfold parseOK
          rw [HC, decide_eq_true (by omega)]; rfl
        have hsm : (smallOf (l.take k)).length = k := by rw [smallOf_length, List.length_take]; omega
        have e1 : (l.take ((k : Nat) : Int).toNat).drop (0 : Int).toNat = l.take k := by simp
        have e2 : (l.take ((l.length : Nat) : Int).toNat).drop (((k : Nat) : Int) + 1).toNat = l.drop (k + 1) := by rw [Int.toNat_natCast, List.take_length]; congr 1
        (conv => whnf); repeat ((first | refine tk1 ?_ | refine tk2 ?_ | refine tk3 ?_ | refine tk12 (fun _ => ?_) | refine tk4 ?_ | refine tk5 ?_ | refine tk6 ?_ | refine tk7 ?_ | refine tk8 ?_ | refine tk9 ?_ | refine tk10 (fun _ _ => ?_) | refine tk11 (fun _ => ?_) | refine tk13 ?_ | refine tk14 ?_); (conv => whnf))
        refine DrawS.go ((List.range 12).map fun i => (i, decide (i < 10))) tys_ok mixed (by kernel_rfl) ?_
        (conv => whnf); repeat ((first | refine tk1 ?_ | refine tk2 ?_ | refine tk3 ?_ | refine tk12 (fun _ => ?_) | refine tk4 ?_ | refine tk5 ?_ | refine tk6 ?_ | refine tk7 ?_ | refine tk8 ?_ | refine tk9 ?_ | refine tk10 (fun _ _ => ?_) | refine tk11 (fun _ => ?_) | refine tk13 ?_ | refine tk14 ?_); (conv => whnf))
        refine SlcS.at (by omega) (by omega) (by omega) ?_
        rw [e1]
        (conv => whnf); repeat ((first | refine tk1 ?_ | refine tk2 ?_ | refine tk3 ?_ | refine tk12 (fun _ => ?_) | refine tk4 ?_ | refine tk5 ?_ | refine tk6 ?_ | refine tk7 ?_ | refine tk8 ?_ | refine tk9 ?_ | refine tk10 (fun _ _ => ?_) | refine tk11 (fun _ => ?_) | refine tk13 ?_ | refine tk14 ?_); (conv => whnf))
        refine CallQ.fn (Small_r (l.take k) (by rw [List.length_take]; omega)) ?_
        (conv => whnf); repeat ((first | refine tk1 ?_ | refine tk2 ?_ | refine tk3 ?_ | refine tk12 (fun _ => ?_) | refine tk4 ?_ | refine tk5 ?_ | refine tk6 ?_ | refine tk7 ?_ | refine tk8 ?_ | refine tk9 ?_ | refine tk10 (fun _ _ => ?_) | refine tk11 (fun _ => ?_) | refine tk13 ?_ | refine tk14 ?_); (conv => whnf))
        refine SlcS.at (by omega) (by omega) (by omega) ?_
        rw [e2]
        (conv => whnf); repeat ((first | refine tk1 ?_ | refine tk2 ?_ | refine tk3 ?_ | refine tk12 (fun _ => ?_) | refine tk4 ?_ | refine tk5 ?_ | refine tk6 ?_ | refine tk7 ?_ | refine tk8 ?_ | refine tk9 ?_ | refine tk10 (fun _ _ => ?_) | refine tk11 (fun _ => ?_) | refine tk13 ?_ | refine tk14 ?_); (conv => whnf))
        refine CallQ.fn (Trim_r (l.drop (k + 1)) (by rw [List.length_drop]; omega)) ?_
        (conv => whnf); repeat ((first | refine tk1 ?_ | refine tk2 ?_ | refine tk3 ?_ | refine tk12 (fun _ => ?_) | refine tk4 ?_ | refine tk5 ?_ | refine tk6 ?_ | refine tk7 ?_ | refine tk8 ?_ | refine tk9 ?_ | refine tk10 (fun _ _ => ?_) | refine tk11 (fun _ => ?_) | refine tk13 ?_ | refine tk14 ?_); (conv => whnf))
        refine CallK.fn (May_r _ _) ?_
        cases h3 : fieldOK (smallOf (l.take k)) (trimB (l.drop (k + 1)))
        · (conv => whnf); repeat ((first | refine tk1 ?_ | refine tk2 ?_ | refine tk3 ?_ | refine tk12 (fun _ => ?_) | refine tk4 ?_ | refine tk5 ?_ | refine tk6 ?_ | refine tk7 ?_ | refine tk8 ?_ | refine tk9 ?_ | refine tk10 (fun _ _ => ?_) | refine tk11 (fun _ => ?_) | refine tk13 ?_ | refine tk14 ?_); (conv => whnf))
          simp [parseN, parseV, parseE, HP, h3]
        · (conv => whnf); repeat ((first | refine tk1 ?_ | refine tk2 ?_ | refine tk3 ?_ | refine tk12 (fun _ => ?_) | refine tk4 ?_ | refine tk5 ?_ | refine tk6 ?_ | refine tk7 ?_ | refine tk8 ?_ | refine tk9 ?_ | refine tk10 (fun _ _ => ?_) | refine tk11 (fun _ => ?_) | refine tk13 ?_ | refine tk14 ?_); (conv => whnf))
          simp [parseN, parseV, parseE, HP, h3, HC]
  · have HC := cutC_none l (fun x hx => by
      obtain ⟨j, hj, rfl⟩ := List.getElem_of_mem hx
      exact hI j _ (by omega) (List.getElem?_eq_getElem hj))
    have HF : parseOK l = false := by unfold parseOK; rw [HC]; simp
    (conv => whnf); repeat ((first | refine tk1 ?_ | refine tk2 ?_ | refine tk3 ?_ | refine tk12 (fun _ => ?_) | refine tk4 ?_ | refine tk5 ?_ | refine tk6 ?_ | refine tk7 ?_ | refine tk8 ?_ | refine tk9 ?_ | refine tk10 (fun _ _ => ?_) | refine tk11 (fun _ => ?_) | refine tk13 ?_ | refine tk14 ?_); (conv => whnf))
    refine Cmp.cases (fun h4 => ?_) (fun h4 => ?_)
    · (conv => whnf); repeat ((first | refine tk1 ?_ | refine tk2 ?_ | refine tk3 ?_ | refine tk12 (fun _ => ?_) | refine tk4 ?_ | refine tk5 ?_ | refine tk6 ?_ | refine tk7 ?_ | refine tk8 ?_ | refine tk9 ?_ | refine tk10 (fun _ _ => ?_) | refine tk11 (fun _ => ?_) | refine tk13 ?_ | refine tk14 ?_); (conv => whnf))
      simp [parseN, parseV, parseE, HF]
    · (conv => whnf); repeat ((first | refine tk1 ?_ | refine tk2 ?_ | refine tk3 ?_ | refine tk12 (fun _ => ?_) | refine tk4 ?_ | refine tk5 ?_ | refine tk6 ?_ | refine tk7 ?_ | refine tk8 ?_ | refine tk9 ?_ | refine tk10 (fun _ _ => ?_) | refine tk11 (fun _ => ?_) | refine tk13 ?_ | refine tk14 ?_); (conv => whnf))
      simp [parseN, parseV, parseE, HF]
end Go.Proofs.YtbgnogdlkmhnkaaGreatDoor.Vex
/- Functions on lists of fields, reckoned. -/
namespace Go.Proofs.YtbgnogdlkmhnkaaGreatDoor.Vex
open Go Go.RowKit
set_option maxRecDepth 100000
set_option linter.unusedSectionVars false
variable {gI : GI} [HasMax gI]

abbrev Fld := List UInt8 × List UInt8
/-- The cells of a list of fields. -/
def fcells : List Fld → List Value
  | [] => []
  | p :: r => str p.1 :: str p.2 :: fcells r
theorem fcells_length : ∀ l : List Fld, (fcells l).length = 2 * l.length
  | [] => rfl
  | _ :: r => by simp [fcells, fcells_length r]; omega
theorem fcells_drop : ∀ (l : List Fld) (k : Nat), (fcells l).drop (k * 2) = fcells (l.drop k)
  | l, 0 => by simp
  | [], k + 1 => by simp [fcells]
  | _ :: r, k + 1 => by rw [show (k + 1) * 2 = k * 2 + 2 by omega]; exact fcells_drop r k
theorem fcells_app : ∀ a b : List Fld, fcells (a ++ b) = fcells a ++ fcells b
  | [], _ => rfl
  | p :: a, b => by simp [fcells, fcells_app a b]
theorem fcells_one : ∀ l : List Fld, ∀ u ∈ fcells l, u.oneCell' = true
  | [], _, h => by cases h
  | p :: l, u, h => by
    simp only [fcells, List.mem_cons] at h
    rcases h with rfl | rfl | h
    · rfl
    · rfl
    · exact fcells_one l u h
theorem rdw_nil {w : World} {xs : List Value} (h : Rdw w none xs) : xs = [] := by
  cases xs with
  | nil => rfl
  | cons x r => obtain ⟨a, ha, _⟩ := h 0 x rfl; cases ha
theorem fcells_two (l : List Fld) (k : Nat) (h : k < l.length) : ((fcells l).drop (k * 2)).take 2 = [str l[k].1, str l[k].2] := by
  rw [fcells_drop, List.drop_eq_getElem_cons h]; rfl
theorem fcells_0 (l : List Fld) (k : Nat) (h : k < l.length) : (fcells l)[k * 2 + 0]? = some (str l[k].1) := by
  have := congrArg (·[0]?) (fcells_two l k h)
  simpa [List.getElem?_drop] using this
theorem fcells_1 (l : List Fld) (k : Nat) (h : k < l.length) : (fcells l)[k * 2 + 1]? = some (str l[k].2) := by
  have := congrArg (·[1]?) (fcells_two l k h)
  simpa [List.getElem?_drop] using this
def fw (p : Fld) : Nat := 1 + min p.1.length 100000 + min p.2.length 100000
def gs : List Fld → Nat
  | [] => 0
  | p :: r => fw p + gs r
theorem gs_add : ∀ a b : List Fld, gs (a ++ b) = gs a + gs b
  | [], b => by simp [gs]
  | p :: a, b => by simp [gs, gs_add a b]; omega
theorem gs_take (l : List Fld) (k : Nat) (h : k < l.length) : gs (l.take (k + 1)) = gs (l.take k) + fw l[k] := by
  rw [List.take_succ_eq_append_getElem h, gs_add]; simp [gs]
/-- A name's values. -/
def allOf (l : List Fld) (s : List UInt8) : List (List UInt8) := (l.filter fun p => smallOf p.1 == smallOf s).map (·.2)
theorem allOf_take (l : List Fld) (s : List UInt8) (k : Nat) (h : k < l.length) : allOf (l.take (k + 1)) s = allOf (l.take k) s ++ (if smallOf l[k].1 = smallOf s then [l[k].2] else []) := by
  unfold allOf
  rw [List.take_succ_eq_append_getElem h, List.filter_append, List.map_append]
  congr 1
  by_cases hq : smallOf l[k].1 = smallOf s <;> simp [hq]
theorem allOf_le (l : List Fld) (s : List UInt8) : (allOf l s).length ≤ l.length := by
  unfold allOf
  rw [List.length_map]
  exact List.length_filter_le _ _
end Go.Proofs.YtbgnogdlkmhnkaaGreatDoor.Vex
/- Texts between the places of a byte; items of a value. No program in sight. -/
namespace Go.Proofs.YtbgnogdlkmhnkaaGreatDoor

def splitB (c : UInt8) : List UInt8 → List (List UInt8)
  | [] => [[]]
  | x :: r => if x = c then [] :: splitB c r else (match splitB c r with | [] => [[x]] | p :: q => (x :: p) :: q)
theorem splitB_ne (c : UInt8) (l : List UInt8) : splitB c l ≠ [] := by
  cases l with
  | nil => simp [splitB]
  | cons x r =>
    unfold splitB
    split
    · simp
    · split <;> simp
theorem splitB_app (c : UInt8) : ∀ (a b : List UInt8), c ∉ a → splitB c (a ++ c :: b) = a :: splitB c b
  | [], b, _ => by simp [splitB]
  | x :: a, b, h => by
    have hx : x ≠ c := fun e => h (by simp [e])
    simp only [List.cons_append, splitB, if_neg hx, splitB_app c a b (fun e => h (List.mem_cons_of_mem _ e))]
theorem splitB_none (c : UInt8) : ∀ (l : List UInt8), c ∉ l → splitB c l = [l]
  | [], _ => rfl
  | x :: r, h => by
    have hx : x ≠ c := fun e => h (by simp [e])
    simp only [splitB, if_neg hx, splitB_none c r (fun e => h (List.mem_cons_of_mem _ e))]
theorem splitB_join (c : UInt8) : ∀ (a b : List UInt8), splitB c (a ++ c :: b) = splitB c a ++ splitB c b
  | [], b => by simp [splitB]
  | x :: a, b => by
    simp only [List.cons_append, splitB, splitB_join c a b]
    by_cases hx : x = c
    · simp [hx]
    · simp only [if_neg hx]
      cases h : splitB c a with
      | nil => exact absurd h (splitB_ne c a)
      | cons p q => rfl
theorem splitB_at (c : UInt8) (l : List UInt8) (k : Nat) (h : c ∉ l.take k) (hk : l[k]? = some c) : splitB c l = l.take k :: splitB c (l.drop (k + 1)) := by
  obtain ⟨hlt, he⟩ := List.getElem?_eq_some_iff.1 hk
  conv => lhs; rw [← List.take_append_drop k l, List.drop_eq_getElem_cons hlt, he]
  exact splitB_app c _ _ h
theorem splitB_mem (c : UInt8) : ∀ (l p : List UInt8), p ∈ splitB c l → c ∉ p ∧ p.length ≤ l.length
  | [], p, h => by simp [splitB] at h; subst h; simp
  | x :: r, p, h => by
    unfold splitB at h
    split at h
    · rcases List.mem_cons.1 h with rfl | h
      · simp
      · have := splitB_mem c r p h
        exact ⟨this.1, by simp; omega⟩
    · rename_i hx
      split at h
      · rename_i h0; exact absurd h0 (splitB_ne c r)
      · rename_i q qs hq
        rcases List.mem_cons.1 h with rfl | h
        · have := splitB_mem c r q (by rw [hq]; simp)
          refine ⟨fun hm => ?_, by simp; omega⟩
          rcases List.mem_cons.1 hm with e | e
          · exact hx e.symm
          · exact this.1 e
        · have := splitB_mem c r p (by rw [hq]; exact List.mem_cons_of_mem _ h)
          exact ⟨this.1, by simp; omega⟩
theorem splitB_length (c : UInt8) : ∀ l : List UInt8, (splitB c l).length ≤ l.length + 1
  | [] => by simp [splitB]
  | x :: r => by
    have := splitB_length c r
    unfold splitB
    split
    · simp; omega
    · split
      · simp
      · rename_i h; rw [h] at this; simp at this ⊢; omega
theorem index_one (c : UInt8) : ∀ l : List UInt8, (Lib.index l [c] = -1 ∧ c ∉ l) ∨ ∃ k : Nat, Lib.index l [c] = k ∧ k < l.length ∧ c ∉ l.take k ∧ l[k]? = some c
  | [] => .inl ⟨rfl, by simp⟩
  | x :: r => by
    unfold Lib.index
    by_cases hx : c = x
    · subst hx
      exact .inr ⟨0, by simp [List.isPrefixOf], by simp, by simp, by simp⟩
    · have h0 : ([c] : List UInt8).isPrefixOf (x :: r) = false := by simp [List.isPrefixOf, hx]
      rw [h0]
      rcases index_one c r with ⟨h1, h2⟩ | ⟨k, h1, h2, h3, h4⟩
      · exact .inl ⟨by simp [h1], by simp [hx, h2]⟩
      · refine .inr ⟨k + 1, ?_, by simp; omega, by simp [hx, h3], by simpa using h4⟩
        rw [h1]
        simp only [Bool.false_eq_true, if_false]
        rw [if_neg (by simp)]
        omega
theorem drop_drop_idem (p : UInt8 → Bool) : ∀ l : List UInt8, (l.dropWhile p).dropWhile p = l.dropWhile p
  | [] => rfl
  | x :: r => by
    by_cases h : p x
    · simp [h, drop_drop_idem p r]
    · simp [h]
theorem trimLB_idem (l : List UInt8) : trimLB (trimLB l) = trimLB l := drop_drop_idem _ l
theorem trimRB_idem (l : List UInt8) : trimRB (trimRB l) = trimRB l := by
  unfold trimRB Lib.trimRightS
  rw [List.reverse_reverse, drop_drop_idem]
theorem trimB_idem (l : List UInt8) : trimB (trimB l) = trimB l := by
  rw [trimB_eq (trimB l), trimB_eq l]
  have h : ∀ m, trimLB (trimRB m) = trimRB (trimLB m) := fun m => trim_comm [32, 9] m
  rw [h, trimLB_idem, trimRB_idem]
theorem trimB_sub (x : UInt8) (l : List UInt8) (h : x ∈ trimB l) : x ∈ l := by
  unfold trimB Lib.trimS Lib.trimLeftS Lib.trimRightS at h
  have h1 := (List.dropWhile_sublist _).subset h
  rw [List.mem_reverse] at h1
  have h2 := (List.dropWhile_sublist _).subset h1
  exact List.mem_reverse.1 h2

/-- What stands between commas, trimmed, if anything is left. -/
def itemsOf (l : List UInt8) : List (List UInt8) := ((splitB 44 l).map trimB).filter fun s => !s.isEmpty
def itemOf (p : List UInt8) : List (List UInt8) := if trimB p = [] then [] else [trimB p]
theorem items_cons (l p : List UInt8) (q : List (List UInt8)) (h : splitB 44 l = p :: q) : itemsOf l = itemOf p ++ (q.map trimB).filter fun s => !s.isEmpty := by
  unfold itemsOf itemOf
  rw [h, List.map_cons, List.filter_cons]
  by_cases h0 : trimB p = []
  · simp [h0]
  · rw [if_pos (by simpa using h0), if_neg h0]; rfl
theorem items_at (l : List UInt8) (k : Nat) (h : 44 ∉ l.take k) (hk : l[k]? = some 44) : itemsOf l = itemOf (l.take k) ++ itemsOf (l.drop (k + 1)) :=
  items_cons _ _ _ (splitB_at 44 l k h hk)
theorem items_none (l : List UInt8) (h : 44 ∉ l) : itemsOf l = itemOf l := by
  rw [items_cons _ _ _ (splitB_none 44 l h)]
  simp
theorem items_join (a b : List UInt8) : itemsOf (a ++ 44 :: b) = itemsOf a ++ itemsOf b := by
  unfold itemsOf
  rw [splitB_join, List.map_append, List.filter_append]
theorem items_mem {l s : List UInt8} (h : s ∈ itemsOf l) : s ≠ [] ∧ trimB s = s ∧ 44 ∉ s ∧ s.length ≤ l.length := by
  unfold itemsOf at h
  obtain ⟨h1, h2⟩ := List.mem_filter.1 h
  obtain ⟨p, hp, rfl⟩ := List.mem_map.1 h1
  obtain ⟨h3, h4⟩ := splitB_mem 44 l p hp
  refine ⟨by simpa using h2, trimB_idem p, fun hm => h3 (trimB_sub _ _ hm), Nat.le_trans (trimB_length p) h4⟩
theorem items_length (l : List UInt8) : (itemsOf l).length ≤ l.length + 1 := by
  unfold itemsOf
  refine Nat.le_trans (List.length_filter_le _ _) ?_
  rw [List.length_map]
  exact splitB_length 44 l
theorem itemOf_length (p : List UInt8) : (itemOf p).length ≤ 1 := by unfold itemOf; split <;> simp
end Go.Proofs.YtbgnogdlkmhnkaaGreatDoor
/- How much lists of texts, and of fields, hold. No program in sight. -/
namespace Go.Proofs.YtbgnogdlkmhnkaaGreatDoor
def lsum (l : List (List UInt8)) : Nat := (l.map fun s => s.length + 1).sum
theorem lsum_cons (x : List UInt8) (l : List (List UInt8)) : lsum (x :: l) = x.length + 1 + lsum l := rfl
theorem lsum_append : ∀ a b : List (List UInt8), lsum (a ++ b) = lsum a + lsum b
  | [], b => by simp [lsum]
  | x :: a, b => by rw [List.cons_append, lsum_cons, lsum_cons, lsum_append a b]; omega
theorem split_sum (c : UInt8) : ∀ l : List UInt8, lsum (splitB c l) = l.length + 1
  | [] => rfl
  | x :: r => by
    have ih := split_sum c r
    unfold splitB
    split
    · rw [lsum_cons, ih]; simp; omega
    · cases h : splitB c r with
      | nil => exact absurd h (splitB_ne c r)
      | cons p q => rw [h, lsum_cons] at ih; rw [lsum_cons]; simp only [List.length_cons]; omega
theorem lsum_trim : ∀ l : List (List UInt8), lsum ((l.map trimB).filter fun s => !s.isEmpty) ≤ lsum l
  | [] => Nat.le_refl _
  | x :: r => by
    have ih := lsum_trim r
    have := trimB_length x
    rw [List.map_cons, List.filter_cons, lsum_cons]
    split
    · rw [lsum_cons]; omega
    · omega
theorem items_sum (l : List UInt8) : lsum (itemsOf l) ≤ l.length + 1 := by
  unfold itemsOf
  rw [← split_sum 44 l]
  exact lsum_trim _
end Go.Proofs.YtbgnogdlkmhnkaaGreatDoor
namespace Go.Proofs.YtbgnogdlkmhnkaaGreatDoor.Vex
open Go Go.RowKit
def fsum (l : List Fld) : Nat := (l.map fun p => p.1.length + p.2.length + 3).sum
theorem fsum_cons (p : Fld) (l : List Fld) : fsum (p :: l) = p.1.length + p.2.length + 3 + fsum l := rfl
theorem fsum_append : ∀ a b : List Fld, fsum (a ++ b) = fsum a + fsum b
  | [], b => by simp [fsum]
  | x :: a, b => by rw [List.cons_append, fsum_cons, fsum_cons, fsum_append a b]; omega
theorem fsum_mem {l : List Fld} {p : Fld} (h : p ∈ l) : p.1.length + p.2.length + 3 ≤ fsum l := by
  induction l with
  | nil => cases h
  | cons y r ih =>
    rw [fsum_cons]
    rcases List.mem_cons.1 h with rfl | h
    · omega
    · have := ih h; omega
theorem fsum_length : ∀ l : List Fld, 3 * l.length ≤ fsum l
  | [] => Nat.le_refl _
  | x :: r => by have := fsum_length r; rw [fsum_cons, List.length_cons]; omega
theorem allOf_sum (s : List UInt8) : ∀ l : List Fld, lsum (allOf l s) ≤ fsum l
  | [] => Nat.le_refl _
  | x :: r => by
    have := allOf_sum s r
    unfold allOf at this ⊢
    rw [List.filter_cons, fsum_cons]
    split
    · rw [List.map_cons, lsum_cons]; omega
    · omega
theorem lsum_length (l : List (List UInt8)) : l.length ≤ lsum l := by
  induction l with
  | nil => exact Nat.le_refl _
  | cons x r ih => rw [lsum_cons, List.length_cons]; omega
end Go.Proofs.YtbgnogdlkmhnkaaGreatDoor.Vex
/- The kinds of data that this program's statements take: fields, requests, bytes. -/
namespace Go.Proofs.YtbgnogdlkmhnkaaGreatDoor.Vex
open Go Go.RowKit Go.ChangeShapes Go.WideShapes Go.Deep
set_option maxRecDepth 100000

/-- Another form of the same data. -/
theorem opens_map {P : Program} {t : TypeId} {S T : Shape} (h : Opens P t S) (g : S.α → T.α) (hn : S.n = T.n) (hf : ∀ W x, S.ok W x → S.f x = T.f (g x)) (hok : ∀ W x, S.ok W x → T.ok W (g x)) (hw : ∀ W x, S.ok W x → T.wt (g x) ≤ S.wt x) : Opens P t T := ⟨h.1.trans hn, fun hd => by
  obtain ⟨x, h1, h2, h3, h4⟩ := h.2 hd
  exact ⟨g x, h1.trans (hf _ x h2), hok _ x h2, Nat.le_trans (hw _ x h2) h3, by rw [← hf _ x h2, h4, hn]⟩⟩
abbrev byteShape : Shape := ⟨UInt8, 1, fun b => [byteV b], fun _ _ => True, fun _ => 1⟩
theorem opens_byte {P : Program} {t : TypeId} (ht : P.underlying t = some (.int .u8)) (hc : P.cellsOf t = 1) : Opens P t byteShape :=
  opens_map (opens_int ht hc) (fun (n : Int) => UInt8.ofNat n.toNat) rfl (fun W (x : Int) (h : IntKind.u8.min ≤ x ∧ x ≤ IntKind.u8.max) => by
    have h1 : (0 : Int) ≤ x := h.1
    have h2 : x ≤ 255 := h.2
    clear h
    show [Value.int .u8 x] = [byteV _]
    unfold byteV
    rw [UInt8.toNat_ofNat_of_lt' (by show x.toNat < 256; omega), Int.toNat_of_nonneg h1]) (fun _ _ _ => trivial) (fun _ _ _ => Nat.le_refl _)
abbrev u16Shape : Shape := ⟨Nat, 1, fun n => [.int .u16 (n : Nat)], fun _ n => n < 65536, fun _ => 1⟩
theorem opens_nat16 {P : Program} {t : TypeId} (ht : P.underlying t = some (.int .u16)) (hc : P.cellsOf t = 1) : Opens P t u16Shape :=
  opens_map (opens_int ht hc) (fun (n : Int) => n.toNat) rfl (fun W (x : Int) (h : IntKind.u16.min ≤ x ∧ x ≤ IntKind.u16.max) => by
    have h1 : (0 : Int) ≤ x := h.1
    show [Value.int .u16 x] = [Value.int .u16 (x.toNat : Nat)]
    rw [Int.toNat_of_nonneg h1]) (fun W (x : Int) (h : IntKind.u16.min ≤ x ∧ x ≤ IntKind.u16.max) => by
    have h1 : (0 : Int) ≤ x := h.1
    have h2 : x ≤ 65535 := h.2
    clear h
    show x.toNat < 65536
    omega) (fun _ _ _ => Nat.le_refl _)
abbrev bytesShape : Shape := sliceShape byteShape
theorem flat_bytes (l : List UInt8) : l.flatMap (fun b => [byteV b]) = l.map byteV := by
  induction l with
  | nil => rfl
  | cons a r ih => rw [List.flatMap_cons, ih]; rfl
theorem flat_strs (l : List (List UInt8)) : l.flatMap (fun b => [str b]) = l.map str := by
  induction l with
  | nil => rfl
  | cons a r ih => rw [List.flatMap_cons, ih]; rfl
theorem flat_fields (l : List Fld) : l.flatMap (fun p => [str p.1, str p.2]) = fcells l := by
  induction l with
  | nil => rfl
  | cons a r ih => rw [List.flatMap_cons, ih]; rfl
abbrev fldShape : Shape := ⟨Fld, 2, fun p => [str p.1, str p.2], fun _ p => p.1.length ≤ 9223372036854775807 ∧ p.2.length ≤ 9223372036854775807, fun p => p.1.length + p.2.length + 3⟩
theorem opens_string : Opens Tryz.prog 9 strShape := opens_str Tryz.underlying9 (by kernel_rfl)
theorem opens_i64 : Opens Tryz.prog 3 (intShape .i64) := opens_int Tryz.underlying3 (by kernel_rfl)
theorem opens_tf : Opens Tryz.prog 4 boolShape := opens_bool Tryz.underlying4 (by kernel_rfl)
theorem opens_u8 : Opens Tryz.prog 5 byteShape := opens_byte Tryz.underlying5 (by kernel_rfl)
theorem opens_bytes : Opens Tryz.prog 22 bytesShape := opens_slice Tryz.underlying22 (by kernel_rfl) opens_u8
theorem opens_field : Opens Tryz.prog 62 fldShape := by
  have h := opens_struct Tryz.underlying62 (by kernel_rfl) (opensL_cons rfl opens_string (opensL_cons rfl opens_string (opensL_nil _)))
  exact opens_map h (fun x => (x.1, x.2.1)) rfl (fun _ _ _ => rfl) (fun _ _ h => ⟨h.1, h.2.1⟩) (fun _ _ _ => by dsimp only; omega)
abbrev fieldsShape : Shape := sliceShape fldShape
/-- A request that came in. -/
structure Req where
  m : List UInt8
  p : List UInt8
  q : List UInt8
  v : Int
  F : Sl Fld
  B : Sl UInt8
def Req.cells (r : Req) : List Value := [str r.m, str r.p, str r.q, .int .i64 r.v, .slice r.F.A r.F.l.length r.F.cp, .slice r.B.A r.B.l.length r.B.cp]
abbrev reqShape : Shape := ⟨Req, 6, Req.cells, fun w r => (-9223372036854775808 ≤ r.v ∧ r.v ≤ 9223372036854775807) ∧ fieldsShape.ok w r.F ∧ bytesShape.ok w r.B ∧ r.m.length ≤ 9223372036854775807 ∧ r.p.length ≤ 9223372036854775807 ∧ r.q.length ≤ 9223372036854775807,
  fun r => r.m.length + r.p.length + r.q.length + fieldsShape.wt r.F + bytesShape.wt r.B⟩
theorem req_fsum (x : Req) : fsum x.F.l ≤ reqShape.wt x := by
  show fsum x.F.l ≤ x.m.length + x.p.length + x.q.length + (fsum x.F.l + 1) + bytesShape.wt x.B
  omega
theorem fld_len (x : Fld) : x.1.length + x.2.length ≤ fldShape.wt x := by
  show x.1.length + x.2.length ≤ x.1.length + x.2.length + 3
  omega
theorem rd_bytes {W : World} {x : Sl UInt8} (h : bytesShape.ok W x) : Rdw W x.A (x.l.map byteV) := flat_bytes x.l ▸ h.2.1
theorem rd_fields {W : World} {x : Sl Fld} (h : fieldsShape.ok W x) : Rdw W x.A (fcells x.l) := flat_fields x.l ▸ h.2.1
end Go.Proofs.YtbgnogdlkmhnkaaGreatDoor.Vex
/- The cell of internal/bytealg.MaxLen holds a number, in every world of the program's shape. -/
namespace Go.Proofs.YtbgnogdlkmhnkaaGreatDoor

theorem maxLen_cell {w : World} (h : w.ShapedOpen Tryz.prog) : ∃ m, w.cell? ⟨0, 0, none⟩ = some (.int .i64 m) :=
  Go.Proofs.cell_of_shapedOpen_int (zero := #[.int .i64 0]) (t := 3) h (of_decide_eq_true (by kernel_rfl)) (by kernel_rfl) rfl (by kernel_rfl) (by kernel_rfl) Tryz.underlying3
end Go.Proofs.YtbgnogdlkmhnkaaGreatDoor
/- What a row's listed variables give the walks: the two sentinels of strconv, the table of powers, the cell of MaxLen. -/
namespace Go.Proofs.YtbgnogdlkmhnkaaGreatDoor.Vex
open Go Go.RowKit Go.ChangeShapes

theorem reads_of {l : List (String × DataW Unit)} {W : World} (h : laidMetH Tryz.prog l W) (hp : (l.all fun x => x.2.handleName?.isNone) = true) {n : String} {d : DataW Unit} (hm : (n, d) ∈ l) : Lib.VarReads Tryz.prog W n d := by
  rw [MakeChecks.laidMetH_plain _ _ _ hp] at h
  exact Lib.laidMet.reads h hm
theorem errCell_of {P : Program} {W : World} {n nm : String} {d : DataW Unit} {g : Nat} {ti : TypeId} {ms : Array (String × TypeId)} (h : Lib.VarReads P W n (.iface nm d)) (hg : P.globalNamed n = some g) (ht : (P.globals[g]?).map (·.type) = some ti) (hi : P.underlying ti = some (.interface ms)) : ErrCell g W := by
  obtain ⟨g', t', cs, fuel, p, hg', ht', hv, hd⟩ := h
  obtain rfl := Option.some.inj (hg.symm.trans hg')
  obtain rfl := Option.some.inj (ht.symm.trans ht')
  obtain ⟨f1, u, v, hcs, hn, h1⟩ := iface_of_trod hi hd
  have h2 := World.var?_cell hg hv 0
  rw [show cs = #[.iface u v] by rw [← Array.toList_inj, hcs]] at h2
  exact ⟨.iface u v, by simpa using h2, .inr ⟨u, v, rfl⟩⟩
theorem tab_of {P : Program} {W : World} {n : String} {k : IntKind} {zs : List Int} {g : Nat} {t e : TypeId} {m : Nat} (h : Lib.VarReads P W n (Lib.tabData k zs)) (hg : P.globalNamed n = some g) (ht : (P.globals[g]?).map (·.type) = some t) (hu : P.underlying t = some (.array m e)) (he : P.underlying e = some (.int k)) (hce : P.cellsOf e = 1) (hct : P.cellsOf t = m) : Lib.TabIs P W n k zs := by
  obtain ⟨g', t', cs, fuel, p, hg', ht', hv, hd⟩ := h
  obtain rfl := Option.some.inj (hg.symm.trans hg')
  obtain rfl := Option.some.inj (ht.symm.trans ht')
  unfold Lib.TabIs
  rw [hv, ← Lib.cells_of_tab hu he hce hct hd]
theorem gB_of {W : World} (hS : W.ShapedOpen Tryz.prog) : gB.G W := maxLen_cell hS
theorem gE_of {l : List (String × DataW Unit)} {W : World} (hL : laidMetH Tryz.prog l W) (hS : W.ShapedOpen Tryz.prog) (hp : (l.all fun x => x.2.handleName?.isNone) = true)
    (h1 : ("strconv.ErrSyntax", Rows.laid_strconv_ErrSyntax) ∈ l) (h2 : ("strconv.ErrRange", Rows.laid_strconv_ErrRange) ∈ l) : gE.G W :=
  ⟨gB_of hS, errCell_of (ti := 81) (reads_of hL hp h1) (g := 6) (by kernel_rfl) (by kernel_rfl) Tryz.underlying81, errCell_of (ti := 81) (reads_of hL hp h2) (g := 7) (by kernel_rfl) (by kernel_rfl) Tryz.underlying81⟩
theorem gP_of {l : List (String × DataW Unit)} {W : World} (hL : laidMetH Tryz.prog l W) (hS : W.ShapedOpen Tryz.prog) (hp : (l.all fun x => x.2.handleName?.isNone) = true)
    (h1 : ("strconv.ErrSyntax", Rows.laid_strconv_ErrSyntax) ∈ l) (h2 : ("strconv.ErrRange", Rows.laid_strconv_ErrRange) ∈ l) (h3 : ("internal/strconv.uint64pow10", Rows.laid_internal_strconv_uint64pow10) ∈ l) : gP.G W :=
  ⟨gE_of hL hS hp h1 h2, tab_of (t := 101) (e := 72) (m := 20) (reads_of hL hp h3) pow_name (by kernel_rfl) Tryz.underlying101 Tryz.underlying72 (by kernel_rfl) (by kernel_rfl)⟩
end Go.Proofs.YtbgnogdlkmhnkaaGreatDoor.Vex
/- The first line of a request, as byte lists: what is told, what is written. No program in sight. -/
namespace Go.Proofs.YtbgnogdlkmhnkaaGreatDoor

def freeL : List UInt8 := [45, 46, 95, 126]
def pathL : List UInt8 := [45, 46, 95, 126, 33, 36, 38, 39, 40, 41, 42, 43, 44, 59, 61, 58, 64, 47]
def queryL : List UInt8 := pathL ++ [63]
/-- A letter, a digit, or one of some marks. -/
def plainB (marks : List UInt8) (x : UInt8) : Bool := smallI x.toNat || greatI x.toNat || marks.contains x
def digI (x : Int) : Int := if 48 ≤ x ∧ x ≤ 57 then x - 48 else if 97 ≤ x ∧ x ≤ 102 then x - 87 else if 65 ≤ x ∧ x ≤ 70 then x - 55 else -1
def hexB (x : UInt8) : Bool := decide (0 ≤ digI x.toNat)
def hexV (a b : UInt8) : UInt8 := (16 * digI a.toNat + digI b.toNat).toNat.toUInt8
/-- Has a text just such bytes, or quoted ones? -/
def madeOf (marks : List UInt8) : List UInt8 → Bool
  | [] => true
  | 37 :: a :: b :: r => hexB a && hexB b && madeOf marks r
  | x :: r => plainB marks x && madeOf marks r
def pathOf (s : List UInt8) : Bool := (s.head? == some 47) && madeOf pathL s
def queryOf (s : List UInt8) : Bool := madeOf queryL s
def methodsL : List (List UInt8) := [[71, 69, 84], [72, 69, 65, 68], [80, 79, 83, 84], [80, 85, 84], [68, 69, 76, 69, 84, 69], [79, 80, 84, 73, 79, 78, 83]]
def methodOf (s : List UInt8) : Bool := methodsL.contains s
/-- Bytes for what was quoted. -/
def unq : List UInt8 → List UInt8
  | [] => []
  | 37 :: a :: b :: r => if hexB a && hexB b then hexV a b :: unq r else 37 :: unq (a :: b :: r)
  | x :: r => x :: unq r
def segs (s : List UInt8) : List (List UInt8) := (splitB 47 (s.drop 1)).map unq
def segE (s : List UInt8) : Int := if pathOf s then 0 else 3
def segO (s : List UInt8) : List (List UInt8) := if pathOf s then segs s else []
def hexD (n : Nat) : UInt8 := if n < 10 then (48 + n).toUInt8 else (55 + n).toUInt8
def quoteB (x : UInt8) : List UInt8 := if plainB freeL x then [x] else [37, hexD (x.toNat / 16), hexD (x.toNat % 16)]
def quoteOf (s : List UInt8) : List UInt8 := s.flatMap quoteB
/-- What stands ahead of the first place of a byte, what behind it, and whether there is one. -/
def cutB (c : UInt8) : List UInt8 → List UInt8 × List UInt8 × Bool
  | [] => ([], [], false)
  | x :: r => if x = c then ([], r, true) else (x :: (cutB c r).1, (cutB c r).2.1, (cutB c r).2.2)
def httpL : List UInt8 := [72, 84, 84, 80, 47, 49, 46]
/-- The version of a line's end; none: it tells none. -/
def versionOf (s : List UInt8) : Option Int := match s with
  | [72, 84, 84, 80, 47, 49, 46, d] => if 48 ≤ d.toNat ∧ d.toNat ≤ 57 then some (if d.toNat = 48 then 0 else 1) else none
  | _ => none
structure Rq where
  m : List UInt8
  p : List UInt8
  q : List UInt8
  v : Int
deriving DecidableEq
def rq0 : Rq := ⟨[], [], [], 0⟩
def lineTarget (s : List UInt8) : List UInt8 := (cutB 32 (cutB 32 s).2.1).1
def lineRq (s : List UInt8) : Rq := ⟨(cutB 32 s).1, (cutB 63 (lineTarget s)).1, (cutB 63 (lineTarget s)).2.1, (versionOf (cutB 32 (cutB 32 s).2.1).2.1).getD 0⟩
def lineOK (s : List UInt8) : Bool := decide (s.length ≤ 4096) && (cutB 32 s).2.2 && (cutB 32 (cutB 32 s).2.1).2.2 && (versionOf (cutB 32 (cutB 32 s).2.1).2.1).isSome && tokenOf (lineRq s).m && pathOf (lineRq s).p && queryOf (lineRq s).q
def lineR (s : List UInt8) : Rq := if lineOK s && methodOf (lineRq s).m then lineRq s else rq0
def lineSt (s : List UInt8) : Int := if lineOK s then (if methodOf (lineRq s).m then 200 else 501) else 400
def targetOf (r : Rq) : List UInt8 := if r.q = [] then r.p else r.p ++ 63 :: r.q
def writeL (r : Rq) : List UInt8 := r.m ++ [32] ++ targetOf r ++ [32, 72, 84, 84, 80, 47, 49, 46] ++ (if r.v = 0 then [48] else [49])
def writeOK (r : Rq) : Bool := methodOf r.m && pathOf r.p && queryOf r.q && decide (0 ≤ r.v) && decide (r.v ≤ 1) && decide ((writeL r).length ≤ 4096)
def writeS (r : Rq) : List UInt8 := if writeOK r then writeL r else []
def writeE (r : Rq) : Int := if writeOK r then 0 else 3

/-! ## Plain facts -/
theorem dig_range (x : UInt8) : -1 ≤ digI x.toNat ∧ digI x.toNat ≤ 15 := by unfold digI; split <;> (try split) <;> (try split) <;> omega
theorem hexB_iff (x : UInt8) : hexB x = true ↔ 0 ≤ digI x.toNat := by simp [hexB]
theorem hex_not_slash (x : UInt8) (h : hexB x = true) : x ≠ 47 := by
  intro e; subst e; revert h; decide
theorem hexV_toNat (a b : UInt8) (ha : hexB a = true) (hb : hexB b = true) : ((hexV a b).toNat : Int) = 16 * digI a.toNat + digI b.toNat := by
  rw [hexB_iff] at ha hb
  have h1 := dig_range a
  have h2 := dig_range b
  unfold hexV
  have : (16 * digI a.toNat + digI b.toNat).toNat < 256 := by omega
  rw [Nat.toUInt8, UInt8.toNat_ofNat', Nat.mod_eq_of_lt (by omega)]
  omega
theorem plain_not_37 {marks : List UInt8} (h : marks.contains 37 = false) : plainB marks 37 = false := by
  unfold plainB
  rw [h]; decide
theorem made_cons (marks : List UInt8) (x : UInt8) (r : List UInt8) (hx : x ≠ 37) : madeOf marks (x :: r) = (plainB marks x && madeOf marks r) := by
  simp [madeOf, hx]
theorem made_37 (marks : List UInt8) (h : marks.contains 37 = false) (r : List UInt8) : madeOf marks (37 :: r) = match r with | a :: b :: r => hexB a && hexB b && madeOf marks r | _ => false := by
  match r with
  | [] => simp [madeOf, plain_not_37 h]
  | [a] => simp [madeOf, plain_not_37 h]
  | a :: b :: r => simp [madeOf]
theorem unq_cons (x : UInt8) (r : List UInt8) (hx : x ≠ 37) : unq (x :: r) = x :: unq r := by
  simp [unq, hx]
theorem unq_37 (a b : UInt8) (r : List UInt8) (ha : hexB a = true) (hb : hexB b = true) : unq (37 :: a :: b :: r) = hexV a b :: unq r := by simp [unq, ha, hb]
theorem cutB_at (c : UInt8) : ∀ (l : List UInt8) (k : Nat), c ∉ l.take k → l[k]? = some c → cutB c l = (l.take k, l.drop (k + 1), true)
  | [], k, _, h => by simp at h
  | x :: r, 0, _, h => by simp at h; simp [cutB, h]
  | x :: r, k + 1, hn, h => by
    have hx : x ≠ c := fun e => hn (by simp [e])
    have ih := cutB_at c r k (fun e => hn (by simp [e])) (by simpa using h)
    simp [cutB, hx, ih]
theorem cutB_none (c : UInt8) : ∀ (l : List UInt8), c ∉ l → cutB c l = (l, [], false)
  | [], _ => rfl
  | x :: r, hn => by
    have hx : x ≠ c := fun e => hn (by simp [e])
    simp [cutB, hx, cutB_none c r (fun e => hn (by simp [e]))]
theorem cutB_length (c : UInt8) : ∀ l : List UInt8, (cutB c l).1.length + (cutB c l).2.1.length ≤ l.length
  | [] => by simp [cutB]
  | x :: r => by
    have := cutB_length c r
    unfold cutB
    split
    · simp
    · simp; omega
/-- The library's cut, at one byte. -/
theorem cut_one (c : UInt8) : ∀ l : List UInt8, Lib.cut l [c] = cutB c l := fun l => by
  unfold Lib.cut
  rcases index_one c l with ⟨h1, h2⟩ | ⟨k, h1, h2, h3, h4⟩
  · rw [h1, cutB_none c l h2]; simp
  · rw [h1, cutB_at c l k h3 h4]; simp
end Go.Proofs.YtbgnogdlkmhnkaaGreatDoor
/- Bodies in chunks, byte by byte, as plain functions. No program in sight. -/
namespace Go.Proofs.YtbgnogdlkmhnkaaGreatDoor.Vex

/-- A body under way. -/
structure CSt where
  ph : Nat
  left : Int
  line : List UInt8
  trail : Int
deriving DecidableEq
def cst0 : CSt := ⟨0, 0, [], 0⟩
def crB (l : List UInt8) : Bool := l.getLast? == some 13
/-- A line without the 13 at its end. -/
def bare (l : List UInt8) : List UInt8 := if crB l then l.dropLast else l
def noEnd (l : List UInt8) : Bool := l.all fun x => !(x == 10) && !(x == 13)
def lineMay (c : CSt) : Bool :=
  if c.ph = 0 then noEnd (bare c.line) && decide ((bare c.line).length ≤ 64)
  else if c.ph = 1 ∨ c.ph = 4 then decide (c.line = [])
  else if c.ph = 2 then noEnd (bare c.line) && decide (bare c.line = [])
  else if c.ph = 3 then noEnd (bare c.line) && decide (c.line.length ≤ 256)
  else false
def leftMay (c : CSt) : Bool := if c.ph = 1 then decide (1 ≤ c.left) && decide (c.left < 16777216) else decide (c.left = 0)
def trailMay (c : CSt) : Bool := if c.ph = 3 then decide ((c.line.length : Int) ≤ c.trail) && decide (c.trail ≤ 256) else decide (c.trail = 0)
def chMay (c : CSt) : Bool := lineMay c && (leftMay c && trailMay c)
def chE (c : CSt) : Int := if chMay c then 0 else 8
/-- A byte of a line: what is left, the line's text if it has ended, the error. -/
def lineG (l : List UInt8) (x : UInt8) : List UInt8 × Option (List UInt8) × Int :=
  if crB l && decide (x = 10) then ([], some l.dropLast, 0)
  else if crB l || decide (x = 10) then (l, none, 3)
  else (l ++ [x], none, 0)
/-- The number of a chunk's line: below 0: it is not of its form. -/
def hexN (s : List UInt8) : Int := s.foldl (fun n x => 16 * n + digI x.toNat) 0
def digsOf (s : List UInt8) : List UInt8 := (cutB 59 s).1.reverse.dropWhile (fun x => x == 32 || x == 9) |>.reverse
def numC (s : List UInt8) : Int :=
  if decide (1 ≤ (digsOf s).length) && (decide ((digsOf s).length ≤ 6) && ((digsOf s).all hexB && (!(cutB 59 s).2.2 || valueOf ([46] ++ (cutB 59 s).2.1 ++ [46])))) then hexN (digsOf s) else -1
/-- A byte that is no data. -/
def oneG (c : CSt) (x : UInt8) : CSt × Int :=
  if c.ph = 0 then
    if c.line.length = 64 ∧ x ≠ 13 ∧ x ≠ 10 ∧ crB c.line = false then (c, 3)
    else match lineG c.line x with
      | (l, none, e) => ({ c with line := l }, e)
      | (l, some t, _) => if numC t < 0 then ({ c with line := l }, 3) else if numC t = 0 then (⟨3, 0, l, c.trail⟩, 0) else (⟨1, numC t, l, c.trail⟩, 0)
  else if c.ph = 2 then
    if c.line = [] ∧ x ≠ 13 then (c, 3)
    else match lineG c.line x with
      | (l, none, e) => ({ c with line := l }, e)
      | (l, some _, e) => ({ c with line := l, ph := 0 }, e)
  else
    if c.trail = 256 then (c, 3)
    else match lineG c.line x with
      | (l, none, e) => ({ c with line := l, trail := c.trail + 1 }, e)
      | (l, some t, _) => if t = [] then (⟨4, c.left, l, 0⟩, 0) else ({ c with line := l, trail := c.trail + 1 }, parseE t)
/-- What goes on with bytes tells: the body, its data, how many were read, the error. -/
structure CRes where
  c : CSt
  data : List UInt8
  used : Nat
  e : Int
deriving DecidableEq
def fedG (c : CSt) (d : List UInt8) (i : Nat) : List UInt8 → CRes
  | [] => ⟨c, d, i, 0⟩
  | x :: r => if c.ph = 4 then ⟨c, d, i, 0⟩
    else if c.ph = 1 then fedG { c with left := c.left - 1, ph := if c.left - 1 = 0 then 2 else 1 } (d ++ [x]) (i + 1) r
    else if (oneG c x).2 = 0 then fedG (oneG c x).1 d (i + 1) r
    else ⟨cst0, [], 0, (oneG c x).2⟩
def feedG (c : CSt) (b : List UInt8) : CRes :=
  if chMay c then (if c.ph = 4 then ⟨cst0, [], 0, 6⟩ else if b.length ≤ 131072 then fedG c [] 0 b else ⟨cst0, [], 0, 4⟩) else ⟨cst0, [], 0, 8⟩
end Go.Proofs.YtbgnogdlkmhnkaaGreatDoor.Vex
/- Plain laws on bodies in chunks: in two parts; what is kept. No program in sight. -/
namespace Go.Proofs.YtbgnogdlkmhnkaaGreatDoor.Vex

theorem fed_cons (c : CSt) (d : List UInt8) (i : Nat) (x : UInt8) (r : List UInt8) : fedG c d i (x :: r) = if c.ph = 4 then ⟨c, d, i, 0⟩
    else if c.ph = 1 then fedG { c with left := c.left - 1, ph := if c.left - 1 = 0 then 2 else 1 } (d ++ [x]) (i + 1) r
    else if (oneG c x).2 = 0 then fedG (oneG c x).1 d (i + 1) r
    else ⟨cst0, [], 0, (oneG c x).2⟩ := rfl
theorem fed_over (c : CSt) (d : List UInt8) (i : Nat) (b : List UInt8) (h : c.ph = 4) : fedG c d i b = ⟨c, d, i, 0⟩ := by
  cases b with
  | nil => rfl
  | cons x r => rw [fed_cons, if_pos h]
/-- What is read of two parts. -/
theorem fed_app : ∀ (a : List UInt8) (c : CSt) (d : List UInt8) (i : Nat) (b : List UInt8), fedG c d i (a ++ b) = if (fedG c d i a).e = 0 then fedG (fedG c d i a).c (fedG c d i a).data (fedG c d i a).used b else fedG c d i a
  | [], c, d, i, b => by
    rw [List.nil_append]
    show _ = if (0 : Int) = 0 then fedG c d i b else _
    rw [if_pos rfl]
  | x :: r, c, d, i, b => by
    rw [List.cons_append, fed_cons, fed_cons]
    by_cases h4 : c.ph = 4
    · rw [if_pos h4, if_pos h4]
      dsimp only
      rw [if_pos rfl, fed_over _ _ _ _ h4]
    rw [if_neg h4, if_neg h4]
    by_cases h1 : c.ph = 1
    · rw [if_pos h1, if_pos h1]
      exact fed_app r _ _ _ b
    rw [if_neg h1, if_neg h1]
    by_cases h0 : (oneG c x).2 = 0
    · rw [if_pos h0, if_pos h0]
      exact fed_app r _ _ _ b
    · rw [if_neg h0, if_neg h0]
      dsimp only
      rw [if_neg h0]
/-- Data and places behind others. -/
theorem fed_shift (p : List UInt8) (k : Nat) : ∀ (b : List UInt8) (c : CSt) (d : List UInt8) (i : Nat), ((fedG c (p ++ d) (k + i) b).e = (fedG c d i b).e) ∧
    ((fedG c d i b).e = 0 → fedG c (p ++ d) (k + i) b = ⟨(fedG c d i b).c, p ++ (fedG c d i b).data, k + (fedG c d i b).used, 0⟩)
  | [], c, d, i => ⟨rfl, fun _ => rfl⟩
  | x :: r, c, d, i => by
    rw [fed_cons, fed_cons]
    by_cases h4 : c.ph = 4
    · rw [if_pos h4, if_pos h4]
      exact ⟨rfl, fun _ => rfl⟩
    rw [if_neg h4, if_neg h4]
    by_cases h1 : c.ph = 1
    · rw [if_pos h1, if_pos h1, List.append_assoc]
      exact fed_shift p k r _ _ (i + 1)
    rw [if_neg h1, if_neg h1]
    by_cases h0 : (oneG c x).2 = 0
    · rw [if_pos h0, if_pos h0]
      exact fed_shift p k r _ _ (i + 1)
    · rw [if_neg h0, if_neg h0]
      exact ⟨rfl, fun h => absurd h h0⟩
/-- How much is read, and told. -/
theorem fed_used : ∀ (b : List UInt8) (c : CSt) (d : List UInt8) (i : Nat), d.length ≤ i → ((fedG c d i b).e = 0 ∧ (fedG c d i b).data.length ≤ (fedG c d i b).used ∧ (fedG c d i b).used ≤ i + b.length ∧ ((fedG c d i b).used = i + b.length ∨ (fedG c d i b).c.ph = 4)) ∨
    ((fedG c d i b).e ≠ 0 ∧ fedG c d i b = ⟨cst0, [], 0, (fedG c d i b).e⟩)
  | [], c, d, i, h => .inl ⟨rfl, h, Nat.le_refl _, .inl rfl⟩
  | x :: r, c, d, i, h => by
    rw [fed_cons, List.length_cons]
    by_cases h4 : c.ph = 4
    · rw [if_pos h4]
      exact .inl ⟨rfl, h, by dsimp only; omega, .inr h4⟩
    rw [if_neg h4]
    by_cases h1 : c.ph = 1
    · rw [if_pos h1]
      have ih := fed_used r { c with left := c.left - 1, ph := if c.left - 1 = 0 then 2 else 1 } (d ++ [x]) (i + 1) (by rw [List.length_append]; simp only [List.length_singleton]; omega)
      rcases ih with ⟨a1, a2, a3, a4⟩ | ih
      · exact .inl ⟨a1, a2, by omega, by rcases a4 with a4 | a4; exact .inl (by omega); exact .inr a4⟩
      · exact .inr ih
    rw [if_neg h1]
    by_cases h0 : (oneG c x).2 = 0
    · rw [if_pos h0]
      have ih := fed_used r (oneG c x).1 d (i + 1) (by omega)
      rcases ih with ⟨a1, a2, a3, a4⟩ | ih
      · exact .inl ⟨a1, a2, by omega, by rcases a4 with a4 | a4; exact .inl (by omega); exact .inr a4⟩
      · exact .inr ih
    · rw [if_neg h0]
      exact .inr ⟨h0, rfl⟩

/-! ## What is kept may be -/
theorem cr_snoc (l : List UInt8) (x : UInt8) : crB (l ++ [x]) = (x == 13) := by
  unfold crB
  rw [List.getLast?_append]
  simp
theorem bare_snoc (l : List UInt8) (x : UInt8) : bare (l ++ [x]) = if x = 13 then l else l ++ [x] := by
  unfold bare
  rw [cr_snoc]
  by_cases h : x = 13
  · subst h; simp
  · rw [if_neg h, if_neg (by simpa using h)]
theorem bare_no {l : List UInt8} (h : crB l = false) : bare l = l := by unfold bare; rw [h]; rfl
theorem noEnd_snoc (l : List UInt8) (x : UInt8) (h : noEnd l = true) (h1 : x ≠ 10) (h2 : x ≠ 13) : noEnd (l ++ [x]) = true := by
  unfold noEnd at h ⊢
  rw [List.all_append, h]
  simp [h1, h2]
theorem lineG_cases (l : List UInt8) (x : UInt8) : (crB l = true ∧ x = 10 ∧ lineG l x = ([], some l.dropLast, 0)) ∨ (lineG l x = (l, none, 3)) ∨ (crB l = false ∧ x ≠ 10 ∧ lineG l x = (l ++ [x], none, 0)) := by
  unfold lineG
  cases h : crB l <;> by_cases hx : x = 10 <;> simp [hx]
theorem hexN_lt : ∀ (s : List UInt8) (n : Int), s.all hexB = true → 0 ≤ n → 0 ≤ s.foldl (fun n x => 16 * n + digI x.toNat) n ∧ s.foldl (fun n x => 16 * n + digI x.toNat) n < (n + 1) * 16 ^ s.length
  | [], n, _, h => ⟨h, by simp; omega⟩
  | x :: r, n, hs, h => by
    rw [List.all_cons, Bool.and_eq_true] at hs
    have hd := dig_range x
    have h0 := (hexB_iff x).1 hs.1
    have ih := hexN_lt r (16 * n + digI x.toNat) hs.2 (by omega)
    refine ⟨ih.1, Int.lt_of_lt_of_le ih.2 ?_⟩
    rw [List.length_cons, Int.pow_succ, ← Int.mul_assoc, Int.mul_right_comm]
    exact Int.mul_le_mul_of_nonneg_right (by omega) (Int.pow_nonneg (by decide))
theorem numC_range (s : List UInt8) : numC s < 16777216 := by
  unfold numC
  split
  · rename_i h
    simp only [Bool.and_eq_true, decide_eq_true_eq] at h
    have hl := (hexN_lt (digsOf s) 0 h.2.2.1 (Int.le_refl _)).2
    unfold hexN
    have hp : (16 : Int) ^ (digsOf s).length ≤ 16 ^ 6 := by
      have : ∀ n : Nat, n ≤ 6 → (16 : Int) ^ n ≤ 16 ^ 6 := fun n hn => by
        rcases (show n = 0 ∨ n = 1 ∨ n = 2 ∨ n = 3 ∨ n = 4 ∨ n = 5 ∨ n = 6 by omega) with e | e | e | e | e | e | e <;> subst e <;> decide
      exact this _ h.2.1
    have h16 : (16 : Int) ^ 6 = 16777216 := by decide
    omega
  · decide
theorem one_keeps {c : CSt} {x : UInt8} (h : chMay c = true) (h1 : c.ph ≠ 1) (h4 : c.ph ≠ 4) (he : (oneG c x).2 = 0) : chMay (oneG c x).1 = true := by
  obtain ⟨ph, left, line, trail⟩ := c
  unfold chMay lineMay leftMay trailMay at h
  dsimp only at h h1 h4
  have hn := lineG_cases line x
  by_cases p0 : ph = 0
  · subst p0
    simp at h
    obtain ⟨⟨a1, a2⟩, a3, a4⟩ := h
    unfold oneG at he ⊢
    simp only [if_true] at he ⊢
    split at he
    · cases he
    rename_i hg
    rw [if_neg hg]
    rcases hn with ⟨b1, b2, b3⟩ | b3 | ⟨b1, b2, b3⟩
    · rw [b3] at he ⊢
      dsimp only at he ⊢
      split at he
      · cases he
      rename_i hg2
      rw [if_neg hg2]
      have hr := numC_range line.dropLast
      split
      · subst a4
        simp [chMay, lineMay, leftMay, trailMay, noEnd, bare, crB]
      · subst a4
        simp [chMay, lineMay, leftMay, trailMay]
        omega
    · rw [b3] at he
      cases he
    · rw [b3]
      dsimp only
      rw [bare_no b1] at a1 a2
      subst a3 a4
      simp only [chMay, lineMay, leftMay, trailMay, if_true, bare_snoc]
      by_cases hx : x = 13
      · simp [hx, a1, a2]
      · have hl : line.length ≠ 64 := fun e => hg ⟨e, hx, b2, b1⟩
        have hne := noEnd_snoc line x a1 b2 hx
        simp [hx, hne]
        omega
  by_cases p2 : ph = 2
  · subst p2
    simp at h
    obtain ⟨⟨a1, a2⟩, a3, a4⟩ := h
    unfold oneG at he ⊢
    simp only [show ¬ (2 = 0) by decide, if_true, if_false] at he ⊢
    split at he
    · cases he
    rename_i hg
    rw [if_neg hg]
    rcases hn with ⟨b1, b2, b3⟩ | b3 | ⟨b1, b2, b3⟩
    · rw [b3]
      subst a3 a4
      simp [chMay, lineMay, leftMay, trailMay, noEnd, bare, crB]
    · rw [b3] at he
      cases he
    · rw [b3]
      rw [bare_no b1] at a2
      subst a2 a3 a4
      have hx : x = 13 := by
        by_cases hx : x = 13
        · exact hx
        · exact absurd ⟨rfl, hx⟩ hg
      subst hx
      decide
  by_cases p3 : ph = 3
  · subst p3
    simp at h
    obtain ⟨⟨a1, a2⟩, a3, a4, a5⟩ := h
    unfold oneG at he ⊢
    simp only [show ¬ (3 = 0) by decide, show ¬ (3 = 2) by decide, if_false] at he ⊢
    split at he
    · cases he
    rename_i hg
    rw [if_neg hg]
    rcases hn with ⟨b1, b2, b3⟩ | b3 | ⟨b1, b2, b3⟩
    · rw [b3] at he ⊢
      dsimp only at he ⊢
      subst a3
      split
      · simp [chMay, lineMay, leftMay, trailMay]
      · simp [chMay, lineMay, leftMay, trailMay, noEnd, bare, crB]
        omega
    · rw [b3] at he
      cases he
    · rw [b3]
      dsimp only
      rw [bare_no b1] at a1
      subst a3
      have hll : (line ++ [x]).length = line.length + 1 := by simp
      simp only [chMay, lineMay, leftMay, trailMay, show ¬ (3 = 0) by decide, show ¬ (3 = 2) by decide, show ¬ (3 = 1) by decide, if_true, if_false, bare_snoc, hll]
      by_cases hx : x = 13
      · simp [hx, a1]
        omega
      · have hne := noEnd_snoc line x a1 b2 hx
        simp [hx, hne]
        omega
  · simp [p0, p2, p3, h1, h4] at h
theorem fed_keeps : ∀ (b : List UInt8) (c : CSt) (d : List UInt8) (i : Nat), chMay c = true → (fedG c d i b).e = 0 → chMay (fedG c d i b).c = true
  | [], _, _, _, h, _ => h
  | x :: r, c, d, i, h, he => by
    rw [fed_cons] at he ⊢
    by_cases h4 : c.ph = 4
    · rw [if_pos h4]; exact h
    rw [if_neg h4] at he ⊢
    by_cases h1 : c.ph = 1
    · rw [if_pos h1] at he ⊢
      refine fed_keeps r _ _ _ ?_ he
      obtain ⟨ph, left, line, trail⟩ := c
      dsimp only at h1
      subst h1
      simp [chMay, lineMay, leftMay, trailMay] at h ⊢
      obtain ⟨a1, ⟨a2, a3⟩, a4⟩ := h
      subst a1 a4
      by_cases hz : left - 1 = 0
      · simp [hz, noEnd, bare, crB]
      · simp [hz]
        omega
    rw [if_neg h1] at he ⊢
    by_cases h0 : (oneG c x).2 = 0
    · rw [if_pos h0] at he ⊢
      exact fed_keeps r _ _ _ (one_keeps h h1 h4 h0) he
    · rw [if_neg h0] at he
      exact absurd he h0
end Go.Proofs.YtbgnogdlkmhnkaaGreatDoor.Vex
/- A walk by reckoning, part sixteen: regions in which two acts may come up together: both orders are gone. No program in sight. -/
namespace Go.Proofs.YtbgnogdlkmhnkaaGreatDoor.Vex
open Go Go.RowKit

/-- The orders that may come: q: an operation that is quiet; a: an act that comes up alone; ch: one of several that come up (stop ends their row). -/
inductive DT where
  | nil
  | q (i : Nat) (t : DT)
  | a (i : Nat) (t : DT)
  | ch (i : Nat) (t : DT) (r : DT)
  | stop
noncomputable def wtree (c : Ctx) (T : Ty) (ws : List Nat) (ops : List Oper) (t : DT) : (Fr → Hp → Prop) → Fr → Hp → Prop :=
  DT.rec (motive := fun _ => (Fr → Hp → Prop) → Fr → Hp → Prop) (fun K fr H => K fr H)
    (fun i _ ih K fr H => nthK ops i fun o => strOk T fr o.guard o.op (wstep c T .quiet ops o fr H (ih K)))
    (fun i _ ih K fr H => nthK ops i fun o => strOk T fr o.guard o.op (wstep c T (match ws.contains i with | true => .wact | false => .act) ops o fr H (ih K)))
    (fun i _ _ ih rh K fr H => (nthK ops i fun o => strOk T fr o.guard o.op (wstep c T (match ws.contains i with | true => .wact | false => .act) ops o fr H (ih K))) ∧ rh K fr H)
    (fun _ _ _ => True) t
def DT.heads : DT → List Nat
  | .ch i _ r => i :: r.heads
  | _ => []
noncomputable def treeB (T : Ty) (ws : List Nat) (ops : Array Oper) : DT → Bool → Array Bool → Bool
  | .nil, b, l => !b && (Region.ready .any ops l).isEmpty
  | .q i t, b, l => !b && (Region.ready .any ops l).contains i && Region.free .any ops l i && !isWr ws ops i && (((List.range ops.size).all fun j => !isWr ws ops j || l.getD j true || anc .any ops ops.size j i) || (match ops[i]? with | some o => blindOp T o.guard o.op | none => false)) && treeB T ws ops t false (l.setIfInBounds i true)
  | .a i t, b, l => !b && (Region.ready .any ops l == [i]) && treeB T ws ops t false (l.setIfInBounds i true)
  | .ch i t r, b, l => (b || ((Region.ready .any ops l).all fun k => k == i || r.heads.contains k)) && (Region.ready .any ops l).contains i && treeB T ws ops t false (l.setIfInBounds i true) && treeB T ws ops r true l
  | .stop, b, _ => b
def DT.len : DT → Nat
  | .nil => 0
  | .q _ t => t.len + 1
  | .a _ t => t.len + 1
  | .ch _ t r => max (t.len + 1) r.len
  | .stop => 0
section
variable {c : Ctx} {T : Ty}
theorem wact_ok (hT : TOk c.P T) (ws : List Nat) (ds : List Deferred) (ops : List Oper) (K : Fr → Hp → Prop) {ih : Fr → Hp → Prop} {i n : Nat} {l : Array Bool} {fr : Fr} {H : Hp} {w' : World}
    (h : nthK ops i fun o => strOk T fr o.guard o.op (wstep c T (match ws.contains i with | true => .wact | false => .act) ops o fr H ih)) (hw' : St c H w')
    (next : ∀ fr' H' w2, ih fr' H' → St c H' w2 → wpAnyR c.P .any ⟨ops⟩ (isWr ws ⟨ops⟩) (DrawQ c ds K) n (l.setIfInBounds i true) (actD ds fr') w2) :
    wpOp c.P ⟨ops⟩ (DrawQ c ds K) i (fun a2 w2 => (isWr ws ⟨ops⟩ i = false → R w' w2) ∧ wpAnyR c.P .any ⟨ops⟩ (isWr ws ⟨ops⟩) (DrawQ c ds K) n (l.setIfInBounds i true) a2 w2) (actD ds fr) w' := by
  obtain ⟨o, hoi, h⟩ := nthK_some h
  obtain ⟨h, hst⟩ := strOk_out h
  have hmd : ∃ m : Md, wstep c T m ops o fr H ih ∧ m ≠ .plain ∧ (ws.contains i = false → m = .act) ∧ (m = .act ∨ m = .wact) := by
    cases hw9 : ws.contains i
    · rw [hw9] at h
      exact ⟨Md.act, h, (fun h => by cases h), (fun _ => rfl), .inl rfl⟩
    · rw [hw9] at h
      exact ⟨Md.wact, h, (fun h => by cases h), (fun h => by cases h), .inr rfl⟩
  clear h
  obtain ⟨m, h, hm2, hm3, hm4⟩ := hmd
  have hoi' : (⟨ops⟩ : Array Oper)[i]? = some o := by simpa using hoi
  unfold wpOp
  simp only [hoi']
  rw [show (actD ds fr).tmps = (act fr).tmps from rfl]
  rcases wstep_cases hT h with ⟨hwd, hd | ⟨he, _⟩, _⟩ | ⟨hwd, hk⟩
  · rw [if_pos hwd]
    have hd : GoodD c m o fr H fun v H' => setO fr o.dst v fun fr' => ih fr' H' := by
      rcases hm4 with rfl | rfl
      · exact hd
      · exact hd
    refine .inl (Good.wp (hd w' hw') fun v H' w2 hs2 hk hrr => ?_)
    obtain ⟨fr', e, hk⟩ := setO_act (ds := ds) hk
    rw [e]
    refine ⟨fun hi => hrr ?_, next fr' H' w2 hk hs2⟩
    have h2 : isWr ws ⟨ops⟩ i = (wr o.op || ws.contains i) := by unfold isWr; rw [hoi']
    rw [h2, Bool.or_eq_false_iff] at hi
    rw [hm3 hi.2]
    simp [rOf, hi.1]
  · exact absurd he hm2
  · rw [if_neg (by rw [hwd]; exact Bool.false_ne_true)]
    obtain ⟨fr', e, hk⟩ := setO_act (ds := ds) hk
    rw [e]
    exact ⟨fun _ => R.refl _, next fr' H w' hk hw'⟩
abbrev TreeA (c : Ctx) (T : Ty) (ws : List Nat) (ds : List Deferred) (ops : List Oper) (K' K : Fr → Hp → Prop) (t : DT) : Prop := ∀ (n : Nat) (l : Array Bool) (fr : Fr) (H : Hp) (w : World),
  t.len ≤ n → closedL .any ⟨ops⟩ l → treeB T ws ⟨ops⟩ t false l = true → wtree c T ws ops t K' fr H → St c H w → wpAnyR c.P .any ⟨ops⟩ (isWr ws ⟨ops⟩) (DrawQ c ds K) n l (actD ds fr) w
abbrev TreeC (c : Ctx) (T : Ty) (ws : List Nat) (ds : List Deferred) (ops : List Oper) (K' K : Fr → Hp → Prop) (t : DT) : Prop := ∀ (n : Nat) (l : Array Bool) (fr : Fr) (H : Hp) (w' : World),
  t.len ≤ n + 1 → closedL .any ⟨ops⟩ l → treeB T ws ⟨ops⟩ t true l = true → wtree c T ws ops t K' fr H → St c H w' → ∀ k ∈ t.heads,
    wpOp c.P ⟨ops⟩ (DrawQ c ds K) k (fun a2 w2 => (isWr ws ⟨ops⟩ k = false → R w' w2) ∧ wpAnyR c.P .any ⟨ops⟩ (isWr ws ⟨ops⟩) (DrawQ c ds K) n (l.setIfInBounds k true) a2 w2) (actD ds fr) w'
theorem wtree_ok (hT : TOk c.P T) (ws : List Nat) (ds : List Deferred) (ops : List Oper) (hs : Region.noSelect ⟨ops⟩ = true) (K' K : Fr → Hp → Prop) (hK : ∀ fr H, K' fr H → ∃ H2, (∀ w, St c H w → St c H2 w) ∧ K fr H2) (t : DT) : TreeA c T ws ds ops K' K t ∧ TreeC c T ws ds ops K' K t := by
  induction t with
  | nil =>
    refine ⟨fun n l fr H w _ _ ho h hw => ?_, fun n l fr H w _ _ ho h hw k hk => by cases hk⟩
    simp only [treeB, Bool.and_eq_true, List.isEmpty_iff] at ho
    obtain ⟨H2, hs2, hk⟩ := hK fr H h
    exact wpAnyR_done ho.2 fun w' hR => ⟨fr, H2, rfl, hs2 _ (hw.below hR), rfl, hk⟩
  | q i t ih =>
    refine ⟨fun n l fr H w hn hc ho h hw => ?_, fun n l fr H w _ _ ho h hw k hk => by cases hk⟩
    obtain ⟨n, rfl⟩ : ∃ m, n = m + 1 := ⟨n - 1, by simp only [DT.len] at hn; omega⟩
    simp only [treeB, Bool.and_eq_true] at ho
    obtain ⟨⟨⟨⟨⟨_, hr⟩, hf⟩, hwi⟩, hall⟩, ho⟩ := ho
    rw [Bool.not_eq_true'] at hwi
    have hr : i ∈ Region.ready .any ⟨ops⟩ l := by simpa using hr
    obtain ⟨o, hoi, h⟩ := nthK_some h
    obtain ⟨h, hst⟩ := strOk_out h
    have hoi' : (⟨ops⟩ : Array Oper)[i]? = some o := by simpa using hoi
    have hQ : ∀ (v : Value) (ch : List PanicEntry) (a : Act) (w : World), DrawQ c ds K (.panic ch) (a.put o.dst v) w → DrawQ c ds K (.panic ch) a w := fun v ch a w ⟨_, _, _, _, he, _⟩ => by cases he
    have hn' : t.len ≤ n := by simpa [DT.len] using hn
    rw [hoi', Bool.or_eq_true] at hall
    dsimp only at hall
    rcases hall with hall | hbl
    rotate_left
    · rcases wstep_wop h with ⟨hwd, h⟩ | ⟨hwd, hk⟩
      · obtain ⟨v, hk, hq⟩ := blind_wop hT o hbl hst h
        obtain ⟨fr', e, hk⟩ := setO_act (ds := ds) hk
        refine wpAnyR_firstB (v := v) hoi' (Region.noSelect_spec hs) (hQ v) n l (actD ds fr) w hc (Region.free_spec hoi' hf) hr (fun w' => .inl ⟨hwd, ?_⟩) ?_
        · unfold Quiet1
          rw [show (actD ds fr).eval = (act fr).eval from rfl, hq w']
          exact ⟨rfl, rfl⟩
        · rw [e]
          exact ih.1 n _ fr' H w hn' (hc.set hr) ho hk hw
      · obtain ⟨fr', e, hk⟩ := setO_act (ds := ds) hk
        refine wpAnyR_firstB (v := undef) hoi' (Region.noSelect_spec hs) (hQ _) n l (actD ds fr) w hc (Region.free_spec hoi' hf) hr (fun w' => .inr ⟨hwd, rfl⟩) ?_
        rw [e]
        exact ih.1 n _ fr' H w hn' (hc.set hr) ho hk hw
    simp only [List.all_eq_true, List.mem_range, Bool.or_eq_true, Bool.not_eq_true'] at hall
    have hwr : ∀ j, isWr ws ⟨ops⟩ j = true → l.getD j true = false → anc .any ⟨ops⟩ (⟨ops⟩ : Array Oper).size j i = true := fun j hj hl => by
      have hlt : j < (⟨ops⟩ : Array Oper).size := by
        unfold isWr at hj
        rcases Nat.lt_or_ge j (⟨ops⟩ : Array Oper).size with h' | h'
        · exact h'
        · rw [Array.getElem?_eq_none h'] at hj; cases hj
      rcases hall j hlt with (h1 | h1) | h1
      · rw [hj] at h1; cases h1
      · rw [hl] at h1; cases h1
      · exact h1
    rcases wstep_cases hT h with ⟨hwd, ⟨v, hk, hq⟩ | ⟨he, _⟩, _⟩ | ⟨hwd, hk⟩
    · obtain ⟨fr', e, hk⟩ := setO_act (ds := ds) hk
      refine wpAnyR_first (v := v) hoi' (Region.noSelect_spec hs) (hQ v) hwi n l (actD ds fr) w hc hwr (Region.free_spec hoi' hf) hr (fun w' hR => .inl ⟨hwd, hq w' (hw.below hR)⟩) ?_
      rw [e]
      exact ih.1 n _ fr' H w hn' (hc.set hr) ho hk hw
    · cases he
    · obtain ⟨fr', e, hk⟩ := setO_act (ds := ds) hk
      refine wpAnyR_first (v := undef) hoi' (Region.noSelect_spec hs) (hQ _) hwi n l (actD ds fr) w hc hwr (Region.free_spec hoi' hf) hr (fun w' hR => .inr ⟨hwd, rfl⟩) ?_
      rw [e]
      exact ih.1 n _ fr' H w hn' (hc.set hr) ho hk hw
  | a i t ih =>
    refine ⟨fun n l fr H w hn hc ho h hw => ?_, fun n l fr H w _ _ ho h hw k hk => by cases hk⟩
    obtain ⟨n, rfl⟩ : ∃ m, n = m + 1 := ⟨n - 1, by simp only [DT.len] at hn; omega⟩
    simp only [treeB, Bool.and_eq_true, beq_iff_eq] at ho
    obtain ⟨⟨_, hr⟩, ho⟩ := ho
    have hri : i ∈ Region.ready .any ⟨ops⟩ l := by rw [hr]; simp
    refine wpAnyR_alone hr fun w' hR => ?_
    exact wact_ok hT ws ds ops K h (hw.below hR) fun fr' H' w2 hk hs2 => ih.1 n _ fr' H' w2 (by simpa [DT.len] using hn) (hc.set hri) ho hk hs2
  | ch i t r iht ihr =>
    have key : ∀ (n : Nat) (l : Array Bool) (fr : Fr) (H : Hp) (w' : World), (DT.ch i t r).len ≤ n + 1 → closedL .any ⟨ops⟩ l → ((Region.ready .any ⟨ops⟩ l).contains i = true) → treeB T ws ⟨ops⟩ t false (l.setIfInBounds i true) = true → treeB T ws ⟨ops⟩ r true l = true →
        wtree c T ws ops (.ch i t r) K' fr H → St c H w' → ∀ k ∈ (DT.ch i t r).heads,
        wpOp c.P ⟨ops⟩ (DrawQ c ds K) k (fun a2 w2 => (isWr ws ⟨ops⟩ k = false → R w' w2) ∧ wpAnyR c.P .any ⟨ops⟩ (isWr ws ⟨ops⟩) (DrawQ c ds K) n (l.setIfInBounds k true) a2 w2) (actD ds fr) w' := by
      intro n l fr H w' hn hc hri h1 h2 h hw k hk
      have hri : i ∈ Region.ready .any ⟨ops⟩ l := by simpa using hri
      have hn1 : t.len + 1 ≤ n + 1 ∧ r.len ≤ n + 1 := by simp only [DT.len] at hn; omega
      rcases List.mem_cons.1 hk with rfl | hk
      · exact wact_ok hT ws ds ops K h.1 hw fun fr' H' w2 hk hs2 => iht.1 n _ fr' H' w2 (by omega) (hc.set hri) h1 hk hs2
      · exact ihr.2 n l fr H w' hn1.2 hc h2 h.2 hw k hk
    refine ⟨fun n l fr H w hn hc ho h hw => ?_, fun n l fr H w' hn hc ho h hw k hk => ?_⟩
    · obtain ⟨n, rfl⟩ : ∃ m, n = m + 1 := ⟨n - 1, by simp only [DT.len] at hn; omega⟩
      simp only [treeB, Bool.and_eq_true, Bool.false_or] at ho
      obtain ⟨⟨⟨hall, hri⟩, h1⟩, h2⟩ := ho
      intro w' hR
      refine ⟨fun he => ?_, fun k hk => ?_⟩
      · rw [he] at hri; cases hri
      · refine key n l fr H w' hn hc hri h1 h2 h (hw.below hR) k ?_
        have := List.all_eq_true.1 hall k hk
        simp only [Bool.or_eq_true, beq_iff_eq] at this
        rcases this with rfl | h
        · exact List.mem_cons_self ..
        · exact List.mem_cons_of_mem _ (by simpa using h)
    · simp only [treeB, Bool.and_eq_true] at ho
      obtain ⟨⟨⟨_, hri⟩, h1⟩, h2⟩ := ho
      exact key n l fr H w' hn hc hri h1 h2 h hw k hk
  | stop =>
    refine ⟨fun n l fr H w _ _ ho h hw => ?_, fun n l fr H w _ _ ho h hw k hk => by cases hk⟩
    cases ho
noncomputable def forkB (T : Ty) (ws : List Nat) (ops : List Oper) (t : DT) : Bool := ops.all noDefer && Region.noSelect ⟨ops⟩ && (decide (t.len ≤ ops.length)) && treeB T ws ⟨ops⟩ t false (Array.replicate ops.length false)
/-- The entries of a heap, in another order, some left out. -/
inductive Cov : Hp → Hp → Prop
  | nil {H : Hp} : Cov H []
  | cons {H H2 G : Hp} {x : Ent} (h : Pick H x H2) (k : Cov H2 G) : Cov H (x :: G)
theorem Cov.perm {H G : Hp} (h : Cov H G) : ∃ R, H.Perm (G ++ R) := by
  induction h with
  | nil => exact ⟨_, List.Perm.refl _⟩
  | cons hp _ ih =>
    obtain ⟨R, hR⟩ := ih
    exact ⟨R, hp.perm.trans (hR.cons _)⟩
theorem Cov.st {H G : Hp} (h : Cov H G) {w : World} (hw : St c H w) : St c G w := by
  obtain ⟨R, hR⟩ := h.perm
  exact (hw.perm hR).sub (List.sublist_append_left _ _)
theorem DrawS.forkK {id : Nat} {ops : List Oper} {K' K : Fr → Hp → Prop} {fr : Fr} {H : Hp} (ws : List Nat) (t : DT) (hT : TOk c.P T) (hm : c.P.follows .mixedOrders = true) (hB : forkB T ws ops t = true) (hK : ∀ fr H, K' fr H → ∃ H2, (∀ w, St c H w → St c H2 w) ∧ K fr H2) (h : wtree c T ws ops t K' fr H) : DrawS c T id ops K fr H := by
  simp only [forkB, Bool.and_eq_true, decide_eq_true_eq] at hB
  refine ⟨hm, fun j o ca hj e => ?_, fun ds w hw => wpAny_of_R (Wr := isWr ws ⟨ops⟩) _ _ _ _ (((wtree_ok hT ws ds ops hB.1.1.2 K' K hK t).1 _ _ fr H w hB.1.2 (closedL_start _) hB.2 h hw).on (R.drew w))⟩
  have h1 := List.all_eq_true.1 hB.1.1.1 o (List.mem_of_getElem? (by simpa using hj))
  unfold noDefer at h1
  rw [e] at h1
  cases h1
/-- All orders that may come are told. -/
theorem DrawS.fork {id : Nat} {ops : List Oper} {K : Fr → Hp → Prop} {fr : Fr} {H : Hp} (ws : List Nat) (t : DT) (hT : TOk c.P T) (hm : c.P.follows .mixedOrders = true) (hB : forkB T ws ops t = true) (h : wtree c T ws ops t K fr H) : DrawS c T id ops K fr H :=
  DrawS.forkK ws t hT hm hB (fun _ H hk => ⟨H, fun _ h => h, hk⟩) h
/-- .. behind each of them one state: what is behind the region is gone once. -/
theorem DrawS.join {β : Type} {id : Nat} {ops : List Oper} {K : Fr → Hp → Prop} {fr : Fr} {H : Hp} (F : β → (Nat → Value) → Fr) (G : β → Hp) (ws : List Nat) (t : DT) (hT : TOk c.P T) (hm : c.P.follows .mixedOrders = true) (hB : forkB T ws ops t = true)
    (h : wtree c T ws ops t (fun fr H => ∃ x, fr = F x (jk fr) ∧ Cov H (G x)) fr H) (k : ∀ x u, K (F x u) (G x)) : DrawS c T id ops K fr H :=
  DrawS.forkK ws t hT hm hB (fun fr' H' ⟨x, hF, hc⟩ => ⟨G x, fun _ hw => hc.st hw, by rw [hF]; exact k x (jk fr')⟩) h
end
end Go.Proofs.YtbgnogdlkmhnkaaGreatDoor.Vex
/- A walk by reckoning, part seventeen: functions that give back new memory of any kind; maps that came in. No program in sight. -/
namespace Go.Proofs.YtbgnogdlkmhnkaaGreatDoor.Vex
open Go Go.RowKit Go.MapKept

/-- New entries, behind a call. -/
def newH (w w' : World) (H : Hp) : Prop := (∀ y ∈ H, y.holds w' ∧ ∀ b, y.blk = some b → w.heap.size ≤ b ∧ b < w'.heap.size) ∧ (H.filterMap Ent.blk).Nodup
abbrev FnH (P : Program) (g : GI) (f : FuncId) (args : List Value) (pre : World → Prop) (K : Value → Hp → Prop) : Prop := FnE P g f args pre fun w v w' => ∃ H, K v H ∧ newH w w' H
theorem newH.of {P : Program} {g : GI} {w w' : World} {hG : g.G w} {H : Hp} (h : St (mkC P g w hG) H w') : newH w w' H :=
  ⟨fun y hy => ⟨(h.own y hy).1, fun b hb => ⟨((h.own y hy).2 b hb).2.elim id (fun h => by cases h), ((h.own y hy).2 b hb).1⟩⟩, h.apart⟩
theorem newH.cov {P : Program} {g : GI} {w w' : World} {hG : g.G w} {H H2 : Hp} (h : St (mkC P g w hG) H w') (hc : Cov H H2) : newH w w' H2 := newH.of (hc.st h)
section
variable {c : Ctx} {H : Hp}
theorem CallK.fnH {m : Bool} {f : Nat} {args : List Value} {pre : World → Prop} {K : Value → Hp → Prop} {K2 : Value → Hp → Prop} (h : FnH c.P c.g f args pre K) (hp : ∀ w, St c H w → pre w) (k : ∀ v H', K v H' → K2 v (H' ++ H)) : CallK c m f args H K2 :=
  CallK.fnE h hp fun w v w' hw ⟨H', hk, hn, hd⟩ hR => by
    refine ⟨H' ++ H, ?_, k v H' hk⟩
    have hw2 := hw.below hR
    refine ⟨hw2.mod, fun y hy => ?_, ?_⟩
    · rcases List.mem_append.1 hy with hy | hy
      · exact ⟨(hn y hy).1, fun b hb => ⟨((hn y hy).2 b hb).2, .inl (Nat.le_trans hw.mod.size ((hn y hy).2 b hb).1)⟩⟩
      · exact hw2.own y hy
    · rw [List.filterMap_append, List.nodup_append]
      refine ⟨hd, hw2.apart, fun a ha b hb e => ?_⟩
      obtain ⟨y, hy, hya⟩ := List.mem_filterMap.1 ha
      obtain ⟨z, hz, hzb⟩ := List.mem_filterMap.1 hb
      have h1 := ((hn y hy).2 a hya).1
      have h2 := ((hw.own z hz).2 b hzb).1
      omega
/-- A call whose value is known. -/
theorem CallK.fnEV {m : Bool} {f : Nat} {args : List Value} {pre : World → Prop} {v : Value} {K : Value → Hp → Prop} (h : FnE c.P c.g f args pre fun _ u _ => u = v) (hp : ∀ w, St c H w → pre w) (k : K v H) : CallK c m f args H K :=
  CallK.fnE h hp fun _ _ _ hw he hR => ⟨H, hw.below hR, by rw [he]; exact k⟩
theorem OthP.max2 {d : Option Nat} {x y : Operand} {ats : Array TypeId} {ty : TypeId} {pos : String} {after : Array Edge} {gd : Option (Nat × Bool)} {fr : Fr} {kd : IntKind} {a b : Int} {K : Value → Prop} (z : Int)
    (hx : evK fr x fun v => v = .int kd a) (hy : evK fr y fun v => v = .int kd b) (hz : max a b = z) (k : K (.int kd z)) : OthP c ⟨d, .call ⟨.builtin .max, #[x, y], ats⟩, ty, pos, after, gd⟩ fr H K := ⟨⟨_, k, fun w _ => by
  rw [evK_eq] at hx hy
  have hz' : z = if b > a then b else a := by subst hz; split <;> omega
  subst hz'
  simp only [go_sem, Builtin.max_]
  simp [hx, hy, Builtin.max2, List.foldlM]⟩⟩
/-- What a map has at a key, wherever the map lies. -/
theorem OthP.lookA {α : Type} [DecidableEq α] {kv : α → Value} {d : TypeDesc} {T : Ty} {fr : Fr} {dst : Option Nat} {ty : TypeId} {pos : String} {after : Array Edge} {gd : Option (Nat × Bool)} {t kt et : TypeId} {x i : Operand} {ok : Bool} {b : Nat} {k : α} {l : List (α × Value)} {z r : Value} {K : Value → Prop} (hk : KeyK d kv) (hT : TOk c.P T) (hb : ∀ w, St c H w → w.heap[b]? = some (mobj kv l))
    (hx : evK fr x fun v => v = .map (some b)) (hi : evK fr i fun v => v = kv k) (ht : (lookT T t).d = .map kt et) (hkt : (lookT T kt).d = d) (hd : d ≠ .invalid) (het : (lookT T et).d ≠ .invalid) (hz : (lookT T et).zero = z)
    (hr : (match ok with | true => .tuple ⟨[(mget k l).getD z, .bool (mget k l).isSome]⟩ | false => (mget k l).getD z) = r) (kk : K r) : OthP c ⟨dst, .lookup t x i ok, ty, pos, after, gd⟩ fr H K := ⟨⟨r, kk, fun w hw => by
  rw [evK_eq] at hx hi
  have hu := (lookT_ok hT (t := t) (by rw [ht]; intro h; cases h)).1
  have hku := (lookT_ok hT (t := kt) (by rw [hkt]; exact hd)).1
  rw [ht] at hu
  rw [hkt] at hku
  have hzv := run_zeroValue (lookT_ok hT (t := et) het) (w := w)
  rw [hz] at hzv
  have hb : w.heap[b]? = some (.map ⟨mkEs kv 0 l⟩ l.length) := hb w hw
  have hf := run_findKey (w := w) hku (findNow_es hk k l 0 0)
  have hc := run_checkKey (w := w) hku (hk.key k) (⟨mkEs kv 0 l⟩ : Array MapEntry).isEmpty 9999
  have hl : (Instr.lookup t (.map (some b)) (kv k) ok).run c.P w = .ok r w := by
    unfold Instr.lookup
    simp only [Sem.run_bind, run_underlying hu, Result.andThen_ok, MapKept.run_getObj_map hb, Sem.run_pure, hc, hf]
    subst hr
    cases mget k l with
    | none => cases ok <;> simp [hzv]
    | some v => cases ok <;> simp
  generalize (act fr).eval = ρ at *
  simp only [execOp, hx, hi, Sem.run_bind, hl, Result.andThen_ok, Sem.run_pure]⟩⟩
/-- An object that came in stays. -/
theorem obj_now {P : Program} {g : GI} {w : World} {hG : g.G w} {H : Hp} {b : Nat} {o : Obj} (h : w.heap[b]? = some o) : ∀ w', St (mkC P g w hG) H w' → w'.heap[b]? = some o := fun w' hw => by
  have hlt : b < w.heap.size := by
    rcases Nat.lt_or_ge b w.heap.size with h' | h'
    · exact h'
    · simp [Array.getElem?_eq_none h'] at h
  exact (hw.mod.block b hlt (fun h => by cases h)).trans h
/-- A cell that came in. -/
theorem Ld.now {P : Program} {g : GI} {w : World} {hG : g.G w} {H : Hp} {p : Addr} {v : Value} {K : Value → Prop} (h : w.cell? p = some v) (k : K v) : Ld (mkC P g w hG) H (.pointer (some p)) none K := Ld.old (c := mkC P g w hG) h (fun h => by cases h) k
end
end Go.Proofs.YtbgnogdlkmhnkaaGreatDoor.Vex
/- A walk by reckoning, part eighteen: heaps with a tail of entries that are not told one by one. No program in sight. -/
namespace Go.Proofs.YtbgnogdlkmhnkaaGreatDoor.Vex
open Go Go.RowKit

/-- What meets one heap meets another one. -/
def Into (c : Ctx) (H G : Hp) : Prop := ∀ w, St c H w → St c G w
section
variable {c : Ctx} {H G H2 : Hp} {x : Ent} {w : World}
theorem Into.refl : Into c H H := fun _ h => h
theorem Into.trans {K : Hp} (h : Into c H G) (k : Into c G K) : Into c H K := fun w hw => k w (h w hw)
theorem Into.perm (h : H.Perm G) : Into c H G := fun _ hw => hw.perm h
theorem Into.sub (h : G.Sublist H) : Into c H G := fun _ hw => hw.sub h
theorem Into.nil : Into c H [] := Into.sub (List.nil_sublist _)
theorem Into.skip (h : Into c H G) : Into c (x :: H) G := (Into.sub (List.sublist_cons_self _ _)).trans h
theorem Into.left : Into c (H ++ G) H := Into.sub (List.sublist_append_left _ _)
theorem Into.right : Into c (H ++ G) G := Into.sub (List.sublist_append_right _ _)
theorem Into.nilRow {e sz : Nat} (h : Into c H G) : Into c H (.row (.slice none 0 0) e sz 0 [] :: G) := fun w hw => (h w hw).nilRow e sz
/-- An entry is kept beside what the others are turned into: the others' own memory alone is looked at. -/
def Cv (H G : Hp) : Prop := ∃ R, H.Perm (G ++ R)
theorem Cv.into (h : Cv H G) : Into c H G := fun _ hw => by
  obtain ⟨R, hR⟩ := h
  exact (hw.perm hR).sub (List.sublist_append_left _ _)
theorem Cv.cons (h : Pick H x H2) (k : Cv H2 G) : Cv H (x :: G) := by
  obtain ⟨R, hR⟩ := k
  exact ⟨R, h.perm.trans (hR.cons _)⟩
theorem Cv.refl : Cv H H := ⟨[], by rw [List.append_nil]⟩
theorem Cv.nil : Cv H [] := ⟨H, List.Perm.refl _⟩
theorem Cv.skip (h : Cv H G) : Cv (x :: H) G := by
  obtain ⟨R, hR⟩ := h
  exact ⟨x :: R, (hR.cons x).trans List.perm_middle.symm⟩
theorem Cv.trans {K : Hp} (h : Cv H G) (k : Cv G K) : Cv H K := by
  obtain ⟨R, hR⟩ := h
  obtain ⟨S, hS⟩ := k
  exact ⟨S ++ R, hR.trans ((hS.append_right R).trans (by rw [List.append_assoc]))⟩
theorem Cv.of (h : H.Perm G) : Cv H G := ⟨[], by rw [List.append_nil]; exact h⟩
theorem Cv.left : Cv (H ++ G) H := ⟨G, List.Perm.refl _⟩
theorem Cv.right : Cv (H ++ G) G := ⟨H, List.perm_append_comm⟩
/-- A loop whose heap may change its order. -/
noncomputable def lpTQ (c : Ctx) {β : Type} (F : β → (Nat → Value) → Fr) (G : β → Hp) (pre : β → Prop) (μ : β → Nat) (x : β) (Q : Exit → Fr → Hp → Prop) (e : Exit) (fr : Fr) (H : Hp) : Prop := match e with
  | .normal => ∃ x', pre x' ∧ fr = F x' (jk fr) ∧ Into c H (G x') ∧ μ x' < μ x
  | e => Q e fr H
theorem LoopS.lpT {T : Ty} {β : Type} {body : Code} {Q : Exit → Fr → Hp → Prop} {fr : Fr} (hT : TOk c.P T) (F : β → (Nat → Value) → Fr) (G : β → Hp) (pre : β → Prop) (μ : β → Nat) (x0 : β) (h0 : pre x0) (hF : fr = F x0 (jk fr)) (hG : Into c H (G x0))
    (round : ∀ x u, pre x → wc c T body (lpTQ c F G pre μ x Q) (F x u) (G x)) : LoopS c T body Q fr H := by
  refine ⟨fun ds w hw => wp_loop_ghost (fun n a w => ∃ x u, pre x ∧ a = actD ds (F x u) ∧ St c (G x) w ∧ μ x = n) (μ x0) ⟨x0, jk fr, h0, by rw [← hF], hG w hw, rfl⟩ ?_⟩
  rintro n a w ⟨x, u, hx, rfl, hs, rfl⟩
  refine Code.wp_mono (fun e a w ⟨fr, H, ha, hs, hq⟩ => ?_) (wc_ok hT ds body _ _ _ w (round x u hx) hs)
  cases e with
  | normal =>
    obtain ⟨x', hx', hF', hG', hlt⟩ := hq
    exact ⟨μ x', hlt, x', jk fr, hx', by rw [ha, ← hF'], hG' w hs, rfl⟩
  | _ => exact ⟨fr, H, ha, hs, hq⟩
theorem LoopS.into {T : Ty} {body : Code} {Q : Exit → Fr → Hp → Prop} {fr : Fr} (hc : Into c H G) (h : LoopS c T body Q fr G) : LoopS c T body Q fr H := ⟨fun ds w hw => h.ok ds w (hc w hw)⟩

/-- All orders of a region, one state behind them, in a heap whose entries may change their order. -/
theorem DrawS.joinI {T : Ty} {β : Type} {id : Nat} {ops : List Oper} {K : Fr → Hp → Prop} {fr : Fr} (F : β → (Nat → Value) → Fr) (G : β → Hp) (ws : List Nat) (t : DT) (hT : TOk c.P T) (hm : c.P.follows .mixedOrders = true) (hB : forkB T ws ops t = true)
    (h : wtree c T ws ops t (fun fr H => ∃ x, fr = F x (jk fr) ∧ Into c H (G x)) fr H) (k : ∀ x u, K (F x u) (G x)) : DrawS c T id ops K fr H :=
  DrawS.forkK ws t hT hm hB (fun fr' H' ⟨x, hF, hc⟩ => ⟨G x, hc, by rw [hF]; exact k x (jk fr')⟩) h

theorem tk13 {b o i j : Nat} {n : Option Nat} {K : Value → Prop} (h : Ld c H (.pointer (some ⟨b, o + (i + j), none⟩)) n K) : Ld c H (.pointer (some (((⟨b, o, none⟩ : Addr).add i).add j))) n K := by
  rw [add_add, Addr.add_lit]
  exact h
theorem tk14 {b o i j n : Nat} {v : Value} {K : Hp → Prop} (h : Sto c H (.pointer (some ⟨b, o + (i + j), none⟩)) v n K) : Sto c H (.pointer (some (((⟨b, o, none⟩ : Addr).add i).add j))) v n K := by
  rw [add_add, Addr.add_lit]
  exact h

theorem CallK.into {m : Bool} {f : Nat} {args : List Value} {K : Value → Hp → Prop} (hi : Into c H G) (h : CallK c m f args G K) : CallK c m f args H K := ⟨h.go.imp (fun h => ⟨h.1, fun w hw => h.2 w (hi w hw)⟩) fun h w hw => h w (hi w hw)⟩

/-! ## Tails -/
instance RdA.appL {T : Hp} {A : Option Addr} {xs : List Value} [h : RdA c H A xs] : RdA c (H ++ T) A xs where
  ok := h.ok.sub (List.sublist_append_left _ _)
instance RdA.appR {T : Hp} {A : Option Addr} {xs : List Value} [h : RdA c T A xs] : RdA c (H ++ T) A xs where
  ok := h.ok.sub (List.sublist_append_right _ _)
/-- New memory with a tail. -/
abbrev FnT (P : Program) (g : GI) (f : FuncId) (args : List Value) (pre : World → Prop) {X : Type} (V : X → Value) (Q : X → Prop) (Hd T : X → Hp) : Prop := FnE P g f args pre fun w v w' => ∃ x, v = V x ∧ Q x ∧ newH w w' (Hd x ++ T x)
theorem CallK.fnT {m : Bool} {f : Nat} {args : List Value} {pre : World → Prop} {X : Type} {V : X → Value} {Q : X → Prop} {Hd T : X → Hp} {K : Value → Hp → Prop} (h : FnT c.P c.g f args pre V Q Hd T) (hp : ∀ w, St c H w → pre w)
    (k : ∀ x, Q x → K (V x) (Hd x ++ (H ++ T x))) : CallK c m f args H K :=
  CallK.post (CallK.fnH (K := fun v H' => ∃ x, v = V x ∧ Q x ∧ H' = Hd x ++ T x) (⟨h.can, fun w hG hP => (h.ok w hG hP).mono fun e w' ⟨v, he, ⟨x, h1, h2, h3⟩, hR⟩ => ⟨v, he, ⟨_, ⟨x, h1, h2, rfl⟩, h3⟩, hR⟩⟩) hp (fun v H' ⟨x, h1, h2, h3⟩ =>
    ⟨Hd x ++ (H ++ T x), fun w hw => by
      subst h3
      refine hw.perm ?_
      rw [List.append_assoc]
      exact List.Perm.append_left _ List.perm_append_comm, by rw [h1]; exact k x h2⟩))
theorem newH.into {P : Program} {g : GI} {w w' : World} {hG : g.G w} {H H2 : Hp} (h : St (mkC P g w hG) H w') (hc : Into (mkC P g w hG) H H2) : newH w w' H2 := newH.of (hc w' h)

/-- A key's value is laid, in a literal. -/
theorem OthU.ins {α : Type} [DecidableEq α] {kv : α → Value} {d : TypeDesc} {T : Ty} {fr : Fr} {dst : Option Nat} {ty : TypeId} {pos : String} {after : Array Edge} {gd : Option (Nat × Bool)} {t kt et : TypeId} {x i y : Operand} {b : Nat} {k : α} {l l' : List (α × Value)} {f : Obj → Hp} {v : Value} {K : Value → Hp → Prop} (hk : KeyK d kv) (hT : TOk c.P T) [ho : ObjAt b H (mobj kv l) f]
    (hx : evK fr x fun v => v = .map (some b)) (hi : evK fr i fun v => v = kv k) (hy : evK fr y fun u => u = v) (ht : (lookT T t).d = .map kt et) (hkt : (lookT T kt).d = d) (hd : d ≠ .invalid) (hl' : mput k v l = l')
    (kk : K undef (f (mobj kv l'))) : OthU c ⟨dst, .insert t x i y, ty, pos, after, gd⟩ fr H K := ⟨fun w hw => by
  rw [evK_eq] at hx hi hy
  have hu := (lookT_ok hT (t := t) (by rw [ht]; intro h; cases h)).1
  have hku := (lookT_ok hT (t := kt) (by rw [hkt]; exact hd)).1
  rw [ht] at hu
  rw [hkt] at hku
  have hb : w.heap[b]? = some (.map ⟨mkEs kv 0 l⟩ l.length) := ho.holds hw
  refine ⟨_, _, ?_, ho.put hw (o' := mobj kv l'), kk⟩
  have hr := run_mapUpd (k := k) (v := v) hk hu hku hb
  rw [hl'] at hr
  generalize (act fr).eval = ρ at *
  simp only [execOp, hx, hi, hy, Sem.run_bind, hr, Result.andThen_ok, Sem.run_pure]⟩

/-! ## Parts of a body: each has bytes of its own -/
structure Prt where
  A : Option Addr
  cp : Nat
  l : List UInt8
  f : Bool
def Prt.row (e : Nat) (q : Prt) : Ent := .row (.slice q.A q.l.length q.cp) e 1 q.l.length (q.l.map byteV)
def rowsP (e : Nat) (ps : List Prt) : Hp := ps.map (Prt.row e)
def pcells : List Prt → List Value
  | [] => []
  | q :: r => .slice q.A q.l.length q.cp :: .bool q.f :: pcells r
def pure1 (q : Prt) : List UInt8 × Bool := (q.l, q.f)
theorem pcells_length : ∀ ps : List Prt, (pcells ps).length = ps.length * 2
  | [] => rfl
  | q :: r => by simp only [pcells, List.length_cons, pcells_length r]; omega
theorem pcells_append : ∀ a b : List Prt, pcells (a ++ b) = pcells a ++ pcells b
  | [], _ => rfl
  | q :: a, b => by simp only [List.cons_append, pcells, pcells_append a b]
theorem pcells_at : ∀ (l : List Prt) (k : Nat) (h : k < l.length), (pcells l)[k * 2]? = some (.slice l[k].A l[k].l.length l[k].cp) ∧ (pcells l)[k * 2 + 1]? = some (.bool l[k].f) ∧ ((pcells l).drop (k * 2)).take 2 = [.slice l[k].A l[k].l.length l[k].cp, .bool l[k].f]
  | q :: r, 0, _ => ⟨rfl, rfl, rfl⟩
  | q :: r, k + 1, h => by
    have ih := pcells_at r k (by simpa using h)
    rw [show (k + 1) * 2 = k * 2 + 1 + 1 by omega]
    simp only [pcells, List.getElem?_cons_succ, List.drop_succ_cons, List.getElem_cons_succ]
    exact ih
theorem pcells_one {ps : List Prt} : ∀ u ∈ pcells ps, u.oneCell' = true := by
  induction ps with
  | nil => intro u h; cases h
  | cons q r ih =>
    intro u h
    simp only [pcells, List.mem_cons] at h
    rcases h with rfl | rfl | h
    · rfl
    · rfl
    · exact ih u h
theorem Prt.rd {e : Nat} {ps : List Prt} {q : Prt} (h : q ∈ ps) : RdS c (rowsP e ps) q.A (q.l.map byteV) :=
  RdS.sub (H := [q.row e]) RdS.here (List.singleton_sublist.2 (List.mem_map_of_mem h))
theorem rowsP_app {e : Nat} {a b : List Prt} : rowsP e (a ++ b) = rowsP e a ++ rowsP e b := List.map_append
theorem Cv.snoc {e : Nat} {ps : List Prt} {q : Prt} (h : Cv H (q.row e :: rowsP e ps)) : Cv H (rowsP e (ps ++ [q])) :=
  h.trans (.of (by rw [rowsP_app]; exact (List.perm_append_comm (l₁ := [q.row e]) (l₂ := rowsP e ps))))
theorem Cv.close {e : Nat} {ps : List Prt} {q : Prt} {X : Hp} : Cv (q.row e :: (X ++ rowsP e ps)) (X ++ rowsP e (ps ++ [q])) :=
  .of (by
    rw [rowsP_app, ← List.append_assoc]
    exact (List.perm_append_comm (l₁ := [q.row e]) (l₂ := X ++ rowsP e ps)))
end
end Go.Proofs.YtbgnogdlkmhnkaaGreatDoor.Vex
/- A walk by reckoning, part nineteen: a row that is turned to its own type. No program in sight. -/
namespace Go.Proofs.YtbgnogdlkmhnkaaGreatDoor.Vex
open Go Go.RowKit Go.MapKept

/-- A row's object, by its first cells. -/
def RowO (o : Obj) (xs : List Value) : Prop := ∃ cur e fz, o = .cells cur e fz ∧ cur.toList.take xs.length = xs
section
variable {c : Ctx} {T : Ty} {H : Hp} {fr : Fr} {dst : Option Nat} {ty : TypeId} {pos : String} {after : Array Edge} {gd : Option (Nat × Bool)}
theorem RowO.rd {o : Obj} {xs : List Value} (h : RowO o xs) {b : Nat} : ∀ H, RdA c (.obj b o :: H) (some ⟨b, 0, none⟩) xs := fun H => ⟨fun w hw j u hj => by
  obtain ⟨cur, e, fz, rfl, ht⟩ := h
  have ho : w.heap[b]? = some (.cells cur e fz) := (hw.own _ (List.mem_cons_self ..)).1
  refine ⟨_, rfl, ?_⟩
  have h1 : cur.toList[j]? = some u := by
    rw [← ht, List.getElem?_take] at hj
    split at hj
    · exact hj
    · cases hj
  rw [Addr.add_lit]
  show (match w.heap[b]? with | some (.cells c _ _) => c[0 + j]? | _ => none) = some u
  rw [ho]
  simpa using h1⟩
theorem Oth.same {t e : TypeId} {x : Operand} {b n cp : Nat} {e' sz n' : Nat} {xs : List Value} {H2 : Hp} {K : Value → Hp → Prop} [hr : TakeRow (.slice (some ⟨b, 0, none⟩) n cp) H e' sz n' xs H2] (hT : TOk c.P T)
    (hx : evK fr x fun v => v = .slice (some ⟨b, 0, none⟩) n cp) (ht : (lookT T t).d = .slice e) (he : (lookT T e).d = .int .u8) (k : ∀ o, RowO o xs → K (.slice (some ⟨b, 0, none⟩) n cp) (.obj b o :: H2)) :
    Oth c false ⟨dst, .convert t t x, ty, pos, after, gd⟩ fr H K := ⟨fun w hw => by
  rw [evK_eq] at hx
  have hu := (lookT_ok hT (t := t) (by rw [ht]; intro h; cases h)).1
  have hue := (lookT_ok hT (t := e) (by rw [he]; intro h; cases h)).1
  rw [ht] at hu
  rw [he] at hue
  have hw1 := hw.perm hr.ok.perm
  have hrow : RowH w (.slice (some ⟨b, 0, none⟩) n cp) e' sz n' xs := (hw1.own _ (List.mem_cons_self ..)).1
  have hbk := (hw1.own _ (List.mem_cons_self ..)).2
  obtain ⟨hl, h0 | ⟨g, cap, cur, fz, h1, hg, h2, h3, h4, h5, _⟩⟩ := hrow
  · cases h0.1
  cases h1
  have hsh : w.shape? b = some (e', cur.size) := by unfold World.shape?; rw [hg]
  obtain ⟨fz', hfz⟩ : ∃ fz', w.freeze ⟨b, cur.size, none⟩ 1 = w.putObj b (.cells cur e' fz') := by
    refine ⟨if fz.1 == fz.2 then (cur.size, cur.size + 1) else (min fz.1 cur.size, max fz.2 (cur.size + 1)), ?_⟩
    unfold World.freeze World.putObj
    rw [if_neg (by decide)]
    congr 1
    have hlt : b < w.heap.size := (hbk b rfl).1
    have hge : w.heap[b] = .cells cur e' fz := by rw [Array.getElem?_eq_getElem hlt] at hg; exact Option.some.inj hg
    apply Array.ext
    · simp
    · intro i h1 h2
      simp only [Array.getElem_modify, Array.getElem_setIfInBounds (by simpa using h1)]
      by_cases hi : b = i
      · subst hi
        rw [if_pos rfl, if_pos rfl, hge]
      · rw [if_neg hi, if_neg hi]
  have hobj : St c (.obj b (.cells cur e' fz) :: H2) w := by
    have hrest := hw1.sub (List.sublist_cons_self _ _)
    refine hrest.push hg (fun b' hb' => hbk b' hb') (fun b' hb' y hy hyb => ?_)
    have := hw1.apart
    rw [List.filterMap_cons] at this
    exact (List.nodup_cons.1 this).1 (List.mem_filterMap.2 ⟨y, hy, by rw [hyb, ← hb']; rfl⟩)
  have hrun : (convert t t (.slice (some ⟨b, 0, none⟩) n cp)).run c.P w = .ok (.slice (some ⟨b, 0, none⟩) n cp) (w.putObj b (.cells cur e' fz')) := by
    simp [convert, run_underlying hu, run_underlying hue, markStringish, hsh]
    exact hfz
  refine ⟨_, _, _, ?_, hobj.putObj (o' := .cells cur e' fz'), k _ ⟨cur, e', fz', rfl, by rw [hl]; exact h5⟩, fun h => by cases h⟩
  generalize (act fr).eval = ρ at *
  simp only [execOp, hx, Sem.run_bind, hrun, Result.andThen_ok, Sem.run_pure]⟩
end
end Go.Proofs.YtbgnogdlkmhnkaaGreatDoor.Vex
/- A walk by reckoning, part twenty: ranges over strings. No program in sight. -/
namespace Go.Proofs.YtbgnogdlkmhnkaaGreatDoor.Vex
open Go Go.RowKit Go.MapKept

section
variable {c : Ctx} {T : Ty} {H : Hp} {fr : Fr} {dst : Option Nat} {ty : TypeId} {pos : String} {after : Array Edge} {gd : Option (Nat × Bool)}
theorem Oth.rangeS {m : Bool} {t : TypeId} {x : Operand} {l : List UInt8} {K : Value → Hp → Prop} (hT : TOk c.P T) (ht : (lookT T t).d = .string) (hx : evK fr x fun v => v = str l) (k : ∀ b, K (.pointer (some ⟨b, 0, none⟩)) (.obj b (.stringIter ⟨⟨l⟩⟩ 0) :: H)) :
    Oth c m ⟨dst, .range t x, ty, pos, after, gd⟩ fr H K := ⟨fun w hw => by
  rw [evK_eq] at hx
  have hu := (lookT_ok hT (t := t) (by rw [ht]; intro h; cases h)).1
  rw [ht] at hu
  refine ⟨_, w.alloc (.stringIter ⟨⟨l⟩⟩ 0), _, ?_, hw.allocObj _, k _, fun _ => (Below.refl _ _).alloc (Nat.le_refl _) _⟩
  have hr : (Instr.range t (.string ⟨⟨l⟩⟩)).run c.P w = .ok (.pointer (some ⟨w.heap.size, 0, none⟩)) (w.alloc (.stringIter ⟨⟨l⟩⟩ 0)) := by
    unfold Instr.range
    simp only [Sem.run_bind, run_underlying hu, Result.andThen_ok, Sem.run_pure]
    rfl
  generalize (act fr).eval = ρ at *
  simp only [execOp, hx, Sem.run_bind, hr, Result.andThen_ok, Sem.run_pure]⟩
theorem Oth.nextS {it : Operand} {b : Nat} {s : ByteArray} {p : Nat} {f : Obj → Hp} {K : Value → Hp → Prop} [ho : ObjAt b H (.stringIter s p) f] (hx : evK fr it fun v => v = .pointer (some ⟨b, 0, none⟩)) (hp : p < s.size)
    (k : K (.tuple #[.bool true, .int .i64 (p : Nat), .int .i32 (Utf8.decode s p).1]) (f (.stringIter s (p + (Utf8.decode s p).2)))) : Oth c false ⟨dst, .next it true, ty, pos, after, gd⟩ fr H K := ⟨fun w hw => by
  rw [evK_eq] at hx
  have hb : w.heap[b]? = some (.stringIter s p) := ho.holds hw
  refine ⟨_, _, _, ?_, ho.put hw (o' := .stringIter s (p + (Utf8.decode s p).2)), k, fun h => by cases h⟩
  have hr : (Instr.next (.pointer (some ⟨b, 0, none⟩)) true ty).run c.P w = .ok (.tuple #[.bool true, .int .i64 (p : Nat), .int .i32 (Utf8.decode s p).1]) (w.putObj b (.stringIter s (p + (Utf8.decode s p).2))) := by
    simp only [Instr.next, getObj, setObj, Sem.run_bind, Sem.run, hb, Result.andThen, hp, if_true]
    simp [goInt, World.putObj]
  generalize (act fr).eval = ρ at *
  simp only [execOp, hx, Sem.run_bind, hr, Result.andThen_ok, Sem.run_pure]⟩
theorem Oth.nextE {it : Operand} {b : Nat} {s : ByteArray} {p : Nat} {f : Obj → Hp} {K : Value → Hp → Prop} [ho : ObjAt b H (.stringIter s p) f] (hx : evK fr it fun v => v = .pointer (some ⟨b, 0, none⟩)) (hp : ¬ p < s.size)
    (k : K (.tuple #[.bool false]) H) : Oth c false ⟨dst, .next it true, ty, pos, after, gd⟩ fr H K := ⟨fun w hw => by
  rw [evK_eq] at hx
  have hb : w.heap[b]? = some (.stringIter s p) := ho.holds hw
  refine ⟨_, _, _, ?_, hw, k, fun h => by cases h⟩
  have hr : (Instr.next (.pointer (some ⟨b, 0, none⟩)) true ty).run c.P w = .ok (.tuple #[.bool false]) w := by
    simp [Instr.next, getObj, Sem.run, hb, hp]
  generalize (act fr).eval = ρ at *
  simp only [execOp, hx, Sem.run_bind, hr, Result.andThen_ok, Sem.run_pure]⟩
end
end Go.Proofs.YtbgnogdlkmhnkaaGreatDoor.Vex
/- Two fields, compared. -/
namespace Go.Proofs.YtbgnogdlkmhnkaaGreatDoor.Vex
open Go Go.RowKit
set_option maxRecDepth 100000
set_option linter.unusedSectionVars false
variable {gI : GI} [HasMax gI]

theorem toList_str (a b : List UInt8) : ((⟨⟨a⟩⟩ : ByteArray).toList == (⟨⟨b⟩⟩ : ByteArray).toList) = (a == b) := by
  rw [ByteArray.toList_eq, ByteArray.toList_eq]
theorem eqF_run (a b a' b' : List UInt8) (w : World) : (Op.equalIn 10000 62 (.agg ⟨[str a, str b]⟩) (.agg ⟨[str a', str b']⟩)).run Tryz.prog w = .ok (a == a' && b == b') w := by
  rw [show (10000 : Nat) = 9999 + 1 from rfl, run_equalIn_struct w 9999 _ _ _ (by kernel_rfl) (by kernel_rfl)]
  rw [show (Tryz.prog.fieldsOf 62).toList = [{ name := "Name", type := 9, offset := 0, embedded := false, tag := "", pkgPath := "", byteOffset := 0 }, { name := "Value", type := 9, offset := 1, embedded := false, tag := "", pkgPath := "", byteOffset := 16 }] from by kernel_rfl]
  have p0 : ∀ (u v : Value) w, (part 9 #[u, v] 0).run Tryz.prog w = .ok u w := fun u v w => by simp [go_sem]
  have p1 : ∀ (u v : Value) w, (part 9 #[u, v] 1).run Tryz.prog w = .ok v w := fun u v w => by simp [go_sem]
  have e0 : ∀ (x y : List UInt8) w, (Op.equalIn 9999 9 (str x) (str y)).run Tryz.prog w = .ok (x == y) w := fun x y w => by
    rw [show (9999 : Nat) = 9998 + 1 from rfl, run_equalIn_string w 9998 _ _ _ Tryz.underlying9, toList_str]
  simp only [Op.eqFields]
  cases h : a == a'
  · simp [go_sem, h, e0]
  · simp [go_sem, h, e0]
    split <;> simp_all
theorem OthP.eqF {c : Ctx} {H : Hp} {d : Option Nat} {x y : Operand} {yt ty : TypeId} {pos : String} {after : Array Edge} {gd : Option (Nat × Bool)} {fr : Fr} {a b a' b' : List UInt8} {K : Value → Prop} (hP : c.P = Tryz.prog)
    (hx : evK fr x fun v => v = .agg ⟨[str a, str b]⟩) (hy : evK fr y fun v => v = .agg ⟨[str a', str b']⟩) (k : K (.bool (a == a' && b == b'))) : OthP c ⟨d, .binOp .eql 62 x y yt, ty, pos, after, gd⟩ fr H K := ⟨⟨_, k, fun w _ => by
  rw [evK_eq] at hx hy
  rw [hP]
  have hg := run_eqGuard_agg (P := Tryz.prog) w .eql 62 x y ⟨[str a, str b]⟩ ⟨[str a', str b']⟩ (by kernel_rfl)
  have hb := run_eql_struct (P := Tryz.prog) w 62 ⟨[str a, str b]⟩ ⟨[str a', str b']⟩
  rw [eqF_run] at hb
  simp only [execOp, hx, hy, Sem.run_bind, hg, Result.andThen_ok, hb]
  rfl⟩⟩
theorem OthP.neF {c : Ctx} {H : Hp} {d : Option Nat} {x y : Operand} {yt ty : TypeId} {pos : String} {after : Array Edge} {gd : Option (Nat × Bool)} {fr : Fr} {a b a' b' : List UInt8} {K : Value → Prop} (hP : c.P = Tryz.prog)
    (hx : evK fr x fun v => v = .agg ⟨[str a, str b]⟩) (hy : evK fr y fun v => v = .agg ⟨[str a', str b']⟩) (k : K (.bool (!(a == a' && b == b')))) : OthP c ⟨d, .binOp .neq 62 x y yt, ty, pos, after, gd⟩ fr H K := ⟨⟨_, k, fun w _ => by
  rw [evK_eq] at hx hy
  rw [hP]
  have hg : (eqGuard .neq 62 x y (.agg ⟨[str a, str b]⟩) (.agg ⟨[str a', str b']⟩)).run Tryz.prog w = .ok () w := run_eqGuard_agg (P := Tryz.prog) w .neq 62 x y ⟨[str a, str b]⟩ ⟨[str a', str b']⟩ (by kernel_rfl)
  have hb : (binOp .neq 62 (.agg ⟨[str a, str b]⟩) (.agg ⟨[str a', str b']⟩)).run Tryz.prog w = .ok (.bool (!(a == a' && b == b'))) w := by
    show (do pure (.bool (!(← Op.equal 62 (.agg ⟨[str a, str b]⟩) (.agg ⟨[str a', str b']⟩)))) : Sem Value).run Tryz.prog w = _
    have e : Op.equal 62 (.agg ⟨[str a, str b]⟩) (.agg ⟨[str a', str b']⟩) = Op.equalIn 10000 62 (.agg ⟨[str a, str b]⟩) (.agg ⟨[str a', str b']⟩) := rfl
    rw [e, Sem.run_bind, eqF_run]
    rfl
  simp only [execOp, hx, hy, Sem.run_bind, hg, Result.andThen_ok, hb]
  rfl⟩⟩
end Go.Proofs.YtbgnogdlkmhnkaaGreatDoor.Vex
/- field.Items, reckoned: a range over strings.SplitSeq. -/
namespace Go.Proofs.YtbgnogdlkmhnkaaGreatDoor.Vex
open Go Go.RowKit
set_option maxRecDepth 100000
set_option linter.unusedSectionVars false
variable {gI : GI} [HasMax gI]

theorem itemsLeft {l r : List UInt8} {out : List (List UInt8)} (h : out ++ itemsOf r = itemsOf l) : out.length ≤ l.length + 1 := by
  have := items_length l
  rw [← h, List.length_append] at this
  omega
end Go.Proofs.YtbgnogdlkmhnkaaGreatDoor.Vex
/- The library's functions on bytes, that chunks lean on, reckoned. -/
namespace Go.Proofs.YtbgnogdlkmhnkaaGreatDoor.Vex
open Go Go.RowKit
set_option maxRecDepth 100000
set_option linter.unusedSectionVars false
variable {gI : GI} [HasMax gI]

theorem bytes_one (l : List UInt8) : ∀ u ∈ l.map byteV, u.oneCell' = true := fun u hu => by
  obtain ⟨y, _, rfl⟩ := List.mem_map.1 hu
  rfl
theorem BEqual_f (A B : Option Addr) (cp cq : Nat) (a b : List UInt8) : FnR Tryz.prog gI 41 [.slice A a.length cp, .slice B b.length cq] [(A, a.map byteV), (B, b.map byteV)] (.bool (decide (a = b))) := by
  refine FnE.of tys_ok Tryz.func41 rfl (by kernel_rfl) rfl rfl ?_; intro w hG hP
  have hA : ∀ H, RdS (mkC Tryz.prog gI w hG) H A (a.map byteV) := fun H => hP.1.now
  have hB : ∀ H, RdS (mkC Tryz.prog gI w hG) H B (b.map byteV) := fun H => hP.2.1.now
  (conv => whnf); repeat ((first | refine tk1 ?_ | refine tk2 ?_ | refine tk3 ?_ | refine tk12 (fun _ => ?_) | refine tk4 ?_ | refine tk5 ?_ | refine tk6 ?_ | refine tk7 ?_ | refine tk8 ?_ | refine tk9 ?_ | refine tk10 (fun _ _ => ?_) | refine tk11 (fun _ => ?_) | refine tk13 ?_ | refine tk14 ?_); (conv => whnf))
  refine B2S.rd (hA _) rfl ?_
  (conv => whnf); repeat ((first | refine tk1 ?_ | refine tk2 ?_ | refine tk3 ?_ | refine tk12 (fun _ => ?_) | refine tk4 ?_ | refine tk5 ?_ | refine tk6 ?_ | refine tk7 ?_ | refine tk8 ?_ | refine tk9 ?_ | refine tk10 (fun _ _ => ?_) | refine tk11 (fun _ => ?_) | refine tk13 ?_ | refine tk14 ?_); (conv => whnf))
  refine B2S.rd (hB _) rfl ?_
  (conv => whnf); repeat ((first | refine tk1 ?_ | refine tk2 ?_ | refine tk3 ?_ | refine tk12 (fun _ => ?_) | refine tk4 ?_ | refine tk5 ?_ | refine tk6 ?_ | refine tk7 ?_ | refine tk8 ?_ | refine tk9 ?_ | refine tk10 (fun _ _ => ?_) | refine tk11 (fun _ => ?_) | refine tk13 ?_ | refine tk14 ?_); (conv => whnf))
  refine Cmp.of (decide (a = b)) (by simp) ?_
  (conv => whnf); repeat ((first | refine tk1 ?_ | refine tk2 ?_ | refine tk3 ?_ | refine tk12 (fun _ => ?_) | refine tk4 ?_ | refine tk5 ?_ | refine tk6 ?_ | refine tk7 ?_ | refine tk8 ?_ | refine tk9 ?_ | refine tk10 (fun _ _ => ?_) | refine tk11 (fun _ => ?_) | refine tk13 ?_ | refine tk14 ?_); (conv => whnf))
  exact fun w' _ => rfl
theorem cr_drop (l : List UInt8) (h : 0 < l.length) : crB l = decide (l.drop (l.length - 1) = [13]) := by
  obtain ⟨r, x, rfl⟩ : ∃ r x, l = r ++ [x] := ⟨l.dropLast, l.getLast (by intro e; rw [e] at h; cases h), (List.dropLast_concat_getLast _).symm⟩
  rw [cr_snoc]
  rw [show (r ++ [x]).length - 1 = r.length by simp, List.drop_left]
  by_cases hx : x = 13 <;> simp [hx]
theorem HasSuffix_f (A B : Option Addr) (cp cq : Nat) (l : List UInt8) (hl : l.length ≤ 1000000000) :
    FnE Tryz.prog gI 29 [.slice A l.length cp, .slice B 1 cq] (fun w => RdL w [(A, l.map byteV), (B, [byteV 13])] ∧ l.length ≤ cp) fun _ v _ => v = .bool (crB l) := by
  refine FnE.of tys_ok Tryz.func29 rfl (by kernel_rfl) rfl rfl ?_; intro w hG hP
  have hA : ∀ H, RdS (mkC Tryz.prog gI w hG) H A (l.map byteV) := fun H => hP.1.1.now
  have hB : ∀ H, RdS (mkC Tryz.prog gI w hG) H B [byteV 13] := fun H => hP.1.2.1.now
  have hcp := hP.2
  (conv => whnf); repeat ((first | refine tk1 ?_ | refine tk2 ?_ | refine tk3 ?_ | refine tk12 (fun _ => ?_) | refine tk4 ?_ | refine tk5 ?_ | refine tk6 ?_ | refine tk7 ?_ | refine tk8 ?_ | refine tk9 ?_ | refine tk10 (fun _ _ => ?_) | refine tk11 (fun _ => ?_) | refine tk13 ?_ | refine tk14 ?_); (conv => whnf))
  refine Cmp.cases (fun h => ?_) (fun h => ?_)
  · rw [cr_drop l (by omega)]
    (conv => whnf); repeat ((first | refine tk1 ?_ | refine tk2 ?_ | refine tk3 ?_ | refine tk12 (fun _ => ?_) | refine tk4 ?_ | refine tk5 ?_ | refine tk6 ?_ | refine tk7 ?_ | refine tk8 ?_ | refine tk9 ?_ | refine tk10 (fun _ _ => ?_) | refine tk11 (fun _ => ?_) | refine tk13 ?_ | refine tk14 ?_); (conv => whnf))
    refine SlcV.from (by omega) (by omega) ?_
    have hp := fun H => RdS.piece (cp := cp) (sz := 1) (lo := (l.length : Int) - ((1 : Nat) : Int)) (hA H) (by omega) (fun e => by omega)
    have hk : ((l.length : Int) - ((1 : Nat) : Int)).toNat = l.length - 1 := by omega
    have hd : (l.map byteV).drop (((l.length : Int) - ((1 : Nat) : Int)).toNat * 1) = (l.drop (l.length - 1)).map byteV := by rw [hk, Nat.mul_one, List.map_drop]
    rw [hd] at hp
    have hn : l.length - ((l.length : Int) - ((1 : Nat) : Int)).toNat = (l.drop (l.length - 1)).length := by rw [hk, List.length_drop]
    rw [hn]
    (conv => whnf); repeat ((first | refine tk1 ?_ | refine tk2 ?_ | refine tk3 ?_ | refine tk12 (fun _ => ?_) | refine tk4 ?_ | refine tk5 ?_ | refine tk6 ?_ | refine tk7 ?_ | refine tk8 ?_ | refine tk9 ?_ | refine tk10 (fun _ _ => ?_) | refine tk11 (fun _ => ?_) | refine tk13 ?_ | refine tk14 ?_); (conv => whnf))
    refine CallK.fnR (BEqual_f _ B _ cq (l.drop (l.length - 1)) [13]) ⟨hp _, hB _, trivial⟩ ?_
    (conv => whnf); repeat ((first | refine tk1 ?_ | refine tk2 ?_ | refine tk3 ?_ | refine tk12 (fun _ => ?_) | refine tk4 ?_ | refine tk5 ?_ | refine tk6 ?_ | refine tk7 ?_ | refine tk8 ?_ | refine tk9 ?_ | refine tk10 (fun _ _ => ?_) | refine tk11 (fun _ => ?_) | refine tk13 ?_ | refine tk14 ?_); (conv => whnf))
    exact fun w' _ => rfl
  · obtain rfl : l = [] := List.eq_nil_of_length_eq_zero (by omega)
    (conv => whnf); repeat ((first | refine tk1 ?_ | refine tk2 ?_ | refine tk3 ?_ | refine tk12 (fun _ => ?_) | refine tk4 ?_ | refine tk5 ?_ | refine tk6 ?_ | refine tk7 ?_ | refine tk8 ?_ | refine tk9 ?_ | refine tk10 (fun _ _ => ?_) | refine tk11 (fun _ => ?_) | refine tk13 ?_ | refine tk14 ?_); (conv => whnf))
    exact fun w' _ => rfl
theorem BClone_f (A : Option Addr) (cp : Nat) (l : List UInt8) (hl : l.length ≤ 1000000000) : FnS Tryz.prog gI 18 [.slice A l.length cp] [(A, l.map byteV)] 5 1 l.length (l.map byteV) := by
  refine FnE.of tys_ok Tryz.func18 rfl (by kernel_rfl) rfl rfl ?_; intro w hG hP
  have hR : ∀ H, RdA (mkC Tryz.prog gI w hG) H A (l.map byteV) := fun H => ⟨hP.1.now⟩
  (conv => whnf); repeat ((first | refine tk1 ?_ | refine tk2 ?_ | refine tk3 ?_ | refine tk12 (fun _ => ?_) | refine tk4 ?_ | refine tk5 ?_ | refine tk6 ?_ | refine tk7 ?_ | refine tk8 ?_ | refine tk9 ?_ | refine tk10 (fun _ _ => ?_) | refine tk11 (fun _ => ?_) | refine tk13 ?_ | refine tk14 ?_); (conv => whnf))
  refine OthP.nilEq tys_ok rfl rfl ?_
  cases A with
  | none =>
    have hnil := rdw_nil hP.1
    obtain rfl : l = [] := List.map_eq_nil_iff.1 hnil
    (conv => whnf); repeat ((first | refine tk1 ?_ | refine tk2 ?_ | refine tk3 ?_ | refine tk12 (fun _ => ?_) | refine tk4 ?_ | refine tk5 ?_ | refine tk6 ?_ | refine tk7 ?_ | refine tk8 ?_ | refine tk9 ?_ | refine tk10 (fun _ _ => ?_) | refine tk11 (fun _ => ?_) | refine tk13 ?_ | refine tk14 ?_); (conv => whnf))
    exact rowPost.nil _ _
  | some a =>
    (conv => whnf); repeat ((first | refine tk1 ?_ | refine tk2 ?_ | refine tk3 ?_ | refine tk12 (fun _ => ?_) | refine tk4 ?_ | refine tk5 ?_ | refine tk6 ?_ | refine tk7 ?_ | refine tk8 ?_ | refine tk9 ?_ | refine tk10 (fun _ _ => ?_) | refine tk11 (fun _ => ?_) | refine tk13 ?_ | refine tk14 ?_); (conv => whnf))
    refine AppS.tc SrcK.tc (by simp) (bytes_one l) (by decide) (by omega) (by omega) (zs := l.map byteV) (by simp) (fun B cq => ?_)
    rw [Nat.zero_add]
    (conv => whnf); repeat ((first | refine tk1 ?_ | refine tk2 ?_ | refine tk3 ?_ | refine tk12 (fun _ => ?_) | refine tk4 ?_ | refine tk5 ?_ | refine tk6 ?_ | refine tk7 ?_ | refine tk8 ?_ | refine tk9 ?_ | refine tk10 (fun _ _ => ?_) | refine tk11 (fun _ => ?_) | refine tk13 ?_ | refine tk14 ?_); (conv => whnf))
    exact rowPost.of (by simp)
end Go.Proofs.YtbgnogdlkmhnkaaGreatDoor.Vex
/- What vary tells, as byte lists. No program in sight. -/
namespace Go.Proofs.YtbgnogdlkmhnkaaGreatDoor

/-- Is a text one of some, in small letters? -/
def inS (l : List (List UInt8)) (s : List UInt8) : Bool := l.any fun x => smallOf x == smallOf s
def namesOf (v n : List UInt8) : Bool := (itemsOf v).any fun s => smallOf s == [42] || smallOf s == smallOf n
/-- Each text once, in small letters, in the order of their coming. -/
def dedup : List (List UInt8) → List (List UInt8) → List (List UInt8)
  | out, [] => out
  | out, s :: r => dedup (if inS out s then out else out ++ [s]) r
def allV (values : List (List UInt8)) (name : List UInt8) : List (List UInt8) := values.flatMap itemsOf ++ [name]
def mergeOK (values : List (List UInt8)) (name : List UInt8) : Bool := (allV values name).all tokenOf
def mergeO (values : List (List UInt8)) (name : List UInt8) : List (List UInt8) := dedup [] (allV values name)
def mergeS (values : List (List UInt8)) (name : List UInt8) : List UInt8 :=
  if mergeOK values name then (if inS (mergeO values name) [42] then [42] else Lib.join (mergeO values name) [44, 32]) else []
def mergeE (values : List (List UInt8)) (name : List UInt8) : Int := if mergeOK values name then 0 else 3
theorem small_star : smallOf [42] = [42] := by decide
theorem small_eq_star {s : List UInt8} : smallOf s = [42] ↔ s = [42] := by
  constructor
  · intro h
    have hl : s.length = 1 := by rw [← smallOf_length s, h]; rfl
    match s, hl with
    | [x], _ =>
      have h1 : lowB x = 42 := by simpa [smallOf] using h
      have h2 : ∀ n : Fin 256, lowB n.val.toUInt8 = 42 → n.val.toUInt8 = 42 := by decide +kernel
      have h3 := h2 ⟨x.toNat, x.toNat_lt⟩
      simp at h3
      rw [h3 h1]
  · rintro rfl; decide
theorem names_in (v n : List UInt8) : namesOf v n = (inS (itemsOf v) [42] || inS (itemsOf v) n) := by
  unfold namesOf inS
  rw [small_star]
  induction itemsOf v with
  | nil => rfl
  | cons x r ih => simp only [List.any_cons, ih]; cases smallOf x == [42] <;> cases smallOf x == smallOf n <;> simp
/-- Items of values that are put behind one another. -/
theorem join_cons (x y : List UInt8) (r : List (List UInt8)) (sep : List UInt8) : Lib.join (x :: y :: r) sep = x ++ sep ++ Lib.join (y :: r) sep := by
  simp [Lib.join, List.intercalate]
theorem items_of_join : ∀ values : List (List UInt8), itemsOf (Lib.join values [44]) = values.flatMap itemsOf
  | [] => by decide
  | [x] => by simp [Lib.join_one]
  | x :: y :: r => by
    rw [join_cons, List.flatMap_cons, ← items_of_join (y :: r), List.append_assoc]
    exact items_join x _
theorem join_length : ∀ (values : List (List UInt8)) (sep : List UInt8), (Lib.join values sep).length ≤ (values.map fun v => v.length + sep.length).sum
  | [], sep => by simp [Lib.join, List.intercalate]
  | [x], sep => by simp [Lib.join_one]
  | x :: y :: r, sep => by
    have := join_length (y :: r) sep
    rw [join_cons, List.map_cons, List.sum_cons, List.length_append, List.length_append]
    omega
theorem dedup_length : ∀ (l out : List (List UInt8)), (dedup out l).length ≤ out.length + l.length
  | [], out => by simp [dedup]
  | s :: r, out => by
    cases h : inS out s with
    | true =>
      have := dedup_length r out
      simp only [dedup, h, if_true, List.length_cons]
      omega
    | false =>
      have := dedup_length r (out ++ [s])
      simp only [List.length_append, List.length_singleton] at this
      simp only [dedup, h, Bool.false_eq_true, if_false, List.length_cons]
      omega
theorem dedup_mem : ∀ (l out : List (List UInt8)) (x : List UInt8), x ∈ dedup out l → x ∈ out ∨ x ∈ l
  | [], out, x, h => .inl h
  | s :: r, out, x, h => by
    unfold dedup at h
    rcases dedup_mem r _ x h with h | h
    · split at h
      · exact .inl h
      · rcases List.mem_append.1 h with h | h
        · exact .inl h
        · rw [List.mem_singleton] at h
          exact .inr (by rw [h]; exact List.mem_cons_self ..)
    · exact .inr (List.mem_cons_of_mem _ h)
theorem inS_append (a b : List (List UInt8)) (s : List UInt8) : inS (a ++ b) s = (inS a s || inS b s) := by simp [inS]
/-- What is put together names all that was named. -/
theorem inS_dedup (s : List UInt8) : ∀ (l out : List (List UInt8)), inS (dedup out l) s = (inS out s || inS l s)
  | [], out => by simp [dedup, inS]
  | x :: r, out => by
    have ih := inS_dedup s r (if inS out x then out else out ++ [x])
    unfold dedup
    rw [ih]
    have hc : inS (x :: r) s = (smallOf x == smallOf s || inS r s) := by simp [inS]
    rw [hc]
    split
    · rename_i h
      cases hx : smallOf x == smallOf s with
      | false => simp
      | true =>
        have hx : smallOf x = smallOf s := by simpa using hx
        have : inS out s = true := by unfold inS at h ⊢; rw [← hx]; exact h
        simp [this]
    · rw [inS_append]
      simp [inS, Bool.or_assoc]
end Go.Proofs.YtbgnogdlkmhnkaaGreatDoor
/- Library functions on lists of texts and of fields, and the references' ones, reckoned. -/
namespace Go.Proofs.YtbgnogdlkmhnkaaGreatDoor.Vex
open Go Go.RowKit
set_option maxRecDepth 100000
set_option linter.unusedSectionVars false
variable {gI : GI} [HasMax gI]

theorem rdw_addr {w : World} {A : Option Addr} {x : Value} {xs : List Value} (h : Rdw w A (x :: xs)) : ∃ b o, A = some ⟨b, o, none⟩ ∧ b < w.heap.size := by
  obtain ⟨a, ha, hc⟩ := h 0 x rfl
  obtain ⟨b, o, sp⟩ := a
  have hs : sp = none := by
    cases sp with
    | none => rfl
    | some s =>
      exfalso
      have : (⟨b, o, some s⟩ : Addr).add 0 = ⟨b, o, some s⟩ ∨ ((⟨b, o, some s⟩ : Addr).add 0).spot.isSome = true := by
        right; unfold Addr.add; split <;> simp_all
      unfold World.cell? at hc
      rcases this with h | h <;> simp [h] at hc <;> split at hc <;> simp_all
  subst hs
  refine ⟨b, o, ha, ?_⟩
  have := World.block_lt_of_cell? _ _ hc
  rwa [add_block] at this
end Go.Proofs.YtbgnogdlkmhnkaaGreatDoor.Vex
/- Numbers to the base of 16, reckoned: strconv.ParseUint at the base 16; library functions on texts. -/
namespace Go.Proofs.YtbgnogdlkmhnkaaGreatDoor.Vex
open Go Go.RowKit
set_option maxRecDepth 100000
set_option linter.unusedSectionVars false
variable {gI : GI} [HasMax gI] [HasErr gI]

theorem idx_in (c : UInt8) : ∀ l : List UInt8, (0 ≤ Lib.indexByte l c) ↔ c ∈ l
  | [] => by simp [Lib.indexByte]
  | x :: r => by
    have ih := idx_in c r
    have hg := Lib.indexByte_ge r c
    unfold Lib.indexByte
    by_cases h : x = c
    · simp [h]
    · have h1 : (x == c) = false := by simpa using h
      rw [h1]
      simp only [Bool.false_eq_true, if_false, List.mem_cons]
      have h2 : ¬ c = x := fun e => h e.symm
      simp only [h2, false_or, ← ih]
      by_cases h3 : Lib.indexByte r c = -1
      · simp [h3]
      · have : (Lib.indexByte r c == -1) = false := by simpa using h3
        rw [this]
        simp only [Bool.false_eq_true, if_false]
        omega
theorem mem_bytes (l : List (List UInt8)) (x : List UInt8) : (⟨⟨x⟩⟩ : ByteArray) ∈ l.map (fun y => (⟨⟨y⟩⟩ : ByteArray)) ↔ x ∈ l := by
  constructor
  · intro h
    obtain ⟨y, hy, e⟩ := List.mem_map.1 h
    cases e
    exact hy
  · exact fun h => List.mem_map.2 ⟨x, h, rfl⟩
/-! ## To the base of 16 -/
def lwI (x : UInt8) : Int := bits .or .u8 x.toNat 32
theorem lw_facts (x : UInt8) : (48 ≤ x.toNat ∧ x.toNat ≤ 57 ∧ digI x.toNat = x.toNat - 48) ∨ (¬ (48 ≤ x.toNat ∧ x.toNat ≤ 57) ∧ ((97 ≤ lwI x ∧ lwI x ≤ 122 ∧ (digI x.toNat = lwI x - 87 ∧ lwI x ≤ 102 ∨ digI x.toNat = -1 ∧ 102 < lwI x)) ∨ (¬ (97 ≤ lwI x ∧ lwI x ≤ 122) ∧ digI x.toNat = -1))) := by
  have : ∀ n : Fin 256, (48 ≤ n.val ∧ n.val ≤ 57 ∧ digI n.val = n.val - 48) ∨ (¬ (48 ≤ n.val ∧ n.val ≤ 57) ∧ ((97 ≤ bits .or .u8 n.val 32 ∧ bits .or .u8 n.val 32 ≤ 122 ∧ (digI n.val = bits .or .u8 n.val 32 - 87 ∧ bits .or .u8 n.val 32 ≤ 102 ∨ digI n.val = -1 ∧ 102 < bits .or .u8 n.val 32)) ∨ (¬ (97 ≤ bits .or .u8 n.val 32 ∧ bits .or .u8 n.val 32 ≤ 122) ∧ digI n.val = -1))) := by decide +kernel
  exact this ⟨x.toNat, x.toNat_lt⟩
theorem lw_95 (x : UInt8) (h : x.toNat = 95) : digI x.toNat = -1 := by rw [h]; decide
theorem lower_f (x : UInt8) : Fn Tryz.prog gI 92 [.int .u8 x.toNat] (.int .u8 (lwI x)) :=
  ⟨callable Tryz.func92 rfl (by kernel_rfl), fun w _ => (Tryz.internal_strconv_lower x.toNat w).mono fun _ _ ⟨he, hw⟩ => ⟨he, by rw [hw]; exact R.refl _⟩⟩
/-- The value and the error's number: 0 none, 1 out of range, 2 no number. -/
def puGo (mx : Int) : Int → List UInt8 → Int × Int
  | n, [] => (n, 0)
  | n, x :: r => if digI x.toNat < 0 then (0, 2) else if 1152921504606846976 ≤ n then (mx, 1) else if mx < n * 16 + digI x.toNat then (mx, 1) else puGo mx (n * 16 + digI x.toNat) r
def puV (mx : Int) (l : List UInt8) : Int × Int := if l = [] then (0, 2) else puGo mx 0 l
def errV (k : Int) : Value := if k = 0 then .nilIface else .iface 126 (.int .i64 k)
theorem puGo_err (mx : Int) : ∀ (l : List UInt8) (n : Int), (puGo mx n l).2 = 0 ∨ (puGo mx n l).2 = 1 ∨ (puGo mx n l).2 = 2
  | [], n => .inl rfl
  | x :: r, n => by
    unfold puGo
    split
    · exact .inr (.inr rfl)
    · split
      · exact .inr (.inl rfl)
      · split
        · exact .inr (.inl rfl)
        · exact puGo_err mx r _
theorem Parse16_f (l : List UInt8) (bs mx : Int) (hb : bs = 8 ∧ mx = 255 ∨ bs = 64 ∧ mx = 18446744073709551615) (hl : l.length ≤ 1000000000) :
    Fn Tryz.prog gI 68 [str l, .int .i64 16, .int .i64 bs] (.tuple #[.int .u64 (puV mx l).1, errV (puV mx l).2]) := by
  refine Fn.of tys_ok Tryz.func68 rfl (by kernel_rfl) rfl rfl ?_; intro w hG
  (conv => whnf); repeat ((first | refine tk1 ?_ | refine tk2 ?_ | refine tk3 ?_ | refine tk12 (fun _ => ?_) | refine tk4 ?_ | refine tk5 ?_ | refine tk6 ?_ | refine tk7 ?_ | refine tk8 ?_ | refine tk9 ?_ | refine tk10 (fun _ _ => ?_) | refine tk11 (fun _ => ?_) | refine tk13 ?_ | refine tk14 ?_); (conv => whnf))
  refine Cmp.cases (fun h0 => ?_) (fun h0 => ?_)
  · (conv => whnf); repeat ((first | refine tk1 ?_ | refine tk2 ?_ | refine tk3 ?_ | refine tk12 (fun _ => ?_) | refine tk4 ?_ | refine tk5 ?_ | refine tk6 ?_ | refine tk7 ?_ | refine tk8 ?_ | refine tk9 ?_ | refine tk10 (fun _ _ => ?_) | refine tk11 (fun _ => ?_) | refine tk13 ?_ | refine tk14 ?_); (conv => whnf))
    refine OthP.mkI tys_ok rfl rfl ?_
    (conv => whnf); repeat ((first | refine tk1 ?_ | refine tk2 ?_ | refine tk3 ?_ | refine tk12 (fun _ => ?_) | refine tk4 ?_ | refine tk5 ?_ | refine tk6 ?_ | refine tk7 ?_ | refine tk8 ?_ | refine tk9 ?_ | refine tk10 (fun _ _ => ?_) | refine tk11 (fun _ => ?_) | refine tk13 ?_ | refine tk14 ?_); (conv => whnf))
    simp [puV, h0, errV]
  · have hpv : puV mx l = puGo mx 0 l := by unfold puV; rw [if_neg h0]
    have h255 : 255 ≤ mx := by omega
    (conv => whnf); repeat ((first | refine tk1 ?_ | refine tk2 ?_ | refine tk3 ?_ | refine tk12 (fun _ => ?_) | refine tk4 ?_ | refine tk5 ?_ | refine tk6 ?_ | refine tk7 ?_ | refine tk8 ?_ | refine tk9 ?_ | refine tk10 (fun _ _ => ?_) | refine tk11 (fun _ => ?_) | refine tk13 ?_ | refine tk14 ?_); (conv => whnf))
    refine Ar.any ?_
    rw [show IntKind.u64.wrap bs = bs by rcases hb with ⟨rfl, _⟩ | ⟨rfl, _⟩ <;> rfl]
    (conv => whnf); repeat ((first | refine tk1 ?_ | refine tk2 ?_ | refine tk3 ?_ | refine tk12 (fun _ => ?_) | refine tk4 ?_ | refine tk5 ?_ | refine tk6 ?_ | refine tk7 ?_ | refine tk8 ?_ | refine tk9 ?_ | refine tk10 (fun _ _ => ?_) | refine tk11 (fun _ => ?_) | refine tk13 ?_ | refine tk14 ?_); (conv => whnf))
    refine OthP.ints rfl rfl (v := .int .u64 (if bs = 8 then 256 else 0)) (fun w => by rcases hb with ⟨rfl, _⟩ | ⟨rfl, _⟩ <;> rfl) ?_
    (conv => whnf); repeat ((first | refine tk1 ?_ | refine tk2 ?_ | refine tk3 ?_ | refine tk12 (fun _ => ?_) | refine tk4 ?_ | refine tk5 ?_ | refine tk6 ?_ | refine tk7 ?_ | refine tk8 ?_ | refine tk9 ?_ | refine tk10 (fun _ _ => ?_) | refine tk11 (fun _ => ?_) | refine tk13 ?_ | refine tk14 ?_); (conv => whnf))
    refine Ar.any ?_
    rw [show IntKind.u64.wrap ((if bs = 8 then 256 else 0) - 1) = mx by rcases hb with ⟨rfl, rfl⟩ | ⟨rfl, rfl⟩ <;> rfl]
    (conv => whnf); repeat ((first | refine tk1 ?_ | refine tk2 ?_ | refine tk3 ?_ | refine tk12 (fun _ => ?_) | refine tk4 ?_ | refine tk5 ?_ | refine tk6 ?_ | refine tk7 ?_ | refine tk8 ?_ | refine tk9 ?_ | refine tk10 (fun _ _ => ?_) | refine tk11 (fun _ => ?_) | refine tk13 ?_ | refine tk14 ?_); (conv => whnf))
    rename_i b cp
    refine LoopS.lp tys_ok (fun (x : Nat × Int) u => [u 0, .int .i64 16, u 2, u 3, u 4, u 5, u 6, u 7, .bool false, str l, .int .u64 1152921504606846976, .int .u64 mx, .bool false, .int .u64 x.2, u 14, u 15, u 16, u 17, u 18, u 19, u 20, u 21, u 22, u 23, u 24, u 25, u 26, u 27, u 28, u 29, u 30, u 31, u 32, u 33, u 34, u 35, u 36, u 37, u 38, u 39, u 40, u 41, u 42, u 43, u 44, u 45, u 46, u 47, u 48, u 49, u 50, u 51, u 52, u 53, u 54, u 55, u 56, u 57, u 58, u 59, u 60, u 61, u 62, u 63, u 64, u 65, u 66, u 67, u 68, u 69, u 70, u 71, u 72, u 73, u 74, u 75, u 76, u 77, u 78, u 79, u 80, u 81, u 82, u 83, u 84, u 85, u 86, u 87, u 88, u 89, u 90, u 91, u 92, u 93, u 94, u 95, u 96, u 97, u 98, .slice (some ⟨b, 0, none⟩) l.length cp, .int .i64 l.length, .int .i64 (x.1 : Nat), u 102, u 103, u 104, u 105, u 106, u 107, u 108, u 109, u 110, u 111, u 112, u 113, u 114, u 115, u 116, u 117, u 118, u 119, u 120, u 121, u 122, u 123, u 124, u 125, u 126, u 127, u 128, u 129, u 130, u 131, u 132, u 133, u 134, u 135, u 136, u 137, u 138, u 139, u 140, u 141, u 142, u 143, u 144, u 145, u 146, u 147, u 148, u 149, u 150, u 151, u 152, u 153, u 154, u 155, u 156, u 157, u 158, u 159, u 160, u 161, u 162, u 163, u 164, u 165, u 166, u 167, u 168, u 169, u 170, u 171])
      (fun _ => [.row (.slice (some ⟨b, 0, none⟩) l.length cp) 5 1 l.length (l.map byteV)])
      (fun x => x.1 ≤ l.length ∧ 0 ≤ x.2 ∧ x.2 ≤ mx ∧ puGo mx 0 l = puGo mx x.2 (l.drop x.1)) (fun x => l.length - x.1) (0, 0) ⟨Nat.zero_le _, Int.le_refl _, by dsimp only; omega, rfl⟩ rfl (by repeat' (first | exact List.Sublist.refl _ | exact List.nil_sublist _ | apply List.Sublist.cons_cons | apply List.Sublist.cons)) ?_
    rintro ⟨k, n⟩ u ⟨hk, hn0, hnm, hI⟩
    dsimp only at hk hn0 hnm hI ⊢
    (conv => whnf); repeat ((first | refine tk1 ?_ | refine tk2 ?_ | refine tk3 ?_ | refine tk12 (fun _ => ?_) | refine tk4 ?_ | refine tk5 ?_ | refine tk6 ?_ | refine tk7 ?_ | refine tk8 ?_ | refine tk9 ?_ | refine tk10 (fun _ _ => ?_) | refine tk11 (fun _ => ?_) | refine tk13 ?_ | refine tk14 ?_); (conv => whnf))
    refine Cmp.cases (fun hlt => ?_) (fun hlt => ?_)
    · have hlt' : k < l.length := by omega
      obtain ⟨x, hx⟩ : ∃ x, l[k] = x := ⟨_, rfl⟩
      have hd : l.drop k = x :: l.drop (k + 1) := by rw [← hx]; exact List.drop_eq_getElem_cons hlt'
      have hlw := lw_facts x
      have hxt := x.toNat_lt
      rw [hd, puGo] at hI
      have bad : digI x.toNat = -1 → puV mx l = (0, 2) := fun h => by rw [hpv, hI, if_pos (by omega)]
      (conv => whnf); repeat ((first | refine tk1 ?_ | refine tk2 ?_ | refine tk3 ?_ | refine tk12 (fun _ => ?_) | refine tk4 ?_ | refine tk5 ?_ | refine tk6 ?_ | refine tk7 ?_ | refine tk8 ?_ | refine tk9 ?_ | refine tk10 (fun _ _ => ?_) | refine tk11 (fun _ => ?_) | refine tk13 ?_ | refine tk14 ?_); (conv => whnf))
      refine IdxA.tc (by simp; omega) (by omega) (by omega) ?_
      (conv => whnf); repeat ((first | refine tk1 ?_ | refine tk2 ?_ | refine tk3 ?_ | refine tk12 (fun _ => ?_) | refine tk4 ?_ | refine tk5 ?_ | refine tk6 ?_ | refine tk7 ?_ | refine tk8 ?_ | refine tk9 ?_ | refine tk10 (fun _ _ => ?_) | refine tk11 (fun _ => ?_) | refine tk13 ?_ | refine tk14 ?_); (conv => whnf))
      refine Ld.ta (v := .int .u8 x.toNat) (by simp [hlt', hx, byteV]) ?_
      (conv => whnf); repeat ((first | refine tk1 ?_ | refine tk2 ?_ | refine tk3 ?_ | refine tk12 (fun _ => ?_) | refine tk4 ?_ | refine tk5 ?_ | refine tk6 ?_ | refine tk7 ?_ | refine tk8 ?_ | refine tk9 ?_ | refine tk10 (fun _ _ => ?_) | refine tk11 (fun _ => ?_) | refine tk13 ?_ | refine tk14 ?_); (conv => whnf))
      refine Cmp.cases (fun h95 => ?_) (fun h95 => ?_)
      · have hbad := bad (lw_95 x (by omega))
        have h5 : lwI x = 127 := by unfold lwI; rw [show x.toNat = 95 by omega]; rfl
        (conv => whnf); repeat ((first | refine tk1 ?_ | refine tk2 ?_ | refine tk3 ?_ | refine tk12 (fun _ => ?_) | refine tk4 ?_ | refine tk5 ?_ | refine tk6 ?_ | refine tk7 ?_ | refine tk8 ?_ | refine tk9 ?_ | refine tk10 (fun _ _ => ?_) | refine tk11 (fun _ => ?_) | refine tk13 ?_ | refine tk14 ?_); (conv => whnf))
        refine CallK.fn (lower_f x) ?_
        (conv => whnf); repeat ((first | refine tk1 ?_ | refine tk2 ?_ | refine tk3 ?_ | refine tk12 (fun _ => ?_) | refine tk4 ?_ | refine tk5 ?_ | refine tk6 ?_ | refine tk7 ?_ | refine tk8 ?_ | refine tk9 ?_ | refine tk10 (fun _ _ => ?_) | refine tk11 (fun _ => ?_) | refine tk13 ?_ | refine tk14 ?_); (conv => whnf))
        refine CallK.fn (lower_f x) ?_
        (conv => whnf); repeat ((first | refine tk1 ?_ | refine tk2 ?_ | refine tk3 ?_ | refine tk12 (fun _ => ?_) | refine tk4 ?_ | refine tk5 ?_ | refine tk6 ?_ | refine tk7 ?_ | refine tk8 ?_ | refine tk9 ?_ | refine tk10 (fun _ _ => ?_) | refine tk11 (fun _ => ?_) | refine tk13 ?_ | refine tk14 ?_); (conv => whnf))
        refine OthP.mkI tys_ok rfl rfl ?_
        (conv => whnf); repeat ((first | refine tk1 ?_ | refine tk2 ?_ | refine tk3 ?_ | refine tk12 (fun _ => ?_) | refine tk4 ?_ | refine tk5 ?_ | refine tk6 ?_ | refine tk7 ?_ | refine tk8 ?_ | refine tk9 ?_ | refine tk10 (fun _ _ => ?_) | refine tk11 (fun _ => ?_) | refine tk13 ?_ | refine tk14 ?_); (conv => whnf))
        rw [hbad]; rfl
      · rcases hlw with ⟨g1, g2, g3⟩ | ⟨g1, ⟨g2, g3, ⟨g4, g5⟩ | ⟨g4, g5⟩⟩ | ⟨g2, g3⟩⟩
        · (conv => whnf); repeat ((first | refine tk1 ?_ | refine tk2 ?_ | refine tk3 ?_ | refine tk12 (fun _ => ?_) | refine tk4 ?_ | refine tk5 ?_ | refine tk6 ?_ | refine tk7 ?_ | refine tk8 ?_ | refine tk9 ?_ | refine tk10 (fun _ _ => ?_) | refine tk11 (fun _ => ?_) | refine tk13 ?_ | refine tk14 ?_); (conv => whnf))
          refine Ar.in8 (by omega) (by omega) ?_
          (conv => whnf); repeat ((first | refine tk1 ?_ | refine tk2 ?_ | refine tk3 ?_ | refine tk12 (fun _ => ?_) | refine tk4 ?_ | refine tk5 ?_ | refine tk6 ?_ | refine tk7 ?_ | refine tk8 ?_ | refine tk9 ?_ | refine tk10 (fun _ _ => ?_) | refine tk11 (fun _ => ?_) | refine tk13 ?_ | refine tk14 ?_); (conv => whnf))
          rw [show (x.toNat : Int) - 48 = digI x.toNat by omega]
          rw [if_neg (show ¬ digI x.toNat < 0 by omega)] at hI
          have hdr := dig_range x
          refine Ar.in8 (by omega) (by omega) ?_
          (conv => whnf); repeat ((first | refine tk1 ?_ | refine tk2 ?_ | refine tk3 ?_ | refine tk12 (fun _ => ?_) | refine tk4 ?_ | refine tk5 ?_ | refine tk6 ?_ | refine tk7 ?_ | refine tk8 ?_ | refine tk9 ?_ | refine tk10 (fun _ _ => ?_) | refine tk11 (fun _ => ?_) | refine tk13 ?_ | refine tk14 ?_); (conv => whnf))
          refine Cmp.cases (fun c1 => ?_) (fun c1 => ?_)
          · rw [if_pos (show 1152921504606846976 ≤ n by omega)] at hI
            (conv => whnf); repeat ((first | refine tk1 ?_ | refine tk2 ?_ | refine tk3 ?_ | refine tk12 (fun _ => ?_) | refine tk4 ?_ | refine tk5 ?_ | refine tk6 ?_ | refine tk7 ?_ | refine tk8 ?_ | refine tk9 ?_ | refine tk10 (fun _ _ => ?_) | refine tk11 (fun _ => ?_) | refine tk13 ?_ | refine tk14 ?_); (conv => whnf))
            refine OthP.mkI tys_ok rfl rfl ?_
            (conv => whnf); repeat ((first | refine tk1 ?_ | refine tk2 ?_ | refine tk3 ?_ | refine tk12 (fun _ => ?_) | refine tk4 ?_ | refine tk5 ?_ | refine tk6 ?_ | refine tk7 ?_ | refine tk8 ?_ | refine tk9 ?_ | refine tk10 (fun _ _ => ?_) | refine tk11 (fun _ => ?_) | refine tk13 ?_ | refine tk14 ?_); (conv => whnf))
            rw [hpv, hI]; rfl
          · rw [if_neg (show ¬ 1152921504606846976 ≤ n by omega)] at hI
            (conv => whnf); repeat ((first | refine tk1 ?_ | refine tk2 ?_ | refine tk3 ?_ | refine tk12 (fun _ => ?_) | refine tk4 ?_ | refine tk5 ?_ | refine tk6 ?_ | refine tk7 ?_ | refine tk8 ?_ | refine tk9 ?_ | refine tk10 (fun _ _ => ?_) | refine tk11 (fun _ => ?_) | refine tk13 ?_ | refine tk14 ?_); (conv => whnf))
            refine Ar.any ?_
            rw [show IntKind.u64.wrap 16 = 16 from rfl]
            (conv => whnf); repeat ((first | refine tk1 ?_ | refine tk2 ?_ | refine tk3 ?_ | refine tk12 (fun _ => ?_) | refine tk4 ?_ | refine tk5 ?_ | refine tk6 ?_ | refine tk7 ?_ | refine tk8 ?_ | refine tk9 ?_ | refine tk10 (fun _ _ => ?_) | refine tk11 (fun _ => ?_) | refine tk13 ?_ | refine tk14 ?_); (conv => whnf))
            refine Ar.any ?_
            rw [show IntKind.u64.wrap (n * 16) = n * 16 by rw [IntKind.wrap_u64]; omega]
            (conv => whnf); repeat ((first | refine tk1 ?_ | refine tk2 ?_ | refine tk3 ?_ | refine tk12 (fun _ => ?_) | refine tk4 ?_ | refine tk5 ?_ | refine tk6 ?_ | refine tk7 ?_ | refine tk8 ?_ | refine tk9 ?_ | refine tk10 (fun _ _ => ?_) | refine tk11 (fun _ => ?_) | refine tk13 ?_ | refine tk14 ?_); (conv => whnf))
            refine Ar.any ?_
            rw [show IntKind.u64.wrap (digI x.toNat) = digI x.toNat by rw [IntKind.wrap_u64]; omega]
            (conv => whnf); repeat ((first | refine tk1 ?_ | refine tk2 ?_ | refine tk3 ?_ | refine tk12 (fun _ => ?_) | refine tk4 ?_ | refine tk5 ?_ | refine tk6 ?_ | refine tk7 ?_ | refine tk8 ?_ | refine tk9 ?_ | refine tk10 (fun _ _ => ?_) | refine tk11 (fun _ => ?_) | refine tk13 ?_ | refine tk14 ?_); (conv => whnf))
            refine Ar.any ?_
            rw [show IntKind.u64.wrap (n * 16 + digI x.toNat) = n * 16 + digI x.toNat by rw [IntKind.wrap_u64]; omega]
            (conv => whnf); repeat ((first | refine tk1 ?_ | refine tk2 ?_ | refine tk3 ?_ | refine tk12 (fun _ => ?_) | refine tk4 ?_ | refine tk5 ?_ | refine tk6 ?_ | refine tk7 ?_ | refine tk8 ?_ | refine tk9 ?_ | refine tk10 (fun _ _ => ?_) | refine tk11 (fun _ => ?_) | refine tk13 ?_ | refine tk14 ?_); (conv => whnf))
            refine Cmp.cases (fun c2 => ?_) (fun c2 => ?_)
            · rw [if_pos (show mx < n * 16 + digI x.toNat by omega)] at hI
              (conv => whnf); repeat ((first | refine tk1 ?_ | refine tk2 ?_ | refine tk3 ?_ | refine tk12 (fun _ => ?_) | refine tk4 ?_ | refine tk5 ?_ | refine tk6 ?_ | refine tk7 ?_ | refine tk8 ?_ | refine tk9 ?_ | refine tk10 (fun _ _ => ?_) | refine tk11 (fun _ => ?_) | refine tk13 ?_ | refine tk14 ?_); (conv => whnf))
              refine OthP.mkI tys_ok rfl rfl ?_
              (conv => whnf); repeat ((first | refine tk1 ?_ | refine tk2 ?_ | refine tk3 ?_ | refine tk12 (fun _ => ?_) | refine tk4 ?_ | refine tk5 ?_ | refine tk6 ?_ | refine tk7 ?_ | refine tk8 ?_ | refine tk9 ?_ | refine tk10 (fun _ _ => ?_) | refine tk11 (fun _ => ?_) | refine tk13 ?_ | refine tk14 ?_); (conv => whnf))
              rw [hpv, hI]; rfl
            · rw [if_neg (show ¬ mx < n * 16 + digI x.toNat by omega)] at hI
              (conv => whnf); repeat ((first | refine tk1 ?_ | refine tk2 ?_ | refine tk3 ?_ | refine tk12 (fun _ => ?_) | refine tk4 ?_ | refine tk5 ?_ | refine tk6 ?_ | refine tk7 ?_ | refine tk8 ?_ | refine tk9 ?_ | refine tk10 (fun _ _ => ?_) | refine tk11 (fun _ => ?_) | refine tk13 ?_ | refine tk14 ?_); (conv => whnf))
              exact ⟨(k + 1, n * 16 + digI x.toNat), ⟨by dsimp only; omega, by dsimp only; omega, by dsimp only; omega, hI⟩, rfl, (by repeat' (first | exact List.Sublist.refl _ | exact List.nil_sublist _ | apply List.Sublist.cons_cons | apply List.Sublist.cons)), by dsimp only; omega⟩
        · (conv => whnf); repeat ((first | refine tk1 ?_ | refine tk2 ?_ | refine tk3 ?_ | refine tk12 (fun _ => ?_) | refine tk4 ?_ | refine tk5 ?_ | refine tk6 ?_ | refine tk7 ?_ | refine tk8 ?_ | refine tk9 ?_ | refine tk10 (fun _ _ => ?_) | refine tk11 (fun _ => ?_) | refine tk13 ?_ | refine tk14 ?_); (conv => whnf))
          refine Cmp.cases (fun q1 => ?_) (fun q1 => ?_)
          · (conv => whnf); repeat ((first | refine tk1 ?_ | refine tk2 ?_ | refine tk3 ?_ | refine tk12 (fun _ => ?_) | refine tk4 ?_ | refine tk5 ?_ | refine tk6 ?_ | refine tk7 ?_ | refine tk8 ?_ | refine tk9 ?_ | refine tk10 (fun _ _ => ?_) | refine tk11 (fun _ => ?_) | refine tk13 ?_ | refine tk14 ?_); (conv => whnf))
            refine CallK.fn (lower_f x) ?_
            (conv => whnf); repeat ((first | refine tk1 ?_ | refine tk2 ?_ | refine tk3 ?_ | refine tk12 (fun _ => ?_) | refine tk4 ?_ | refine tk5 ?_ | refine tk6 ?_ | refine tk7 ?_ | refine tk8 ?_ | refine tk9 ?_ | refine tk10 (fun _ _ => ?_) | refine tk11 (fun _ => ?_) | refine tk13 ?_ | refine tk14 ?_); (conv => whnf))
            refine CallK.fn (lower_f x) ?_
            (conv => whnf); repeat ((first | refine tk1 ?_ | refine tk2 ?_ | refine tk3 ?_ | refine tk12 (fun _ => ?_) | refine tk4 ?_ | refine tk5 ?_ | refine tk6 ?_ | refine tk7 ?_ | refine tk8 ?_ | refine tk9 ?_ | refine tk10 (fun _ _ => ?_) | refine tk11 (fun _ => ?_) | refine tk13 ?_ | refine tk14 ?_); (conv => whnf))
            refine CallK.fn (lower_f x) ?_
            (conv => whnf); repeat ((first | refine tk1 ?_ | refine tk2 ?_ | refine tk3 ?_ | refine tk12 (fun _ => ?_) | refine tk4 ?_ | refine tk5 ?_ | refine tk6 ?_ | refine tk7 ?_ | refine tk8 ?_ | refine tk9 ?_ | refine tk10 (fun _ _ => ?_) | refine tk11 (fun _ => ?_) | refine tk13 ?_ | refine tk14 ?_); (conv => whnf))
            refine Ar.in8 (by omega) (by omega) ?_
            (conv => whnf); repeat ((first | refine tk1 ?_ | refine tk2 ?_ | refine tk3 ?_ | refine tk12 (fun _ => ?_) | refine tk4 ?_ | refine tk5 ?_ | refine tk6 ?_ | refine tk7 ?_ | refine tk8 ?_ | refine tk9 ?_ | refine tk10 (fun _ _ => ?_) | refine tk11 (fun _ => ?_) | refine tk13 ?_ | refine tk14 ?_); (conv => whnf))
            refine Ar.in8 (by omega) (by omega) ?_
            rw [show lwI x - 97 + 10 = digI x.toNat by omega]
            (conv => whnf); repeat ((first | refine tk1 ?_ | refine tk2 ?_ | refine tk3 ?_ | refine tk12 (fun _ => ?_) | refine tk4 ?_ | refine tk5 ?_ | refine tk6 ?_ | refine tk7 ?_ | refine tk8 ?_ | refine tk9 ?_ | refine tk10 (fun _ _ => ?_) | refine tk11 (fun _ => ?_) | refine tk13 ?_ | refine tk14 ?_); (conv => whnf))
            rw [if_neg (show ¬ digI x.toNat < 0 by omega)] at hI
            have hdr := dig_range x
            refine Ar.in8 (by omega) (by omega) ?_
            (conv => whnf); repeat ((first | refine tk1 ?_ | refine tk2 ?_ | refine tk3 ?_ | refine tk12 (fun _ => ?_) | refine tk4 ?_ | refine tk5 ?_ | refine tk6 ?_ | refine tk7 ?_ | refine tk8 ?_ | refine tk9 ?_ | refine tk10 (fun _ _ => ?_) | refine tk11 (fun _ => ?_) | refine tk13 ?_ | refine tk14 ?_); (conv => whnf))
            refine Cmp.cases (fun c1 => ?_) (fun c1 => ?_)
            · rw [if_pos (show 1152921504606846976 ≤ n by omega)] at hI
              (conv => whnf); repeat ((first | refine tk1 ?_ | refine tk2 ?_ | refine tk3 ?_ | refine tk12 (fun _ => ?_) | refine tk4 ?_ | refine tk5 ?_ | refine tk6 ?_ | refine tk7 ?_ | refine tk8 ?_ | refine tk9 ?_ | refine tk10 (fun _ _ => ?_) | refine tk11 (fun _ => ?_) | refine tk13 ?_ | refine tk14 ?_); (conv => whnf))
              refine OthP.mkI tys_ok rfl rfl ?_
              (conv => whnf); repeat ((first | refine tk1 ?_ | refine tk2 ?_ | refine tk3 ?_ | refine tk12 (fun _ => ?_) | refine tk4 ?_ | refine tk5 ?_ | refine tk6 ?_ | refine tk7 ?_ | refine tk8 ?_ | refine tk9 ?_ | refine tk10 (fun _ _ => ?_) | refine tk11 (fun _ => ?_) | refine tk13 ?_ | refine tk14 ?_); (conv => whnf))
              rw [hpv, hI]; rfl
            · rw [if_neg (show ¬ 1152921504606846976 ≤ n by omega)] at hI
              (conv => whnf); repeat ((first | refine tk1 ?_ | refine tk2 ?_ | refine tk3 ?_ | refine tk12 (fun _ => ?_) | refine tk4 ?_ | refine tk5 ?_ | refine tk6 ?_ | refine tk7 ?_ | refine tk8 ?_ | refine tk9 ?_ | refine tk10 (fun _ _ => ?_) | refine tk11 (fun _ => ?_) | refine tk13 ?_ | refine tk14 ?_); (conv => whnf))
              refine Ar.any ?_
              rw [show IntKind.u64.wrap 16 = 16 from rfl]
              (conv => whnf); repeat ((first | refine tk1 ?_ | refine tk2 ?_ | refine tk3 ?_ | refine tk12 (fun _ => ?_) | refine tk4 ?_ | refine tk5 ?_ | refine tk6 ?_ | refine tk7 ?_ | refine tk8 ?_ | refine tk9 ?_ | refine tk10 (fun _ _ => ?_) | refine tk11 (fun _ => ?_) | refine tk13 ?_ | refine tk14 ?_); (conv => whnf))
              refine Ar.any ?_
              rw [show IntKind.u64.wrap (n * 16) = n * 16 by rw [IntKind.wrap_u64]; omega]
              (conv => whnf); repeat ((first | refine tk1 ?_ | refine tk2 ?_ | refine tk3 ?_ | refine tk12 (fun _ => ?_) | refine tk4 ?_ | refine tk5 ?_ | refine tk6 ?_ | refine tk7 ?_ | refine tk8 ?_ | refine tk9 ?_ | refine tk10 (fun _ _ => ?_) | refine tk11 (fun _ => ?_) | refine tk13 ?_ | refine tk14 ?_); (conv => whnf))
              refine Ar.any ?_
              rw [show IntKind.u64.wrap (digI x.toNat) = digI x.toNat by rw [IntKind.wrap_u64]; omega]
              (conv => whnf); repeat ((first | refine tk1 ?_ | refine tk2 ?_ | refine tk3 ?_ | refine tk12 (fun _ => ?_) | refine tk4 ?_ | refine tk5 ?_ | refine tk6 ?_ | refine tk7 ?_ | refine tk8 ?_ | refine tk9 ?_ | refine tk10 (fun _ _ => ?_) | refine tk11 (fun _ => ?_) | refine tk13 ?_ | refine tk14 ?_); (conv => whnf))
              refine Ar.any ?_
              rw [show IntKind.u64.wrap (n * 16 + digI x.toNat) = n * 16 + digI x.toNat by rw [IntKind.wrap_u64]; omega]
              (conv => whnf); repeat ((first | refine tk1 ?_ | refine tk2 ?_ | refine tk3 ?_ | refine tk12 (fun _ => ?_) | refine tk4 ?_ | refine tk5 ?_ | refine tk6 ?_ | refine tk7 ?_ | refine tk8 ?_ | refine tk9 ?_ | refine tk10 (fun _ _ => ?_) | refine tk11 (fun _ => ?_) | refine tk13 ?_ | refine tk14 ?_); (conv => whnf))
              refine Cmp.cases (fun c2 => ?_) (fun c2 => ?_)
              · rw [if_pos (show mx < n * 16 + digI x.toNat by omega)] at hI
                (conv => whnf); repeat ((first | refine tk1 ?_ | refine tk2 ?_ | refine tk3 ?_ | refine tk12 (fun _ => ?_) | refine tk4 ?_ | refine tk5 ?_ | refine tk6 ?_ | refine tk7 ?_ | refine tk8 ?_ | refine tk9 ?_ | refine tk10 (fun _ _ => ?_) | refine tk11 (fun _ => ?_) | refine tk13 ?_ | refine tk14 ?_); (conv => whnf))
                refine OthP.mkI tys_ok rfl rfl ?_
                (conv => whnf); repeat ((first | refine tk1 ?_ | refine tk2 ?_ | refine tk3 ?_ | refine tk12 (fun _ => ?_) | refine tk4 ?_ | refine tk5 ?_ | refine tk6 ?_ | refine tk7 ?_ | refine tk8 ?_ | refine tk9 ?_ | refine tk10 (fun _ _ => ?_) | refine tk11 (fun _ => ?_) | refine tk13 ?_ | refine tk14 ?_); (conv => whnf))
                rw [hpv, hI]; rfl
              · rw [if_neg (show ¬ mx < n * 16 + digI x.toNat by omega)] at hI
                (conv => whnf); repeat ((first | refine tk1 ?_ | refine tk2 ?_ | refine tk3 ?_ | refine tk12 (fun _ => ?_) | refine tk4 ?_ | refine tk5 ?_ | refine tk6 ?_ | refine tk7 ?_ | refine tk8 ?_ | refine tk9 ?_ | refine tk10 (fun _ _ => ?_) | refine tk11 (fun _ => ?_) | refine tk13 ?_ | refine tk14 ?_); (conv => whnf))
                exact ⟨(k + 1, n * 16 + digI x.toNat), ⟨by dsimp only; omega, by dsimp only; omega, by dsimp only; omega, hI⟩, rfl, (by repeat' (first | exact List.Sublist.refl _ | exact List.nil_sublist _ | apply List.Sublist.cons_cons | apply List.Sublist.cons)), by dsimp only; omega⟩
          · (conv => whnf); repeat ((first | refine tk1 ?_ | refine tk2 ?_ | refine tk3 ?_ | refine tk12 (fun _ => ?_) | refine tk4 ?_ | refine tk5 ?_ | refine tk6 ?_ | refine tk7 ?_ | refine tk8 ?_ | refine tk9 ?_ | refine tk10 (fun _ _ => ?_) | refine tk11 (fun _ => ?_) | refine tk13 ?_ | refine tk14 ?_); (conv => whnf))
            refine CallK.fn (lower_f x) ?_
            (conv => whnf); repeat ((first | refine tk1 ?_ | refine tk2 ?_ | refine tk3 ?_ | refine tk12 (fun _ => ?_) | refine tk4 ?_ | refine tk5 ?_ | refine tk6 ?_ | refine tk7 ?_ | refine tk8 ?_ | refine tk9 ?_ | refine tk10 (fun _ _ => ?_) | refine tk11 (fun _ => ?_) | refine tk13 ?_ | refine tk14 ?_); (conv => whnf))
            refine CallK.fn (lower_f x) ?_
            (conv => whnf); repeat ((first | refine tk1 ?_ | refine tk2 ?_ | refine tk3 ?_ | refine tk12 (fun _ => ?_) | refine tk4 ?_ | refine tk5 ?_ | refine tk6 ?_ | refine tk7 ?_ | refine tk8 ?_ | refine tk9 ?_ | refine tk10 (fun _ _ => ?_) | refine tk11 (fun _ => ?_) | refine tk13 ?_ | refine tk14 ?_); (conv => whnf))
            refine CallK.fn (lower_f x) ?_
            (conv => whnf); repeat ((first | refine tk1 ?_ | refine tk2 ?_ | refine tk3 ?_ | refine tk12 (fun _ => ?_) | refine tk4 ?_ | refine tk5 ?_ | refine tk6 ?_ | refine tk7 ?_ | refine tk8 ?_ | refine tk9 ?_ | refine tk10 (fun _ _ => ?_) | refine tk11 (fun _ => ?_) | refine tk13 ?_ | refine tk14 ?_); (conv => whnf))
            refine Ar.in8 (by omega) (by omega) ?_
            (conv => whnf); repeat ((first | refine tk1 ?_ | refine tk2 ?_ | refine tk3 ?_ | refine tk12 (fun _ => ?_) | refine tk4 ?_ | refine tk5 ?_ | refine tk6 ?_ | refine tk7 ?_ | refine tk8 ?_ | refine tk9 ?_ | refine tk10 (fun _ _ => ?_) | refine tk11 (fun _ => ?_) | refine tk13 ?_ | refine tk14 ?_); (conv => whnf))
            refine Ar.in8 (by omega) (by omega) ?_
            rw [show lwI x - 97 + 10 = digI x.toNat by omega]
            (conv => whnf); repeat ((first | refine tk1 ?_ | refine tk2 ?_ | refine tk3 ?_ | refine tk12 (fun _ => ?_) | refine tk4 ?_ | refine tk5 ?_ | refine tk6 ?_ | refine tk7 ?_ | refine tk8 ?_ | refine tk9 ?_ | refine tk10 (fun _ _ => ?_) | refine tk11 (fun _ => ?_) | refine tk13 ?_ | refine tk14 ?_); (conv => whnf))
            rw [if_neg (show ¬ digI x.toNat < 0 by omega)] at hI
            have hdr := dig_range x
            refine Ar.in8 (by omega) (by omega) ?_
            (conv => whnf); repeat ((first | refine tk1 ?_ | refine tk2 ?_ | refine tk3 ?_ | refine tk12 (fun _ => ?_) | refine tk4 ?_ | refine tk5 ?_ | refine tk6 ?_ | refine tk7 ?_ | refine tk8 ?_ | refine tk9 ?_ | refine tk10 (fun _ _ => ?_) | refine tk11 (fun _ => ?_) | refine tk13 ?_ | refine tk14 ?_); (conv => whnf))
            refine Cmp.cases (fun c1 => ?_) (fun c1 => ?_)
            · rw [if_pos (show 1152921504606846976 ≤ n by omega)] at hI
              (conv => whnf); repeat ((first | refine tk1 ?_ | refine tk2 ?_ | refine tk3 ?_ | refine tk12 (fun _ => ?_) | refine tk4 ?_ | refine tk5 ?_ | refine tk6 ?_ | refine tk7 ?_ | refine tk8 ?_ | refine tk9 ?_ | refine tk10 (fun _ _ => ?_) | refine tk11 (fun _ => ?_) | refine tk13 ?_ | refine tk14 ?_); (conv => whnf))
              refine OthP.mkI tys_ok rfl rfl ?_
              (conv => whnf); repeat ((first | refine tk1 ?_ | refine tk2 ?_ | refine tk3 ?_ | refine tk12 (fun _ => ?_) | refine tk4 ?_ | refine tk5 ?_ | refine tk6 ?_ | refine tk7 ?_ | refine tk8 ?_ | refine tk9 ?_ | refine tk10 (fun _ _ => ?_) | refine tk11 (fun _ => ?_) | refine tk13 ?_ | refine tk14 ?_); (conv => whnf))
              rw [hpv, hI]; rfl
            · rw [if_neg (show ¬ 1152921504606846976 ≤ n by omega)] at hI
              (conv => whnf); repeat ((first | refine tk1 ?_ | refine tk2 ?_ | refine tk3 ?_ | refine tk12 (fun _ => ?_) | refine tk4 ?_ | refine tk5 ?_ | refine tk6 ?_ | refine tk7 ?_ | refine tk8 ?_ | refine tk9 ?_ | refine tk10 (fun _ _ => ?_) | refine tk11 (fun _ => ?_) | refine tk13 ?_ | refine tk14 ?_); (conv => whnf))
              refine Ar.any ?_
              rw [show IntKind.u64.wrap 16 = 16 from rfl]
              (conv => whnf); repeat ((first | refine tk1 ?_ | refine tk2 ?_ | refine tk3 ?_ | refine tk12 (fun _ => ?_) | refine tk4 ?_ | refine tk5 ?_ | refine tk6 ?_ | refine tk7 ?_ | refine tk8 ?_ | refine tk9 ?_ | refine tk10 (fun _ _ => ?_) | refine tk11 (fun _ => ?_) | refine tk13 ?_ | refine tk14 ?_); (conv => whnf))
              refine Ar.any ?_
              rw [show IntKind.u64.wrap (n * 16) = n * 16 by rw [IntKind.wrap_u64]; omega]
              (conv => whnf); repeat ((first | refine tk1 ?_ | refine tk2 ?_ | refine tk3 ?_ | refine tk12 (fun _ => ?_) | refine tk4 ?_ | refine tk5 ?_ | refine tk6 ?_ | refine tk7 ?_ | refine tk8 ?_ | refine tk9 ?_ | refine tk10 (fun _ _ => ?_) | refine tk11 (fun _ => ?_) | refine tk13 ?_ | refine tk14 ?_); (conv => whnf))
              refine Ar.any ?_
              rw [show IntKind.u64.wrap (digI x.toNat) = digI x.toNat by rw [IntKind.wrap_u64]; omega]
              (conv => whnf); repeat ((first | refine tk1 ?_ | refine tk2 ?_ | refine tk3 ?_ | refine tk12 (fun _ => ?_) | refine tk4 ?_ | refine tk5 ?_ | refine tk6 ?_ | refine tk7 ?_ | refine tk8 ?_ | refine tk9 ?_ | refine tk10 (fun _ _ => ?_) | refine tk11 (fun _ => ?_) | refine tk13 ?_ | refine tk14 ?_); (conv => whnf))
              refine Ar.any ?_
              rw [show IntKind.u64.wrap (n * 16 + digI x.toNat) = n * 16 + digI x.toNat by rw [IntKind.wrap_u64]; omega]
              (conv => whnf); repeat ((first | refine tk1 ?_ | refine tk2 ?_ | refine tk3 ?_ | refine tk12 (fun _ => ?_) | refine tk4 ?_ | refine tk5 ?_ | refine tk6 ?_ | refine tk7 ?_ | refine tk8 ?_ | refine tk9 ?_ | refine tk10 (fun _ _ => ?_) | refine tk11 (fun _ => ?_) | refine tk13 ?_ | refine tk14 ?_); (conv => whnf))
              refine Cmp.cases (fun c2 => ?_) (fun c2 => ?_)
              · rw [if_pos (show mx < n * 16 + digI x.toNat by omega)] at hI
                (conv => whnf); repeat ((first | refine tk1 ?_ | refine tk2 ?_ | refine tk3 ?_ | refine tk12 (fun _ => ?_) | refine tk4 ?_ | refine tk5 ?_ | refine tk6 ?_ | refine tk7 ?_ | refine tk8 ?_ | refine tk9 ?_ | refine tk10 (fun _ _ => ?_) | refine tk11 (fun _ => ?_) | refine tk13 ?_ | refine tk14 ?_); (conv => whnf))
                refine OthP.mkI tys_ok rfl rfl ?_
                (conv => whnf); repeat ((first | refine tk1 ?_ | refine tk2 ?_ | refine tk3 ?_ | refine tk12 (fun _ => ?_) | refine tk4 ?_ | refine tk5 ?_ | refine tk6 ?_ | refine tk7 ?_ | refine tk8 ?_ | refine tk9 ?_ | refine tk10 (fun _ _ => ?_) | refine tk11 (fun _ => ?_) | refine tk13 ?_ | refine tk14 ?_); (conv => whnf))
                rw [hpv, hI]; rfl
              · rw [if_neg (show ¬ mx < n * 16 + digI x.toNat by omega)] at hI
                (conv => whnf); repeat ((first | refine tk1 ?_ | refine tk2 ?_ | refine tk3 ?_ | refine tk12 (fun _ => ?_) | refine tk4 ?_ | refine tk5 ?_ | refine tk6 ?_ | refine tk7 ?_ | refine tk8 ?_ | refine tk9 ?_ | refine tk10 (fun _ _ => ?_) | refine tk11 (fun _ => ?_) | refine tk13 ?_ | refine tk14 ?_); (conv => whnf))
                exact ⟨(k + 1, n * 16 + digI x.toNat), ⟨by dsimp only; omega, by dsimp only; omega, by dsimp only; omega, hI⟩, rfl, (by repeat' (first | exact List.Sublist.refl _ | exact List.nil_sublist _ | apply List.Sublist.cons_cons | apply List.Sublist.cons)), by dsimp only; omega⟩
        · have hbad := bad g4
          (conv => whnf); repeat ((first | refine tk1 ?_ | refine tk2 ?_ | refine tk3 ?_ | refine tk12 (fun _ => ?_) | refine tk4 ?_ | refine tk5 ?_ | refine tk6 ?_ | refine tk7 ?_ | refine tk8 ?_ | refine tk9 ?_ | refine tk10 (fun _ _ => ?_) | refine tk11 (fun _ => ?_) | refine tk13 ?_ | refine tk14 ?_); (conv => whnf))
          refine Cmp.cases (fun q1 => ?_) (fun q1 => ?_)
          · (conv => whnf); repeat ((first | refine tk1 ?_ | refine tk2 ?_ | refine tk3 ?_ | refine tk12 (fun _ => ?_) | refine tk4 ?_ | refine tk5 ?_ | refine tk6 ?_ | refine tk7 ?_ | refine tk8 ?_ | refine tk9 ?_ | refine tk10 (fun _ _ => ?_) | refine tk11 (fun _ => ?_) | refine tk13 ?_ | refine tk14 ?_); (conv => whnf))
            refine CallK.fn (lower_f x) ?_
            (conv => whnf); repeat ((first | refine tk1 ?_ | refine tk2 ?_ | refine tk3 ?_ | refine tk12 (fun _ => ?_) | refine tk4 ?_ | refine tk5 ?_ | refine tk6 ?_ | refine tk7 ?_ | refine tk8 ?_ | refine tk9 ?_ | refine tk10 (fun _ _ => ?_) | refine tk11 (fun _ => ?_) | refine tk13 ?_ | refine tk14 ?_); (conv => whnf))
            refine CallK.fn (lower_f x) ?_
            (conv => whnf); repeat ((first | refine tk1 ?_ | refine tk2 ?_ | refine tk3 ?_ | refine tk12 (fun _ => ?_) | refine tk4 ?_ | refine tk5 ?_ | refine tk6 ?_ | refine tk7 ?_ | refine tk8 ?_ | refine tk9 ?_ | refine tk10 (fun _ _ => ?_) | refine tk11 (fun _ => ?_) | refine tk13 ?_ | refine tk14 ?_); (conv => whnf))
            refine CallK.fn (lower_f x) ?_
            (conv => whnf); repeat ((first | refine tk1 ?_ | refine tk2 ?_ | refine tk3 ?_ | refine tk12 (fun _ => ?_) | refine tk4 ?_ | refine tk5 ?_ | refine tk6 ?_ | refine tk7 ?_ | refine tk8 ?_ | refine tk9 ?_ | refine tk10 (fun _ _ => ?_) | refine tk11 (fun _ => ?_) | refine tk13 ?_ | refine tk14 ?_); (conv => whnf))
            refine Ar.in8 (by omega) (by omega) ?_
            (conv => whnf); repeat ((first | refine tk1 ?_ | refine tk2 ?_ | refine tk3 ?_ | refine tk12 (fun _ => ?_) | refine tk4 ?_ | refine tk5 ?_ | refine tk6 ?_ | refine tk7 ?_ | refine tk8 ?_ | refine tk9 ?_ | refine tk10 (fun _ _ => ?_) | refine tk11 (fun _ => ?_) | refine tk13 ?_ | refine tk14 ?_); (conv => whnf))
            refine Ar.in8 (by omega) (by omega) ?_
            (conv => whnf); repeat ((first | refine tk1 ?_ | refine tk2 ?_ | refine tk3 ?_ | refine tk12 (fun _ => ?_) | refine tk4 ?_ | refine tk5 ?_ | refine tk6 ?_ | refine tk7 ?_ | refine tk8 ?_ | refine tk9 ?_ | refine tk10 (fun _ _ => ?_) | refine tk11 (fun _ => ?_) | refine tk13 ?_ | refine tk14 ?_); (conv => whnf))
            refine Ar.in8 (by omega) (by omega) ?_
            (conv => whnf); repeat ((first | refine tk1 ?_ | refine tk2 ?_ | refine tk3 ?_ | refine tk12 (fun _ => ?_) | refine tk4 ?_ | refine tk5 ?_ | refine tk6 ?_ | refine tk7 ?_ | refine tk8 ?_ | refine tk9 ?_ | refine tk10 (fun _ _ => ?_) | refine tk11 (fun _ => ?_) | refine tk13 ?_ | refine tk14 ?_); (conv => whnf))
            refine OthP.mkI tys_ok rfl rfl ?_
            (conv => whnf); repeat ((first | refine tk1 ?_ | refine tk2 ?_ | refine tk3 ?_ | refine tk12 (fun _ => ?_) | refine tk4 ?_ | refine tk5 ?_ | refine tk6 ?_ | refine tk7 ?_ | refine tk8 ?_ | refine tk9 ?_ | refine tk10 (fun _ _ => ?_) | refine tk11 (fun _ => ?_) | refine tk13 ?_ | refine tk14 ?_); (conv => whnf))
            rw [hbad]; rfl
          · (conv => whnf); repeat ((first | refine tk1 ?_ | refine tk2 ?_ | refine tk3 ?_ | refine tk12 (fun _ => ?_) | refine tk4 ?_ | refine tk5 ?_ | refine tk6 ?_ | refine tk7 ?_ | refine tk8 ?_ | refine tk9 ?_ | refine tk10 (fun _ _ => ?_) | refine tk11 (fun _ => ?_) | refine tk13 ?_ | refine tk14 ?_); (conv => whnf))
            refine CallK.fn (lower_f x) ?_
            (conv => whnf); repeat ((first | refine tk1 ?_ | refine tk2 ?_ | refine tk3 ?_ | refine tk12 (fun _ => ?_) | refine tk4 ?_ | refine tk5 ?_ | refine tk6 ?_ | refine tk7 ?_ | refine tk8 ?_ | refine tk9 ?_ | refine tk10 (fun _ _ => ?_) | refine tk11 (fun _ => ?_) | refine tk13 ?_ | refine tk14 ?_); (conv => whnf))
            refine CallK.fn (lower_f x) ?_
            (conv => whnf); repeat ((first | refine tk1 ?_ | refine tk2 ?_ | refine tk3 ?_ | refine tk12 (fun _ => ?_) | refine tk4 ?_ | refine tk5 ?_ | refine tk6 ?_ | refine tk7 ?_ | refine tk8 ?_ | refine tk9 ?_ | refine tk10 (fun _ _ => ?_) | refine tk11 (fun _ => ?_) | refine tk13 ?_ | refine tk14 ?_); (conv => whnf))
            refine CallK.fn (lower_f x) ?_
            (conv => whnf); repeat ((first | refine tk1 ?_ | refine tk2 ?_ | refine tk3 ?_ | refine tk12 (fun _ => ?_) | refine tk4 ?_ | refine tk5 ?_ | refine tk6 ?_ | refine tk7 ?_ | refine tk8 ?_ | refine tk9 ?_ | refine tk10 (fun _ _ => ?_) | refine tk11 (fun _ => ?_) | refine tk13 ?_ | refine tk14 ?_); (conv => whnf))
            refine Ar.in8 (by omega) (by omega) ?_
            (conv => whnf); repeat ((first | refine tk1 ?_ | refine tk2 ?_ | refine tk3 ?_ | refine tk12 (fun _ => ?_) | refine tk4 ?_ | refine tk5 ?_ | refine tk6 ?_ | refine tk7 ?_ | refine tk8 ?_ | refine tk9 ?_ | refine tk10 (fun _ _ => ?_) | refine tk11 (fun _ => ?_) | refine tk13 ?_ | refine tk14 ?_); (conv => whnf))
            refine Ar.in8 (by omega) (by omega) ?_
            (conv => whnf); repeat ((first | refine tk1 ?_ | refine tk2 ?_ | refine tk3 ?_ | refine tk12 (fun _ => ?_) | refine tk4 ?_ | refine tk5 ?_ | refine tk6 ?_ | refine tk7 ?_ | refine tk8 ?_ | refine tk9 ?_ | refine tk10 (fun _ _ => ?_) | refine tk11 (fun _ => ?_) | refine tk13 ?_ | refine tk14 ?_); (conv => whnf))
            refine Ar.in8 (by omega) (by omega) ?_
            (conv => whnf); repeat ((first | refine tk1 ?_ | refine tk2 ?_ | refine tk3 ?_ | refine tk12 (fun _ => ?_) | refine tk4 ?_ | refine tk5 ?_ | refine tk6 ?_ | refine tk7 ?_ | refine tk8 ?_ | refine tk9 ?_ | refine tk10 (fun _ _ => ?_) | refine tk11 (fun _ => ?_) | refine tk13 ?_ | refine tk14 ?_); (conv => whnf))
            refine OthP.mkI tys_ok rfl rfl ?_
            (conv => whnf); repeat ((first | refine tk1 ?_ | refine tk2 ?_ | refine tk3 ?_ | refine tk12 (fun _ => ?_) | refine tk4 ?_ | refine tk5 ?_ | refine tk6 ?_ | refine tk7 ?_ | refine tk8 ?_ | refine tk9 ?_ | refine tk10 (fun _ _ => ?_) | refine tk11 (fun _ => ?_) | refine tk13 ?_ | refine tk14 ?_); (conv => whnf))
            rw [hbad]; rfl
        · have hbad := bad g3
          (repeat' ((conv => whnf); first | (first | refine tk1 ?_ | refine tk2 ?_ | refine tk3 ?_ | refine tk12 (fun _ => ?_) | refine tk4 ?_ | refine tk5 ?_ | refine tk6 ?_ | refine tk7 ?_ | refine tk8 ?_ | refine tk9 ?_ | refine tk10 (fun _ _ => ?_) | refine tk11 (fun _ => ?_) | refine tk13 ?_ | refine tk14 ?_) | refine Cmp.cases (fun _ => ?_) (fun _ => ?_) | refine IdxS.nat (by omega) ?_ | refine IdxS.go (by omega) (by omega) (fun _ _ _ => ?_) | refine SlcS.at (by omega) (by omega) (by omega) ?_ | refine CatS.at (by simp only [List.length_append, List.length_cons, List.length_nil]; omega) ?_ | refine CallK.fn (lower_f x) ?_ | refine OthP.mkI tys_ok rfl rfl ?_)); all_goals (conv => whnf)
          all_goals (rw [hbad]; rfl)
    · (conv => whnf); repeat ((first | refine tk1 ?_ | refine tk2 ?_ | refine tk3 ?_ | refine tk12 (fun _ => ?_) | refine tk4 ?_ | refine tk5 ?_ | refine tk6 ?_ | refine tk7 ?_ | refine tk8 ?_ | refine tk9 ?_ | refine tk10 (fun _ _ => ?_) | refine tk11 (fun _ => ?_) | refine tk13 ?_ | refine tk14 ?_); (conv => whnf))
      rw [hpv, hI, List.drop_eq_nil_of_le (by omega)]; rfl
end Go.Proofs.YtbgnogdlkmhnkaaGreatDoor.Vex
/- A walk by reckoning, part twenty-one: arrays; slices made; copying; functions of the machine. No program in sight. -/
namespace Go.Proofs.YtbgnogdlkmhnkaaGreatDoor.Vex
open Go Go.RowKit

section
variable {c : Ctx} {T : Ty} {H : Hp} {fr : Fr} {dst : Option Nat} {ty : TypeId} {pos : String} {after : Array Edge} {gd : Option (Nat × Bool)}
/-- An array's element, behind a pointer. -/
theorem OthP.idxArr {t e n : Nat} {x i : Operand} {b : Nat} {k : IntKind} {z : Int} {K : Value → Prop} (hT : TOk c.P T) (ht : (lookT T t).d = .array n e) (he : (lookT T e).d ≠ .invalid) (hs : (lookT T e).size = 1)
    (hx : evK fr x fun v => v = .pointer (some ⟨b, 0, none⟩)) (hi : evK fr i fun v => v = .int k z) (h0 : 0 ≤ z) (h1 : z < n) (kk : K (.pointer (some ⟨b, z.toNat, none⟩))) :
    OthP c ⟨dst, .indexAddr t x i, ty, pos, after, gd⟩ fr H K := ⟨⟨_, kk, fun w _ => by
  rw [evK_eq] at hx hi
  have hu := (lookT_ok hT (t := t) (by rw [ht]; intro h; cases h)).1
  rw [ht] at hu
  have hse := run_sizeOf (lookT_ok hT he) w
  rw [hs] at hse
  have hr : (Instr.indexAt t (.pointer (some ⟨b, 0, none⟩)) (.int k z)).run c.P w = .ok (.pointer (some ⟨b, z.toNat, none⟩)) w := by
    simp [Instr.indexAt, asIntOf, run_underlying hu, Instr.sureAddr, h0, h1, hse, Addr.add_lit]
  generalize (act fr).eval = ρ at *
  simp only [execOp, hx, hi, Sem.run_bind, hr, Result.andThen_ok, Sem.run_pure]⟩⟩
/-- An array, built of cells. -/
theorem OthP.mkArr {t e n : Nat} {ps : Array (Nat × Operand)} {z cs : List Value} {K : Value → Prop} (hT : TOk c.P T) (ht : (lookT T t).d = .array n e) (he : (lookT T e).d ≠ .invalid) (hs : (lookT T e).size = 1) (hz : (lookT T t).zero = .agg ⟨z⟩)
    (hf : evPK fr ps.toList fun ps => fillL ((List.range n).map fun i => (i * 1, 1)) ps z = some cs) (kk : K (.agg ⟨cs⟩)) :
    OthP c ⟨dst, .build t ps, ty, pos, after, gd⟩ fr H K := ⟨⟨_, kk, fun w _ => by
  rw [evPK_eq] at hf
  have hi := lookT_ok hT (t := t) (by rw [ht]; intro h; cases h)
  have hu := hi.1
  rw [ht] at hu
  have hse := run_sizeOf (lookT_ok hT he) w
  rw [hs] at hse
  have hzv := run_zeroValue hi w
  rw [hz] at hzv
  have hfill := fill_eq _ (fun i => some (i * 1, 1)) (fun i p hp => by
    rw [List.getElem?_map] at hp
    cases hr : (List.range n)[i]? with
    | none => rw [hr] at hp; cases hp
    | some j =>
      rw [hr] at hp
      obtain ⟨hj, he'⟩ := List.getElem?_eq_some_iff.1 hr
      simp at he'
      subst he'
      simpa using hp) _ _ cs hf
  have e2 : (Array.map (fun x => match x with | (i, x) => (i, (act fr).eval x)) ps).toList = ps.toList.map fun p => (p.1, (act fr).eval p.2) := by simp
  have hb : (Instr.build t (ps.map fun (i, x) => (i, (act fr).eval x))).run c.P w = .ok (.agg ⟨cs⟩) w := by
    unfold Instr.build
    simp only [Sem.run_bind, hzv, Result.andThen_ok, run_underlying hu, hse, Value.cells, e2, hfill, Sem.run_pure]
  simp only [execOp, Sem.run_bind, hb, Result.andThen_ok, Sem.run_pure]⟩⟩
/-- A slice of bytes, made: as a box. -/
theorem Oth.make {m : Bool} {t e : Nat} {x y : Operand} {n : Nat} {K : Value → Hp → Prop} (hT : TOk c.P T) (ht : (lookT T t).d = .slice e) (he : (lookT T e).d ≠ .invalid) (hz : (lookT T e).zero = .int .u8 0) (hs : (lookT T e).size = 1) (hb : (lookT T e).bytes = 1)
    (hx : evK fr x fun v => v = .int .i64 n) (hy : evK fr y fun v => v = .int .i64 n) (hn : n ≤ 1000000000) (k : ∀ b, K (.slice (some ⟨b, 0, none⟩) n n) (.box b (List.replicate n (.int .u8 0)) e :: H)) :
    Oth c m ⟨dst, .makeSlice t x y, ty, pos, after, gd⟩ fr H K := ⟨fun w hw => by
  rw [evK_eq] at hx hy
  have hu := (lookT_ok hT (t := t) (by rw [ht]; intro h; cases h)).1
  rw [ht] at hu
  have hi := (lookT_ok hT he).2.1
  obtain ⟨i, hi, hiz, his, hib⟩ : ∃ i, c.P.info? e = some i ∧ i.zero = some (.int .u8 0) ∧ i.size = 1 ∧ i.bytes = 1 := by
    cases h : c.P.info? e with
    | none => rw [h] at hi; cases hi
    | some i =>
      rw [h] at hi
      simp only [Option.map_some, Option.some.injEq, Prod.mk.injEq] at hi
      exact ⟨i, rfl, by rw [hi.1, hz], by rw [hi.2.1, hs], by rw [hi.2.2, hb]⟩
  have hr := run_make (P := c.P) w t e i _ hu hi hiz .i64 .i64 n n (by omega) (by omega) (by rw [hib]; omega) (by omega)
  have hc : madeCells (Value.int .u8 0).cells ((n : Int).toNat * i.size) = ⟨List.replicate n (.int .u8 0)⟩ := by
    rw [his, Nat.mul_one, Int.toNat_natCast, ← Array.toList_inj]
    apply List.ext_getElem
    · simp [madeCells]
    · intro j h1 h2
      simp [madeCells, Value.cells, Nat.mod_one]
  rw [hc] at hr
  simp only [Int.toNat_natCast] at hr
  refine ⟨_, _, _, ?_, hw.alloc (List.replicate n (.int .u8 0)) e, k _, fun _ => (Below.refl _ _).alloc (Nat.le_refl _) _⟩
  generalize (act fr).eval = ρ at *
  simp only [execOp, hx, hy, Sem.run_bind, hr, Result.andThen_ok, Sem.run_pure]⟩
/-- A box's cells are read as a slice. -/
theorem RdS.box {b : Nat} {vs : List Value} {t : TypeId} {f : List Value → Hp} [h : BoxAt b H vs t f] : RdS c H (some ⟨b, 0, none⟩) vs := fun w hw j u hj => by
  obtain ⟨H1, H2, rfl, _⟩ := h.ok
  have hg : w.heap[b]? = some (.cells ⟨vs⟩ t (0, 0)) := (hw.own (.box b vs t) (by simp)).1
  exact ⟨_, rfl, by rw [Addr.add_lit, Nat.zero_add, cell_of_row w b j ⟨vs⟩ t _ hg]; simpa using hj⟩
/-- A box is written over by bytes that lie elsewhere. -/
theorem Oth.copy {dT sT e : Nat} {x y : Operand} {b n cp cq j : Nat} {A : Option Addr} {vs news : List Value} {t : TypeId} {f : List Value → Hp} {K : Value → Hp → Prop} [h : BoxAt b H vs t f]
    (hT : TOk c.P T) (ht : (lookT T dT).d = .slice e) (he : (lookT T e).d ≠ .invalid) (hs : (lookT T e).size = 1)
    (hx : evK fr x fun v => v = .slice (some ⟨b, 0, none⟩) n cp) (hy : evK fr y fun v => v = .slice A j cq) (hr : RdS c H A news) (hv : vs.length = n) (hn : news.length = n) (h0 : 0 < n) (hj : n ≤ j) (h1 : ∀ u ∈ news, u.oneCell' = true) (k : K (.int .i64 n) (f news)) :
    Oth c false ⟨dst, .call ⟨.builtin .copy, #[x, y], #[dT, sT]⟩, ty, pos, after, gd⟩ fr H K := ⟨fun w hw => by
  rw [evK_eq] at hx hy
  obtain ⟨H1, H2, rfl, hf⟩ := h.ok
  rw [hf] at k
  have hu := (lookT_ok hT (t := dT) (by rw [ht]; intro h; cases h)).1
  rw [ht] at hu
  have hi : (c.P.info? e).map (·.size) = some 1 := by
    have hi := (lookT_ok hT he).2.1
    cases h : c.P.info? e with
    | none => rw [h] at hi; cases hi
    | some i =>
      rw [h] at hi
      simp only [Option.map_some, Option.some.injEq, Prod.mk.injEq] at hi ⊢
      rw [hi.2.1, hs]
  have hw1 := hw.perm (List.perm_middle (a := Ent.box b vs t))
  have hg : w.heap[b]? = some (.cells ⟨vs⟩ t (0, 0)) := (hw1.own _ (List.mem_cons_self ..)).1
  have hst := (hw1.setRow (vs' := news)).perm (List.perm_middle (a := Ent.box b news t)).symm
  obtain ⟨a, rfl, _⟩ := hr w hw 0 news[0] (by rw [List.getElem?_eq_getElem])
  have hrun := run_copy_row (P := c.P) w dT sT ty e b 0 n cp a j cq ⟨vs⟩ t news hu hi hg (by rw [hn]; exact (Nat.min_eq_right hj).symm) (fun i v hv => by
    obtain ⟨a', ha, hc⟩ := hr w hw i v hv
    cases ha
    exact hc) (by simp [hv, hn]) h1
  have hcs : (List.take 0 (⟨vs⟩ : Array Value).toList ++ news ++ List.drop (0 + news.length) (⟨vs⟩ : Array Value).toList).toArray = ⟨news⟩ := by
    rw [← Array.toList_inj]
    simp [List.drop_eq_nil_of_le (show vs.length ≤ news.length by omega)]
  rw [hcs, hn] at hrun
  refine ⟨_, _, _, ?_, hst, k, fun h => by cases h⟩
  have ea : (#[x, y] : Array Operand).map (act fr).eval = #[(act fr).eval x, (act fr).eval y] := by simp
  generalize (act fr).eval = ρ at *
  simp only [execOp, resolve, Sem.run_bind, Sem.run_pure, Result.andThen_ok, invoke, builtin, ea, hx, hy]
  rw [hrun]
  rfl⟩
/-- A function of the machine's own. -/
theorem CallK.ext {m : Bool} {f : Nat} {args : List Value} {v : Value} {K : Value → Hp → Prop} (h : ∀ w, c.g.G w → (callFunc f ⟨args⟩).run c.P w = .ok (.value v) w) (k : K v H) : CallK c m f args H K :=
  ⟨.inr fun w hw => ⟨v, w, H, h w hw.glob, hw, k, fun _ => R.refl _⟩⟩
theorem CallK.ext' {m : Bool} {f : Nat} {args : List Value} {v : Value} {K : Value → Hp → Prop} (h : ∀ w, St c H w → (callFunc f ⟨args⟩).run c.P w = .ok (.value v) w) (k : K v H) : CallK c m f args H K :=
  ⟨.inr fun w hw => ⟨v, w, H, h w hw, hw, k, fun _ => R.refl _⟩⟩
/-- What lay there before lies there still. -/
theorem St.old {p : Addr} {v : Value} {w : World} (hw : St c H w) (h : c.w0.cell? p = some v) (hM : p.block ∉ c.M) : w.cell? p = some v :=
  (World.cell?_of_block (hw.mod.block _ (World.block_lt_of_cell? _ _ h) hM)).trans h
/-- A rune, as a text. -/
theorem OthP.rune {src d : Nat} {x : Operand} {k : IntKind} {n : Int} {K : Value → Prop} (hT : TOk c.P T) (hs : (lookT T src).d ≠ .invalid) (hd : (lookT T d).d = .string) (hx : evK fr x fun v => v = .int k n) (kk : K (str (Utf8.encode n).data.toList)) :
    OthP c ⟨dst, .convert src d x, ty, pos, after, gd⟩ fr H K := ⟨⟨_, kk, fun w _ => by
  rw [evK_eq] at hx
  have hu := (lookT_ok hT (t := d) (by rw [hd]; intro h; cases h)).1
  rw [hd] at hu
  have hr := run_convert_int_string (P := c.P) w src d k n (by rw [(lookT_ok hT hs).1]; rfl) hu
  generalize (act fr).eval = ρ at *
  simp only [execOp, hx, Sem.run_bind, hr, Result.andThen_ok, Sem.run_pure]⟩⟩
theorem Ar.in32 {z : Int} {K : Value → Prop} (h : -2147483648 ≤ z) (h' : z ≤ 2147483647) (k : K (.int .i32 z)) : Ar .i32 z K :=
  ⟨z, by rw [IntKind.wrap]; simp [IntKind.bits, IntKind.signed]; omega, k⟩
/-- A slice's length is no more than its room. -/
theorem row_cap {A : Option Addr} {cp e sz n n' : Nat} {xs : List Value} {f : List Value → Hp} [h : RowAt A H cp e sz n n' xs f] {w : World} (hw : St c H w) : n ≤ cp := by
  obtain ⟨H1, H2, rfl, _⟩ := h.ok
  have hr : RowH w (.slice A n' cp) e sz n xs := (hw.own (.row (.slice A n' cp) e sz n xs) (by simp)).1
  obtain ⟨_, ⟨h1, h2⟩ | ⟨g, cap, cur, fz, h1, _, h2, _⟩⟩ := hr
  · omega
  · cases h1; exact h2
theorem SlcV.cut {A : Option Addr} {n cp sz : Nat} {h : Int} {K : Value → Prop} (h0 : 0 ≤ h) (h1 : h ≤ n) (hc : n ≤ cp) (k : K (.slice (if (cp : Int) = 0 then A else A.map (·.add (0 * sz))) h.toNat cp)) : SlcV c H A n cp 0 (some h) sz K :=
  ⟨Int.le_refl _, h0, fun h' e _ _ => by cases e; omega, k⟩
theorem run_ext {P : Program} {f : FuncId} {fn : Func} {args : List Value} {v : Value} {w : World} {e : Array Value → Sem Value} (hf : P.funcs[f]? = some fn) (hn : (fn.name == "runtime.NumGoroutine") = false) (hb : fn.body.isNone = true) (hx : Extern.findNext fn = none) (he : Extern.find fn = some e)
    (hr : (e ⟨args⟩).run P w = .ok v w) : (callFunc f ⟨args⟩).run P w = .ok (.value v) w := by
  simp only [callFunc, program, Sem.run, Sem.run_bind, Result.andThen_ok, hf, hn, hb, hx, he, mark]
  simp [hr, Sem.run, Result.andThen]
end
end Go.Proofs.YtbgnogdlkmhnkaaGreatDoor.Vex
/- unicode/utf8.DecodeRune at every slice of bytes: the kit's contract over its own names, laid at this seat by hand; the two tables it reads. -/
namespace Go.Proofs.YtbgnogdlkmhnkaaGreatDoor.Vex
open Go Go.RowKit Go.ChangeShapes

def decRen : Go.Shelf.Ren := ⟨fun | 32 => 55 | 49 => 83 | n => n, fun | 0 => 0 | 3 => 3 | 4 => 4 | 5 => 5 | 21 => 21 | 25 => 104 | 30 => 22 | 33 => 95 | 66 => 132 | 68 => 134 | 69 => 135 | n => n, fun | 2 => 2 | 3 => 3 | n => n⟩
theorem decLays : Go.Proofs.Lays7.n32 Tryz.prog decRen := {
  mixed := by kernel_rfl
  f32 := Tryz.func55.trans (congrArg some (by kernel_rfl))
  f49 := Tryz.func83.trans (congrArg some (by kernel_rfl))
  t0 := Tryz.underlying0
  a0 := Tryz.isAgg0
  z0 := Tryz.sizeOf0
  v0 := Tryz.zeroValue0
  i0 := by kernel_rfl
  t3 := Tryz.underlying3
  a3 := Tryz.isAgg3
  z3 := Tryz.sizeOf3
  v3 := Tryz.zeroValue3
  i3 := by kernel_rfl
  t4 := Tryz.underlying4
  a4 := Tryz.isAgg4
  z4 := Tryz.sizeOf4
  v4 := Tryz.zeroValue4
  i4 := by kernel_rfl
  t5 := Tryz.underlying5
  a5 := Tryz.isAgg5
  z5 := Tryz.sizeOf5
  v5 := Tryz.zeroValue5
  i5 := by kernel_rfl
  t21 := Tryz.underlying21
  a21 := Tryz.isAgg21
  z21 := Tryz.sizeOf21
  v21 := Tryz.zeroValue21
  i21 := by kernel_rfl
  t25 := Tryz.underlying104
  a25 := Tryz.isAgg104
  z25 := Tryz.sizeOf104
  v25 := Tryz.zeroValue104
  i25 := by kernel_rfl
  t30 := Tryz.underlying22
  a30 := Tryz.isAgg22
  z30 := Tryz.sizeOf22
  v30 := Tryz.zeroValue22
  i30 := by kernel_rfl
  t33 := Tryz.underlying95
  a33 := Tryz.isAgg95
  z33 := Tryz.sizeOf95
  v33 := Tryz.zeroValue95
  i33 := by kernel_rfl
  t66 := Tryz.underlying132
  a66 := Tryz.isAgg132
  z66 := Tryz.sizeOf132
  t68 := Tryz.underlying134
  a68 := Tryz.isAgg134
  z68 := Tryz.sizeOf134
  v68 := Tryz.zeroValue134
  i68 := by kernel_rfl
  t69 := Tryz.underlying135
  a69 := Tryz.isAgg135
  z69 := Tryz.sizeOf135
  v69 := Tryz.zeroValue135
  i69 := by kernel_rfl
  g2 := by kernel_rfl
  g3 := by kernel_rfl }
/-- The two tables. -/
class HasUtf (g : GI) : Prop where
  ok : ∀ w, g.G w → Lib.Utf8Tabs 2 3 w
def gU : GI where
  n := max gP.n (max (2 + 1) (3 + 1))
  G w := gP.G w ∧ Lib.Utf8Tabs 2 3 w
  keep w w' h := fun ⟨h1, h2⟩ => ⟨gP.keep w w' (fun k hk => h k (Nat.lt_of_lt_of_le hk (Nat.le_max_left _ _))) h1,
    fun c hc => (World.cell?_of_block (h 2 (by omega))).trans (h2.1 c hc),
    fun i hi => ⟨(World.cell?_of_block (h 3 (by omega))).trans (h2.2 i hi).1, (World.cell?_of_block (h 3 (by omega))).trans (h2.2 i hi).2⟩⟩
  size w := fun ⟨h1, h2⟩ => Nat.max_le.2 ⟨gP.size w h1, Nat.max_le.2 ⟨World.block_lt_of_cell? _ _ (h2.1 0 (by decide)), World.block_lt_of_cell? _ _ (h2.2 0 (by decide)).1⟩⟩
instance : HasMax gU := ⟨fun _ h => h.1.1.1⟩
instance : HasErr gU := ⟨fun _ h => h.1.1.2⟩
instance : HasPow gU := ⟨fun _ h => h.1.2⟩
instance : HasUtf gU := ⟨fun _ h => h.2⟩
def u8Ren : Go.Shelf.Ren := ⟨fun n => n, fun | 5 => 5 | 119 => 132 | 138 => 134 | 139 => 135 | n => n, fun | 3 => 2 | 4 => 3 | n => n⟩
theorem u8Types : U8Types Tryz.prog u8Ren := ⟨Tryz.underlying5, Tryz.underlying132, Tryz.underlying134, Tryz.underlying135⟩
theorem u8Extra : U8Extra Tryz.prog u8Ren := ⟨by kernel_rfl, by kernel_rfl, by kernel_rfl, by kernel_rfl, by kernel_rfl, by kernel_rfl, by kernel_rfl⟩
theorem gU_of {l : List (String × DataW Unit)} {W : World} (hL : laidMetH Tryz.prog l W) (hS : W.ShapedOpen Tryz.prog) (hp : (l.all fun x => x.2.handleName?.isNone) = true)
    (h1 : ("strconv.ErrSyntax", Rows.laid_strconv_ErrSyntax) ∈ l) (h2 : ("strconv.ErrRange", Rows.laid_strconv_ErrRange) ∈ l) (h3 : ("internal/strconv.uint64pow10", Rows.laid_internal_strconv_uint64pow10) ∈ l)
    (h4 : ("unicode/utf8.first", Rows.laid_unicode_utf8_first) ∈ l) (h5 : ("unicode/utf8.acceptRanges", Rows.laid_unicode_utf8_acceptRanges) ∈ l) : gU.G W := by
  have e4 : (Rows.laid_unicode_utf8_first : DataW Unit) = Lib.firstData := by kernel_rfl
  have e5 : (Rows.laid_unicode_utf8_acceptRanges : DataW Unit) = Lib.acceptData := by kernel_rfl
  rw [e4] at h4
  rw [e5] at h5
  exact ⟨gP_of hL hS hp h1 h2 h3, utf8Tabs_of_readsT u8Types u8Extra (reads_of hL hp h4) (reads_of hL hp h5)⟩
set_option linter.unusedSectionVars false
variable {gI : GI} [HasUtf gI]
theorem DecodeRune_f (A : Option Addr) (cp : Nat) (l : List UInt8) (h0 : 0 < l.length) : FnR Tryz.prog gI 55 [.slice A l.length cp] [(A, l.map byteV)] (.tuple #[.int .i32 (Lib.decodeGo ⟨⟨l⟩⟩).1, .int .i64 (Lib.decodeGo ⟨⟨l⟩⟩).2]) :=
  ⟨callable Tryz.func55 rfl (by kernel_rfl), fun w hG ⟨hr, _⟩ => by
    obtain ⟨x, r, rfl⟩ : ∃ x r, l = x :: r := by
      cases l with
      | nil => cases h0
      | cons x r => exact ⟨x, r, rfl⟩
    obtain ⟨b, o, rfl, hb⟩ := rdw_addr (show Rdw w A (byteV x :: r.map byteV) from hr)
    refine (Any7.utf8_DecodeRune decLays ⟨⟨x :: r⟩⟩ b o cp w (HasUtf.ok w hG) (fun j hj => ?_)).mono fun _ w' ⟨he, hw⟩ => ⟨_, he, rfl, hw⟩
    have hj' : j < (x :: r).length := hj
    obtain ⟨a, ha, hc⟩ := hr j (byteV (x :: r)[j]) (by rw [List.getElem?_map, List.getElem?_eq_getElem hj']; rfl)
    cases ha
    rw [Addr.add_lit] at hc
    rw [hc]
    have e : ((⟨⟨x :: r⟩⟩ : ByteArray).get! j) = (x :: r)[j] := by
      show (⟨x :: r⟩ : Array UInt8)[j]! = _
      rw [getElem!_pos _ _ (by exact hj')]
      rfl
    rw [e]
    rfl⟩
end Go.Proofs.YtbgnogdlkmhnkaaGreatDoor.Vex
/- A rune beyond ASCII, decoded: plain facts. No program in sight. -/
namespace Go.Proofs.YtbgnogdlkmhnkaaGreatDoor.Vex
open Go

theorem enc_size (r : Nat) (h : 128 ≤ r) : (r < 2048 → (Utf8.encode (r : Int)).size = 2) ∧ (2048 ≤ r → r < 65536 → (r < 55296 ∨ 57344 ≤ r) → (Utf8.encode (r : Int)).size = 3) ∧ (65536 ≤ r → r ≤ 1114111 → (Utf8.encode (r : Int)).size = 4) := by
  refine ⟨fun h1 => ?_, fun h1 h2 h3 => ?_, fun h1 h2 => ?_⟩
  · have hv : Utf8.valid (r : Int) = true := by unfold Utf8.valid; simp; omega
    unfold Utf8.encode
    simp only [hv, if_true, Int.toNat_natCast]
    rw [if_neg (by omega), if_pos (by omega)]
    rfl
  · have hv : Utf8.valid (r : Int) = true := by unfold Utf8.valid; simp; omega
    unfold Utf8.encode
    simp only [hv, if_true, Int.toNat_natCast]
    rw [if_neg (by omega), if_neg (by omega), if_pos (by omega)]
    rfl
  · have hv : Utf8.valid (r : Int) = true := by unfold Utf8.valid; simp; omega
    unfold Utf8.encode
    simp only [hv, if_true, Int.toNat_natCast]
    rw [if_neg (by omega), if_neg (by omega), if_neg (by omega)]
    rfl
/-- What a text's first rune is, where its first byte is no ASCII: all its bytes are none. -/
theorem dec_high (l : List UInt8) (h0 : 0 < l.length) (hx : 128 ≤ l[0].toNat) : ∃ r w, Lib.decodeGo ⟨⟨l⟩⟩ = (r, w) ∧ 1 ≤ w ∧ w ≤ l.length ∧ (∀ j (hj : j < l.length), j < w → 128 ≤ l[j].toNat) ∧
    r ≤ 1114111 ∧ (r = 65533 ∨ (r ≠ 65533 ∧ 128 ≤ r ∧ 2 ≤ w ∧ (Utf8.encode (r : Int)).size = w ∧ (w = 2 → r < 2048))) := by
  have g : ∀ j (hj : j < l.length), ((⟨⟨l⟩⟩ : ByteArray).get! j).toNat = l[j].toNat := fun j hj => by
    show ((⟨l⟩ : Array UInt8)[j]!).toNat = _
    rw [getElem!_pos _ _ (by exact hj)]
    rfl
  have hs : (⟨⟨l⟩⟩ : ByteArray).size = l.length := rfl
  unfold Lib.decodeGo
  rw [hs, if_neg (by omega), Lib.decode_at, hs]
  have g0 := g 0 h0
  rw [← g0] at hx
  generalize hb0 : ((⟨⟨l⟩⟩ : ByteArray).get! 0).toNat = b0 at *
  have g1 := fun h => g 1 h
  have g2 := fun h => g 2 h
  have g3 := fun h => g 3 h
  rw [show 0 + 1 = 1 from rfl, show 0 + 2 = 2 from rfl, show 0 + 3 = 3 from rfl]
  generalize hb1 : ((⟨⟨l⟩⟩ : ByteArray).get! 1).toNat = b1 at *
  generalize hb2 : ((⟨⟨l⟩⟩ : ByteArray).get! 2).toNat = b2 at *
  generalize hb3 : ((⟨⟨l⟩⟩ : ByteArray).get! 3).toNat = b3 at *
  have one : ∃ r w, ((65533 : Nat), (1 : Nat)) = (r, w) ∧ 1 ≤ w ∧ w ≤ l.length ∧ (∀ j (hj : j < l.length), j < w → 128 ≤ l[j].toNat) ∧ r ≤ 1114111 ∧ (r = 65533 ∨ (r ≠ 65533 ∧ 128 ≤ r ∧ 2 ≤ w ∧ (Utf8.encode (r : Int)).size = w ∧ (w = 2 → r < 2048))) :=
    ⟨_, _, rfl, Nat.le_refl _, h0, fun j hj h => by
      obtain rfl : j = 0 := by omega
      rw [← g0]; exact hx, by omega, .inl rfl⟩
  unfold Lib.decodeN
  rw [if_neg (by omega)]
  split
  · rename_i h
    split
    · rename_i hc
      have e := enc_size (b0 % 32 * 64 + b1 % 64) hc
      refine ⟨_, _, rfl, by omega, by omega, fun j hj hw => ?_, by omega, ?_⟩
      · have : j = 0 ∨ j = 1 := by omega
        rcases this with rfl | rfl
        · rw [← g0]; exact hx
        · rw [← g1 hj]; omega
      · exact .inr ⟨by omega, hc, by omega, e.1 (by omega), fun _ => by omega⟩
    · exact one
  split
  · rename_i h
    split
    · rename_i hc
      have e := enc_size (b0 % 16 * 4096 + b1 % 64 * 64 + b2 % 64) (by omega)
      refine ⟨_, _, rfl, by omega, by omega, fun j hj hw => ?_, by omega, ?_⟩
      · have : j = 0 ∨ j = 1 ∨ j = 2 := by omega
        rcases this with rfl | rfl | rfl
        · rw [← g0]; exact hx
        · rw [← g1 hj]; omega
        · rw [← g2 hj]; omega
      · by_cases h5 : b0 % 16 * 4096 + b1 % 64 * 64 + b2 % 64 = 65533
        · exact .inl h5
        · exact .inr ⟨h5, by omega, by omega, e.2.1 (by omega) (by omega) (by omega), fun h => by omega⟩
    · exact one
  split
  · rename_i h
    split
    · rename_i hc
      have e := enc_size (b0 % 8 * 262144 + b1 % 64 * 4096 + b2 % 64 * 64 + b3 % 64) (by omega)
      refine ⟨_, _, rfl, by omega, by omega, fun j hj hw => ?_, by omega, ?_⟩
      · have : j = 0 ∨ j = 1 ∨ j = 2 ∨ j = 3 := by omega
        rcases this with rfl | rfl | rfl | rfl
        · rw [← g0]; exact hx
        · rw [← g1 hj]; omega
        · rw [← g2 hj]; omega
        · rw [← g3 hj]; omega
      · exact .inr ⟨by omega, by omega, by omega, e.2.2 (by omega) (by omega), fun h => by omega⟩
    · exact one
  exact one
/-- No rune beyond ASCII begins as 13, 10 does. -/
theorem enc_ne (r : Nat) (h : 128 ≤ r) (hr : r < 2048) : ¬ ([13, 10] : List UInt8) = (Utf8.encode (r : Int)).data.toList := by
  have hv : Utf8.valid (r : Int) = true := by unfold Utf8.valid; simp; omega
  unfold Utf8.encode
  simp only [hv, if_true, Int.toNat_natCast]
  rw [if_neg (by omega), if_pos (by omega)]
  intro e
  have e1 := (List.cons.inj e).1
  have := congrArg UInt8.toNat e1
  rw [show (13 : UInt8).toNat = 13 from rfl, UInt8.toNat_ofNat'] at this
  omega
end Go.Proofs.YtbgnogdlkmhnkaaGreatDoor.Vex
/- bytes.IndexAny with 13 and 10, at any bytes, reckoned. -/
namespace Go.Proofs.YtbgnogdlkmhnkaaGreatDoor.Vex
open Go Go.RowKit
set_option maxRecDepth 100000
set_option linter.unusedSectionVars false
variable {gI : GI} [HasMax gI] [HasUtf gI]

theorem noEnd_iff (l : List UInt8) : noEnd l = true ↔ ∀ j (hj : j < l.length), l[j].toNat ≠ 10 ∧ l[j].toNat ≠ 13 := by
  have e : ∀ x : UInt8, (!(x == 10) && !(x == 13)) = true ↔ x.toNat ≠ 10 ∧ x.toNat ≠ 13 := fun x => by
    rw [Bool.and_eq_true, Bool.not_eq_true', Bool.not_eq_true', beq_eq_false_iff_ne, beq_eq_false_iff_ne, ne_eq, ne_eq, ne_eq, ne_eq, ← UInt8.toNat_inj, ← UInt8.toNat_inj]
    rfl
  unfold noEnd
  rw [List.all_eq_true]
  constructor
  · intro h j hj
    exact (e _).1 (h _ (List.getElem_mem hj))
  · intro h x hx
    obtain ⟨j, hj, rfl⟩ := List.mem_iff_getElem.1 hx
    exact (e _).2 (h j hj)
theorem noEnd_no {l : List UInt8} {k : Nat} (hk : k < l.length) (h : l[k].toNat = 10 ∨ l[k].toNat = 13) : noEnd l = false := by
  cases hn : noEnd l with
  | false => rfl
  | true => have := (noEnd_iff l).1 hn k hk; omega
theorem noEnd_one (x : UInt8) (h : x.toNat ≠ 10) (h' : x.toNat ≠ 13) : noEnd [x] = true := (noEnd_iff [x]).2 fun j hj => by
  obtain rfl : j = 0 := by simpa using hj
  exact ⟨h, h'⟩
theorem idx_crlf (x : UInt8) : 0 ≤ Lib.indexByte [13, 10] x ↔ x.toNat = 10 ∨ x.toNat = 13 := by
  rw [idx_in, List.mem_cons, List.mem_singleton, ← UInt8.toNat_inj, ← UInt8.toNat_inj]
  exact Or.comm
theorem ibs_k {c : Ctx} {m : Bool} {H : Hp} {K : Value → Hp → Prop} (hc : c.P = Tryz.prog) (l : List UInt8) (x : UInt8) (k : K (.int .i64 (Lib.indexByte l x)) H) : CallK c m 50 [str l, .int .u8 x.toNat] H K :=
  CallK.ext (fun w _ => by
    rw [hc]
    refine run_ext Tryz.func50 (by kernel_rfl) (by kernel_rfl) (by kernel_rfl) (e := Extern.BytealgIndexByte.indexByte) (by kernel_rfl) ?_
    have := Lib.run_indexByteString (P := Tryz.prog) ⟨⟨l⟩⟩ x.toNat w
    have hx : (((x.toNat : Nat) : Int).toNat.toUInt8) = x := by simp
    rw [hx] at this
    exact this) k
theorem index_long : ∀ (a b : List UInt8), a.length < b.length → Lib.index a b = -1
  | [], b, h => by
    cases b with
    | nil => cases h
    | cons y r => rfl
  | x :: a, b, h => by
    have ih := index_long a b (by simp at h; omega)
    unfold Lib.index
    rw [ih]
    have : b.isPrefixOf (x :: a) = false := by
      cases hp : b.isPrefixOf (x :: a) with
      | false => rfl
      | true =>
        have := (List.isPrefixOf_iff_prefix.1 hp).length_le
        omega
    rw [this]
    rfl
theorem is_k {c : Ctx} {m : Bool} {H : Hp} {K : Value → Hp → Prop} (hc : c.P = Tryz.prog) {mx : Int} (hm : c.w0.cell? ⟨0, 0, none⟩ = some (.int .i64 mx)) (hM : c.M = []) (a b : List UInt8) (h2 : 2 ≤ b.length) (hb : (b.length : Int) ≤ mx) (ha : a.length < 4294967281)
    (k : K (.int .i64 (Lib.index a b)) H) : CallK c m 56 [str a, str b] H K :=
  CallK.ext' (fun w hw => by
    rw [hc]
    refine run_ext Tryz.func56 (by kernel_rfl) (by kernel_rfl) (by kernel_rfl) (e := Extern.BytealgIndex.index) (by kernel_rfl) ?_
    exact Lib.run_indexString (P := Tryz.prog) ⟨⟨a⟩⟩ ⟨⟨b⟩⟩ w 0 mx (by kernel_rfl) (hw.old hm (by rw [hM]; simp)) h2 hb ha) k
theorem useSet_f (n : Int) : Fn Tryz.prog gI 52 [.int .i64 n] (.bool (decide (8 < n))) := by
  refine Fn.of tys_ok Tryz.func52 rfl (by kernel_rfl) rfl rfl ?_; intro w hG
  (conv => whnf); repeat ((first | refine tk1 ?_ | refine tk2 ?_ | refine tk3 ?_ | refine tk12 (fun _ => ?_) | refine tk4 ?_ | refine tk5 ?_ | refine tk6 ?_ | refine tk7 ?_ | refine tk8 ?_ | refine tk9 ?_ | refine tk10 (fun _ _ => ?_) | refine tk11 (fun _ => ?_) | refine tk13 ?_ | refine tk14 ?_); (conv => whnf))
  refine Cmp.of (decide (8 < n)) (by simp) ?_
  (conv => whnf); repeat ((first | refine tk1 ?_ | refine tk2 ?_ | refine tk3 ?_ | refine tk12 (fun _ => ?_) | refine tk4 ?_ | refine tk5 ?_ | refine tk6 ?_ | refine tk7 ?_ | refine tk8 ?_ | refine tk9 ?_ | refine tk10 (fun _ _ => ?_) | refine tk11 (fun _ => ?_) | refine tk13 ?_ | refine tk14 ?_); (conv => whnf))
def asc0 : List Value := List.replicate 256 (.bool false)
def asc1 : List Value := asc0.set 13 (.bool true)
def asc2 : List Value := asc1.set 10 (.bool true)
def ascP (p : Nat) : List Value := match p with | 0 => asc0 | 1 => asc1 | _ => asc2
theorem asc_one : ∀ x ∈ asc2, x.oneCell' = true := by decide
theorem asc_get (x : UInt8) : asc2[((x.toNat : Nat) : Int).toNat]? = some (.bool (decide (x.toNat = 10 ∨ x.toNat = 13))) := by
  have : ∀ n : Fin 256, asc2[n.val]? = some (.bool (decide (n.val = 10 ∨ n.val = 13))) := by
    intro n
    unfold asc2 asc1 asc0
    simp only [List.getElem?_set, List.getElem?_replicate, List.length_set, List.length_replicate]
    by_cases h1 : n.val = 10
    · simp [h1]
    · by_cases h2 : n.val = 13
      · simp [h2]
      · rw [if_neg (by omega), if_neg (by omega), if_pos n.isLt, decide_eq_false (by omega)]
  exact this ⟨x.toNat, x.toNat_lt⟩
theorem mkSet_f : Fn Tryz.prog gI 53 [str [13, 10]] (.tuple #[.agg ⟨asc2⟩, .bool true]) := by
  refine Fn.of tys_ok Tryz.func53 rfl (by kernel_rfl) rfl rfl ?_; intro w hG
  (conv => whnf); repeat ((first | refine tk1 ?_ | refine tk2 ?_ | refine tk3 ?_ | refine tk12 (fun _ => ?_) | refine tk4 ?_ | refine tk5 ?_ | refine tk6 ?_ | refine tk7 ?_ | refine tk8 ?_ | refine tk9 ?_ | refine tk10 (fun _ _ => ?_) | refine tk11 (fun _ => ?_) | refine tk13 ?_ | refine tk14 ?_); (conv => whnf))
  rename_i b
  refine LoopS.lp tys_ok (fun (p : Nat) u => [str [13, 10], u 1, .pointer (some ⟨b, 0, none⟩), u 3, .int .i64 (p : Nat), u 5, u 6, u 7, u 8, u 9, u 10, u 11, u 12, u 13, u 14, u 15, u 16, u 17, u 18, u 19, u 20]) (fun p => [.box b (ascP p) 91]) (fun p => p ≤ 2) (fun p => 2 - p) 0 (by decide) rfl (by repeat' (first | exact List.Sublist.refl _ | exact List.nil_sublist _ | apply List.Sublist.cons_cons | apply List.Sublist.cons)) ?_
  intro p u hp
  have hp3 : p = 0 ∨ p = 1 ∨ p = 2 := by omega
  rcases hp3 with rfl | rfl | rfl
  · (conv => whnf); repeat ((first | refine tk1 ?_ | refine tk2 ?_ | refine tk3 ?_ | refine tk12 (fun _ => ?_) | refine tk4 ?_ | refine tk5 ?_ | refine tk6 ?_ | refine tk7 ?_ | refine tk8 ?_ | refine tk9 ?_ | refine tk10 (fun _ _ => ?_) | refine tk11 (fun _ => ?_) | refine tk13 ?_ | refine tk14 ?_); (conv => whnf))
    refine IdxS.at 13 rfl (by decide) ?_
    rw [show (((13 : UInt8).toNat : Nat) : Int) = 13 from rfl]
    (conv => whnf); repeat ((first | refine tk1 ?_ | refine tk2 ?_ | refine tk3 ?_ | refine tk12 (fun _ => ?_) | refine tk4 ?_ | refine tk5 ?_ | refine tk6 ?_ | refine tk7 ?_ | refine tk8 ?_ | refine tk9 ?_ | refine tk10 (fun _ _ => ?_) | refine tk11 (fun _ => ?_) | refine tk13 ?_ | refine tk14 ?_); (conv => whnf))
    refine OthP.idxArr (b := b) (k := .u8) (z := 13) tys_ok rfl (fun h => nomatch h) rfl rfl rfl (by decide) (by decide) ?_
    (conv => whnf); repeat ((first | refine tk1 ?_ | refine tk2 ?_ | refine tk3 ?_ | refine tk12 (fun _ => ?_) | refine tk4 ?_ | refine tk5 ?_ | refine tk6 ?_ | refine tk8 ?_); (conv => whnf))
    exact ⟨1, by decide, rfl, (by repeat' (first | exact List.Sublist.refl _ | exact List.nil_sublist _ | apply List.Sublist.cons_cons | apply List.Sublist.cons)), by dsimp only; omega⟩
  · (conv => whnf); repeat ((first | refine tk1 ?_ | refine tk2 ?_ | refine tk3 ?_ | refine tk12 (fun _ => ?_) | refine tk4 ?_ | refine tk5 ?_ | refine tk6 ?_ | refine tk7 ?_ | refine tk8 ?_ | refine tk9 ?_ | refine tk10 (fun _ _ => ?_) | refine tk11 (fun _ => ?_) | refine tk13 ?_ | refine tk14 ?_); (conv => whnf))
    refine IdxS.at 10 rfl (by decide) ?_
    rw [show (((10 : UInt8).toNat : Nat) : Int) = 10 from rfl]
    (conv => whnf); repeat ((first | refine tk1 ?_ | refine tk2 ?_ | refine tk3 ?_ | refine tk12 (fun _ => ?_) | refine tk4 ?_ | refine tk5 ?_ | refine tk6 ?_ | refine tk7 ?_ | refine tk8 ?_ | refine tk9 ?_ | refine tk10 (fun _ _ => ?_) | refine tk11 (fun _ => ?_) | refine tk13 ?_ | refine tk14 ?_); (conv => whnf))
    refine OthP.idxArr (b := b) (k := .u8) (z := 10) tys_ok rfl (fun h => nomatch h) rfl rfl rfl (by decide) (by decide) ?_
    (conv => whnf); repeat ((first | refine tk1 ?_ | refine tk2 ?_ | refine tk3 ?_ | refine tk12 (fun _ => ?_) | refine tk4 ?_ | refine tk5 ?_ | refine tk6 ?_ | refine tk8 ?_); (conv => whnf))
    exact ⟨2, by decide, rfl, (by repeat' (first | exact List.Sublist.refl _ | exact List.nil_sublist _ | apply List.Sublist.cons_cons | apply List.Sublist.cons)), by dsimp only; omega⟩
  · (conv => whnf); repeat ((first | refine tk1 ?_ | refine tk2 ?_ | refine tk3 ?_ | refine tk12 (fun _ => ?_) | refine tk4 ?_ | refine tk5 ?_ | refine tk6 ?_ | refine tk8 ?_); (conv => whnf))
    refine Sto.tv rfl rfl asc_one ?_
    (conv => whnf); repeat ((first | refine tk1 ?_ | refine tk2 ?_ | refine tk3 ?_ | refine tk12 (fun _ => ?_) | refine tk4 ?_ | refine tk5 ?_ | refine tk6 ?_ | refine tk8 ?_); (conv => whnf))
    rfl
theorem size_len (z : ByteArray) : z.data.toList.length = z.size := by rw [Array.length_toList]; rfl
set_option maxHeartbeats 4000000 in
theorem IndexAny_f (A : Option Addr) (cp : Nat) (l : List UInt8) (hl : l.length ≤ 1000000000) :
    FnE Tryz.prog gI 33 [.slice A l.length cp, str [13, 10]] (fun w => RdL w [(A, l.map byteV)] ∧ l.length ≤ cp) fun _ v _ => ∃ k : Int, v = .int .i64 k ∧ (0 ≤ k ↔ noEnd l = false) := by
  refine FnE.of tys_ok Tryz.func33 rfl (by kernel_rfl) rfl rfl ?_; intro w hG hP
  have hR : ∀ H, RdA (mkC Tryz.prog gI w hG) H A (l.map byteV) := fun H => ⟨hP.1.1.now⟩
  have hcp := hP.2
  obtain ⟨mx, hmx⟩ := HasMax.ok w hG
  (conv => whnf); repeat ((first | refine tk1 ?_ | refine tk2 ?_ | refine tk3 ?_ | refine tk12 (fun _ => ?_) | refine tk4 ?_ | refine tk5 ?_ | refine tk6 ?_ | refine tk7 ?_ | refine tk8 ?_ | refine tk9 ?_ | refine tk10 (fun _ _ => ?_) | refine tk11 (fun _ => ?_) | refine tk13 ?_ | refine tk14 ?_); (conv => whnf))
  refine Cmp.cases (fun h1 => ?_) (fun h1 => ?_)
  · obtain ⟨x, rfl⟩ : ∃ x, l = [x] := List.length_eq_one_iff.1 (by omega)
    have hx := x.toNat_lt
    (conv => whnf); repeat ((first | refine tk1 ?_ | refine tk2 ?_ | refine tk3 ?_ | refine tk12 (fun _ => ?_) | refine tk4 ?_ | refine tk5 ?_ | refine tk6 ?_ | refine tk7 ?_ | refine tk8 ?_ | refine tk9 ?_ | refine tk10 (fun _ _ => ?_) | refine tk11 (fun _ => ?_) | refine tk13 ?_ | refine tk14 ?_); (conv => whnf))
    refine IdxA.tc (xs := [x].map byteV) (by simp) (by omega) (by simp) ?_
    (conv => whnf); repeat ((first | refine tk1 ?_ | refine tk2 ?_ | refine tk3 ?_ | refine tk12 (fun _ => ?_) | refine tk4 ?_ | refine tk5 ?_ | refine tk6 ?_ | refine tk7 ?_ | refine tk8 ?_ | refine tk9 ?_ | refine tk10 (fun _ _ => ?_) | refine tk11 (fun _ => ?_) | refine tk13 ?_ | refine tk14 ?_); (conv => whnf))
    refine Ld.ta (xs := [x].map byteV) (v := byteV x) rfl ?_
    unfold byteV
    (conv => whnf); repeat ((first | refine tk1 ?_ | refine tk2 ?_ | refine tk3 ?_ | refine tk12 (fun _ => ?_) | refine tk4 ?_ | refine tk5 ?_ | refine tk6 ?_ | refine tk7 ?_ | refine tk8 ?_ | refine tk9 ?_ | refine tk10 (fun _ _ => ?_) | refine tk11 (fun _ => ?_) | refine tk13 ?_ | refine tk14 ?_); (conv => whnf))
    refine Ar.in32 (by omega) (by omega) ?_
    (conv => whnf); repeat ((first | refine tk1 ?_ | refine tk2 ?_ | refine tk3 ?_ | refine tk12 (fun _ => ?_) | refine tk4 ?_ | refine tk5 ?_ | refine tk6 ?_ | refine tk7 ?_ | refine tk8 ?_ | refine tk9 ?_ | refine tk10 (fun _ _ => ?_) | refine tk11 (fun _ => ?_) | refine tk13 ?_ | refine tk14 ?_); (conv => whnf))
    refine Cmp.cases (fun h2 => ?_) (fun h2 => ?_)
    · (conv => whnf); repeat ((first | refine tk1 ?_ | refine tk2 ?_ | refine tk3 ?_ | refine tk12 (fun _ => ?_) | refine tk4 ?_ | refine tk5 ?_ | refine tk6 ?_ | refine tk7 ?_ | refine tk8 ?_ | refine tk9 ?_ | refine tk10 (fun _ _ => ?_) | refine tk11 (fun _ => ?_) | refine tk13 ?_ | refine tk14 ?_); (conv => whnf))
      refine Oth.rangeS tys_ok rfl rfl (fun it => ?_)
      (conv => whnf); repeat ((first | refine tk1 ?_ | refine tk2 ?_ | refine tk3 ?_ | refine tk12 (fun _ => ?_) | refine tk4 ?_ | refine tk5 ?_ | refine tk6 ?_ | refine tk7 ?_ | refine tk8 ?_ | refine tk9 ?_ | refine tk10 (fun _ _ => ?_) | refine tk11 (fun _ => ?_) | refine tk13 ?_ | refine tk14 ?_); (conv => whnf))
      refine LoopS.lp tys_ok (fun (p : Nat) u => [u 0, u 1, u 2, u 3, u 4, u 5, u 6, u 7, u 8, u 9, u 10, u 11, u 12, u 13, u 14, u 15, u 16, u 17, u 18, u 19, u 20, u 21, u 22, u 23, u 24, u 25, u 26, u 27, .pointer (some ⟨it, 0, none⟩), u 29, u 30, u 31, u 32, u 33, u 34, u 35, u 36, u 37, u 38, u 39, u 40, u 41, u 42, u 43, u 44, u 45, u 46, u 47, u 48, u 49, u 50, u 51, u 52, u 53, u 54, u 55, u 56, u 57, u 58, u 59, u 60, u 61, u 62, u 63, u 64, u 65, u 66, u 67, u 68, u 69, u 70, u 71, u 72, u 73, u 74, u 75, u 76, u 77, u 78, u 79, u 80, u 81, u 82, u 83, u 84, u 85, u 86, u 87, u 88, u 89, u 90, u 91, u 92, u 93, u 94, u 95, u 96, u 97, u 98, u 99, u 100, u 101, u 102, u 103, u 104, u 105, u 106, u 107, u 108, u 109, u 110, u 111, u 112, u 113, u 114, u 115, u 116, u 117, u 118, u 119, u 120, u 121, u 122, u 123, u 124, u 125, u 126, u 127, u 128]) (fun p => [.obj it (.stringIter ⟨⟨[13, 10]⟩⟩ p)]) (fun p => p ≤ 2) (fun p => 2 - p) 0 (by decide) rfl (by repeat' (first | exact List.Sublist.refl _ | exact List.nil_sublist _ | apply List.Sublist.cons_cons | apply List.Sublist.cons)) ?_
      intro p u hp
      (conv => whnf); repeat ((first | refine tk1 ?_ | refine tk2 ?_ | refine tk3 ?_ | refine tk12 (fun _ => ?_) | refine tk4 ?_ | refine tk5 ?_ | refine tk6 ?_ | refine tk7 ?_ | refine tk8 ?_ | refine tk9 ?_ | refine tk10 (fun _ _ => ?_) | refine tk11 (fun _ => ?_) | refine tk13 ?_ | refine tk14 ?_); (conv => whnf))
      have hp3 : p = 0 ∨ p = 1 ∨ p = 2 := by omega
      rcases hp3 with rfl | rfl | rfl
      · refine Oth.nextS (s := ⟨⟨[13, 10]⟩⟩) (p := 0) rfl (by decide) ?_
        rw [show Utf8.decode ⟨⟨[13, 10]⟩⟩ 0 = (13, 1) by rfl]
        (conv => whnf); repeat ((first | refine tk1 ?_ | refine tk2 ?_ | refine tk3 ?_ | refine tk12 (fun _ => ?_) | refine tk4 ?_ | refine tk5 ?_ | refine tk6 ?_ | refine tk7 ?_ | refine tk8 ?_ | refine tk9 ?_ | refine tk10 (fun _ _ => ?_) | refine tk11 (fun _ => ?_) | refine tk13 ?_ | refine tk14 ?_); (conv => whnf))
        exact ⟨1, by decide, rfl, (by repeat' (first | exact List.Sublist.refl _ | exact List.nil_sublist _ | apply List.Sublist.cons_cons | apply List.Sublist.cons)), by dsimp only; omega⟩
      · refine Oth.nextS (s := ⟨⟨[13, 10]⟩⟩) (p := 1) rfl (by decide) ?_
        rw [show Utf8.decode ⟨⟨[13, 10]⟩⟩ 1 = (10, 1) by rfl]
        (conv => whnf); repeat ((first | refine tk1 ?_ | refine tk2 ?_ | refine tk3 ?_ | refine tk12 (fun _ => ?_) | refine tk4 ?_ | refine tk5 ?_ | refine tk6 ?_ | refine tk7 ?_ | refine tk8 ?_ | refine tk9 ?_ | refine tk10 (fun _ _ => ?_) | refine tk11 (fun _ => ?_) | refine tk13 ?_ | refine tk14 ?_); (conv => whnf))
        exact ⟨2, by decide, rfl, (by repeat' (first | exact List.Sublist.refl _ | exact List.nil_sublist _ | apply List.Sublist.cons_cons | apply List.Sublist.cons)), by dsimp only; omega⟩
      · refine Oth.nextE (s := ⟨⟨[13, 10]⟩⟩) (p := 2) rfl (by decide) ?_
        (conv => whnf); repeat ((first | refine tk1 ?_ | refine tk2 ?_ | refine tk3 ?_ | refine tk12 (fun _ => ?_) | refine tk4 ?_ | refine tk5 ?_ | refine tk6 ?_ | refine tk7 ?_ | refine tk8 ?_ | refine tk9 ?_ | refine tk10 (fun _ _ => ?_) | refine tk11 (fun _ => ?_) | refine tk13 ?_ | refine tk14 ?_); (conv => whnf))
        exact fun w' _ => ⟨-1, rfl, by omega, fun h => absurd h (by rw [noEnd_one x (by omega) (by omega)]; decide)⟩
    · (conv => whnf); repeat ((first | refine tk1 ?_ | refine tk2 ?_ | refine tk3 ?_ | refine tk12 (fun _ => ?_) | refine tk4 ?_ | refine tk5 ?_ | refine tk6 ?_ | refine tk7 ?_ | refine tk8 ?_ | refine tk9 ?_ | refine tk10 (fun _ _ => ?_) | refine tk11 (fun _ => ?_) | refine tk13 ?_ | refine tk14 ?_); (conv => whnf))
      refine IdxA.tc (xs := [x].map byteV) (by simp) (by omega) (by simp) ?_
      (conv => whnf); repeat ((first | refine tk1 ?_ | refine tk2 ?_ | refine tk3 ?_ | refine tk12 (fun _ => ?_) | refine tk4 ?_ | refine tk5 ?_ | refine tk6 ?_ | refine tk7 ?_ | refine tk8 ?_ | refine tk9 ?_ | refine tk10 (fun _ _ => ?_) | refine tk11 (fun _ => ?_) | refine tk13 ?_ | refine tk14 ?_); (conv => whnf))
      refine Ld.ta (xs := [x].map byteV) (v := byteV x) rfl ?_
      unfold byteV
      (conv => whnf); repeat ((first | refine tk1 ?_ | refine tk2 ?_ | refine tk3 ?_ | refine tk12 (fun _ => ?_) | refine tk4 ?_ | refine tk5 ?_ | refine tk6 ?_ | refine tk7 ?_ | refine tk8 ?_ | refine tk9 ?_ | refine tk10 (fun _ _ => ?_) | refine tk11 (fun _ => ?_) | refine tk13 ?_ | refine tk14 ?_); (conv => whnf))
      refine ibs_k rfl [13, 10] x ?_
      have hi := idx_crlf x
      generalize Lib.indexByte [13, 10] x = ix at hi
      (conv => whnf); repeat ((first | refine tk1 ?_ | refine tk2 ?_ | refine tk3 ?_ | refine tk12 (fun _ => ?_) | refine tk4 ?_ | refine tk5 ?_ | refine tk6 ?_ | refine tk7 ?_ | refine tk8 ?_ | refine tk9 ?_ | refine tk10 (fun _ _ => ?_) | refine tk11 (fun _ => ?_) | refine tk13 ?_ | refine tk14 ?_); (conv => whnf))
      refine Cmp.cases (fun h3 => ?_) (fun h3 => ?_)
      · (conv => whnf); repeat ((first | refine tk1 ?_ | refine tk2 ?_ | refine tk3 ?_ | refine tk12 (fun _ => ?_) | refine tk4 ?_ | refine tk5 ?_ | refine tk6 ?_ | refine tk7 ?_ | refine tk8 ?_ | refine tk9 ?_ | refine tk10 (fun _ _ => ?_) | refine tk11 (fun _ => ?_) | refine tk13 ?_ | refine tk14 ?_); (conv => whnf))
        exact fun w' _ => ⟨0, rfl, fun _ => noEnd_no (l := [x]) (k := 0) (by simp) (hi.1 h3), fun _ => Int.le_refl _⟩
      · (conv => whnf); repeat ((first | refine tk1 ?_ | refine tk2 ?_ | refine tk3 ?_ | refine tk12 (fun _ => ?_) | refine tk4 ?_ | refine tk5 ?_ | refine tk6 ?_ | refine tk7 ?_ | refine tk8 ?_ | refine tk9 ?_ | refine tk10 (fun _ _ => ?_) | refine tk11 (fun _ => ?_) | refine tk13 ?_ | refine tk14 ?_); (conv => whnf))
        exact fun w' _ => ⟨-1, rfl, by omega, fun h => absurd h (by rw [noEnd_one x (by omega) (by omega)]; decide)⟩
  have hit : ∀ k : Nat, k < l.length → (∀ j (hj : j < l.length), j = k → l[j].toNat = 10 ∨ l[j].toNat = 13) → ∀ w' : World, ∃ q : Int, Value.int .i64 ((k : Nat) : Int) = .int .i64 q ∧ (0 ≤ q ↔ noEnd l = false) := fun k hk h _ =>
    ⟨k, rfl, fun _ => noEnd_no hk (h k hk rfl), fun _ => Int.natCast_nonneg _⟩
  have mis : (∀ j (hj : j < l.length), l[j].toNat ≠ 10 ∧ l[j].toNat ≠ 13) → ∀ w' : World, ∃ q : Int, Value.int .i64 (-1) = .int .i64 q ∧ (0 ≤ q ↔ noEnd l = false) := fun h _ =>
    ⟨-1, rfl, by omega, fun e => by rw [(noEnd_iff l).2 h] at e; cases e⟩
  (conv => whnf); repeat ((first | refine tk1 ?_ | refine tk2 ?_ | refine tk3 ?_ | refine tk12 (fun _ => ?_) | refine tk4 ?_ | refine tk5 ?_ | refine tk6 ?_ | refine tk7 ?_ | refine tk8 ?_ | refine tk9 ?_ | refine tk10 (fun _ _ => ?_) | refine tk11 (fun _ => ?_) | refine tk13 ?_ | refine tk14 ?_); (conv => whnf))
  refine CallK.fn (useSet_f l.length) ?_
  cases h8 : decide (8 < (l.length : Int))
  rotate_left
  · (conv => whnf); repeat ((first | refine tk1 ?_ | refine tk2 ?_ | refine tk3 ?_ | refine tk12 (fun _ => ?_) | refine tk4 ?_ | refine tk5 ?_ | refine tk6 ?_ | refine tk7 ?_ | refine tk8 ?_ | refine tk9 ?_ | refine tk10 (fun _ _ => ?_) | refine tk11 (fun _ => ?_) | refine tk13 ?_ | refine tk14 ?_); (conv => whnf))
    refine CallK.fn mkSet_f ?_
    (conv => whnf); repeat ((first | refine tk1 ?_ | refine tk2 ?_ | refine tk3 ?_ | refine tk12 (fun _ => ?_) | refine tk4 ?_ | refine tk5 ?_ | refine tk6 ?_ | refine tk8 ?_); (conv => whnf))
    rename_i b7
    refine Sto.tv rfl rfl asc_one ?_
    (conv => whnf); repeat ((first | refine tk1 ?_ | refine tk2 ?_ | refine tk3 ?_ | refine tk12 (fun _ => ?_) | refine tk4 ?_ | refine tk5 ?_ | refine tk6 ?_ | refine tk8 ?_); (conv => whnf))
    refine LoopS.lp tys_ok (fun (k : Nat) u => [u 0, u 1, u 2, u 3, u 4, u 5, u 6, .pointer (some ⟨b7, 0, none⟩), u 8, u 9, u 10, u 11, u 12, u 13, u 14, u 15, u 16, u 17, u 18, u 19, u 20, u 21, u 22, u 23, u 24, u 25, u 26, u 27, u 28, u 29, u 30, u 31, u 32, u 33, u 34, u 35, u 36, u 37, u 38, u 39, u 40, u 41, u 42, u 43, u 44, u 45, u 46, u 47, u 48, u 49, u 50, u 51, u 52, u 53, u 54, u 55, u 56, u 57, u 58, u 59, .slice A l.length cp, .int .i64 l.length, .int .i64 (k : Nat), u 63, u 64, u 65, u 66, u 67, u 68, u 69, u 70, u 71, u 72, u 73, u 74, u 75, u 76, u 77, u 78, u 79, u 80, u 81, u 82, u 83, u 84, u 85, u 86, u 87, u 88, u 89, u 90, u 91, u 92, u 93, u 94, u 95, u 96, u 97, u 98, u 99, u 100, u 101, u 102, u 103, u 104, u 105, u 106, u 107, u 108, u 109, u 110, u 111, u 112, u 113, u 114, u 115, u 116, u 117, u 118, u 119, u 120, u 121, u 122, u 123, u 124, u 125, u 126, u 127, u 128]) (fun _ => [.box b7 asc2 91]) (fun k => k ≤ l.length ∧ ∀ j (hj : j < l.length), j < k → l[j].toNat ≠ 10 ∧ l[j].toNat ≠ 13) (fun k => l.length - k) 0 ⟨Nat.zero_le _, fun _ _ h => absurd h (by omega)⟩ rfl (by repeat' (first | exact List.Sublist.refl _ | exact List.nil_sublist _ | apply List.Sublist.cons_cons | apply List.Sublist.cons)) ?_
    rintro k u ⟨hk, hI⟩
    dsimp only
    (conv => whnf); repeat ((first | refine tk1 ?_ | refine tk2 ?_ | refine tk3 ?_ | refine tk12 (fun _ => ?_) | refine tk4 ?_ | refine tk5 ?_ | refine tk6 ?_ | refine tk7 ?_ | refine tk8 ?_ | refine tk9 ?_ | refine tk10 (fun _ _ => ?_) | refine tk11 (fun _ => ?_) | refine tk13 ?_ | refine tk14 ?_); (conv => whnf))
    refine Cmp.cases (fun hlt => ?_) (fun hlt => ?_)
    rotate_left
    · (conv => whnf); repeat ((first | refine tk1 ?_ | refine tk2 ?_ | refine tk3 ?_ | refine tk12 (fun _ => ?_) | refine tk4 ?_ | refine tk5 ?_ | refine tk6 ?_ | refine tk7 ?_ | refine tk8 ?_ | refine tk9 ?_ | refine tk10 (fun _ _ => ?_) | refine tk11 (fun _ => ?_) | refine tk13 ?_ | refine tk14 ?_); (conv => whnf))
      exact fun w' _ => mis (fun j hj => hI j hj (by omega)) w'
    have hlt' : k < l.length := by omega
    obtain ⟨x, hx⟩ : ∃ x, l[k] = x := ⟨_, rfl⟩
    have hxt := x.toNat_lt
    have hset := asc_get x
    (conv => whnf); repeat ((first | refine tk1 ?_ | refine tk2 ?_ | refine tk3 ?_ | refine tk12 (fun _ => ?_) | refine tk4 ?_ | refine tk5 ?_ | refine tk6 ?_ | refine tk7 ?_ | refine tk8 ?_ | refine tk9 ?_ | refine tk10 (fun _ _ => ?_) | refine tk11 (fun _ => ?_) | refine tk13 ?_ | refine tk14 ?_); (conv => whnf))
    refine IdxA.tc (xs := l.map byteV) (by simp; omega) (by omega) (by omega) ?_
    (conv => whnf); repeat ((first | refine tk1 ?_ | refine tk2 ?_ | refine tk3 ?_ | refine tk12 (fun _ => ?_) | refine tk4 ?_ | refine tk5 ?_ | refine tk6 ?_ | refine tk7 ?_ | refine tk8 ?_ | refine tk9 ?_ | refine tk10 (fun _ _ => ?_) | refine tk11 (fun _ => ?_) | refine tk13 ?_ | refine tk14 ?_); (conv => whnf))
    refine Ld.ta (xs := l.map byteV) (v := .int .u8 x.toNat) (by simp [hlt', hx, byteV]) ?_
    (conv => whnf); repeat ((first | refine tk1 ?_ | refine tk2 ?_ | refine tk3 ?_ | refine tk12 (fun _ => ?_) | refine tk4 ?_ | refine tk5 ?_ | refine tk6 ?_ | refine tk7 ?_ | refine tk8 ?_ | refine tk9 ?_ | refine tk10 (fun _ _ => ?_) | refine tk11 (fun _ => ?_) | refine tk13 ?_ | refine tk14 ?_); (conv => whnf))
    refine CallK.inl tys_ok Tryz.func54 rfl (by kernel_rfl) rfl rfl ?_
    (conv => whnf); repeat ((first | refine tk1 ?_ | refine tk2 ?_ | refine tk3 ?_ | refine tk12 (fun _ => ?_) | refine tk4 ?_ | refine tk5 ?_ | refine tk6 ?_ | refine tk7 ?_ | refine tk8 ?_ | refine tk9 ?_ | refine tk10 (fun _ _ => ?_) | refine tk11 (fun _ => ?_) | refine tk13 ?_ | refine tk14 ?_); (conv => whnf))
    refine OthP.idxArr (b := b7) (k := .u8) (z := x.toNat) tys_ok rfl (fun h => nomatch h) rfl rfl rfl (by omega) (by omega) ?_
    (conv => whnf); repeat ((first | refine tk1 ?_ | refine tk2 ?_ | refine tk3 ?_ | refine tk12 (fun _ => ?_) | refine tk4 ?_ | refine tk5 ?_ | refine tk6 ?_ | refine tk7 ?_ | refine tk8 ?_ | refine tk9 ?_ | refine tk10 (fun _ _ => ?_) | refine tk11 (fun _ => ?_) | refine tk13 ?_ | refine tk14 ?_); (conv => whnf))
    refine Ld.tc (vs := asc2) (v := .bool (decide (x.toNat = 10 ∨ x.toNat = 13))) hset ?_
    by_cases hh : x.toNat = 10 ∨ x.toNat = 13
    · rw [decide_eq_true hh]
      (conv => whnf); repeat ((first | refine tk1 ?_ | refine tk2 ?_ | refine tk3 ?_ | refine tk12 (fun _ => ?_) | refine tk4 ?_ | refine tk5 ?_ | refine tk6 ?_ | refine tk7 ?_ | refine tk8 ?_ | refine tk9 ?_ | refine tk10 (fun _ _ => ?_) | refine tk11 (fun _ => ?_) | refine tk13 ?_ | refine tk14 ?_); (conv => whnf))
      exact fun w' _ => hit k hlt' (fun j hj e => by subst e; rw [hx]; exact hh) w'
    · rw [decide_eq_false hh]
      (conv => whnf); repeat ((first | refine tk1 ?_ | refine tk2 ?_ | refine tk3 ?_ | refine tk12 (fun _ => ?_) | refine tk4 ?_ | refine tk5 ?_ | refine tk6 ?_ | refine tk7 ?_ | refine tk8 ?_ | refine tk9 ?_ | refine tk10 (fun _ _ => ?_) | refine tk11 (fun _ => ?_) | refine tk13 ?_ | refine tk14 ?_); (conv => whnf))
      exact ⟨k + 1, ⟨by omega, fun j hj hjk => by
        rcases (show j < k ∨ j = k by omega) with h | rfl
        · exact hI j hj h
        · rw [hx]; omega⟩, rfl, (by repeat' (first | exact List.Sublist.refl _ | exact List.nil_sublist _ | apply List.Sublist.cons_cons | apply List.Sublist.cons)), by dsimp only; omega⟩
  · (conv => whnf); repeat ((first | refine tk1 ?_ | refine tk2 ?_ | refine tk3 ?_ | refine tk12 (fun _ => ?_) | refine tk4 ?_ | refine tk5 ?_ | refine tk6 ?_ | refine tk7 ?_ | refine tk8 ?_ | refine tk9 ?_ | refine tk10 (fun _ _ => ?_) | refine tk11 (fun _ => ?_) | refine tk13 ?_ | refine tk14 ?_); (conv => whnf))
    refine LoopS.lp tys_ok (fun (k : Nat) u => [.slice A l.length cp, str [13, 10], u 2, u 3, u 4, u 5, u 6, u 7, u 8, u 9, u 10, u 11, .int .i64 (k : Nat), u 13, u 14, u 15, u 16, u 17, u 18, u 19, u 20, u 21, u 22, u 23, u 24, u 25, u 26, u 27, u 28, u 29, u 30, u 31, u 32, u 33, u 34, u 35, u 36, u 37, u 38, u 39, u 40, u 41, u 42, u 43, u 44, u 45, u 46, u 47, u 48, u 49, u 50, u 51, u 52, u 53, u 54, u 55, u 56, u 57, u 58, u 59, u 60, u 61, u 62, u 63, u 64, u 65, u 66, u 67, u 68, u 69, u 70, u 71, u 72, u 73, u 74, u 75, u 76, u 77, u 78, u 79, u 80, u 81, u 82, u 83, u 84, u 85, u 86, u 87, u 88, u 89, u 90, u 91, u 92, u 93, u 94, u 95, u 96, u 97, u 98, u 99, u 100, u 101, u 102, u 103, u 104, u 105, u 106, u 107, u 108, u 109, u 110, u 111, u 112, u 113, u 114, u 115, u 116, u 117, u 118, u 119, u 120, u 121, u 122, u 123, u 124, u 125, u 126, u 127, u 128]) (fun _ => []) (fun k => k ≤ l.length ∧ ∀ j (hj : j < l.length), j < k → l[j].toNat ≠ 10 ∧ l[j].toNat ≠ 13) (fun k => l.length - k) 0 ⟨Nat.zero_le _, fun _ _ h => absurd h (by omega)⟩ rfl (by repeat' (first | exact List.Sublist.refl _ | exact List.nil_sublist _ | apply List.Sublist.cons_cons | apply List.Sublist.cons)) ?_
    rintro k u ⟨hk, hI⟩
    dsimp only
    (conv => whnf); repeat ((first | refine tk1 ?_ | refine tk2 ?_ | refine tk3 ?_ | refine tk12 (fun _ => ?_) | refine tk4 ?_ | refine tk5 ?_ | refine tk6 ?_ | refine tk7 ?_ | refine tk8 ?_ | refine tk9 ?_ | refine tk10 (fun _ _ => ?_) | refine tk11 (fun _ => ?_) | refine tk13 ?_ | refine tk14 ?_); (conv => whnf))
    refine Cmp.cases (fun hlt => ?_) (fun hlt => ?_)
    rotate_left
    · (conv => whnf); repeat ((first | refine tk1 ?_ | refine tk2 ?_ | refine tk3 ?_ | refine tk12 (fun _ => ?_) | refine tk4 ?_ | refine tk5 ?_ | refine tk6 ?_ | refine tk7 ?_ | refine tk8 ?_ | refine tk9 ?_ | refine tk10 (fun _ _ => ?_) | refine tk11 (fun _ => ?_) | refine tk13 ?_ | refine tk14 ?_); (conv => whnf))
      exact fun w' _ => mis (fun j hj => hI j hj (by omega)) w'
    have hlt' : k < l.length := by omega
    obtain ⟨x, hx⟩ : ∃ x, l[k] = x := ⟨_, rfl⟩
    have hxt := x.toNat_lt
    (conv => whnf); repeat ((first | refine tk1 ?_ | refine tk2 ?_ | refine tk3 ?_ | refine tk12 (fun _ => ?_) | refine tk4 ?_ | refine tk5 ?_ | refine tk6 ?_ | refine tk7 ?_ | refine tk8 ?_ | refine tk9 ?_ | refine tk10 (fun _ _ => ?_) | refine tk11 (fun _ => ?_) | refine tk13 ?_ | refine tk14 ?_); (conv => whnf))
    refine IdxA.tc (xs := l.map byteV) (by simp; omega) (by omega) (by omega) ?_
    (conv => whnf); repeat ((first | refine tk1 ?_ | refine tk2 ?_ | refine tk3 ?_ | refine tk12 (fun _ => ?_) | refine tk4 ?_ | refine tk5 ?_ | refine tk6 ?_ | refine tk7 ?_ | refine tk8 ?_ | refine tk9 ?_ | refine tk10 (fun _ _ => ?_) | refine tk11 (fun _ => ?_) | refine tk13 ?_ | refine tk14 ?_); (conv => whnf))
    refine Ld.ta (xs := l.map byteV) (v := .int .u8 x.toNat) (by simp [hlt', hx, byteV]) ?_
    (conv => whnf); repeat ((first | refine tk1 ?_ | refine tk2 ?_ | refine tk3 ?_ | refine tk12 (fun _ => ?_) | refine tk4 ?_ | refine tk5 ?_ | refine tk6 ?_ | refine tk7 ?_ | refine tk8 ?_ | refine tk9 ?_ | refine tk10 (fun _ _ => ?_) | refine tk11 (fun _ => ?_) | refine tk13 ?_ | refine tk14 ?_); (conv => whnf))
    refine Ar.in32 (by omega) (by omega) ?_
    (conv => whnf); repeat ((first | refine tk1 ?_ | refine tk2 ?_ | refine tk3 ?_ | refine tk12 (fun _ => ?_) | refine tk4 ?_ | refine tk5 ?_ | refine tk6 ?_ | refine tk7 ?_ | refine tk8 ?_ | refine tk9 ?_ | refine tk10 (fun _ _ => ?_) | refine tk11 (fun _ => ?_) | refine tk13 ?_ | refine tk14 ?_); (conv => whnf))
    refine Cmp.cases (fun h128 => ?_) (fun h128 => ?_)
    · (conv => whnf); repeat ((first | refine tk1 ?_ | refine tk2 ?_ | refine tk3 ?_ | refine tk12 (fun _ => ?_) | refine tk4 ?_ | refine tk5 ?_ | refine tk6 ?_ | refine tk7 ?_ | refine tk8 ?_ | refine tk9 ?_ | refine tk10 (fun _ _ => ?_) | refine tk11 (fun _ => ?_) | refine tk13 ?_ | refine tk14 ?_); (conv => whnf))
      refine IdxA.tc (xs := l.map byteV) (by simp; omega) (by omega) (by omega) ?_
      (conv => whnf); repeat ((first | refine tk1 ?_ | refine tk2 ?_ | refine tk3 ?_ | refine tk12 (fun _ => ?_) | refine tk4 ?_ | refine tk5 ?_ | refine tk6 ?_ | refine tk7 ?_ | refine tk8 ?_ | refine tk9 ?_ | refine tk10 (fun _ _ => ?_) | refine tk11 (fun _ => ?_) | refine tk13 ?_ | refine tk14 ?_); (conv => whnf))
      refine Ld.ta (xs := l.map byteV) (v := .int .u8 x.toNat) (by simp [hlt', hx, byteV]) ?_
      (conv => whnf); repeat ((first | refine tk1 ?_ | refine tk2 ?_ | refine tk3 ?_ | refine tk12 (fun _ => ?_) | refine tk4 ?_ | refine tk5 ?_ | refine tk6 ?_ | refine tk7 ?_ | refine tk8 ?_ | refine tk9 ?_ | refine tk10 (fun _ _ => ?_) | refine tk11 (fun _ => ?_) | refine tk13 ?_ | refine tk14 ?_); (conv => whnf))
      refine ibs_k rfl [13, 10] x ?_
      have hi := idx_crlf x
      generalize Lib.indexByte [13, 10] x = ix at hi
      (conv => whnf); repeat ((first | refine tk1 ?_ | refine tk2 ?_ | refine tk3 ?_ | refine tk12 (fun _ => ?_) | refine tk4 ?_ | refine tk5 ?_ | refine tk6 ?_ | refine tk7 ?_ | refine tk8 ?_ | refine tk9 ?_ | refine tk10 (fun _ _ => ?_) | refine tk11 (fun _ => ?_) | refine tk13 ?_ | refine tk14 ?_); (conv => whnf))
      refine Cmp.cases (fun h3 => ?_) (fun h3 => ?_)
      · (conv => whnf); repeat ((first | refine tk1 ?_ | refine tk2 ?_ | refine tk3 ?_ | refine tk12 (fun _ => ?_) | refine tk4 ?_ | refine tk5 ?_ | refine tk6 ?_ | refine tk7 ?_ | refine tk8 ?_ | refine tk9 ?_ | refine tk10 (fun _ _ => ?_) | refine tk11 (fun _ => ?_) | refine tk13 ?_ | refine tk14 ?_); (conv => whnf))
        exact fun w' _ => hit k hlt' (fun j hj e => by subst e; rw [hx]; exact hi.1 h3) w'
      · (conv => whnf); repeat ((first | refine tk1 ?_ | refine tk2 ?_ | refine tk3 ?_ | refine tk12 (fun _ => ?_) | refine tk4 ?_ | refine tk5 ?_ | refine tk6 ?_ | refine tk7 ?_ | refine tk8 ?_ | refine tk9 ?_ | refine tk10 (fun _ _ => ?_) | refine tk11 (fun _ => ?_) | refine tk13 ?_ | refine tk14 ?_); (conv => whnf))
        exact ⟨k + 1, ⟨by omega, fun j hj hjk => by
          rcases (show j < k ∨ j = k by omega) with h | rfl
          · exact hI j hj h
          · rw [hx]; omega⟩, rfl, (by repeat' (first | exact List.Sublist.refl _ | exact List.nil_sublist _ | apply List.Sublist.cons_cons | apply List.Sublist.cons)), by dsimp only; omega⟩
    · have hdl : 0 < (l.drop k).length := by rw [List.length_drop]; omega
      have hd0 : (l.drop k)[0] = x := by simp [hx]
      obtain ⟨r, wd, hdec, hw1, hw2, hhi, hr0, hr⟩ := dec_high (l.drop k) hdl (by rw [hd0]; omega)
      have hstep : ∀ j (hj : j < l.length), j < k + wd → l[j].toNat ≠ 10 ∧ l[j].toNat ≠ 13 := fun j hj hjk => by
        rcases (show j < k ∨ k ≤ j by omega) with h | h
        · exact hI j hj h
        · have := hhi (j - k) (by rw [List.length_drop]; omega) (by omega)
          simp only [List.getElem_drop, show k + (j - k) = j by omega] at this
          omega
      rw [List.length_drop] at hw2
      (conv => whnf); repeat ((first | refine tk1 ?_ | refine tk2 ?_ | refine tk3 ?_ | refine tk12 (fun _ => ?_) | refine tk4 ?_ | refine tk5 ?_ | refine tk6 ?_ | refine tk7 ?_ | refine tk8 ?_ | refine tk9 ?_ | refine tk10 (fun _ _ => ?_) | refine tk11 (fun _ => ?_) | refine tk13 ?_ | refine tk14 ?_); (conv => whnf))
      refine SlcV.from (by omega) (by omega) ?_
      have hp := fun H => RdS.piece (cp := cp) (sz := 1) (lo := (k : Int)) (hR H).ok (by omega) (fun e => by omega)
      have hd : (l.map byteV).drop ((k : Int).toNat * 1) = (l.drop k).map byteV := by rw [Int.toNat_natCast, Nat.mul_one, List.map_drop]
      rw [hd] at hp
      rw [show l.length - (k : Int).toNat = (l.drop k).length by rw [List.length_drop]; omega]
      (conv => whnf); repeat ((first | refine tk1 ?_ | refine tk2 ?_ | refine tk3 ?_ | refine tk12 (fun _ => ?_) | refine tk4 ?_ | refine tk5 ?_ | refine tk6 ?_ | refine tk7 ?_ | refine tk8 ?_ | refine tk9 ?_ | refine tk10 (fun _ _ => ?_) | refine tk11 (fun _ => ?_) | refine tk13 ?_ | refine tk14 ?_); (conv => whnf))
      refine CallK.fnR (DecodeRune_f _ _ (l.drop k) hdl) ⟨hp _, trivial⟩ ?_
      rw [hdec]
      dsimp only
      have hw64 : wd ≤ 1000000000 := by omega
      (conv => whnf); repeat ((first | refine tk1 ?_ | refine tk2 ?_ | refine tk3 ?_ | refine tk12 (fun _ => ?_) | refine tk4 ?_ | refine tk5 ?_ | refine tk6 ?_ | refine tk7 ?_ | refine tk8 ?_ | refine tk9 ?_ | refine tk10 (fun _ _ => ?_) | refine tk11 (fun _ => ?_) | refine tk13 ?_ | refine tk14 ?_); (conv => whnf))
      rcases hr with hr | ⟨hr, hr2, hr3, hr4, hr5⟩
      rotate_left
      · refine Cmp.t (by omega) ?_
        (conv => whnf); repeat ((first | refine tk1 ?_ | refine tk2 ?_ | refine tk3 ?_ | refine tk12 (fun _ => ?_) | refine tk4 ?_ | refine tk5 ?_ | refine tk6 ?_ | refine tk7 ?_ | refine tk8 ?_ | refine tk9 ?_ | refine tk10 (fun _ _ => ?_) | refine tk11 (fun _ => ?_) | refine tk13 ?_ | refine tk14 ?_); (conv => whnf))
        have hnx : ∀ j (hj : j < l.length), j < k + wd → l[j].toNat ≠ 10 ∧ l[j].toNat ≠ 13 := hstep
        by_cases hw : wd = 2
        · refine Cmp.t (by show (2 : Int) = wd; omega) ?_
          (conv => whnf); repeat ((first | refine tk1 ?_ | refine tk2 ?_ | refine tk3 ?_ | refine tk12 (fun _ => ?_) | refine tk4 ?_ | refine tk5 ?_ | refine tk6 ?_ | refine tk7 ?_ | refine tk8 ?_ | refine tk9 ?_ | refine tk10 (fun _ _ => ?_) | refine tk11 (fun _ => ?_) | refine tk13 ?_ | refine tk14 ?_); (conv => whnf))
          refine OthP.rune tys_ok (fun h => nomatch h) rfl rfl ?_
          (conv => whnf); repeat ((first | refine tk1 ?_ | refine tk2 ?_ | refine tk3 ?_ | refine tk12 (fun _ => ?_) | refine tk4 ?_ | refine tk5 ?_ | refine tk6 ?_ | refine tk7 ?_ | refine tk8 ?_ | refine tk9 ?_ | refine tk10 (fun _ _ => ?_) | refine tk11 (fun _ => ?_) | refine tk13 ?_ | refine tk14 ?_); (conv => whnf))
          refine Cmp.f (enc_ne r hr2 (hr5 hw)) ?_
          (conv => whnf); repeat ((first | refine tk1 ?_ | refine tk2 ?_ | refine tk3 ?_ | refine tk12 (fun _ => ?_) | refine tk4 ?_ | refine tk5 ?_ | refine tk6 ?_ | refine tk7 ?_ | refine tk8 ?_ | refine tk9 ?_ | refine tk10 (fun _ _ => ?_) | refine tk11 (fun _ => ?_) | refine tk13 ?_ | refine tk14 ?_); (conv => whnf))
          exact ⟨k + wd, ⟨by omega, hnx⟩, rfl, (by repeat' (first | exact List.Sublist.refl _ | exact List.nil_sublist _ | apply List.Sublist.cons_cons | apply List.Sublist.cons)), by dsimp only; omega⟩
        · refine Cmp.f (by show ¬ (2 : Int) = wd; omega) ?_
          (conv => whnf); repeat ((first | refine tk1 ?_ | refine tk2 ?_ | refine tk3 ?_ | refine tk12 (fun _ => ?_) | refine tk4 ?_ | refine tk5 ?_ | refine tk6 ?_ | refine tk7 ?_ | refine tk8 ?_ | refine tk9 ?_ | refine tk10 (fun _ _ => ?_) | refine tk11 (fun _ => ?_) | refine tk13 ?_ | refine tk14 ?_); (conv => whnf))
          refine Ld.old hmx (by simp) ?_
          (conv => whnf); repeat ((first | refine tk1 ?_ | refine tk2 ?_ | refine tk3 ?_ | refine tk12 (fun _ => ?_) | refine tk4 ?_ | refine tk5 ?_ | refine tk6 ?_ | refine tk7 ?_ | refine tk8 ?_ | refine tk9 ?_ | refine tk10 (fun _ _ => ?_) | refine tk11 (fun _ => ?_) | refine tk13 ?_ | refine tk14 ?_); (conv => whnf))
          refine Cmp.cases (fun hm => ?_) (fun hm => ?_)
          · (conv => whnf); repeat ((first | refine tk1 ?_ | refine tk2 ?_ | refine tk3 ?_ | refine tk12 (fun _ => ?_) | refine tk4 ?_ | refine tk5 ?_ | refine tk6 ?_ | refine tk7 ?_ | refine tk8 ?_ | refine tk9 ?_ | refine tk10 (fun _ _ => ?_) | refine tk11 (fun _ => ?_) | refine tk13 ?_ | refine tk14 ?_); (conv => whnf))
            refine OthP.rune tys_ok (fun h => nomatch h) rfl rfl ?_
            have hsz : (Utf8.encode (r : Int)).data.toList.length = wd := by rw [size_len, hr4]
            (conv => whnf); repeat ((first | refine tk1 ?_ | refine tk2 ?_ | refine tk3 ?_ | refine tk12 (fun _ => ?_) | refine tk4 ?_ | refine tk5 ?_ | refine tk6 ?_ | refine tk7 ?_ | refine tk8 ?_ | refine tk9 ?_ | refine tk10 (fun _ _ => ?_) | refine tk11 (fun _ => ?_) | refine tk13 ?_ | refine tk14 ?_); (conv => whnf))
            refine is_k rfl hmx rfl [13, 10] _ (by rw [hsz]; omega) (by rw [hsz]; omega) (by decide) ?_
            rw [index_long [13, 10] _ (by rw [hsz]; show 2 < wd; omega)]
            (conv => whnf); repeat ((first | refine tk1 ?_ | refine tk2 ?_ | refine tk3 ?_ | refine tk12 (fun _ => ?_) | refine tk4 ?_ | refine tk5 ?_ | refine tk6 ?_ | refine tk7 ?_ | refine tk8 ?_ | refine tk9 ?_ | refine tk10 (fun _ _ => ?_) | refine tk11 (fun _ => ?_) | refine tk13 ?_ | refine tk14 ?_); (conv => whnf))
            exact ⟨k + wd, ⟨by omega, hnx⟩, rfl, (by repeat' (first | exact List.Sublist.refl _ | exact List.nil_sublist _ | apply List.Sublist.cons_cons | apply List.Sublist.cons)), by dsimp only; omega⟩
          · (conv => whnf); repeat ((first | refine tk1 ?_ | refine tk2 ?_ | refine tk3 ?_ | refine tk12 (fun _ => ?_) | refine tk4 ?_ | refine tk5 ?_ | refine tk6 ?_ | refine tk7 ?_ | refine tk8 ?_ | refine tk9 ?_ | refine tk10 (fun _ _ => ?_) | refine tk11 (fun _ => ?_) | refine tk13 ?_ | refine tk14 ?_); (conv => whnf))
            refine Oth.rangeS tys_ok rfl rfl (fun it => ?_)
            have hne : (r : Int) ≠ 13 ∧ (r : Int) ≠ 10 := by omega
            (conv => whnf); repeat ((first | refine tk1 ?_ | refine tk2 ?_ | refine tk3 ?_ | refine tk12 (fun _ => ?_) | refine tk4 ?_ | refine tk5 ?_ | refine tk6 ?_ | refine tk7 ?_ | refine tk8 ?_ | refine tk9 ?_ | refine tk10 (fun _ _ => ?_) | refine tk11 (fun _ => ?_) | refine tk13 ?_ | refine tk14 ?_); (conv => whnf))
            refine LoopS.lp tys_ok (fun (p : Nat) u => [.slice A l.length cp, str [13, 10], u 2, u 3, u 4, u 5, u 6, u 7, u 8, u 9, u 10, .int .i64 (wd : Nat), .int .i64 (k : Nat), .int .i32 (r : Nat), u 14, u 15, u 16, u 17, u 18, u 19, u 20, u 21, u 22, u 23, u 24, u 25, u 26, u 27, u 28, u 29, u 30, u 31, u 32, u 33, u 34, u 35, u 36, u 37, u 38, u 39, u 40, u 41, u 42, u 43, u 44, u 45, u 46, u 47, u 48, u 49, u 50, u 51, u 52, u 53, u 54, u 55, u 56, u 57, u 58, u 59, u 60, u 61, u 62, u 63, u 64, u 65, u 66, u 67, u 68, u 69, u 70, u 71, u 72, u 73, u 74, u 75, u 76, u 77, u 78, u 79, u 80, u 81, u 82, u 83, u 84, u 85, u 86, u 87, u 88, u 89, u 90, u 91, u 92, u 93, u 94, u 95, u 96, u 97, u 98, u 99, u 100, u 101, u 102, u 103, u 104, u 105, u 106, u 107, u 108, u 109, u 110, u 111, u 112, u 113, u 114, u 115, u 116, u 117, u 118, u 119, u 120, .pointer (some ⟨it, 0, none⟩), u 122, u 123, u 124, u 125, u 126, u 127, u 128]) (fun p => [.obj it (.stringIter ⟨⟨[13, 10]⟩⟩ p)]) (fun p => p ≤ 2) (fun p => 2 - p) 0 (by decide) rfl (by repeat' (first | exact List.Sublist.refl _ | exact List.nil_sublist _ | apply List.Sublist.cons_cons | apply List.Sublist.cons)) ?_
            intro p u hp
            (conv => whnf); repeat ((first | refine tk1 ?_ | refine tk2 ?_ | refine tk3 ?_ | refine tk12 (fun _ => ?_) | refine tk4 ?_ | refine tk5 ?_ | refine tk6 ?_ | refine tk7 ?_ | refine tk8 ?_ | refine tk9 ?_ | refine tk10 (fun _ _ => ?_) | refine tk11 (fun _ => ?_) | refine tk13 ?_ | refine tk14 ?_); (conv => whnf))
            have hp3 : p = 0 ∨ p = 1 ∨ p = 2 := by omega
            rcases hp3 with rfl | rfl | rfl
            · refine Oth.nextS (s := ⟨⟨[13, 10]⟩⟩) (p := 0) rfl (by decide) ?_
              rw [show Utf8.decode ⟨⟨[13, 10]⟩⟩ 0 = (13, 1) by rfl]
              (conv => whnf); repeat ((first | refine tk1 ?_ | refine tk2 ?_ | refine tk3 ?_ | refine tk12 (fun _ => ?_) | refine tk4 ?_ | refine tk5 ?_ | refine tk6 ?_ | refine tk7 ?_ | refine tk8 ?_ | refine tk9 ?_ | refine tk10 (fun _ _ => ?_) | refine tk11 (fun _ => ?_) | refine tk13 ?_ | refine tk14 ?_); (conv => whnf))
              exact ⟨1, by decide, rfl, (by repeat' (first | exact List.Sublist.refl _ | exact List.nil_sublist _ | apply List.Sublist.cons_cons | apply List.Sublist.cons)), by dsimp only; omega⟩
            · refine Oth.nextS (s := ⟨⟨[13, 10]⟩⟩) (p := 1) rfl (by decide) ?_
              rw [show Utf8.decode ⟨⟨[13, 10]⟩⟩ 1 = (10, 1) by rfl]
              (conv => whnf); repeat ((first | refine tk1 ?_ | refine tk2 ?_ | refine tk3 ?_ | refine tk12 (fun _ => ?_) | refine tk4 ?_ | refine tk5 ?_ | refine tk6 ?_ | refine tk7 ?_ | refine tk8 ?_ | refine tk9 ?_ | refine tk10 (fun _ _ => ?_) | refine tk11 (fun _ => ?_) | refine tk13 ?_ | refine tk14 ?_); (conv => whnf))
              exact ⟨2, by decide, rfl, (by repeat' (first | exact List.Sublist.refl _ | exact List.nil_sublist _ | apply List.Sublist.cons_cons | apply List.Sublist.cons)), by dsimp only; omega⟩
            · refine Oth.nextE (s := ⟨⟨[13, 10]⟩⟩) (p := 2) rfl (by decide) ?_
              (conv => whnf); repeat ((first | refine tk1 ?_ | refine tk2 ?_ | refine tk3 ?_ | refine tk12 (fun _ => ?_) | refine tk4 ?_ | refine tk5 ?_ | refine tk6 ?_ | refine tk7 ?_ | refine tk8 ?_ | refine tk9 ?_ | refine tk10 (fun _ _ => ?_) | refine tk11 (fun _ => ?_) | refine tk13 ?_ | refine tk14 ?_); (conv => whnf))
              exact ⟨k + wd, ⟨by omega, hnx⟩, rfl, (by repeat' (first | exact List.Sublist.refl _ | exact List.nil_sublist _ | apply List.Sublist.cons_cons | apply List.Sublist.cons)), by dsimp only; omega⟩
      · refine Cmp.f (by omega) ?_
        (conv => whnf); repeat ((first | refine tk1 ?_ | refine tk2 ?_ | refine tk3 ?_ | refine tk12 (fun _ => ?_) | refine tk4 ?_ | refine tk5 ?_ | refine tk6 ?_ | refine tk7 ?_ | refine tk8 ?_ | refine tk9 ?_ | refine tk10 (fun _ _ => ?_) | refine tk11 (fun _ => ?_) | refine tk13 ?_ | refine tk14 ?_); (conv => whnf))
        refine Oth.rangeS tys_ok rfl rfl (fun it => ?_)
        have hne : (r : Int) ≠ 13 ∧ (r : Int) ≠ 10 := by omega
        have hnx : ∀ j (hj : j < l.length), j < k + wd → l[j].toNat ≠ 10 ∧ l[j].toNat ≠ 13 := hstep
        (conv => whnf); repeat ((first | refine tk1 ?_ | refine tk2 ?_ | refine tk3 ?_ | refine tk12 (fun _ => ?_) | refine tk4 ?_ | refine tk5 ?_ | refine tk6 ?_ | refine tk7 ?_ | refine tk8 ?_ | refine tk9 ?_ | refine tk10 (fun _ _ => ?_) | refine tk11 (fun _ => ?_) | refine tk13 ?_ | refine tk14 ?_); (conv => whnf))
        refine LoopS.lp tys_ok (fun (p : Nat) u => [.slice A l.length cp, str [13, 10], u 2, u 3, u 4, u 5, u 6, u 7, u 8, u 9, u 10, .int .i64 (wd : Nat), .int .i64 (k : Nat), .int .i32 (r : Nat), u 14, u 15, u 16, u 17, u 18, u 19, u 20, u 21, u 22, u 23, u 24, u 25, u 26, u 27, u 28, u 29, u 30, u 31, u 32, u 33, u 34, u 35, u 36, u 37, u 38, u 39, u 40, u 41, u 42, u 43, u 44, u 45, u 46, u 47, u 48, u 49, u 50, u 51, u 52, u 53, u 54, u 55, u 56, u 57, u 58, u 59, u 60, u 61, u 62, u 63, u 64, u 65, u 66, u 67, u 68, u 69, u 70, u 71, u 72, u 73, u 74, u 75, u 76, u 77, u 78, u 79, u 80, u 81, u 82, u 83, u 84, u 85, u 86, u 87, u 88, u 89, u 90, u 91, u 92, u 93, u 94, u 95, u 96, u 97, u 98, u 99, u 100, u 101, u 102, u 103, u 104, u 105, u 106, u 107, u 108, u 109, u 110, u 111, u 112, u 113, u 114, u 115, u 116, u 117, u 118, u 119, u 120, .pointer (some ⟨it, 0, none⟩), u 122, u 123, u 124, u 125, u 126, u 127, u 128]) (fun p => [.obj it (.stringIter ⟨⟨[13, 10]⟩⟩ p)]) (fun p => p ≤ 2) (fun p => 2 - p) 0 (by decide) rfl (by repeat' (first | exact List.Sublist.refl _ | exact List.nil_sublist _ | apply List.Sublist.cons_cons | apply List.Sublist.cons)) ?_
        intro p u hp
        (conv => whnf); repeat ((first | refine tk1 ?_ | refine tk2 ?_ | refine tk3 ?_ | refine tk12 (fun _ => ?_) | refine tk4 ?_ | refine tk5 ?_ | refine tk6 ?_ | refine tk7 ?_ | refine tk8 ?_ | refine tk9 ?_ | refine tk10 (fun _ _ => ?_) | refine tk11 (fun _ => ?_) | refine tk13 ?_ | refine tk14 ?_); (conv => whnf))
        have hp3 : p = 0 ∨ p = 1 ∨ p = 2 := by omega
        rcases hp3 with rfl | rfl | rfl
        · refine Oth.nextS (s := ⟨⟨[13, 10]⟩⟩) (p := 0) rfl (by decide) ?_
          rw [show Utf8.decode ⟨⟨[13, 10]⟩⟩ 0 = (13, 1) by rfl]
          (conv => whnf); repeat ((first | refine tk1 ?_ | refine tk2 ?_ | refine tk3 ?_ | refine tk12 (fun _ => ?_) | refine tk4 ?_ | refine tk5 ?_ | refine tk6 ?_ | refine tk7 ?_ | refine tk8 ?_ | refine tk9 ?_ | refine tk10 (fun _ _ => ?_) | refine tk11 (fun _ => ?_) | refine tk13 ?_ | refine tk14 ?_); (conv => whnf))
          exact ⟨1, by decide, rfl, (by repeat' (first | exact List.Sublist.refl _ | exact List.nil_sublist _ | apply List.Sublist.cons_cons | apply List.Sublist.cons)), by dsimp only; omega⟩
        · refine Oth.nextS (s := ⟨⟨[13, 10]⟩⟩) (p := 1) rfl (by decide) ?_
          rw [show Utf8.decode ⟨⟨[13, 10]⟩⟩ 1 = (10, 1) by rfl]
          (conv => whnf); repeat ((first | refine tk1 ?_ | refine tk2 ?_ | refine tk3 ?_ | refine tk12 (fun _ => ?_) | refine tk4 ?_ | refine tk5 ?_ | refine tk6 ?_ | refine tk7 ?_ | refine tk8 ?_ | refine tk9 ?_ | refine tk10 (fun _ _ => ?_) | refine tk11 (fun _ => ?_) | refine tk13 ?_ | refine tk14 ?_); (conv => whnf))
          exact ⟨2, by decide, rfl, (by repeat' (first | exact List.Sublist.refl _ | exact List.nil_sublist _ | apply List.Sublist.cons_cons | apply List.Sublist.cons)), by dsimp only; omega⟩
        · refine Oth.nextE (s := ⟨⟨[13, 10]⟩⟩) (p := 2) rfl (by decide) ?_
          (conv => whnf); repeat ((first | refine tk1 ?_ | refine tk2 ?_ | refine tk3 ?_ | refine tk12 (fun _ => ?_) | refine tk4 ?_ | refine tk5 ?_ | refine tk6 ?_ | refine tk7 ?_ | refine tk8 ?_ | refine tk9 ?_ | refine tk10 (fun _ _ => ?_) | refine tk11 (fun _ => ?_) | refine tk13 ?_ | refine tk14 ?_); (conv => whnf))
          exact ⟨k + wd, ⟨by omega, hnx⟩, rfl, (by repeat' (first | exact List.Sublist.refl _ | exact List.nil_sublist _ | apply List.Sublist.cons_cons | apply List.Sublist.cons)), by dsimp only; omega⟩
end Go.Proofs.YtbgnogdlkmhnkaaGreatDoor.Vex
