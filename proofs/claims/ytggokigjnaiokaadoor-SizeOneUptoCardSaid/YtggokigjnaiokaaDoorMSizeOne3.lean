/- The program's functions on fields, reckoned. -/
import Derived.Test.YtggokigjnaiokaaDoorMSizeOne2
import Derived.Test.YtggokigjnaiokaaDoorRows
import Derived.Lib.LaidU8
import Derived.LaidLaws
import Derived.MakeChecks
import Derived.Lib.Atoi
import Derived.Lib.ItoaNum
namespace Go.Proofs.YtggokigjnaiokaaDoor.Vex
open Go Go.RowKit
set_option maxRecDepth 100000
set_option linter.unusedSectionVars false
variable {gI : GI} [HasMax gI]

theorem small_f (x : Int) : Fn Tryd.prog gI 98 [.int .u8 x] (.bool (smallI x)) := by
  refine Fn.of tys_ok Tryd.func98 rfl (by kernel_rfl) rfl rfl ?_; intro w hG
  repeat' ((conv => whnf); first | (first | refine tk1 ?_ | refine tk2 ?_ | refine tk3 ?_ | refine tk12 (fun _ => ?_) | refine tk4 ?_ | refine tk5 ?_ | refine tk6 ?_ | refine tk7 ?_ | refine tk8 ?_ | refine tk9 ?_ | refine tk10 (fun _ _ => ?_) | refine tk11 (fun _ => ?_)) | refine Cmp.cases (fun _ => ?_) (fun _ => ?_)); all_goals (conv => whnf)
  all_goals first | rfl | (refine congrArg Value.bool ?_; first | (simp [smallI, *]; done) | (rw [Bool.eq_iff_iff]; simp [smallI]; omega) | (rw [Bool.eq_iff_iff]; simp [smallI, *]; done) | (rw [Bool.eq_iff_iff]; simp [smallI, *]; omega))
theorem great_f (x : Int) : Fn Tryd.prog gI 89 [.int .u8 x] (.bool (greatI x)) := by
  refine Fn.of tys_ok Tryd.func89 rfl (by kernel_rfl) rfl rfl ?_; intro w hG
  repeat' ((conv => whnf); first | (first | refine tk1 ?_ | refine tk2 ?_ | refine tk3 ?_ | refine tk12 (fun _ => ?_) | refine tk4 ?_ | refine tk5 ?_ | refine tk6 ?_ | refine tk7 ?_ | refine tk8 ?_ | refine tk9 ?_ | refine tk10 (fun _ _ => ?_) | refine tk11 (fun _ => ?_)) | refine Cmp.cases (fun _ => ?_) (fun _ => ?_)); all_goals (conv => whnf)
  all_goals first | rfl | (refine congrArg Value.bool ?_; first | (simp [greatI, *]; done) | (rw [Bool.eq_iff_iff]; simp [greatI]; omega) | (rw [Bool.eq_iff_iff]; simp [greatI, *]; done) | (rw [Bool.eq_iff_iff]; simp [greatI, *]; omega))
theorem Value1_f (x : Int) : Fn Tryd.prog gI 100 [.int .u8 x] (.bool (valI x)) := by
  refine Fn.of tys_ok Tryd.func100 rfl (by kernel_rfl) rfl rfl ?_; intro w hG
  repeat' ((conv => whnf); first | (first | refine tk1 ?_ | refine tk2 ?_ | refine tk3 ?_ | refine tk12 (fun _ => ?_) | refine tk4 ?_ | refine tk5 ?_ | refine tk6 ?_ | refine tk7 ?_ | refine tk8 ?_ | refine tk9 ?_ | refine tk10 (fun _ _ => ?_) | refine tk11 (fun _ => ?_)) | refine Cmp.cases (fun _ => ?_) (fun _ => ?_)); all_goals (conv => whnf)
  all_goals first | rfl | (refine congrArg Value.bool ?_; first | (simp [valI, *]; done) | (rw [Bool.eq_iff_iff]; simp [valI]; omega) | (rw [Bool.eq_iff_iff]; simp [valI, *]; done) | (rw [Bool.eq_iff_iff]; simp [valI, *]; omega))
theorem Token1_f (x : Int) (h0 : 0 ≤ x) (h1 : x ≤ 255) : Fn Tryd.prog gI 97 [.int .u8 x] (.bool (tokI x)) := by
  have hm := marks_index x h0 h1
  refine Fn.of tys_ok Tryd.func97 rfl (by kernel_rfl) rfl rfl ?_; intro w hG
  (conv => whnf); repeat ((first | refine tk1 ?_ | refine tk2 ?_ | refine tk3 ?_ | refine tk12 (fun _ => ?_) | refine tk4 ?_ | refine tk5 ?_ | refine tk6 ?_ | refine tk7 ?_ | refine tk8 ?_ | refine tk9 ?_ | refine tk10 (fun _ _ => ?_) | refine tk11 (fun _ => ?_)); (conv => whnf))
  refine CallK.fn (small_f _) ?_
  cases hs : smallI x
  · (conv => whnf); repeat ((first | refine tk1 ?_ | refine tk2 ?_ | refine tk3 ?_ | refine tk12 (fun _ => ?_) | refine tk4 ?_ | refine tk5 ?_ | refine tk6 ?_ | refine tk7 ?_ | refine tk8 ?_ | refine tk9 ?_ | refine tk10 (fun _ _ => ?_) | refine tk11 (fun _ => ?_)); (conv => whnf))
    refine CallK.fn (great_f _) ?_
    cases hg : greatI x
    · (conv => whnf); repeat ((first | refine tk1 ?_ | refine tk2 ?_ | refine tk3 ?_ | refine tk12 (fun _ => ?_) | refine tk4 ?_ | refine tk5 ?_ | refine tk6 ?_ | refine tk7 ?_ | refine tk8 ?_ | refine tk9 ?_ | refine tk10 (fun _ _ => ?_) | refine tk11 (fun _ => ?_)); (conv => whnf))
      refine CallK.fn (IndexByte_f _ _) ?_
      (conv => whnf); repeat ((first | refine tk1 ?_ | refine tk2 ?_ | refine tk3 ?_ | refine tk12 (fun _ => ?_) | refine tk4 ?_ | refine tk5 ?_ | refine tk6 ?_ | refine tk7 ?_ | refine tk8 ?_ | refine tk9 ?_ | refine tk10 (fun _ _ => ?_) | refine tk11 (fun _ => ?_)); (conv => whnf))
      refine Cmp.of (markI x) (by rw [← hm]; simp [marksL]) ?_
      (conv => whnf); repeat ((first | refine tk1 ?_ | refine tk2 ?_ | refine tk3 ?_ | refine tk12 (fun _ => ?_) | refine tk4 ?_ | refine tk5 ?_ | refine tk6 ?_ | refine tk7 ?_ | refine tk8 ?_ | refine tk9 ?_ | refine tk10 (fun _ _ => ?_) | refine tk11 (fun _ => ?_)); (conv => whnf))
      first | rfl | (refine congrArg Value.bool ?_; first | (simp [tokI, *]; done) | (rw [Bool.eq_iff_iff]; simp [tokI]; omega) | (rw [Bool.eq_iff_iff]; simp [tokI, *]; done) | (rw [Bool.eq_iff_iff]; simp [tokI, *]; omega))
    · (conv => whnf); repeat ((first | refine tk1 ?_ | refine tk2 ?_ | refine tk3 ?_ | refine tk12 (fun _ => ?_) | refine tk4 ?_ | refine tk5 ?_ | refine tk6 ?_ | refine tk7 ?_ | refine tk8 ?_ | refine tk9 ?_ | refine tk10 (fun _ _ => ?_) | refine tk11 (fun _ => ?_)); (conv => whnf))
      first | rfl | (refine congrArg Value.bool ?_; first | (simp [tokI, *]; done) | (rw [Bool.eq_iff_iff]; simp [tokI]; omega) | (rw [Bool.eq_iff_iff]; simp [tokI, *]; done) | (rw [Bool.eq_iff_iff]; simp [tokI, *]; omega))
  · (conv => whnf); repeat ((first | refine tk1 ?_ | refine tk2 ?_ | refine tk3 ?_ | refine tk12 (fun _ => ?_) | refine tk4 ?_ | refine tk5 ?_ | refine tk6 ?_ | refine tk7 ?_ | refine tk8 ?_ | refine tk9 ?_ | refine tk10 (fun _ _ => ?_) | refine tk11 (fun _ => ?_)); (conv => whnf))
    first | rfl | (refine congrArg Value.bool ?_; first | (simp [tokI, *]; done) | (rw [Bool.eq_iff_iff]; simp [tokI]; omega) | (rw [Bool.eq_iff_iff]; simp [tokI, *]; done) | (rw [Bool.eq_iff_iff]; simp [tokI, *]; omega))
theorem all_f (f : Nat) (p : Int → Bool) (hf : ∀ x, 0 ≤ x → x ≤ 255 → Fn Tryd.prog gI f [.int .u8 x] (.bool (p x))) (l : List UInt8) (hl : l.length ≤ 1000000000000) :
    Fn Tryd.prog gI 96 [str l, .func (.func f) #[] #[]] (.bool (l.all fun x => p x.toNat)) := by
  refine Fn.of tys_ok Tryd.func96 rfl (by kernel_rfl) rfl rfl ?_; intro w hG
  (conv => whnf); repeat ((first | refine tk1 ?_ | refine tk2 ?_ | refine tk3 ?_ | refine tk12 (fun _ => ?_) | refine tk4 ?_ | refine tk5 ?_ | refine tk6 ?_ | refine tk7 ?_ | refine tk8 ?_ | refine tk9 ?_ | refine tk10 (fun _ _ => ?_) | refine tk11 (fun _ => ?_)); (conv => whnf))
  refine LoopS.lp tys_ok (fun k u => [str l, .func (.func f) #[] #[], u 2, u 3, u 4, u 5, u 6, .int .i64 l.length, .int .i64 (k : Nat), u 9, u 10, u 11, u 12, u 13, u 14, u 15, u 16, u 17]) (fun _ => [])
    (fun k => k ≤ l.length ∧ (l.all fun x => p x.toNat) = ((l.drop k).all fun x => p x.toNat)) (fun k => l.length - k) 0 ⟨Nat.zero_le _, rfl⟩ rfl (by repeat' (first | exact List.Sublist.refl _ | exact List.nil_sublist _ | apply List.Sublist.cons_cons | apply List.Sublist.cons)) ?_
  intro k u ⟨hk, hI⟩
  (conv => whnf); repeat ((first | refine tk1 ?_ | refine tk2 ?_ | refine tk3 ?_ | refine tk12 (fun _ => ?_) | refine tk4 ?_ | refine tk5 ?_ | refine tk6 ?_ | refine tk7 ?_ | refine tk8 ?_ | refine tk9 ?_ | refine tk10 (fun _ _ => ?_) | refine tk11 (fun _ => ?_)); (conv => whnf))
  refine Cmp.cases (fun hlt => ?_) (fun hlt => ?_)
  · have hd : l.drop k = l[k]'(by omega) :: l.drop (k + 1) := List.drop_eq_getElem_cons (by omega)
    (conv => whnf); repeat ((first | refine tk1 ?_ | refine tk2 ?_ | refine tk3 ?_ | refine tk12 (fun _ => ?_) | refine tk4 ?_ | refine tk5 ?_ | refine tk6 ?_ | refine tk7 ?_ | refine tk8 ?_ | refine tk9 ?_ | refine tk10 (fun _ _ => ?_) | refine tk11 (fun _ => ?_)); (conv => whnf))
    refine IdxS.at (l[k]'(by omega)) (List.getElem?_eq_getElem _) (by omega) ?_
    (conv => whnf); repeat ((first | refine tk1 ?_ | refine tk2 ?_ | refine tk3 ?_ | refine tk12 (fun _ => ?_) | refine tk4 ?_ | refine tk5 ?_ | refine tk6 ?_ | refine tk7 ?_ | refine tk8 ?_ | refine tk9 ?_ | refine tk10 (fun _ _ => ?_) | refine tk11 (fun _ => ?_)); (conv => whnf))
    refine CallK.fn (hf _ (by omega) (by have := (l[k]'(by omega)).toNat_lt; omega)) ?_
    cases hq : p (l[k]'(by omega)).toNat
    · (conv => whnf); repeat ((first | refine tk1 ?_ | refine tk2 ?_ | refine tk3 ?_ | refine tk12 (fun _ => ?_) | refine tk4 ?_ | refine tk5 ?_ | refine tk6 ?_ | refine tk7 ?_ | refine tk8 ?_ | refine tk9 ?_ | refine tk10 (fun _ _ => ?_) | refine tk11 (fun _ => ?_)); (conv => whnf))
      rw [hI, hd, List.all_cons, hq]; rfl
    · (conv => whnf); repeat ((first | refine tk1 ?_ | refine tk2 ?_ | refine tk3 ?_ | refine tk12 (fun _ => ?_) | refine tk4 ?_ | refine tk5 ?_ | refine tk6 ?_ | refine tk7 ?_ | refine tk8 ?_ | refine tk9 ?_ | refine tk10 (fun _ _ => ?_) | refine tk11 (fun _ => ?_)); (conv => whnf))
      exact ⟨k + 1, ⟨by omega, by rw [hI, hd, List.all_cons, hq]; rfl⟩, rfl, (by repeat' (first | exact List.Sublist.refl _ | exact List.nil_sublist _ | apply List.Sublist.cons_cons | apply List.Sublist.cons)), by dsimp only; omega⟩
  · (conv => whnf); repeat ((first | refine tk1 ?_ | refine tk2 ?_ | refine tk3 ?_ | refine tk12 (fun _ => ?_) | refine tk4 ?_ | refine tk5 ?_ | refine tk6 ?_ | refine tk7 ?_ | refine tk8 ?_ | refine tk9 ?_ | refine tk10 (fun _ _ => ?_) | refine tk11 (fun _ => ?_)); (conv => whnf))
    rw [hI, List.drop_eq_nil_of_le (by omega)]
    rfl
theorem Token_f (l : List UInt8) (hl : l.length ≤ 1000000000000) : Fn Tryd.prog gI 66 [str l] (.bool (tokenOf l)) := by
  refine Fn.of tys_ok Tryd.func66 rfl (by kernel_rfl) rfl rfl ?_; intro w hG
  (conv => whnf); repeat ((first | refine tk1 ?_ | refine tk2 ?_ | refine tk3 ?_ | refine tk12 (fun _ => ?_) | refine tk4 ?_ | refine tk5 ?_ | refine tk6 ?_ | refine tk7 ?_ | refine tk8 ?_ | refine tk9 ?_ | refine tk10 (fun _ _ => ?_) | refine tk11 (fun _ => ?_)); (conv => whnf))
  refine Cmp.cases (fun h => ?_) (fun h => ?_)
  · (conv => whnf); repeat ((first | refine tk1 ?_ | refine tk2 ?_ | refine tk3 ?_ | refine tk12 (fun _ => ?_) | refine tk4 ?_ | refine tk5 ?_ | refine tk6 ?_ | refine tk7 ?_ | refine tk8 ?_ | refine tk9 ?_ | refine tk10 (fun _ _ => ?_) | refine tk11 (fun _ => ?_)); (conv => whnf))
    refine CallK.fn (all_f _ tokI Token1_f l hl) ?_
    (conv => whnf); repeat ((first | refine tk1 ?_ | refine tk2 ?_ | refine tk3 ?_ | refine tk12 (fun _ => ?_) | refine tk4 ?_ | refine tk5 ?_ | refine tk6 ?_ | refine tk7 ?_ | refine tk8 ?_ | refine tk9 ?_ | refine tk10 (fun _ _ => ?_) | refine tk11 (fun _ => ?_)); (conv => whnf))
    cases l with
    | nil => exact absurd rfl h
    | cons a r => rfl
  · (conv => whnf); repeat ((first | refine tk1 ?_ | refine tk2 ?_ | refine tk3 ?_ | refine tk12 (fun _ => ?_) | refine tk4 ?_ | refine tk5 ?_ | refine tk6 ?_ | refine tk7 ?_ | refine tk8 ?_ | refine tk9 ?_ | refine tk10 (fun _ _ => ?_) | refine tk11 (fun _ => ?_)); (conv => whnf))
    obtain rfl : l = [] := by simpa using h
    rfl
theorem Value_f (l : List UInt8) (hl : l.length ≤ 1000000000000) : Fn Tryd.prog gI 67 [str l] (.bool (valueOf l)) := by
  refine Fn.of tys_ok Tryd.func67 rfl (by kernel_rfl) rfl rfl ?_; intro w hG
  (conv => whnf); repeat ((first | refine tk1 ?_ | refine tk2 ?_ | refine tk3 ?_ | refine tk12 (fun _ => ?_) | refine tk4 ?_ | refine tk5 ?_ | refine tk6 ?_ | refine tk7 ?_ | refine tk8 ?_ | refine tk9 ?_ | refine tk10 (fun _ _ => ?_) | refine tk11 (fun _ => ?_)); (conv => whnf))
  refine CallK.fn (Trim_f l (by omega)) ?_
  (conv => whnf); repeat ((first | refine tk1 ?_ | refine tk2 ?_ | refine tk3 ?_ | refine tk12 (fun _ => ?_) | refine tk4 ?_ | refine tk5 ?_ | refine tk6 ?_ | refine tk7 ?_ | refine tk8 ?_ | refine tk9 ?_ | refine tk10 (fun _ _ => ?_) | refine tk11 (fun _ => ?_)); (conv => whnf))
  refine Cmp.cases (fun h => ?_) (fun h => ?_)
  · (conv => whnf); repeat ((first | refine tk1 ?_ | refine tk2 ?_ | refine tk3 ?_ | refine tk12 (fun _ => ?_) | refine tk4 ?_ | refine tk5 ?_ | refine tk6 ?_ | refine tk7 ?_ | refine tk8 ?_ | refine tk9 ?_ | refine tk10 (fun _ _ => ?_) | refine tk11 (fun _ => ?_)); (conv => whnf))
    refine CallK.fn (all_f _ valI (fun x _ _ => Value1_f x) l hl) ?_
    (conv => whnf); repeat ((first | refine tk1 ?_ | refine tk2 ?_ | refine tk3 ?_ | refine tk12 (fun _ => ?_) | refine tk4 ?_ | refine tk5 ?_ | refine tk6 ?_ | refine tk7 ?_ | refine tk8 ?_ | refine tk9 ?_ | refine tk10 (fun _ _ => ?_) | refine tk11 (fun _ => ?_)); (conv => whnf))
    simp [valueOf, h]
    rfl
  · (conv => whnf); repeat ((first | refine tk1 ?_ | refine tk2 ?_ | refine tk3 ?_ | refine tk12 (fun _ => ?_) | refine tk4 ?_ | refine tk5 ?_ | refine tk6 ?_ | refine tk7 ?_ | refine tk8 ?_ | refine tk9 ?_ | refine tk10 (fun _ _ => ?_) | refine tk11 (fun _ => ?_)); (conv => whnf))
    simp [valueOf, h]

/-- A text of which the first k letters have been made small. -/
theorem midl (l : List UInt8) (k : Nat) (h : k < l.length) : (mid l k)[k]? = some l[k] ∧ mid l (k + 1) = (mid l k).set k (lowB l[k]) :=
  ⟨mid_at ⟨⟨l⟩⟩ k h, mid_next ⟨⟨l⟩⟩ k h⟩
theorem byteV_map_set (l : List UInt8) (k : Nat) (x : UInt8) : (l.map byteV).set k (byteV x) = (l.set k x).map byteV := by rw [List.map_set]
theorem Small_f (l : List UInt8) (hl : l.length ≤ 140737488355328) : Fn Tryd.prog gI 59 [str l] (str (smallOf l)) := by
  refine Fn.of tys_ok Tryd.func59 rfl (by kernel_rfl) rfl rfl ?_; intro w hG
  (conv => whnf); repeat ((first | refine tk1 ?_ | refine tk2 ?_ | refine tk3 ?_ | refine tk12 (fun _ => ?_) | refine tk4 ?_ | refine tk5 ?_ | refine tk6 ?_ | refine tk7 ?_ | refine tk8 ?_ | refine tk9 ?_ | refine tk10 (fun _ _ => ?_) | refine tk11 (fun _ => ?_)); (conv => whnf))
  rename_i b cp
  refine LoopS.lp tys_ok (fun k u => [u 0, u 1, u 2, .slice (some ⟨b, 0, none⟩) l.length cp, u 4, u 5, u 6, u 7, .slice (some ⟨b, 0, none⟩) l.length cp, .int .i64 l.length, .int .i64 (k : Nat), u 11, u 12, u 13, u 14, u 15, u 16, u 17, u 18, u 19, u 20, u 21, u 22, u 23, u 24, u 25])
    (fun k => [.row (.slice (some ⟨b, 0, none⟩) l.length cp) 5 1 l.length ((mid l k).map byteV)]) (fun k => k ≤ l.length) (fun k => l.length - k) 0 (Nat.zero_le _) rfl (by repeat' (first | exact List.Sublist.refl _ | exact List.nil_sublist _ | apply List.Sublist.cons_cons | apply List.Sublist.cons)) ?_
  intro k u hk
  (conv => whnf); repeat ((first | refine tk1 ?_ | refine tk2 ?_ | refine tk3 ?_ | refine tk12 (fun _ => ?_) | refine tk4 ?_ | refine tk5 ?_ | refine tk6 ?_ | refine tk7 ?_ | refine tk8 ?_ | refine tk9 ?_ | refine tk10 (fun _ _ => ?_) | refine tk11 (fun _ => ?_)); (conv => whnf))
  refine Cmp.cases (fun hlt => ?_) (fun hlt => ?_)
  · have hlt' : k < l.length := by omega
    obtain ⟨m1, m2⟩ := midl l k hlt'
    (conv => whnf); repeat ((first | refine tk1 ?_ | refine tk2 ?_ | refine tk3 ?_ | refine tk12 (fun _ => ?_) | refine tk4 ?_ | refine tk5 ?_ | refine tk6 ?_ | refine tk7 ?_ | refine tk8 ?_ | refine tk9 ?_ | refine tk10 (fun _ _ => ?_) | refine tk11 (fun _ => ?_)); (conv => whnf))
    refine IdxA.rd (by repeat' (first | exact RdS.here | apply RdS.skip)) (by simp [mid_length]; omega) (by omega) (by omega) ?_
    (conv => whnf); repeat ((first | refine tk1 ?_ | refine tk2 ?_ | refine tk3 ?_ | refine tk12 (fun _ => ?_) | refine tk4 ?_ | refine tk5 ?_ | refine tk6 ?_ | refine tk7 ?_ | refine tk8 ?_ | refine tk9 ?_ | refine tk10 (fun _ _ => ?_) | refine tk11 (fun _ => ?_)); (conv => whnf))
    refine Ld.rd (by repeat' (first | exact RdS.here | apply RdS.skip)) (v := .int .u8 (l[k].toNat : Int)) (by simp [m1, byteV]) ?_
    (conv => whnf); repeat ((first | refine tk1 ?_ | refine tk2 ?_ | refine tk3 ?_ | refine tk12 (fun _ => ?_) | refine tk4 ?_ | refine tk5 ?_ | refine tk6 ?_ | refine tk7 ?_ | refine tk8 ?_ | refine tk9 ?_ | refine tk10 (fun _ _ => ?_) | refine tk11 (fun _ => ?_)); (conv => whnf))
    refine CallK.fn (great_f _) ?_
    cases hq : greatI l[k].toNat
    · have m3 : mid l (k + 1) = mid l k := mid_same ⟨⟨l⟩⟩ k hlt' hq
      (conv => whnf); repeat ((first | refine tk1 ?_ | refine tk2 ?_ | refine tk3 ?_ | refine tk12 (fun _ => ?_) | refine tk4 ?_ | refine tk5 ?_ | refine tk6 ?_ | refine tk7 ?_ | refine tk8 ?_ | refine tk9 ?_ | refine tk10 (fun _ _ => ?_) | refine tk11 (fun _ => ?_)); (conv => whnf))
      exact ⟨k + 1, by omega, rfl, by dsimp only; rw [m3]; exact List.Sublist.refl _, by dsimp only; omega⟩
    · have hg2 : 65 ≤ ((l[k].toNat : Nat) : Int) ∧ ((l[k].toNat : Nat) : Int) ≤ 90 := by simpa [greatI] using hq
      (conv => whnf); repeat ((first | refine tk1 ?_ | refine tk2 ?_ | refine tk3 ?_ | refine tk12 (fun _ => ?_) | refine tk4 ?_ | refine tk5 ?_ | refine tk6 ?_ | refine tk7 ?_ | refine tk8 ?_ | refine tk9 ?_ | refine tk10 (fun _ _ => ?_) | refine tk11 (fun _ => ?_)); (conv => whnf))
      refine Ar.in8 (by omega) (by omega) ?_
      (conv => whnf); repeat ((first | refine tk1 ?_ | refine tk2 ?_ | refine tk3 ?_ | refine tk12 (fun _ => ?_) | refine tk4 ?_ | refine tk5 ?_ | refine tk6 ?_ | refine tk7 ?_ | refine tk8 ?_ | refine tk9 ?_ | refine tk10 (fun _ _ => ?_) | refine tk11 (fun _ => ?_)); (conv => whnf))
      refine Ar.in8 (by omega) (by omega) ?_
      (conv => whnf); repeat ((first | refine tk1 ?_ | refine tk2 ?_ | refine tk3 ?_ | refine tk12 (fun _ => ?_) | refine tk4 ?_ | refine tk5 ?_ | refine tk6 ?_ | refine tk7 ?_ | refine tk8 ?_ | refine tk9 ?_ | refine tk10 (fun _ _ => ?_) | refine tk11 (fun _ => ?_)); (conv => whnf))
      refine IdxA.rd (by repeat' (first | exact RdS.here | apply RdS.skip)) (by simp [mid_length]; omega) (by omega) (by omega) ?_
      (conv => whnf)
      have hv : (Value.int .u8 (((l[k].toNat : Nat) : Int) + 97 - 65)) = byteV (lowB l[k]) := by
        unfold byteV
        rw [lowB_toNat, lowI, if_pos hq]
        congr 1; omega
      rw [hv]
      refine Sto.row (by simp [mid_length]; omega) rfl ?_
      (conv => whnf); repeat ((first | refine tk1 ?_ | refine tk2 ?_ | refine tk3 ?_ | refine tk12 (fun _ => ?_) | refine tk4 ?_ | refine tk5 ?_ | refine tk6 ?_ | refine tk7 ?_ | refine tk8 ?_ | refine tk9 ?_ | refine tk10 (fun _ _ => ?_) | refine tk11 (fun _ => ?_)); (conv => whnf))
      exact ⟨k + 1, by omega, rfl, by dsimp only; rw [m2, ← byteV_map_set, Int.toNat_natCast, Nat.mul_one]; exact List.Sublist.refl _, by dsimp only; omega⟩
  · have hk' : k = l.length := by omega
    subst hk'
    (conv => whnf); repeat ((first | refine tk1 ?_ | refine tk2 ?_ | refine tk3 ?_ | refine tk12 (fun _ => ?_) | refine tk4 ?_ | refine tk5 ?_ | refine tk6 ?_ | refine tk7 ?_ | refine tk8 ?_ | refine tk9 ?_ | refine tk10 (fun _ _ => ?_) | refine tk11 (fun _ => ?_)); (conv => whnf))
    refine B2S.rd (by repeat' (first | exact RdS.here | apply RdS.skip)) (mid_length _ _) ?_
    (conv => whnf); repeat ((first | refine tk1 ?_ | refine tk2 ?_ | refine tk3 ?_ | refine tk12 (fun _ => ?_) | refine tk4 ?_ | refine tk5 ?_ | refine tk6 ?_ | refine tk7 ?_ | refine tk8 ?_ | refine tk9 ?_ | refine tk10 (fun _ _ => ?_) | refine tk11 (fun _ => ?_)); (conv => whnf))
    unfold mid
    simp

theorem Check_f (n v : List UInt8) (hn : n.length ≤ 1000000000000) : Fn Tryd.prog gI 40 [.agg ⟨[str n, str v]⟩] (.int .i64 (fieldE n v)) := by
  refine Fn.of tys_ok Tryd.func40 rfl (by kernel_rfl) rfl rfl ?_; intro w hG
  (conv => whnf); repeat ((first | refine tk1 ?_ | refine tk2 ?_ | refine tk3 ?_ | refine tk12 (fun _ => ?_) | refine tk4 ?_ | refine tk5 ?_ | refine tk6 ?_ | refine tk7 ?_ | refine tk8 ?_ | refine tk9 ?_ | refine tk10 (fun _ _ => ?_) | refine tk11 (fun _ => ?_)); (conv => whnf))
  refine DrawS.go (qs 30) tys_ok mixed (by kernel_rfl) ?_
  (conv => whnf); repeat ((first | refine tk1 ?_ | refine tk2 ?_ | refine tk3 ?_ | refine tk12 (fun _ => ?_) | refine tk4 ?_ | refine tk5 ?_ | refine tk6 ?_ | refine tk7 ?_ | refine tk8 ?_ | refine tk9 ?_ | refine tk10 (fun _ _ => ?_) | refine tk11 (fun _ => ?_)); (conv => whnf))
  refine Cmp.cases (fun h1 => ?_) (fun h1 => ?_)
  · (conv => whnf); repeat ((first | refine tk1 ?_ | refine tk2 ?_ | refine tk3 ?_ | refine tk12 (fun _ => ?_) | refine tk4 ?_ | refine tk5 ?_ | refine tk6 ?_ | refine tk7 ?_ | refine tk8 ?_ | refine tk9 ?_ | refine tk10 (fun _ _ => ?_) | refine tk11 (fun _ => ?_)); (conv => whnf))
    simp [fieldE, fieldOK]; omega
  (conv => whnf); repeat ((first | refine tk1 ?_ | refine tk2 ?_ | refine tk3 ?_ | refine tk12 (fun _ => ?_) | refine tk4 ?_ | refine tk5 ?_ | refine tk6 ?_ | refine tk7 ?_ | refine tk8 ?_ | refine tk9 ?_ | refine tk10 (fun _ _ => ?_) | refine tk11 (fun _ => ?_)); (conv => whnf))
  refine Cmp.cases (fun h2 => ?_) (fun h2 => ?_)
  · (conv => whnf); repeat ((first | refine tk1 ?_ | refine tk2 ?_ | refine tk3 ?_ | refine tk12 (fun _ => ?_) | refine tk4 ?_ | refine tk5 ?_ | refine tk6 ?_ | refine tk7 ?_ | refine tk8 ?_ | refine tk9 ?_ | refine tk10 (fun _ _ => ?_) | refine tk11 (fun _ => ?_)); (conv => whnf))
    simp [fieldE, fieldOK]; omega
  (conv => whnf); repeat ((first | refine tk1 ?_ | refine tk2 ?_ | refine tk3 ?_ | refine tk12 (fun _ => ?_) | refine tk4 ?_ | refine tk5 ?_ | refine tk6 ?_ | refine tk7 ?_ | refine tk8 ?_ | refine tk9 ?_ | refine tk10 (fun _ _ => ?_) | refine tk11 (fun _ => ?_)); (conv => whnf))
  refine CallQ.fn (Token_f n (by omega)) ?_
  cases h3 : tokenOf n
  · (conv => whnf); repeat ((first | refine tk1 ?_ | refine tk2 ?_ | refine tk3 ?_ | refine tk12 (fun _ => ?_) | refine tk4 ?_ | refine tk5 ?_ | refine tk6 ?_ | refine tk7 ?_ | refine tk8 ?_ | refine tk9 ?_ | refine tk10 (fun _ _ => ?_) | refine tk11 (fun _ => ?_)); (conv => whnf))
    simp [fieldE, fieldOK, h3]
  (conv => whnf); repeat ((first | refine tk1 ?_ | refine tk2 ?_ | refine tk3 ?_ | refine tk12 (fun _ => ?_) | refine tk4 ?_ | refine tk5 ?_ | refine tk6 ?_ | refine tk7 ?_ | refine tk8 ?_ | refine tk9 ?_ | refine tk10 (fun _ _ => ?_) | refine tk11 (fun _ => ?_)); (conv => whnf))
  refine CallQ.fn (Small_f n (by omega)) ?_
  (conv => whnf); repeat ((first | refine tk1 ?_ | refine tk2 ?_ | refine tk3 ?_ | refine tk12 (fun _ => ?_) | refine tk4 ?_ | refine tk5 ?_ | refine tk6 ?_ | refine tk7 ?_ | refine tk8 ?_ | refine tk9 ?_ | refine tk10 (fun _ _ => ?_) | refine tk11 (fun _ => ?_)); (conv => whnf))
  refine Cmp.cases (fun h4 => ?_) (fun h4 => ?_)
  · (conv => whnf); repeat ((first | refine tk1 ?_ | refine tk2 ?_ | refine tk3 ?_ | refine tk12 (fun _ => ?_) | refine tk4 ?_ | refine tk5 ?_ | refine tk6 ?_ | refine tk7 ?_ | refine tk8 ?_ | refine tk9 ?_ | refine tk10 (fun _ _ => ?_) | refine tk11 (fun _ => ?_)); (conv => whnf))
    simp [fieldE, fieldOK, h4]
  (conv => whnf); repeat ((first | refine tk1 ?_ | refine tk2 ?_ | refine tk3 ?_ | refine tk12 (fun _ => ?_) | refine tk4 ?_ | refine tk5 ?_ | refine tk6 ?_ | refine tk7 ?_ | refine tk8 ?_ | refine tk9 ?_ | refine tk10 (fun _ _ => ?_) | refine tk11 (fun _ => ?_)); (conv => whnf))
  refine CallQ.fn (Value_f v (by omega)) ?_
  have h4' : smallOf n = n := by simpa using h4
  cases h5 : valueOf v
  · (conv => whnf); repeat ((first | refine tk1 ?_ | refine tk2 ?_ | refine tk3 ?_ | refine tk12 (fun _ => ?_) | refine tk4 ?_ | refine tk5 ?_ | refine tk6 ?_ | refine tk7 ?_ | refine tk8 ?_ | refine tk9 ?_ | refine tk10 (fun _ _ => ?_) | refine tk11 (fun _ => ?_)); (conv => whnf))
    simp [fieldE, fieldOK, h5]
  · (conv => whnf); repeat ((first | refine tk1 ?_ | refine tk2 ?_ | refine tk3 ?_ | refine tk12 (fun _ => ?_) | refine tk4 ?_ | refine tk5 ?_ | refine tk6 ?_ | refine tk7 ?_ | refine tk8 ?_ | refine tk9 ?_ | refine tk10 (fun _ _ => ?_) | refine tk11 (fun _ => ?_)); (conv => whnf))
    have e1 : n.length ≤ 4096 := by omega
    have e2 : v.length ≤ 4096 := by omega
    simp [fieldE, fieldOK, h3, h4', h5, e1, e2]
end Go.Proofs.YtggokigjnaiokaaDoor.Vex
/- The program's functions on fields, reckoned. -/
namespace Go.Proofs.YtggokigjnaiokaaDoor.Vex
open Go Go.RowKit
set_option maxRecDepth 100000
set_option linter.unusedSectionVars false
variable {gI : GI} [HasMax gI]

end Go.Proofs.YtggokigjnaiokaaDoor.Vex
/- The references' functions on texts, reckoned. -/
namespace Go.Proofs.YtggokigjnaiokaaDoor.Vex
open Go Go.RowKit
set_option maxRecDepth 100000
set_option linter.unusedSectionVars false
variable {gI : GI} [HasMax gI]

theorem byte_le (x : UInt8) : ((x.toNat : Nat) : Int) ≤ 255 := by have := x.toNat_lt; omega
theorem blank_is (x : UInt8) : (((x.toNat : Nat) : Int) == 32 || ((x.toNat : Nat) : Int) == 9) = blankB x := by
  unfold blankB blankI
  rw [Bool.eq_iff_iff]
theorem valB_is (x : UInt8) : valB x = !((decide (((x.toNat : Nat) : Int) < 32) && ((x.toNat : Nat) : Int) != 9) || ((x.toNat : Nat) : Int) == 127) := by
  have : ∀ n : Fin 256, valI ((n.val : Nat) : Int) = !((decide (((n.val : Nat) : Int) < 32) && ((n.val : Nat) : Int) != 9) || ((n.val : Nat) : Int) == 127) := by decide +kernel
  exact this ⟨x.toNat, x.toNat_lt⟩
theorem Small_r (l : List UInt8) (hl : l.length ≤ 1000000000000) : Fn Tryd.prog gI 23 [str l] (str (smallOf l)) := by
  refine Fn.of tys_ok Tryd.func23 rfl (by kernel_rfl) rfl rfl ?_; intro w hG
  (conv => whnf); repeat ((first | refine tk1 ?_ | refine tk2 ?_ | refine tk3 ?_ | refine tk12 (fun _ => ?_) | refine tk4 ?_ | refine tk5 ?_ | refine tk6 ?_ | refine tk7 ?_ | refine tk8 ?_ | refine tk9 ?_ | refine tk10 (fun _ _ => ?_) | refine tk11 (fun _ => ?_)); (conv => whnf))
  refine LoopS.lp tys_ok (fun k u => [str l, u 1, u 2, str (smallOf (l.take k)), .int .i64 (k : Nat), u 5, u 6, u 7, u 8, u 9, u 10, u 11, u 12, u 13, u 14, u 15, u 16, u 17, u 18, u 19, u 20, u 21, u 22, u 23, u 24, u 25, u 26, u 27, u 28]) (fun _ => [])
    (fun k => k ≤ l.length) (fun k => l.length - k) 0 (Nat.zero_le _) rfl (by repeat' (first | exact List.Sublist.refl _ | exact List.nil_sublist _ | apply List.Sublist.cons_cons | apply List.Sublist.cons)) ?_
  intro k u hk
  (conv => whnf); repeat ((first | refine tk1 ?_ | refine tk2 ?_ | refine tk3 ?_ | refine tk12 (fun _ => ?_) | refine tk4 ?_ | refine tk5 ?_ | refine tk6 ?_ | refine tk7 ?_ | refine tk8 ?_ | refine tk9 ?_ | refine tk10 (fun _ _ => ?_) | refine tk11 (fun _ => ?_)); (conv => whnf))
  refine Cmp.cases (fun hlt => ?_) (fun hlt => ?_)
  · have hlt' : k < l.length := by omega
    have hx := byte_le l[k]
    have ht : smallOf (l.take (k + 1)) = smallOf (l.take k) ++ [lowB l[k]] := by
      unfold smallOf
      rw [List.take_succ_eq_append_getElem hlt', List.map_append]; rfl
    have hs9 : (smallOf (l.take k)).length ≤ l.length := by rw [smallOf_length, List.length_take]; omega
    have hv := lowB_toNat l[k]
    unfold lowI greatI at hv
    (conv => whnf); repeat ((first | refine tk1 ?_ | refine tk2 ?_ | refine tk3 ?_ | refine tk12 (fun _ => ?_) | refine tk4 ?_ | refine tk5 ?_ | refine tk6 ?_ | refine tk7 ?_ | refine tk8 ?_ | refine tk9 ?_ | refine tk10 (fun _ _ => ?_) | refine tk11 (fun _ => ?_)); (conv => whnf))
    refine IdxS.at l[k] (List.getElem?_eq_getElem _) (by omega) ?_
    (conv => whnf); repeat ((first | refine tk1 ?_ | refine tk2 ?_ | refine tk3 ?_ | refine tk12 (fun _ => ?_) | refine tk4 ?_ | refine tk5 ?_ | refine tk6 ?_ | refine tk7 ?_ | refine tk8 ?_ | refine tk9 ?_ | refine tk10 (fun _ _ => ?_) | refine tk11 (fun _ => ?_)); (conv => whnf))
    refine Cmp.cases (fun h1 => ?_) (fun h1 => ?_)
    · (conv => whnf); repeat ((first | refine tk1 ?_ | refine tk2 ?_ | refine tk3 ?_ | refine tk12 (fun _ => ?_) | refine tk4 ?_ | refine tk5 ?_ | refine tk6 ?_ | refine tk7 ?_ | refine tk8 ?_ | refine tk9 ?_ | refine tk10 (fun _ _ => ?_) | refine tk11 (fun _ => ?_)); (conv => whnf))
      refine Cmp.cases (fun h2 => ?_) (fun h2 => ?_)
      · (conv => whnf); repeat ((first | refine tk1 ?_ | refine tk2 ?_ | refine tk3 ?_ | refine tk12 (fun _ => ?_) | refine tk4 ?_ | refine tk5 ?_ | refine tk6 ?_ | refine tk7 ?_ | refine tk8 ?_ | refine tk9 ?_ | refine tk10 (fun _ _ => ?_) | refine tk11 (fun _ => ?_)); (conv => whnf))
        refine Ar.in8 (by omega) (by omega) ?_
        (conv => whnf); repeat ((first | refine tk1 ?_ | refine tk2 ?_ | refine tk3 ?_ | refine tk12 (fun _ => ?_) | refine tk4 ?_ | refine tk5 ?_ | refine tk6 ?_ | refine tk7 ?_ | refine tk8 ?_ | refine tk9 ?_ | refine tk10 (fun _ _ => ?_) | refine tk11 (fun _ => ?_)); (conv => whnf))
        rename_i b
        refine B2S.rd (l := [lowB l[k]]) (by rw [show [Value.int .u8 (((l[k].toNat : Nat) : Int) + 32)] = [lowB l[k]].map byteV from by simp [byteV]; rw [hv]; simp; omega]; exact RdS.here) rfl ?_
        (conv => whnf); repeat ((first | refine tk1 ?_ | refine tk2 ?_ | refine tk3 ?_ | refine tk12 (fun _ => ?_) | refine tk4 ?_ | refine tk5 ?_ | refine tk6 ?_ | refine tk7 ?_ | refine tk8 ?_ | refine tk9 ?_ | refine tk10 (fun _ _ => ?_) | refine tk11 (fun _ => ?_)); (conv => whnf))
        refine CatS.at (by simp; omega) ?_
        (conv => whnf); repeat ((first | refine tk1 ?_ | refine tk2 ?_ | refine tk3 ?_ | refine tk12 (fun _ => ?_) | refine tk4 ?_ | refine tk5 ?_ | refine tk6 ?_ | refine tk7 ?_ | refine tk8 ?_ | refine tk9 ?_ | refine tk10 (fun _ _ => ?_) | refine tk11 (fun _ => ?_)); (conv => whnf))
        exact ⟨k + 1, by omega, by dsimp only; rw [ht]; rfl, (by repeat' (first | exact List.Sublist.refl _ | exact List.nil_sublist _ | apply List.Sublist.cons_cons | apply List.Sublist.cons)), by dsimp only; omega⟩
      · (conv => whnf); repeat ((first | refine tk1 ?_ | refine tk2 ?_ | refine tk3 ?_ | refine tk12 (fun _ => ?_) | refine tk4 ?_ | refine tk5 ?_ | refine tk6 ?_ | refine tk7 ?_ | refine tk8 ?_ | refine tk9 ?_ | refine tk10 (fun _ _ => ?_) | refine tk11 (fun _ => ?_)); (conv => whnf))
        refine B2S.rd (l := [lowB l[k]]) (by rw [show [Value.int .u8 ((l[k].toNat : Nat) : Int)] = [lowB l[k]].map byteV from by simp [byteV]; rw [hv]; simp; omega]; exact RdS.here) rfl ?_
        (conv => whnf); repeat ((first | refine tk1 ?_ | refine tk2 ?_ | refine tk3 ?_ | refine tk12 (fun _ => ?_) | refine tk4 ?_ | refine tk5 ?_ | refine tk6 ?_ | refine tk7 ?_ | refine tk8 ?_ | refine tk9 ?_ | refine tk10 (fun _ _ => ?_) | refine tk11 (fun _ => ?_)); (conv => whnf))
        refine CatS.at (by simp; omega) ?_
        (conv => whnf); repeat ((first | refine tk1 ?_ | refine tk2 ?_ | refine tk3 ?_ | refine tk12 (fun _ => ?_) | refine tk4 ?_ | refine tk5 ?_ | refine tk6 ?_ | refine tk7 ?_ | refine tk8 ?_ | refine tk9 ?_ | refine tk10 (fun _ _ => ?_) | refine tk11 (fun _ => ?_)); (conv => whnf))
        exact ⟨k + 1, by omega, by dsimp only; rw [ht]; rfl, (by repeat' (first | exact List.Sublist.refl _ | exact List.nil_sublist _ | apply List.Sublist.cons_cons | apply List.Sublist.cons)), by dsimp only; omega⟩
    · (conv => whnf); repeat ((first | refine tk1 ?_ | refine tk2 ?_ | refine tk3 ?_ | refine tk12 (fun _ => ?_) | refine tk4 ?_ | refine tk5 ?_ | refine tk6 ?_ | refine tk7 ?_ | refine tk8 ?_ | refine tk9 ?_ | refine tk10 (fun _ _ => ?_) | refine tk11 (fun _ => ?_)); (conv => whnf))
      refine B2S.rd (l := [lowB l[k]]) (by rw [show [Value.int .u8 ((l[k].toNat : Nat) : Int)] = [lowB l[k]].map byteV from by simp [byteV]; rw [hv]; simp; omega]; exact RdS.here) rfl ?_
      (conv => whnf); repeat ((first | refine tk1 ?_ | refine tk2 ?_ | refine tk3 ?_ | refine tk12 (fun _ => ?_) | refine tk4 ?_ | refine tk5 ?_ | refine tk6 ?_ | refine tk7 ?_ | refine tk8 ?_ | refine tk9 ?_ | refine tk10 (fun _ _ => ?_) | refine tk11 (fun _ => ?_)); (conv => whnf))
      refine CatS.at (by simp; omega) ?_
      (conv => whnf); repeat ((first | refine tk1 ?_ | refine tk2 ?_ | refine tk3 ?_ | refine tk12 (fun _ => ?_) | refine tk4 ?_ | refine tk5 ?_ | refine tk6 ?_ | refine tk7 ?_ | refine tk8 ?_ | refine tk9 ?_ | refine tk10 (fun _ _ => ?_) | refine tk11 (fun _ => ?_)); (conv => whnf))
      exact ⟨k + 1, by omega, by dsimp only; rw [ht]; rfl, (by repeat' (first | exact List.Sublist.refl _ | exact List.nil_sublist _ | apply List.Sublist.cons_cons | apply List.Sublist.cons)), by dsimp only; omega⟩
  · (conv => whnf); repeat ((first | refine tk1 ?_ | refine tk2 ?_ | refine tk3 ?_ | refine tk12 (fun _ => ?_) | refine tk4 ?_ | refine tk5 ?_ | refine tk6 ?_ | refine tk7 ?_ | refine tk8 ?_ | refine tk9 ?_ | refine tk10 (fun _ _ => ?_) | refine tk11 (fun _ => ?_)); (conv => whnf))
    rw [List.take_of_length_le (by omega)]
theorem last_of (t : List UInt8) (h : 0 < t.length) : t = t.take (t.length - 1) ++ [t[t.length - 1]'(by omega)] := by
  have := List.take_append_drop (t.length - 1) t
  rw [List.drop_eq_getElem_cons (by omega), List.drop_eq_nil_of_le (by omega)] at this
  exact this.symm
end Go.Proofs.YtggokigjnaiokaaDoor.Vex
/- The references' functions on fields, reckoned. -/
namespace Go.Proofs.YtggokigjnaiokaaDoor.Vex
open Go Go.RowKit
set_option maxRecDepth 100000
set_option linter.unusedSectionVars false
variable {gI : GI} [HasMax gI]

end Go.Proofs.YtggokigjnaiokaaDoor.Vex
/- Functions on lists of fields, reckoned. -/
namespace Go.Proofs.YtggokigjnaiokaaDoor.Vex
open Go Go.RowKit
set_option maxRecDepth 100000
set_option linter.unusedSectionVars false
variable {gI : GI} [HasMax gI]

abbrev Fld := List UInt8 × List UInt8
/-- The cells of a list of fields. -/
def fcells : List Fld → List Value
  | [] => []
  | p :: r => str p.1 :: str p.2 :: fcells r
theorem fcells_length : ∀ l : List Fld, (fcells l).length = 2 * l.length
  | [] => rfl
  | _ :: r => by simp [fcells, fcells_length r]; omega
theorem fcells_drop : ∀ (l : List Fld) (k : Nat), (fcells l).drop (k * 2) = fcells (l.drop k)
  | l, 0 => by simp
  | [], k + 1 => by simp [fcells]
  | _ :: r, k + 1 => by rw [show (k + 1) * 2 = k * 2 + 2 by omega]; exact fcells_drop r k
theorem fcells_app : ∀ a b : List Fld, fcells (a ++ b) = fcells a ++ fcells b
  | [], _ => rfl
  | p :: a, b => by simp [fcells, fcells_app a b]
theorem fcells_one : ∀ l : List Fld, ∀ u ∈ fcells l, u.oneCell' = true
  | [], _, h => by cases h
  | p :: l, u, h => by
    simp only [fcells, List.mem_cons] at h
    rcases h with rfl | rfl | h
    · rfl
    · rfl
    · exact fcells_one l u h
theorem rdw_nil {w : World} {xs : List Value} (h : Rdw w none xs) : xs = [] := by
  cases xs with
  | nil => rfl
  | cons x r => obtain ⟨a, ha, _⟩ := h 0 x rfl; cases ha
theorem fcells_two (l : List Fld) (k : Nat) (h : k < l.length) : ((fcells l).drop (k * 2)).take 2 = [str l[k].1, str l[k].2] := by
  rw [fcells_drop, List.drop_eq_getElem_cons h]; rfl
theorem fcells_0 (l : List Fld) (k : Nat) (h : k < l.length) : (fcells l)[k * 2 + 0]? = some (str l[k].1) := by
  have := congrArg (·[0]?) (fcells_two l k h)
  simpa [List.getElem?_drop] using this
theorem fcells_1 (l : List Fld) (k : Nat) (h : k < l.length) : (fcells l)[k * 2 + 1]? = some (str l[k].2) := by
  have := congrArg (·[1]?) (fcells_two l k h)
  simpa [List.getElem?_drop] using this
def fw (p : Fld) : Nat := 1 + min p.1.length 100000 + min p.2.length 100000
def gs : List Fld → Nat
  | [] => 0
  | p :: r => fw p + gs r
theorem gs_add : ∀ a b : List Fld, gs (a ++ b) = gs a + gs b
  | [], b => by simp [gs]
  | p :: a, b => by simp [gs, gs_add a b]; omega
theorem gs_take (l : List Fld) (k : Nat) (h : k < l.length) : gs (l.take (k + 1)) = gs (l.take k) + fw l[k] := by
  rw [List.take_succ_eq_append_getElem h, gs_add]; simp [gs]
theorem Great_r (A : Option Addr) (cp : Nat) (l : List Fld) : FnR Tryd.prog gI 21 [.slice A l.length cp] [(A, fcells l)] (.bool (decide (3000 < gs (l.take 1000)))) := by
  refine FnE.of tys_ok Tryd.func21 rfl (by kernel_rfl) rfl rfl ?_; intro w hG hP
  have hR : ∀ H, RdS (mkC Tryd.prog gI w hG) H A (fcells l) := fun H => hP.1.now
  (conv => whnf); repeat ((first | refine tk1 ?_ | refine tk2 ?_ | refine tk3 ?_ | refine tk12 (fun _ => ?_) | refine tk4 ?_ | refine tk5 ?_ | refine tk6 ?_ | refine tk7 ?_ | refine tk8 ?_ | refine tk9 ?_ | refine tk10 (fun _ _ => ?_) | refine tk11 (fun _ => ?_)); (conv => whnf))
  refine LoopS.lp tys_ok (fun k u => [.slice A l.length cp, u 1, u 2, .int .i64 (gs (l.take k) : Nat), .int .i64 (k : Nat), u 5, u 6, u 7, u 8, u 9, u 10, u 11, u 12, u 13, u 14, u 15, u 16, u 17, u 18, u 19, u 20, u 21, u 22, u 23, u 24, u 25, u 26, u 27, u 28, u 29, u 30, u 31, u 32, u 33, u 34]) (fun _ => [])
    (fun k => k ≤ l.length ∧ k ≤ 1000 ∧ gs (l.take k) ≤ k * 200001) (fun k => l.length - k) 0 ⟨Nat.zero_le _, Nat.zero_le _, Nat.zero_le _⟩ rfl (by repeat' (first | exact List.Sublist.refl _ | exact List.nil_sublist _ | apply List.Sublist.cons_cons | apply List.Sublist.cons)) ?_
  intro k u ⟨hk, hk9, hz⟩
  (conv => whnf); repeat ((first | refine tk1 ?_ | refine tk2 ?_ | refine tk3 ?_ | refine tk12 (fun _ => ?_) | refine tk4 ?_ | refine tk5 ?_ | refine tk6 ?_ | refine tk7 ?_ | refine tk8 ?_ | refine tk9 ?_ | refine tk10 (fun _ _ => ?_) | refine tk11 (fun _ => ?_)); (conv => whnf))
  refine Cmp.cases (fun hlt => ?_) (fun hlt => ?_)
  · have hlt' : k < l.length := by omega
    (conv => whnf); repeat ((first | refine tk1 ?_ | refine tk2 ?_ | refine tk3 ?_ | refine tk12 (fun _ => ?_) | refine tk4 ?_ | refine tk5 ?_ | refine tk6 ?_ | refine tk7 ?_ | refine tk8 ?_ | refine tk9 ?_ | refine tk10 (fun _ _ => ?_) | refine tk11 (fun _ => ?_)); (conv => whnf))
    refine Cmp.cases (fun hl9 => ?_) (fun hl9 => ?_)
    · have hs := gs_take l k hlt'
      have hfw : fw l[k] = 1 + min l[k].1.length 100000 + min l[k].2.length 100000 := rfl
      have h0 := fcells_0 l k hlt'
      have h1 := fcells_1 l k hlt'
      (conv => whnf); repeat ((first | refine tk1 ?_ | refine tk2 ?_ | refine tk3 ?_ | refine tk12 (fun _ => ?_) | refine tk4 ?_ | refine tk5 ?_ | refine tk6 ?_ | refine tk7 ?_ | refine tk8 ?_ | refine tk9 ?_ | refine tk10 (fun _ _ => ?_) | refine tk11 (fun _ => ?_)); (conv => whnf))
      refine DrawS.go (qs 19) tys_ok mixed (by kernel_rfl) ?_
      (conv => whnf); repeat ((first | refine tk1 ?_ | refine tk2 ?_ | refine tk3 ?_ | refine tk12 (fun _ => ?_) | refine tk4 ?_ | refine tk5 ?_ | refine tk6 ?_ | refine tk7 ?_ | refine tk8 ?_ | refine tk9 ?_ | refine tk10 (fun _ _ => ?_) | refine tk11 (fun _ => ?_)); (conv => whnf))
      refine IdxA.rd (hR _) (by rw [fcells_length]; omega) (by omega) (by omega) ?_
      (conv => whnf); repeat ((first | refine tk1 ?_ | refine tk2 ?_ | refine tk3 ?_ | refine tk12 (fun _ => ?_) | refine tk4 ?_ | refine tk5 ?_ | refine tk6 ?_ | refine tk7 ?_ | refine tk8 ?_ | refine tk9 ?_ | refine tk10 (fun _ _ => ?_) | refine tk11 (fun _ => ?_)); (conv => whnf))
      refine Ld.rdF (hR _) h0 ?_
      (conv => whnf); repeat ((first | refine tk1 ?_ | refine tk2 ?_ | refine tk3 ?_ | refine tk12 (fun _ => ?_) | refine tk4 ?_ | refine tk5 ?_ | refine tk6 ?_ | refine tk7 ?_ | refine tk8 ?_ | refine tk9 ?_ | refine tk10 (fun _ _ => ?_) | refine tk11 (fun _ => ?_)); (conv => whnf))
      refine OthP.min2 (min (l[k].1.length : Int) 100000) rfl rfl rfl ?_
      (conv => whnf); repeat ((first | refine tk1 ?_ | refine tk2 ?_ | refine tk3 ?_ | refine tk12 (fun _ => ?_) | refine tk4 ?_ | refine tk5 ?_ | refine tk6 ?_ | refine tk7 ?_ | refine tk8 ?_ | refine tk9 ?_ | refine tk10 (fun _ _ => ?_) | refine tk11 (fun _ => ?_)); (conv => whnf))
      refine IdxA.rd (hR _) (by rw [fcells_length]; omega) (by omega) (by omega) ?_
      (conv => whnf); repeat ((first | refine tk1 ?_ | refine tk2 ?_ | refine tk3 ?_ | refine tk12 (fun _ => ?_) | refine tk4 ?_ | refine tk5 ?_ | refine tk6 ?_ | refine tk7 ?_ | refine tk8 ?_ | refine tk9 ?_ | refine tk10 (fun _ _ => ?_) | refine tk11 (fun _ => ?_)); (conv => whnf))
      refine Ld.rdF (hR _) h1 ?_
      (conv => whnf); repeat ((first | refine tk1 ?_ | refine tk2 ?_ | refine tk3 ?_ | refine tk12 (fun _ => ?_) | refine tk4 ?_ | refine tk5 ?_ | refine tk6 ?_ | refine tk7 ?_ | refine tk8 ?_ | refine tk9 ?_ | refine tk10 (fun _ _ => ?_) | refine tk11 (fun _ => ?_)); (conv => whnf))
      refine OthP.min2 (min (l[k].2.length : Int) 100000) rfl rfl rfl ?_
      (conv => whnf); repeat ((first | refine tk1 ?_ | refine tk2 ?_ | refine tk3 ?_ | refine tk12 (fun _ => ?_) | refine tk4 ?_ | refine tk5 ?_ | refine tk6 ?_ | refine tk7 ?_ | refine tk8 ?_ | refine tk9 ?_ | refine tk10 (fun _ _ => ?_) | refine tk11 (fun _ => ?_)); (conv => whnf))
      exact ⟨k + 1, ⟨by omega, by omega, by rw [hs]; omega⟩, by
        dsimp only
        rw [show (((gs (l.take (k + 1)) : Nat) : Int)) = ((gs (l.take k) : Nat) : Int) + 1 + min (l[k].1.length : Int) 100000 + min (l[k].2.length : Int) 100000 by rw [hs, hfw]; omega]; rfl, (by repeat' (first | exact List.Sublist.refl _ | exact List.nil_sublist _ | apply List.Sublist.cons_cons | apply List.Sublist.cons)), by dsimp only; omega⟩
    · obtain rfl : k = 1000 := by omega
      (conv => whnf); repeat ((first | refine tk1 ?_ | refine tk2 ?_ | refine tk3 ?_ | refine tk12 (fun _ => ?_) | refine tk4 ?_ | refine tk5 ?_ | refine tk6 ?_ | refine tk7 ?_ | refine tk8 ?_ | refine tk9 ?_ | refine tk10 (fun _ _ => ?_) | refine tk11 (fun _ => ?_)); (conv => whnf))
      refine Cmp.of (decide (3000 < gs (l.take 1000))) (by simp; omega) ?_
      (conv => whnf); repeat ((first | refine tk1 ?_ | refine tk2 ?_ | refine tk3 ?_ | refine tk12 (fun _ => ?_) | refine tk4 ?_ | refine tk5 ?_ | refine tk6 ?_ | refine tk7 ?_ | refine tk8 ?_ | refine tk9 ?_ | refine tk10 (fun _ _ => ?_) | refine tk11 (fun _ => ?_)); (conv => whnf))
      intro w' _
      rfl
  · have he : l.take k = l.take 1000 := by rw [List.take_of_length_le (by omega), List.take_of_length_le (by omega)]
    (conv => whnf); repeat ((first | refine tk1 ?_ | refine tk2 ?_ | refine tk3 ?_ | refine tk12 (fun _ => ?_) | refine tk4 ?_ | refine tk5 ?_ | refine tk6 ?_ | refine tk7 ?_ | refine tk8 ?_ | refine tk9 ?_ | refine tk10 (fun _ _ => ?_) | refine tk11 (fun _ => ?_)); (conv => whnf))
    refine Cmp.of (decide (3000 < gs (l.take 1000))) (by rw [he]; simp; omega) ?_
    (conv => whnf); repeat ((first | refine tk1 ?_ | refine tk2 ?_ | refine tk3 ?_ | refine tk12 (fun _ => ?_) | refine tk4 ?_ | refine tk5 ?_ | refine tk6 ?_ | refine tk7 ?_ | refine tk8 ?_ | refine tk9 ?_ | refine tk10 (fun _ _ => ?_) | refine tk11 (fun _ => ?_)); (conv => whnf))
    intro w' _
    rfl
/-- A name's values. -/
def allOf (l : List Fld) (s : List UInt8) : List (List UInt8) := (l.filter fun p => smallOf p.1 == smallOf s).map (·.2)
theorem allOf_take (l : List Fld) (s : List UInt8) (k : Nat) (h : k < l.length) : allOf (l.take (k + 1)) s = allOf (l.take k) s ++ (if smallOf l[k].1 = smallOf s then [l[k].2] else []) := by
  unfold allOf
  rw [List.take_succ_eq_append_getElem h, List.filter_append, List.map_append]
  congr 1
  by_cases hq : smallOf l[k].1 = smallOf s <;> simp [hq]
theorem allOf_le (l : List Fld) (s : List UInt8) : (allOf l s).length ≤ l.length := by
  unfold allOf
  rw [List.length_map]
  exact List.length_filter_le _ _
theorem All_f (A : Option Addr) (cp : Nat) (l : List Fld) (s : List UInt8) (hl : l.length * 32 ≤ 140737488355328) (hs : s.length ≤ 140737488355328) (hn : ∀ p ∈ l, p.1.length ≤ 140737488355328) :
    FnS Tryd.prog gI 71 [.slice A l.length cp, str s] [(A, fcells l)] 9 1 (allOf l s).length ((allOf l s).map str) := by
  refine FnE.of tys_ok Tryd.func71 rfl (by kernel_rfl) rfl rfl ?_; intro w hG hP
  have hR : ∀ H, RdS (mkC Tryd.prog gI w hG) H A (fcells l) := fun H => hP.1.now
  (conv => whnf); repeat ((first | refine tk1 ?_ | refine tk2 ?_ | refine tk3 ?_ | refine tk12 (fun _ => ?_) | refine tk4 ?_ | refine tk5 ?_ | refine tk6 ?_ | refine tk7 ?_ | refine tk8 ?_ | refine tk9 ?_ | refine tk10 (fun _ _ => ?_) | refine tk11 (fun _ => ?_)); (conv => whnf))
  refine LoopS.nilRow 9 1 ?_
  refine LoopS.lp tys_ok (fun (x : Nat × Option Addr × Nat) u => [u 0, str s, u 2, u 3, .slice x.2.1 (allOf (l.take x.1) s).length x.2.2, u 5, u 6, .slice A l.length cp, .int .i64 l.length, .int .i64 (x.1 : Nat), u 10, u 11, u 12, u 13, u 14, u 15, u 16, u 17, u 18, u 19, u 20, u 21, u 22, u 23, u 24, u 25])
    (fun x => [.row (.slice x.2.1 (allOf (l.take x.1) s).length x.2.2) 9 1 (allOf (l.take x.1) s).length ((allOf (l.take x.1) s).map str)])
    (fun x => x.1 ≤ l.length) (fun x => l.length - x.1) (0, none, 0) (Nat.zero_le _) rfl (by repeat' (first | exact List.Sublist.refl _ | exact List.nil_sublist _ | apply List.Sublist.cons_cons | apply List.Sublist.cons)) ?_
  rintro ⟨k, B, cq⟩ u hk
  dsimp only at hk ⊢
  (conv => whnf); repeat ((first | refine tk1 ?_ | refine tk2 ?_ | refine tk3 ?_ | refine tk12 (fun _ => ?_) | refine tk4 ?_ | refine tk5 ?_ | refine tk6 ?_ | refine tk7 ?_ | refine tk8 ?_ | refine tk9 ?_ | refine tk10 (fun _ _ => ?_) | refine tk11 (fun _ => ?_)); (conv => whnf))
  refine Cmp.cases (fun hlt => ?_) (fun hlt => ?_)
  · have hlt' : k < l.length := by omega
    have ht := allOf_take l s k hlt'
    have hle := allOf_le (l.take k) s
    rw [List.length_take] at hle
    (conv => whnf); repeat ((first | refine tk1 ?_ | refine tk2 ?_ | refine tk3 ?_ | refine tk12 (fun _ => ?_) | refine tk4 ?_ | refine tk5 ?_ | refine tk6 ?_ | refine tk7 ?_ | refine tk8 ?_ | refine tk9 ?_ | refine tk10 (fun _ _ => ?_) | refine tk11 (fun _ => ?_)); (conv => whnf))
    refine IdxA.rd (hR _) (by rw [fcells_length]; omega) (by omega) (by omega) ?_
    (conv => whnf); repeat ((first | refine tk1 ?_ | refine tk2 ?_ | refine tk3 ?_ | refine tk12 (fun _ => ?_) | refine tk4 ?_ | refine tk5 ?_ | refine tk6 ?_ | refine tk7 ?_ | refine tk8 ?_ | refine tk9 ?_ | refine tk10 (fun _ _ => ?_) | refine tk11 (fun _ => ?_)); (conv => whnf))
    refine Ld.rdN (hR _) (fcells_two l k hlt') rfl ?_
    (conv => whnf); repeat ((first | refine tk1 ?_ | refine tk2 ?_ | refine tk3 ?_ | refine tk12 (fun _ => ?_) | refine tk4 ?_ | refine tk5 ?_ | refine tk6 ?_ | refine tk7 ?_ | refine tk8 ?_ | refine tk9 ?_ | refine tk10 (fun _ _ => ?_) | refine tk11 (fun _ => ?_)); (conv => whnf))
    refine CallK.fn (Small_f l[k].1 (hn _ (List.getElem_mem _))) ?_
    (conv => whnf); repeat ((first | refine tk1 ?_ | refine tk2 ?_ | refine tk3 ?_ | refine tk12 (fun _ => ?_) | refine tk4 ?_ | refine tk5 ?_ | refine tk6 ?_ | refine tk7 ?_ | refine tk8 ?_ | refine tk9 ?_ | refine tk10 (fun _ _ => ?_) | refine tk11 (fun _ => ?_)); (conv => whnf))
    refine CallK.fn (Small_f s hs) ?_
    (conv => whnf); repeat ((first | refine tk1 ?_ | refine tk2 ?_ | refine tk3 ?_ | refine tk12 (fun _ => ?_) | refine tk4 ?_ | refine tk5 ?_ | refine tk6 ?_ | refine tk7 ?_ | refine tk8 ?_ | refine tk9 ?_ | refine tk10 (fun _ _ => ?_) | refine tk11 (fun _ => ?_)); (conv => whnf))
    refine Cmp.cases (fun hq => ?_) (fun hq => ?_)
    · rw [if_pos hq] at ht
      (conv => whnf); repeat ((first | refine tk1 ?_ | refine tk2 ?_ | refine tk3 ?_ | refine tk12 (fun _ => ?_) | refine tk4 ?_ | refine tk5 ?_ | refine tk6 ?_ | refine tk7 ?_ | refine tk8 ?_ | refine tk9 ?_ | refine tk10 (fun _ _ => ?_) | refine tk11 (fun _ => ?_)); (conv => whnf))
      refine AppS.go (m := 1) (news := [str l[k].2]) (by first | exact Pick.here | exact Pick.here.skip | exact Pick.here.skip.skip | exact Pick.here.skip.skip.skip | exact Pick.here.skip.skip.skip.skip | exact Pick.here.skip.skip.skip.skip.skip | exact Pick.here.skip.skip.skip.skip.skip.skip) (SrcK.rd (by repeat' (first | exact RdS.here | apply RdS.skip))) rfl (by simp; rfl) (by omega) (by omega) (by omega) (fun D cr => ?_)
      (conv => whnf); repeat ((first | refine tk1 ?_ | refine tk2 ?_ | refine tk3 ?_ | refine tk12 (fun _ => ?_) | refine tk4 ?_ | refine tk5 ?_ | refine tk6 ?_ | refine tk7 ?_ | refine tk8 ?_ | refine tk9 ?_ | refine tk10 (fun _ _ => ?_) | refine tk11 (fun _ => ?_)); (conv => whnf))
      exact ⟨(k + 1, D, cr), by dsimp only; omega, by dsimp only; rw [ht, List.length_append]; rfl, by dsimp only; rw [ht, List.length_append, List.map_append]; exact (by repeat' (first | exact List.Sublist.refl _ | exact List.nil_sublist _ | apply List.Sublist.cons_cons | apply List.Sublist.cons)), by dsimp only; omega⟩
    · rw [if_neg hq, List.append_nil] at ht
      (conv => whnf); repeat ((first | refine tk1 ?_ | refine tk2 ?_ | refine tk3 ?_ | refine tk12 (fun _ => ?_) | refine tk4 ?_ | refine tk5 ?_ | refine tk6 ?_ | refine tk7 ?_ | refine tk8 ?_ | refine tk9 ?_ | refine tk10 (fun _ _ => ?_) | refine tk11 (fun _ => ?_)); (conv => whnf))
      exact ⟨(k + 1, B, cq), by dsimp only; omega, by dsimp only; rw [ht]; rfl, by dsimp only; rw [ht]; exact (by repeat' (first | exact List.Sublist.refl _ | exact List.nil_sublist _ | apply List.Sublist.cons_cons | apply List.Sublist.cons)), by dsimp only; omega⟩
  · have he : l.take k = l := List.take_of_length_le (by omega)
    rw [he]
    (conv => whnf); repeat ((first | refine tk1 ?_ | refine tk2 ?_ | refine tk3 ?_ | refine tk12 (fun _ => ?_) | refine tk4 ?_ | refine tk5 ?_ | refine tk6 ?_ | refine tk7 ?_ | refine tk8 ?_ | refine tk9 ?_ | refine tk10 (fun _ _ => ?_) | refine tk11 (fun _ => ?_)); (conv => whnf))
    exact rowPost.of (List.mem_cons_self ..)
end Go.Proofs.YtggokigjnaiokaaDoor.Vex
/- Texts between the places of a byte; items of a value. No program in sight. -/
namespace Go.Proofs.YtggokigjnaiokaaDoor

def splitB (c : UInt8) : List UInt8 → List (List UInt8)
  | [] => [[]]
  | x :: r => if x = c then [] :: splitB c r else (match splitB c r with | [] => [[x]] | p :: q => (x :: p) :: q)
theorem splitB_ne (c : UInt8) (l : List UInt8) : splitB c l ≠ [] := by
  cases l with
  | nil => simp [splitB]
  | cons x r =>
    unfold splitB
    split
    · simp
    · split <;> simp
theorem splitB_app (c : UInt8) : ∀ (a b : List UInt8), c ∉ a → splitB c (a ++ c :: b) = a :: splitB c b
  | [], b, _ => by simp [splitB]
  | x :: a, b, h => by
    have hx : x ≠ c := fun e => h (by simp [e])
    simp only [List.cons_append, splitB, if_neg hx, splitB_app c a b (fun e => h (List.mem_cons_of_mem _ e))]
theorem splitB_none (c : UInt8) : ∀ (l : List UInt8), c ∉ l → splitB c l = [l]
  | [], _ => rfl
  | x :: r, h => by
    have hx : x ≠ c := fun e => h (by simp [e])
    simp only [splitB, if_neg hx, splitB_none c r (fun e => h (List.mem_cons_of_mem _ e))]
theorem splitB_join (c : UInt8) : ∀ (a b : List UInt8), splitB c (a ++ c :: b) = splitB c a ++ splitB c b
  | [], b => by simp [splitB]
  | x :: a, b => by
    simp only [List.cons_append, splitB, splitB_join c a b]
    by_cases hx : x = c
    · simp [hx]
    · simp only [if_neg hx]
      cases h : splitB c a with
      | nil => exact absurd h (splitB_ne c a)
      | cons p q => rfl
theorem splitB_at (c : UInt8) (l : List UInt8) (k : Nat) (h : c ∉ l.take k) (hk : l[k]? = some c) : splitB c l = l.take k :: splitB c (l.drop (k + 1)) := by
  obtain ⟨hlt, he⟩ := List.getElem?_eq_some_iff.1 hk
  conv => lhs; rw [← List.take_append_drop k l, List.drop_eq_getElem_cons hlt, he]
  exact splitB_app c _ _ h
theorem splitB_mem (c : UInt8) : ∀ (l p : List UInt8), p ∈ splitB c l → c ∉ p ∧ p.length ≤ l.length
  | [], p, h => by simp [splitB] at h; subst h; simp
  | x :: r, p, h => by
    unfold splitB at h
    split at h
    · rcases List.mem_cons.1 h with rfl | h
      · simp
      · have := splitB_mem c r p h
        exact ⟨this.1, by simp; omega⟩
    · rename_i hx
      split at h
      · rename_i h0; exact absurd h0 (splitB_ne c r)
      · rename_i q qs hq
        rcases List.mem_cons.1 h with rfl | h
        · have := splitB_mem c r q (by rw [hq]; simp)
          refine ⟨fun hm => ?_, by simp; omega⟩
          rcases List.mem_cons.1 hm with e | e
          · exact hx e.symm
          · exact this.1 e
        · have := splitB_mem c r p (by rw [hq]; exact List.mem_cons_of_mem _ h)
          exact ⟨this.1, by simp; omega⟩
theorem splitB_length (c : UInt8) : ∀ l : List UInt8, (splitB c l).length ≤ l.length + 1
  | [] => by simp [splitB]
  | x :: r => by
    have := splitB_length c r
    unfold splitB
    split
    · simp; omega
    · split
      · simp
      · rename_i h; rw [h] at this; simp at this ⊢; omega
theorem index_one (c : UInt8) : ∀ l : List UInt8, (Lib.index l [c] = -1 ∧ c ∉ l) ∨ ∃ k : Nat, Lib.index l [c] = k ∧ k < l.length ∧ c ∉ l.take k ∧ l[k]? = some c
  | [] => .inl ⟨rfl, by simp⟩
  | x :: r => by
    unfold Lib.index
    by_cases hx : c = x
    · subst hx
      exact .inr ⟨0, by simp [List.isPrefixOf], by simp, by simp, by simp⟩
    · have h0 : ([c] : List UInt8).isPrefixOf (x :: r) = false := by simp [List.isPrefixOf, hx]
      rw [h0]
      rcases index_one c r with ⟨h1, h2⟩ | ⟨k, h1, h2, h3, h4⟩
      · exact .inl ⟨by simp [h1], by simp [hx, h2]⟩
      · refine .inr ⟨k + 1, ?_, by simp; omega, by simp [hx, h3], by simpa using h4⟩
        rw [h1]
        simp only [Bool.false_eq_true, if_false]
        rw [if_neg (by simp)]
        omega
theorem drop_drop_idem (p : UInt8 → Bool) : ∀ l : List UInt8, (l.dropWhile p).dropWhile p = l.dropWhile p
  | [] => rfl
  | x :: r => by
    by_cases h : p x
    · simp [h, drop_drop_idem p r]
    · simp [h]
theorem trimLB_idem (l : List UInt8) : trimLB (trimLB l) = trimLB l := drop_drop_idem _ l
theorem trimRB_idem (l : List UInt8) : trimRB (trimRB l) = trimRB l := by
  unfold trimRB Lib.trimRightS
  rw [List.reverse_reverse, drop_drop_idem]
theorem trimB_idem (l : List UInt8) : trimB (trimB l) = trimB l := by
  rw [trimB_eq (trimB l), trimB_eq l]
  have h : ∀ m, trimLB (trimRB m) = trimRB (trimLB m) := fun m => trim_comm [32, 9] m
  rw [h, trimLB_idem, trimRB_idem]
theorem trimB_sub (x : UInt8) (l : List UInt8) (h : x ∈ trimB l) : x ∈ l := by
  unfold trimB Lib.trimS Lib.trimLeftS Lib.trimRightS at h
  have h1 := (List.dropWhile_sublist _).subset h
  rw [List.mem_reverse] at h1
  have h2 := (List.dropWhile_sublist _).subset h1
  exact List.mem_reverse.1 h2

/-- What stands between commas, trimmed, if anything is left. -/
def itemsOf (l : List UInt8) : List (List UInt8) := ((splitB 44 l).map trimB).filter fun s => !s.isEmpty
def itemOf (p : List UInt8) : List (List UInt8) := if trimB p = [] then [] else [trimB p]
theorem items_cons (l p : List UInt8) (q : List (List UInt8)) (h : splitB 44 l = p :: q) : itemsOf l = itemOf p ++ (q.map trimB).filter fun s => !s.isEmpty := by
  unfold itemsOf itemOf
  rw [h, List.map_cons, List.filter_cons]
  by_cases h0 : trimB p = []
  · simp [h0]
  · rw [if_pos (by simpa using h0), if_neg h0]; rfl
theorem items_at (l : List UInt8) (k : Nat) (h : 44 ∉ l.take k) (hk : l[k]? = some 44) : itemsOf l = itemOf (l.take k) ++ itemsOf (l.drop (k + 1)) :=
  items_cons _ _ _ (splitB_at 44 l k h hk)
theorem items_none (l : List UInt8) (h : 44 ∉ l) : itemsOf l = itemOf l := by
  rw [items_cons _ _ _ (splitB_none 44 l h)]
  simp
theorem items_join (a b : List UInt8) : itemsOf (a ++ 44 :: b) = itemsOf a ++ itemsOf b := by
  unfold itemsOf
  rw [splitB_join, List.map_append, List.filter_append]
theorem items_mem {l s : List UInt8} (h : s ∈ itemsOf l) : s ≠ [] ∧ trimB s = s ∧ 44 ∉ s ∧ s.length ≤ l.length := by
  unfold itemsOf at h
  obtain ⟨h1, h2⟩ := List.mem_filter.1 h
  obtain ⟨p, hp, rfl⟩ := List.mem_map.1 h1
  obtain ⟨h3, h4⟩ := splitB_mem 44 l p hp
  refine ⟨by simpa using h2, trimB_idem p, fun hm => h3 (trimB_sub _ _ hm), Nat.le_trans (trimB_length p) h4⟩
theorem items_length (l : List UInt8) : (itemsOf l).length ≤ l.length + 1 := by
  unfold itemsOf
  refine Nat.le_trans (List.length_filter_le _ _) ?_
  rw [List.length_map]
  exact splitB_length 44 l
theorem itemOf_length (p : List UInt8) : (itemOf p).length ≤ 1 := by unfold itemOf; split <;> simp
end Go.Proofs.YtggokigjnaiokaaDoor
/- How much lists of texts, and of fields, hold. No program in sight. -/
namespace Go.Proofs.YtggokigjnaiokaaDoor
def lsum (l : List (List UInt8)) : Nat := (l.map fun s => s.length + 1).sum
theorem lsum_cons (x : List UInt8) (l : List (List UInt8)) : lsum (x :: l) = x.length + 1 + lsum l := rfl
theorem lsum_append : ∀ a b : List (List UInt8), lsum (a ++ b) = lsum a + lsum b
  | [], b => by simp [lsum]
  | x :: a, b => by rw [List.cons_append, lsum_cons, lsum_cons, lsum_append a b]; omega
theorem split_sum (c : UInt8) : ∀ l : List UInt8, lsum (splitB c l) = l.length + 1
  | [] => rfl
  | x :: r => by
    have ih := split_sum c r
    unfold splitB
    split
    · rw [lsum_cons, ih]; simp; omega
    · cases h : splitB c r with
      | nil => exact absurd h (splitB_ne c r)
      | cons p q => rw [h, lsum_cons] at ih; rw [lsum_cons]; simp only [List.length_cons]; omega
theorem lsum_trim : ∀ l : List (List UInt8), lsum ((l.map trimB).filter fun s => !s.isEmpty) ≤ lsum l
  | [] => Nat.le_refl _
  | x :: r => by
    have ih := lsum_trim r
    have := trimB_length x
    rw [List.map_cons, List.filter_cons, lsum_cons]
    split
    · rw [lsum_cons]; omega
    · omega
theorem items_sum (l : List UInt8) : lsum (itemsOf l) ≤ l.length + 1 := by
  unfold itemsOf
  rw [← split_sum 44 l]
  exact lsum_trim _
end Go.Proofs.YtggokigjnaiokaaDoor
namespace Go.Proofs.YtggokigjnaiokaaDoor.Vex
open Go Go.RowKit
def fsum (l : List Fld) : Nat := (l.map fun p => p.1.length + p.2.length + 3).sum
theorem fsum_cons (p : Fld) (l : List Fld) : fsum (p :: l) = p.1.length + p.2.length + 3 + fsum l := rfl
theorem fsum_append : ∀ a b : List Fld, fsum (a ++ b) = fsum a + fsum b
  | [], b => by simp [fsum]
  | x :: a, b => by rw [List.cons_append, fsum_cons, fsum_cons, fsum_append a b]; omega
theorem fsum_mem {l : List Fld} {p : Fld} (h : p ∈ l) : p.1.length + p.2.length + 3 ≤ fsum l := by
  induction l with
  | nil => cases h
  | cons y r ih =>
    rw [fsum_cons]
    rcases List.mem_cons.1 h with rfl | h
    · omega
    · have := ih h; omega
theorem fsum_length : ∀ l : List Fld, 3 * l.length ≤ fsum l
  | [] => Nat.le_refl _
  | x :: r => by have := fsum_length r; rw [fsum_cons, List.length_cons]; omega
theorem allOf_sum (s : List UInt8) : ∀ l : List Fld, lsum (allOf l s) ≤ fsum l
  | [] => Nat.le_refl _
  | x :: r => by
    have := allOf_sum s r
    unfold allOf at this ⊢
    rw [List.filter_cons, fsum_cons]
    split
    · rw [List.map_cons, lsum_cons]; omega
    · omega
theorem lsum_length (l : List (List UInt8)) : l.length ≤ lsum l := by
  induction l with
  | nil => exact Nat.le_refl _
  | cons x r ih => rw [lsum_cons, List.length_cons]; omega
end Go.Proofs.YtggokigjnaiokaaDoor.Vex
/- The kinds of data that this program's statements take: fields, requests, bytes. -/
namespace Go.Proofs.YtggokigjnaiokaaDoor.Vex
open Go Go.RowKit Go.ChangeShapes Go.WideShapes Go.Deep
set_option maxRecDepth 100000

/-- Another form of the same data. -/
theorem opens_map {P : Program} {t : TypeId} {S T : Shape} (h : Opens P t S) (g : S.α → T.α) (hn : S.n = T.n) (hf : ∀ W x, S.ok W x → S.f x = T.f (g x)) (hok : ∀ W x, S.ok W x → T.ok W (g x)) (hw : ∀ W x, S.ok W x → T.wt (g x) ≤ S.wt x) : Opens P t T := ⟨h.1.trans hn, fun hd => by
  obtain ⟨x, h1, h2, h3, h4⟩ := h.2 hd
  exact ⟨g x, h1.trans (hf _ x h2), hok _ x h2, Nat.le_trans (hw _ x h2) h3, by rw [← hf _ x h2, h4, hn]⟩⟩
abbrev byteShape : Shape := ⟨UInt8, 1, fun b => [byteV b], fun _ _ => True, fun _ => 1⟩
theorem opens_byte {P : Program} {t : TypeId} (ht : P.underlying t = some (.int .u8)) (hc : P.cellsOf t = 1) : Opens P t byteShape :=
  opens_map (opens_int ht hc) (fun (n : Int) => UInt8.ofNat n.toNat) rfl (fun W (x : Int) (h : IntKind.u8.min ≤ x ∧ x ≤ IntKind.u8.max) => by
    have h1 : (0 : Int) ≤ x := h.1
    have h2 : x ≤ 255 := h.2
    clear h
    show [Value.int .u8 x] = [byteV _]
    unfold byteV
    rw [UInt8.toNat_ofNat_of_lt' (by show x.toNat < 256; omega), Int.toNat_of_nonneg h1]) (fun _ _ _ => trivial) (fun _ _ _ => Nat.le_refl _)
abbrev bytesShape : Shape := sliceShape byteShape
theorem flat_bytes (l : List UInt8) : l.flatMap (fun b => [byteV b]) = l.map byteV := by
  induction l with
  | nil => rfl
  | cons a r ih => rw [List.flatMap_cons, ih]; rfl
theorem flat_strs (l : List (List UInt8)) : l.flatMap (fun b => [str b]) = l.map str := by
  induction l with
  | nil => rfl
  | cons a r ih => rw [List.flatMap_cons, ih]; rfl
theorem flat_fields (l : List Fld) : l.flatMap (fun p => [str p.1, str p.2]) = fcells l := by
  induction l with
  | nil => rfl
  | cons a r ih => rw [List.flatMap_cons, ih]; rfl
abbrev fldShape : Shape := ⟨Fld, 2, fun p => [str p.1, str p.2], fun _ p => p.1.length ≤ 9223372036854775807 ∧ p.2.length ≤ 9223372036854775807, fun p => p.1.length + p.2.length + 3⟩
theorem opens_string : Opens Tryd.prog 9 strShape := opens_str Tryd.underlying9 (by kernel_rfl)
theorem opens_i64 : Opens Tryd.prog 3 (intShape .i64) := opens_int Tryd.underlying3 (by kernel_rfl)
theorem opens_tf : Opens Tryd.prog 4 boolShape := opens_bool Tryd.underlying4 (by kernel_rfl)
theorem opens_u8 : Opens Tryd.prog 5 byteShape := opens_byte Tryd.underlying5 (by kernel_rfl)
theorem opens_bytes : Opens Tryd.prog 26 bytesShape := opens_slice Tryd.underlying26 (by kernel_rfl) opens_u8
theorem opens_strings : Opens Tryd.prog 87 (sliceShape strShape) := opens_slice Tryd.underlying87 (by kernel_rfl) opens_string
theorem opens_field : Opens Tryd.prog 39 fldShape := by
  have h := opens_struct Tryd.underlying39 (by kernel_rfl) (opensL_cons rfl opens_string (opensL_cons rfl opens_string (opensL_nil _)))
  exact opens_map h (fun x => (x.1, x.2.1)) rfl (fun _ _ _ => rfl) (fun _ _ h => ⟨h.1, h.2.1⟩) (fun _ _ _ => by dsimp only; omega)
abbrev fieldsShape : Shape := sliceShape fldShape
theorem opens_fields : Opens Tryd.prog 22 fieldsShape := opens_slice Tryd.underlying22 (by kernel_rfl) opens_field
/-- A request that came in. -/
structure Req where
  m : List UInt8
  p : List UInt8
  q : List UInt8
  v : Int
  F : Sl Fld
  B : Sl UInt8
def Req.cells (r : Req) : List Value := [str r.m, str r.p, str r.q, .int .i64 r.v, .slice r.F.A r.F.l.length r.F.cp, .slice r.B.A r.B.l.length r.B.cp]
abbrev reqShape : Shape := ⟨Req, 6, Req.cells, fun w r => (-9223372036854775808 ≤ r.v ∧ r.v ≤ 9223372036854775807) ∧ fieldsShape.ok w r.F ∧ bytesShape.ok w r.B ∧ r.m.length ≤ 9223372036854775807 ∧ r.p.length ≤ 9223372036854775807 ∧ r.q.length ≤ 9223372036854775807,
  fun r => r.m.length + r.p.length + r.q.length + fieldsShape.wt r.F + bytesShape.wt r.B⟩
theorem opens_request : Opens Tryd.prog 28 reqShape := by
  have h := opens_struct Tryd.underlying28 (by kernel_rfl) (opensL_cons rfl opens_string (opensL_cons rfl opens_string (opensL_cons rfl opens_string (opensL_cons rfl opens_i64 (opensL_cons rfl opens_fields (opensL_cons rfl opens_bytes (opensL_nil _)))))))
  exact opens_map h (fun x => Req.mk x.1 x.2.1 x.2.2.1 x.2.2.2.1 x.2.2.2.2.1 x.2.2.2.2.2.1) rfl (fun _ _ _ => rfl) (fun _ _ h => ⟨h.2.2.2.1, h.2.2.2.2.1, h.2.2.2.2.2.1, h.1, h.2.1, h.2.2.1⟩) (fun _ _ _ => by dsimp only; omega)
theorem req_fsum (x : Req) : fsum x.F.l ≤ reqShape.wt x := by
  show fsum x.F.l ≤ x.m.length + x.p.length + x.q.length + (fsum x.F.l + 1) + bytesShape.wt x.B
  omega
theorem fld_len (x : Fld) : x.1.length + x.2.length ≤ fldShape.wt x := by
  show x.1.length + x.2.length ≤ x.1.length + x.2.length + 3
  omega
theorem rd_fields {W : World} {x : Sl Fld} (h : fieldsShape.ok W x) : Rdw W x.A (fcells x.l) := flat_fields x.l ▸ h.2.1
end Go.Proofs.YtggokigjnaiokaaDoor.Vex
/- The cell of internal/bytealg.MaxLen holds a number, in every world of the program's shape. -/
namespace Go.Proofs.YtggokigjnaiokaaDoor

theorem maxLen_cell {w : World} (h : w.ShapedOpen Tryd.prog) : ∃ m, w.cell? ⟨2, 0, none⟩ = some (.int .i64 m) :=
  Go.Proofs.cell_of_shapedOpen_int (zero := #[.int .i64 0]) (t := 3) h (of_decide_eq_true (by kernel_rfl)) (by kernel_rfl) rfl (by kernel_rfl) (by kernel_rfl) Tryd.underlying3
end Go.Proofs.YtggokigjnaiokaaDoor
/- What a row's listed variables give the walks: the two sentinels of strconv, the table of powers, the cell of MaxLen. -/
namespace Go.Proofs.YtggokigjnaiokaaDoor.Vex
open Go Go.RowKit Go.ChangeShapes

theorem reads_of {l : List (String × DataW Unit)} {W : World} (h : laidMetH Tryd.prog l W) (hp : (l.all fun x => x.2.handleName?.isNone) = true) {n : String} {d : DataW Unit} (hm : (n, d) ∈ l) : Lib.VarReads Tryd.prog W n d := by
  rw [MakeChecks.laidMetH_plain _ _ _ hp] at h
  exact Lib.laidMet.reads h hm
theorem errCell_of {P : Program} {W : World} {n nm : String} {d : DataW Unit} {g : Nat} {ti : TypeId} {ms : Array (String × TypeId)} (h : Lib.VarReads P W n (.iface nm d)) (hg : P.globalNamed n = some g) (ht : (P.globals[g]?).map (·.type) = some ti) (hi : P.underlying ti = some (.interface ms)) : ErrCell g W := by
  obtain ⟨g', t', cs, fuel, p, hg', ht', hv, hd⟩ := h
  obtain rfl := Option.some.inj (hg.symm.trans hg')
  obtain rfl := Option.some.inj (ht.symm.trans ht')
  obtain ⟨f1, u, v, hcs, hn, h1⟩ := iface_of_trod hi hd
  have h2 := World.var?_cell hg hv 0
  rw [show cs = #[.iface u v] by rw [← Array.toList_inj, hcs]] at h2
  exact ⟨.iface u v, by simpa using h2, .inr ⟨u, v, rfl⟩⟩
theorem tab_of {P : Program} {W : World} {n : String} {k : IntKind} {zs : List Int} {g : Nat} {t e : TypeId} {m : Nat} (h : Lib.VarReads P W n (Lib.tabData k zs)) (hg : P.globalNamed n = some g) (ht : (P.globals[g]?).map (·.type) = some t) (hu : P.underlying t = some (.array m e)) (he : P.underlying e = some (.int k)) (hce : P.cellsOf e = 1) (hct : P.cellsOf t = m) : Lib.TabIs P W n k zs := by
  obtain ⟨g', t', cs, fuel, p, hg', ht', hv, hd⟩ := h
  obtain rfl := Option.some.inj (hg.symm.trans hg')
  obtain rfl := Option.some.inj (ht.symm.trans ht')
  unfold Lib.TabIs
  rw [hv, ← Lib.cells_of_tab hu he hce hct hd]
theorem gB_of {W : World} (hS : W.ShapedOpen Tryd.prog) : gB.G W := maxLen_cell hS
theorem gE_of {l : List (String × DataW Unit)} {W : World} (hL : laidMetH Tryd.prog l W) (hS : W.ShapedOpen Tryd.prog) (hp : (l.all fun x => x.2.handleName?.isNone) = true)
    (h1 : ("strconv.ErrSyntax", Rows.laid_strconv_ErrSyntax) ∈ l) (h2 : ("strconv.ErrRange", Rows.laid_strconv_ErrRange) ∈ l) : gE.G W :=
  ⟨gB_of hS, errCell_of (ti := 97) (reads_of hL hp h1) (g := 0) (by kernel_rfl) (by kernel_rfl) Tryd.underlying97, errCell_of (ti := 97) (reads_of hL hp h2) (g := 1) (by kernel_rfl) (by kernel_rfl) Tryd.underlying97⟩
theorem gP_of {l : List (String × DataW Unit)} {W : World} (hL : laidMetH Tryd.prog l W) (hS : W.ShapedOpen Tryd.prog) (hp : (l.all fun x => x.2.handleName?.isNone) = true)
    (h1 : ("strconv.ErrSyntax", Rows.laid_strconv_ErrSyntax) ∈ l) (h2 : ("strconv.ErrRange", Rows.laid_strconv_ErrRange) ∈ l) (h3 : ("internal/strconv.uint64pow10", Rows.laid_internal_strconv_uint64pow10) ∈ l) : gP.G W :=
  ⟨gE_of hL hS hp h1 h2, tab_of (t := 185) (e := 163) (m := 20) (reads_of hL hp h3) pow_name (by kernel_rfl) Tryd.underlying185 Tryd.underlying163 (by kernel_rfl) (by kernel_rfl)⟩
end Go.Proofs.YtggokigjnaiokaaDoor.Vex
/- Two fields, compared. -/
namespace Go.Proofs.YtggokigjnaiokaaDoor.Vex
open Go Go.RowKit
set_option maxRecDepth 100000
set_option linter.unusedSectionVars false
variable {gI : GI} [HasMax gI]

theorem toList_str (a b : List UInt8) : ((⟨⟨a⟩⟩ : ByteArray).toList == (⟨⟨b⟩⟩ : ByteArray).toList) = (a == b) := by
  rw [ByteArray.toList_eq, ByteArray.toList_eq]
theorem eqF_run (a b a' b' : List UInt8) (w : World) : (Op.equalIn 10000 39 (.agg ⟨[str a, str b]⟩) (.agg ⟨[str a', str b']⟩)).run Tryd.prog w = .ok (a == a' && b == b') w := by
  rw [show (10000 : Nat) = 9999 + 1 from rfl, run_equalIn_struct w 9999 _ _ _ (by kernel_rfl) (by kernel_rfl)]
  rw [show (Tryd.prog.fieldsOf 39).toList = [{ name := "Name", type := 9, offset := 0, embedded := false, tag := "", pkgPath := "", byteOffset := 0 }, { name := "Value", type := 9, offset := 1, embedded := false, tag := "", pkgPath := "", byteOffset := 16 }] from by kernel_rfl]
  have p0 : ∀ (u v : Value) w, (part 9 #[u, v] 0).run Tryd.prog w = .ok u w := fun u v w => by simp [go_sem]
  have p1 : ∀ (u v : Value) w, (part 9 #[u, v] 1).run Tryd.prog w = .ok v w := fun u v w => by simp [go_sem]
  have e0 : ∀ (x y : List UInt8) w, (Op.equalIn 9999 9 (str x) (str y)).run Tryd.prog w = .ok (x == y) w := fun x y w => by
    rw [show (9999 : Nat) = 9998 + 1 from rfl, run_equalIn_string w 9998 _ _ _ Tryd.underlying9, toList_str]
  simp only [Op.eqFields]
  cases h : a == a'
  · simp [go_sem, h, e0]
  · simp [go_sem, h, e0]
    split <;> simp_all
theorem OthP.eqF {c : Ctx} {H : Hp} {d : Option Nat} {x y : Operand} {yt ty : TypeId} {pos : String} {after : Array Edge} {gd : Option (Nat × Bool)} {fr : Fr} {a b a' b' : List UInt8} {K : Value → Prop} (hP : c.P = Tryd.prog)
    (hx : evK fr x fun v => v = .agg ⟨[str a, str b]⟩) (hy : evK fr y fun v => v = .agg ⟨[str a', str b']⟩) (k : K (.bool (a == a' && b == b'))) : OthP c ⟨d, .binOp .eql 39 x y yt, ty, pos, after, gd⟩ fr H K := ⟨⟨_, k, fun w _ => by
  rw [evK_eq] at hx hy
  rw [hP]
  have hg := run_eqGuard_agg (P := Tryd.prog) w .eql 39 x y ⟨[str a, str b]⟩ ⟨[str a', str b']⟩ (by kernel_rfl)
  have hb := run_eql_struct (P := Tryd.prog) w 39 ⟨[str a, str b]⟩ ⟨[str a', str b']⟩
  rw [eqF_run] at hb
  simp only [execOp, hx, hy, Sem.run_bind, hg, Result.andThen_ok, hb]
  rfl⟩⟩
theorem OthP.neF {c : Ctx} {H : Hp} {d : Option Nat} {x y : Operand} {yt ty : TypeId} {pos : String} {after : Array Edge} {gd : Option (Nat × Bool)} {fr : Fr} {a b a' b' : List UInt8} {K : Value → Prop} (hP : c.P = Tryd.prog)
    (hx : evK fr x fun v => v = .agg ⟨[str a, str b]⟩) (hy : evK fr y fun v => v = .agg ⟨[str a', str b']⟩) (k : K (.bool (!(a == a' && b == b')))) : OthP c ⟨d, .binOp .neq 39 x y yt, ty, pos, after, gd⟩ fr H K := ⟨⟨_, k, fun w _ => by
  rw [evK_eq] at hx hy
  rw [hP]
  have hg : (eqGuard .neq 39 x y (.agg ⟨[str a, str b]⟩) (.agg ⟨[str a', str b']⟩)).run Tryd.prog w = .ok () w := run_eqGuard_agg (P := Tryd.prog) w .neq 39 x y ⟨[str a, str b]⟩ ⟨[str a', str b']⟩ (by kernel_rfl)
  have hb : (binOp .neq 39 (.agg ⟨[str a, str b]⟩) (.agg ⟨[str a', str b']⟩)).run Tryd.prog w = .ok (.bool (!(a == a' && b == b'))) w := by
    show (do pure (.bool (!(← Op.equal 39 (.agg ⟨[str a, str b]⟩) (.agg ⟨[str a', str b']⟩)))) : Sem Value).run Tryd.prog w = _
    have e : Op.equal 39 (.agg ⟨[str a, str b]⟩) (.agg ⟨[str a', str b']⟩) = Op.equalIn 10000 39 (.agg ⟨[str a, str b]⟩) (.agg ⟨[str a', str b']⟩) := rfl
    rw [e, Sem.run_bind, eqF_run]
    rfl
  simp only [execOp, hx, hy, Sem.run_bind, hg, Result.andThen_ok, hb]
  rfl⟩⟩
end Go.Proofs.YtggokigjnaiokaaDoor.Vex
/- field.Items, reckoned: a range over strings.SplitSeq. -/
namespace Go.Proofs.YtggokigjnaiokaaDoor.Vex
open Go Go.RowKit
set_option maxRecDepth 100000
set_option linter.unusedSectionVars false
variable {gI : GI} [HasMax gI]

theorem itemsLeft {l r : List UInt8} {out : List (List UInt8)} (h : out ++ itemsOf r = itemsOf l) : out.length ≤ l.length + 1 := by
  have := items_length l
  rw [← h, List.length_append] at this
  omega
theorem Items_f (l : List UInt8) (hl : l.length ≤ 4000000000) : FnS Tryd.prog gI 87 [str l] [] 9 1 (itemsOf l).length ((itemsOf l).map str) := by
  refine FnE.ofX tys_ok Tryd.func87 rfl (by kernel_rfl) rfl rfl ?_; intro w hG hP
  (conv => whnf); repeat ((first | refine tk1 ?_ | refine tk2 ?_ | refine tk3 ?_ | refine tk12 (fun _ => ?_) | refine tk4 ?_ | refine tk5 ?_ | refine tk6 ?_ | refine tk7 ?_ | refine tk8 ?_ | refine tk9 ?_ | refine tk10 (fun _ _ => ?_) | refine tk11 (fun _ => ?_)); (conv => whnf))
  refine CallK.inl tys_ok Tryd.func113 rfl (by kernel_rfl) rfl rfl ?_
  (conv => whnf); repeat ((first | refine tk1 ?_ | refine tk2 ?_ | refine tk3 ?_ | refine tk12 (fun _ => ?_) | refine tk4 ?_ | refine tk5 ?_ | refine tk6 ?_ | refine tk7 ?_ | refine tk8 ?_ | refine tk9 ?_ | refine tk10 (fun _ _ => ?_) | refine tk11 (fun _ => ?_)); (conv => whnf))
  refine CallK.inl tys_ok Tryd.func135 rfl (by kernel_rfl) rfl rfl ?_
  (conv => whnf); repeat ((first | refine tk1 ?_ | refine tk2 ?_ | refine tk3 ?_ | refine tk12 (fun _ => ?_) | refine tk4 ?_ | refine tk5 ?_ | refine tk6 ?_ | refine tk7 ?_ | refine tk8 ?_ | refine tk9 ?_ | refine tk10 (fun _ _ => ?_) | refine tk11 (fun _ => ?_)); (conv => whnf))
  rename_i bo bs bp bk
  refine RngS.go tys_ok rfl Tryd.func148 rfl (by kernel_rfl) ?_
  intro fno D
  generalize hR : ready fno _ _ _ _ D = R
  have yl : ∀ (p r : List UInt8) (out : List (List UInt8)) (A : Option Addr) (cp : Nat) (K : Value → Hp → Prop), p.length ≤ 4000000000 → out.length ≤ 5000000000 →
      (∀ A' cp', K (.bool true) [.obj (D + 1) (.loop R), .row (.slice A' (out ++ itemOf p).length cp') 9 1 (out ++ itemOf p).length ((out ++ itemOf p).map str), .obj D (.deferred (some [])), .box bk [.int .i64 0] 3, .box bp [str [44]] 9, .box bs [str r] 9, .box bo [.slice A' (out ++ itemOf p).length cp'] 87]) →
      YldK (mkC Tryd.prog gI w hG) (D + 1) [str p] [.obj (D + 1) (.loop R), .row (.slice A out.length cp) 9 1 out.length (out.map str), .obj D (.deferred (some [])), .box bk [.int .i64 0] 3, .box bp [str [44]] 9, .box bs [str r] 9, .box bo [.slice A out.length cp] 87] K := by
    intro p r out A cp K hp hn hk
    subst hR
    refine YldK.run tys_ok .here rfl rfl rfl rfl ?_
    (conv => whnf); repeat ((first | refine tk1 ?_ | refine tk2 ?_ | refine tk3 ?_ | refine tk12 (fun _ => ?_) | refine tk4 ?_ | refine tk5 ?_ | refine tk6 ?_ | refine tk7 ?_ | refine tk8 ?_ | refine tk9 ?_ | refine tk10 (fun _ _ => ?_) | refine tk11 (fun _ => ?_)); (conv => whnf))
    refine ⟨List.Perm.refl _, ?_⟩
    (conv => whnf); repeat ((first | refine tk1 ?_ | refine tk2 ?_ | refine tk3 ?_ | refine tk12 (fun _ => ?_) | refine tk4 ?_ | refine tk5 ?_ | refine tk6 ?_ | refine tk7 ?_ | refine tk8 ?_ | refine tk9 ?_ | refine tk10 (fun _ _ => ?_) | refine tk11 (fun _ => ?_)); (conv => whnf))
    refine CallK.fn (Trim_f p (by omega)) ?_
    (conv => whnf); repeat ((first | refine tk1 ?_ | refine tk2 ?_ | refine tk3 ?_ | refine tk12 (fun _ => ?_) | refine tk4 ?_ | refine tk5 ?_ | refine tk6 ?_ | refine tk7 ?_ | refine tk8 ?_ | refine tk9 ?_ | refine tk10 (fun _ _ => ?_) | refine tk11 (fun _ => ?_)); (conv => whnf))
    refine Cmp.cases (fun h0 => ?_) (fun h0 => ?_)
    · have hi : itemOf p = [trimB p] := by unfold itemOf; rw [if_neg h0]
      rw [hi] at hk
      (conv => whnf); repeat ((first | refine tk1 ?_ | refine tk2 ?_ | refine tk3 ?_ | refine tk12 (fun _ => ?_) | refine tk4 ?_ | refine tk5 ?_ | refine tk6 ?_ | refine tk7 ?_ | refine tk8 ?_ | refine tk9 ?_ | refine tk10 (fun _ _ => ?_) | refine tk11 (fun _ => ?_)); (conv => whnf))
      refine AppS.tc SrcK.tc rfl (by simp [Value.oneCell']) (by decide) (by omega) (by omega) (zs := (out ++ [trimB p]).map str) (by simp) (fun A' cp' => ?_)
      (conv => whnf); repeat ((first | refine tk1 ?_ | refine tk2 ?_ | refine tk3 ?_ | refine tk12 (fun _ => ?_) | refine tk4 ?_ | refine tk5 ?_ | refine tk6 ?_ | refine tk7 ?_ | refine tk8 ?_ | refine tk9 ?_ | refine tk10 (fun _ _ => ?_) | refine tk11 (fun _ => ?_)); (conv => whnf))
      have := hk A' cp'
      rw [List.length_append] at this
      exact ⟨_, _, (by first | exact Pick.here | exact Pick.here.skip | exact Pick.here.skip.skip | exact Pick.here.skip.skip.skip | exact Pick.here.skip.skip.skip.skip | exact Pick.here.skip.skip.skip.skip.skip | exact Pick.here.skip.skip.skip.skip.skip.skip), (by repeat' (first | exact List.Sublist.refl _ | exact List.nil_sublist _ | apply List.Sublist.cons_cons | apply List.Sublist.cons)), this⟩
    · have hi : itemOf p = [] := by unfold itemOf; rw [if_pos (by simpa using h0)]
      rw [hi] at hk
      (conv => whnf); repeat ((first | refine tk1 ?_ | refine tk2 ?_ | refine tk3 ?_ | refine tk12 (fun _ => ?_) | refine tk4 ?_ | refine tk5 ?_ | refine tk6 ?_ | refine tk7 ?_ | refine tk8 ?_ | refine tk9 ?_ | refine tk10 (fun _ _ => ?_) | refine tk11 (fun _ => ?_)); (conv => whnf))
      have := hk A cp
      rw [List.append_nil] at this
      exact ⟨_, _, (by first | exact Pick.here | exact Pick.here.skip | exact Pick.here.skip.skip | exact Pick.here.skip.skip.skip | exact Pick.here.skip.skip.skip.skip | exact Pick.here.skip.skip.skip.skip.skip | exact Pick.here.skip.skip.skip.skip.skip.skip), (by repeat' (first | exact List.Sublist.refl _ | exact List.nil_sublist _ | apply List.Sublist.cons_cons | apply List.Sublist.cons)), this⟩
  (conv => whnf); repeat ((first | refine tk1 ?_ | refine tk2 ?_ | refine tk3 ?_ | refine tk12 (fun _ => ?_) | refine tk4 ?_ | refine tk5 ?_ | refine tk6 ?_ | refine tk7 ?_ | refine tk8 ?_ | refine tk9 ?_ | refine tk10 (fun _ _ => ?_) | refine tk11 (fun _ => ?_)); (conv => whnf))
  refine LoopS.nilRow 9 1 (LoopS.perm (List.Perm.swap ..) ?_)
  refine LoopS.lp tys_ok (fun (x : List UInt8 × List (List UInt8) × Option Addr × Nat) u => [.func (.yield (D + 1)) ⟨[]⟩ ⟨[]⟩, .pointer (some ⟨bp, 0, none⟩), .pointer (some ⟨bs, 0, none⟩), .pointer (some ⟨bk, 0, none⟩), u 4, u 5, u 6, u 7, u 8, u 9, u 10, u 11, u 12, u 13, u 14, u 15, u 16, u 17, u 18, u 19, u 20, u 21, u 22, u 23, u 24, u 25, u 26, u 27, u 28, u 29, u 30, u 31, u 32, u 33, u 34, u 35, u 36, u 37, u 38, u 39, u 40, u 41, u 42, u 43, u 44, u 45, u 46, u 47, u 48, u 49, u 50, u 51])
    (fun x => [.obj (D + 1) (.loop R), .row (.slice x.2.2.1 x.2.1.length x.2.2.2) 9 1 x.2.1.length (x.2.1.map str), .obj D (.deferred (some [])), .box bk [.int .i64 0] 3, .box bp [str [44]] 9, .box bs [str x.1] 9, .box bo [.slice x.2.2.1 x.2.1.length x.2.2.2] 87])
    (fun x => x.2.1 ++ itemsOf x.1 = itemsOf l ∧ x.1.length ≤ l.length) (fun x => x.1.length) (l, [], none, 0) ⟨rfl, Nat.le_refl _⟩ rfl (by repeat' (first | exact List.Sublist.refl _ | exact List.nil_sublist _ | apply List.Sublist.cons_cons | apply List.Sublist.cons)) ?_
  rintro ⟨r, out, A, cp⟩ u ⟨hI, hz⟩
  dsimp only at hI hz ⊢
  have hn := itemsLeft hI
  (conv => whnf); repeat ((first | refine tk1 ?_ | refine tk2 ?_ | refine tk3 ?_ | refine tk12 (fun _ => ?_) | refine tk4 ?_ | refine tk5 ?_ | refine tk6 ?_ | refine tk7 ?_ | refine tk8 ?_ | refine tk9 ?_ | refine tk10 (fun _ _ => ?_) | refine tk11 (fun _ => ?_)); (conv => whnf))
  refine CallK.fn (Index_f r [44] (by omega)) ?_
  rcases index_one 44 r with ⟨h1, h2⟩ | ⟨k, h1, h2, h3, h4⟩
  · rw [h1]
    (conv => whnf); repeat ((first | refine tk1 ?_ | refine tk2 ?_ | refine tk3 ?_ | refine tk12 (fun _ => ?_) | refine tk4 ?_ | refine tk5 ?_ | refine tk6 ?_ | refine tk7 ?_ | refine tk8 ?_ | refine tk9 ?_ | refine tk10 (fun _ _ => ?_) | refine tk11 (fun _ => ?_)); (conv => whnf))
    refine yl r r out A cp _ (by omega) (by omega) (fun A' cp' => ?_)
    have hf : out ++ itemOf r = itemsOf l := by rw [← hI, items_none r h2]
    rw [hf]
    (conv => whnf); repeat ((first | refine tk1 ?_ | refine tk2 ?_ | refine tk3 ?_ | refine tk12 (fun _ => ?_) | refine tk4 ?_ | refine tk5 ?_ | refine tk6 ?_ | refine tk7 ?_ | refine tk8 ?_ | refine tk9 ?_ | refine tk10 (fun _ _ => ?_) | refine tk11 (fun _ => ?_)); (conv => whnf))
    refine ⟨_, _, .here, ?_, ?_, ?_⟩
    · rw [← hR]; rfl
    · rw [← hR]; rfl
    (conv => whnf); repeat ((first | refine tk1 ?_ | refine tk2 ?_ | refine tk3 ?_ | refine tk12 (fun _ => ?_) | refine tk4 ?_ | refine tk5 ?_ | refine tk6 ?_ | refine tk7 ?_ | refine tk8 ?_ | refine tk9 ?_ | refine tk10 (fun _ _ => ?_) | refine tk11 (fun _ => ?_)); (conv => whnf))
    refine ⟨_, _, rfl, (by first | exact Pick.here | exact Pick.here.skip | exact Pick.here.skip.skip | exact Pick.here.skip.skip.skip | exact Pick.here.skip.skip.skip.skip | exact Pick.here.skip.skip.skip.skip.skip | exact Pick.here.skip.skip.skip.skip.skip.skip), ?_⟩
    (conv => whnf); repeat ((first | refine tk1 ?_ | refine tk2 ?_ | refine tk3 ?_ | refine tk12 (fun _ => ?_) | refine tk4 ?_ | refine tk5 ?_ | refine tk6 ?_ | refine tk7 ?_ | refine tk8 ?_ | refine tk9 ?_ | refine tk10 (fun _ _ => ?_) | refine tk11 (fun _ => ?_)); (conv => whnf))
    exact rowPost.of (by simp)
  · rw [h1]
    have hs : (r.take ((k : Int) + 0).toNat).drop 0 = r.take k := by simp
    (conv => whnf); repeat ((first | refine tk1 ?_ | refine tk2 ?_ | refine tk3 ?_ | refine tk12 (fun _ => ?_) | refine tk4 ?_ | refine tk5 ?_ | refine tk6 ?_ | refine tk7 ?_ | refine tk8 ?_ | refine tk9 ?_ | refine tk10 (fun _ _ => ?_) | refine tk11 (fun _ => ?_)); (conv => whnf))
    refine SlcS.at (by omega) (by omega) (by omega) ?_
    (conv => whnf); repeat ((first | refine tk1 ?_ | refine tk2 ?_ | refine tk3 ?_ | refine tk12 (fun _ => ?_) | refine tk4 ?_ | refine tk5 ?_ | refine tk6 ?_ | refine tk7 ?_ | refine tk8 ?_ | refine tk9 ?_ | refine tk10 (fun _ _ => ?_) | refine tk11 (fun _ => ?_)); (conv => whnf))
    rw [show (List.take ((k : Int) + 0).toNat r).drop (0 : Int).toNat = r.take k by simp]
    refine yl (r.take k) r out A cp _ (by rw [List.length_take]; omega) (by omega) (fun A' cp' => ?_)
    (conv => whnf); repeat ((first | refine tk1 ?_ | refine tk2 ?_ | refine tk3 ?_ | refine tk12 (fun _ => ?_) | refine tk4 ?_ | refine tk5 ?_ | refine tk6 ?_ | refine tk7 ?_ | refine tk8 ?_ | refine tk9 ?_ | refine tk10 (fun _ _ => ?_) | refine tk11 (fun _ => ?_)); (conv => whnf))
    refine slc ?_
    (conv => whnf); repeat ((first | refine tk1 ?_ | refine tk2 ?_ | refine tk3 ?_ | refine tk12 (fun _ => ?_) | refine tk4 ?_ | refine tk5 ?_ | refine tk6 ?_ | refine tk7 ?_ | refine tk8 ?_ | refine tk9 ?_ | refine tk10 (fun _ _ => ?_) | refine tk11 (fun _ => ?_)); (conv => whnf))
    refine ⟨(r.drop (k + 1), out ++ itemOf (r.take k), A', cp'), ⟨?_, by dsimp only; rw [List.length_drop]; omega⟩, rfl, ?_, by dsimp only; rw [List.length_drop]; omega⟩
    · dsimp only
      rw [List.append_assoc, ← items_at r k h3 h4, hI]
    · dsimp only
      rw [show (List.take (r.length : Int).toNat r).drop ((k : Int) + (([44] : List UInt8).length : Nat)).toNat = r.drop (k + 1) by rw [Int.toNat_natCast, List.take_length]; congr 1]
      exact List.Sublist.refl _
end Go.Proofs.YtggokigjnaiokaaDoor.Vex
/- Plain definitions on sizes of bodies: numbers, lengths, codings. No program in sight. -/
namespace Go.Proofs.YtggokigjnaiokaaDoor

def digitsL : List UInt8 := [48, 49, 50, 51, 52, 53, 54, 55, 56, 57]
def digB (x : UInt8) : Bool := decide (48 ≤ x.toNat) && decide (x.toNat ≤ 57)
def numStep (n : Nat) (x : UInt8) : Nat := 10 * n + (x.toNat - 48)
def numF (n : Nat) (l : List UInt8) : Nat := l.foldl numStep n
def numV (l : List UInt8) : Nat := numF 0 l
def numOK (l : List UInt8) : Bool := decide (1 ≤ l.length) && (decide (l.length ≤ 9) && l.all digB)
def numN (l : List UInt8) : Int := if numOK l then (numV l : Int) else 0

theorem digit_is (x : UInt8) : digitsL.contains x = digB x := by
  have : ∀ n : Fin 256, digitsL.contains (UInt8.ofNat n.val) = digB (UInt8.ofNat n.val) := by decide +kernel
  have h := this ⟨x.toNat, x.toNat_lt⟩
  simpa using h
theorem dropWhile_nil (p : UInt8 → Bool) : ∀ l : List UInt8, l.dropWhile p = [] ↔ ∀ x ∈ l, p x = true
  | [] => by simp
  | a :: r => by
    rw [List.dropWhile_cons]
    cases h : p a
    · simp [h]
    · simp [h, dropWhile_nil p r]
theorem dropWhile_again (p : UInt8 → Bool) : ∀ l : List UInt8, (∀ x ∈ l.dropWhile p, p x = true) → l.dropWhile p = []
  | [], _ => rfl
  | a :: r, h => by
    rw [List.dropWhile_cons] at h ⊢
    cases hp : p a
    · rw [if_neg (by simp [hp])] at h
      have := h a (by simp)
      rw [hp] at this
      cases this
    · simp only [hp, if_true] at h ⊢
      exact dropWhile_again p r h
theorem trim_nil (c l : List UInt8) : Lib.trimS l c = [] ↔ ∀ x ∈ l, c.contains x = true := by
  unfold Lib.trimS Lib.trimLeftS Lib.trimRightS
  rw [dropWhile_nil]
  constructor
  · intro h
    have h1 := dropWhile_again (fun x => c.contains x) l.reverse (fun x hx => h x (List.mem_reverse.2 hx))
    rw [dropWhile_nil] at h1
    exact fun x hx => h1 x (List.mem_reverse.2 hx)
  · intro h x hx
    have h1 : (l.reverse.dropWhile fun x => c.contains x) = [] := (dropWhile_nil _ _).2 fun x hx => h x (List.mem_reverse.1 hx)
    rw [h1] at hx
    cases hx
theorem trim_digits (l : List UInt8) : Lib.trimS l digitsL = [] ↔ l.all digB = true := by
  rw [trim_nil, List.all_eq_true]
  exact ⟨fun h x hx => by rw [← digit_is]; exact h x hx, fun h x hx => by rw [digit_is]; exact h x hx⟩
theorem decFrom_all : ∀ (l : List UInt8) (n : Nat), l.all digB = true → Lib.decFrom n l = some (numF n l)
  | [], n, _ => rfl
  | x :: r, n, h => by
    simp only [List.all_cons, Bool.and_eq_true] at h
    have hx := h.1
    unfold digB at hx
    simp only [Bool.and_eq_true, decide_eq_true_eq] at hx
    unfold Lib.decFrom Lib.digitVal
    rw [if_pos hx]
    simp only
    rw [decFrom_all r _ h.2, Nat.mul_comm]
    rfl
theorem atoi_all (l : List UInt8) (h : l.all digB = true) (h0 : l ≠ []) : Lib.atoi l = some (numV l : Int) := by
  cases l with
  | nil => exact absurd rfl h0
  | cons x r =>
    have hx : digB x = true := by simp only [List.all_cons, Bool.and_eq_true] at h; exact h.1
    have n45 : (x == 45) = false := by
      rw [beq_eq_false_iff_ne]; rintro rfl; exact absurd hx (by decide)
    have n43 : (x == 43) = false := by
      rw [beq_eq_false_iff_ne]; rintro rfl; exact absurd hx (by decide)
    unfold Lib.atoi
    simp only [n45, n43, Bool.false_eq_true, if_false]
    unfold Lib.decNat
    rw [decFrom_all _ 0 h]
    rfl
theorem numF_lt : ∀ (l : List UInt8) (n : Nat), l.all digB = true → numF n l < (n + 1) * 10 ^ l.length
  | [], n, _ => by simp [numF]
  | x :: r, n, h => by
    simp only [List.all_cons, Bool.and_eq_true] at h
    have hx := h.1
    unfold digB at hx
    simp only [Bool.and_eq_true, decide_eq_true_eq] at hx
    have ih := numF_lt r (numStep n x) h.2
    have e : numF n (x :: r) = numF (numStep n x) r := rfl
    rw [e]
    refine Nat.lt_of_lt_of_le ih ?_
    rw [List.length_cons, Nat.pow_succ, Nat.mul_comm (10 ^ r.length) 10, ← Nat.mul_assoc]
    exact Nat.mul_le_mul_right _ (by unfold numStep; omega)
theorem numV_lt {l : List UInt8} (h : numOK l = true) : numV l < 1000000000 := by
  unfold numOK at h
  simp only [Bool.and_eq_true, decide_eq_true_eq] at h
  have h1 := numF_lt l 0 h.2.2
  have h2 : 10 ^ l.length ≤ 10 ^ 9 := Nat.pow_le_pow_right (by omega) h.2.1
  unfold numV
  omega
theorem numN_range (l : List UInt8) : 0 ≤ numN l ∧ numN l < 1000000000 := by
  unfold numN
  split
  · rename_i h
    have := numV_lt h
    omega
  · omega

/-! A body's size. -/
def hostN : List UInt8 := [104, 111, 115, 116]
def lenN : List UInt8 := [99, 111, 110, 116, 101, 110, 116, 45, 108, 101, 110, 103, 116, 104]
def codN : List UInt8 := [116, 114, 97, 110, 115, 102, 101, 114, 45, 101, 110, 99, 111, 100, 105, 110, 103]
def chunkedN : List UInt8 := [99, 104, 117, 110, 107, 101, 100]
def itemsAll (l : List (List UInt8)) : List (List UInt8) := l.flatMap itemsOf
/-- What lengths tell, from one that was told on (none: there was none). -/
def lenGo (x : Option Int) : List (List UInt8) → Int × Int × Int
  | [] => match x with | none => (0, 0, 400) | some n => (1, n, 200)
  | s :: r => if numOK s = true ∧ (x = none ∨ x = some (numN s)) then lenGo (some (numN s)) r else (0, 0, 400)
/-- Where a text stands first; below 0: nowhere. -/
def idxI (s : List UInt8) : List (List UInt8) → Int
  | [] => -1
  | x :: r => if s = x then 0 else (if idxI s r < 0 then -1 else idxI s r + 1)
def codS (v : Int) (long : Bool) (l : List (List UInt8)) : Int × Int × Int :=
  if v = 0 ∨ long = true ∨ idxI chunkedN (l.map smallOf) ≠ (l.length : Int) - 1 ∨ l = [] then (0, 0, 400) else if 1 < l.length then (0, 0, 501) else (2, 0, 200)
/-- A body's size, by a request's fields and version. -/
def sizeOf (F : List Vex.Fld) (v : Int) : Int × Int × Int :=
  if 1 < (Vex.allOf F hostN).length ∨ ((Vex.allOf F hostN).length = 0 ∧ v ≠ 0) then (0, 0, 400)
  else if Vex.allOf F codN ≠ [] then codS v (decide (Vex.allOf F lenN ≠ [])) (itemsAll (Vex.allOf F codN))
  else if Vex.allOf F lenN ≠ [] then lenGo none (itemsAll (Vex.allOf F lenN))
  else (0, 0, 200)
theorem idxI_range (s : List UInt8) : ∀ l : List (List UInt8), -1 ≤ idxI s l ∧ (idxI s l < (l.length : Int))
  | [] => by simp [idxI]
  | x :: r => by
    have h := idxI_range s r
    unfold idxI
    rw [List.length_cons]
    split
    · omega
    · split <;> omega
theorem lenGo_range : ∀ (l : List (List UInt8)) (x : Option Int), (∀ n, x = some n → 0 ≤ n ∧ n < 1000000000) → 0 ≤ (lenGo x l).2.1 ∧ (lenGo x l).2.1 < 1000000000
  | [], x, h => by
    unfold lenGo
    split
    · decide
    · rename_i n
      exact h n rfl
  | s :: r, x, h => by
    unfold lenGo
    split
    · exact lenGo_range r _ (fun n hn => by cases hn; exact numN_range s)
    · decide
theorem itemsAll_append (a b : List (List UInt8)) : itemsAll (a ++ b) = itemsAll a ++ itemsAll b := by
  unfold itemsAll
  rw [List.flatMap_append]
end Go.Proofs.YtggokigjnaiokaaDoor
/- The program's functions on sizes, reckoned: Number, items, length, chunked, Of. -/
namespace Go.Proofs.YtggokigjnaiokaaDoor.Vex
open Go Go.RowKit
set_option maxRecDepth 100000
set_option linter.unusedSectionVars false
variable {gI : GI} [HasMax gI]

theorem TrimD_f (l : List UInt8) (hs : l.length ≤ 9223372036854775807) : Fn Tryd.prog gI 49 [str l, str [48, 49, 50, 51, 52, 53, 54, 55, 56, 57]] (str (Lib.trimS l digitsL)) :=
  ⟨callable Tryd.func49 rfl (by kernel_rfl), fun w _ => (Any.strings_Trim_laid Tryd.lays160 (by kernel_rfl) ⟨⟨l⟩⟩ ⟨#[48, 49, 50, 51, 52, 53, 54, 55, 56, 57]⟩ w hs (by decide) (ascii_of_all (by decide))).mono fun e w' ⟨he, hb⟩ => ⟨he, hb⟩⟩
theorem Atoi_f (l : List UInt8) (n : Int) (hl : l.length ≤ 18) (h : Lib.atoi l = some n) : Fn Tryd.prog gI 50 [str l] (.tuple #[.int .i64 n, .nilIface]) :=
  ⟨callable Tryd.func50 rfl (by kernel_rfl), fun w _ => (Tryd.strconv_Atoi ⟨⟨l⟩⟩ n hl h w).mono fun e w' ⟨he, t, hw⟩ => ⟨he, by
    rw [hw]
    exact ⟨rfl, rfl, rfl, by rw [Lib.bytesWorld_size]; omega, fun k hk => Lib.bytesWorld_at_old w _ _ k hk⟩⟩⟩
theorem Number_f (l : List UInt8) (hl : l.length ≤ 1000000000) : Fn Tryd.prog gI 25 [str l] (.tuple #[.int .i64 (numN l), .bool (numOK l)]) := by
  have bad : numOK l = false → Value.tuple #[.int .i64 (numN l), .bool (numOK l)] = .tuple #[.int .i64 0, .bool false] := fun h => by
    unfold numN; rw [h]; rfl
  refine Fn.of tys_ok Tryd.func25 rfl (by kernel_rfl) rfl rfl ?_; intro w hG
  (conv => whnf); repeat ((first | refine tk1 ?_ | refine tk2 ?_ | refine tk3 ?_ | refine tk12 (fun _ => ?_) | refine tk4 ?_ | refine tk5 ?_ | refine tk6 ?_ | refine tk7 ?_ | refine tk8 ?_ | refine tk9 ?_ | refine tk10 (fun _ _ => ?_) | refine tk11 (fun _ => ?_)); (conv => whnf))
  refine Cmp.cases (fun h1 => ?_) (fun h1 => ?_)
  · rw [bad (by unfold numOK; rw [decide_eq_false (by omega)]; rfl)]
    (conv => whnf); repeat ((first | refine tk1 ?_ | refine tk2 ?_ | refine tk3 ?_ | refine tk12 (fun _ => ?_) | refine tk4 ?_ | refine tk5 ?_ | refine tk6 ?_ | refine tk7 ?_ | refine tk8 ?_ | refine tk9 ?_ | refine tk10 (fun _ _ => ?_) | refine tk11 (fun _ => ?_)); (conv => whnf))
  (conv => whnf); repeat ((first | refine tk1 ?_ | refine tk2 ?_ | refine tk3 ?_ | refine tk12 (fun _ => ?_) | refine tk4 ?_ | refine tk5 ?_ | refine tk6 ?_ | refine tk7 ?_ | refine tk8 ?_ | refine tk9 ?_ | refine tk10 (fun _ _ => ?_) | refine tk11 (fun _ => ?_)); (conv => whnf))
  refine Cmp.cases (fun h2 => ?_) (fun h2 => ?_)
  · rw [bad (by unfold numOK; rw [decide_eq_false (show ¬ l.length ≤ 9 by omega)]; simp)]
    (conv => whnf); repeat ((first | refine tk1 ?_ | refine tk2 ?_ | refine tk3 ?_ | refine tk12 (fun _ => ?_) | refine tk4 ?_ | refine tk5 ?_ | refine tk6 ?_ | refine tk7 ?_ | refine tk8 ?_ | refine tk9 ?_ | refine tk10 (fun _ _ => ?_) | refine tk11 (fun _ => ?_)); (conv => whnf))
  (conv => whnf); repeat ((first | refine tk1 ?_ | refine tk2 ?_ | refine tk3 ?_ | refine tk12 (fun _ => ?_) | refine tk4 ?_ | refine tk5 ?_ | refine tk6 ?_ | refine tk7 ?_ | refine tk8 ?_ | refine tk9 ?_ | refine tk10 (fun _ _ => ?_) | refine tk11 (fun _ => ?_)); (conv => whnf))
  refine CallK.fn (TrimD_f l (by omega)) ?_
  (conv => whnf); repeat ((first | refine tk1 ?_ | refine tk2 ?_ | refine tk3 ?_ | refine tk12 (fun _ => ?_) | refine tk4 ?_ | refine tk5 ?_ | refine tk6 ?_ | refine tk7 ?_ | refine tk8 ?_ | refine tk9 ?_ | refine tk10 (fun _ _ => ?_) | refine tk11 (fun _ => ?_)); (conv => whnf))
  refine Cmp.cases (fun h3 => ?_) (fun h3 => ?_)
  · have h4 : ¬ l.all digB = true := fun h => h3 ((trim_digits l).2 h)
    rw [bad (by unfold numOK; simp only [Bool.not_eq_true] at h4; rw [h4]; simp)]
    (conv => whnf); repeat ((first | refine tk1 ?_ | refine tk2 ?_ | refine tk3 ?_ | refine tk12 (fun _ => ?_) | refine tk4 ?_ | refine tk5 ?_ | refine tk6 ?_ | refine tk7 ?_ | refine tk8 ?_ | refine tk9 ?_ | refine tk10 (fun _ _ => ?_) | refine tk11 (fun _ => ?_)); (conv => whnf))
  · have h4 : l.all digB = true := (trim_digits l).1 (by simpa using h3)
    have h5 : numOK l = true := by unfold numOK; rw [h4, decide_eq_true (show 1 ≤ l.length by omega), decide_eq_true (show l.length ≤ 9 by omega)]; rfl
    have h6 : numN l = (numV l : Int) := by unfold numN; rw [if_pos h5]
    rw [h5, h6]
    (conv => whnf); repeat ((first | refine tk1 ?_ | refine tk2 ?_ | refine tk3 ?_ | refine tk12 (fun _ => ?_) | refine tk4 ?_ | refine tk5 ?_ | refine tk6 ?_ | refine tk7 ?_ | refine tk8 ?_ | refine tk9 ?_ | refine tk10 (fun _ _ => ?_) | refine tk11 (fun _ => ?_)); (conv => whnf))
    refine CallK.fn (Atoi_f l (numV l) (by omega) (atoi_all l h4 (fun e => by rw [e] at h1; exact h1 (by decide)))) ?_
    (conv => whnf); repeat ((first | refine tk1 ?_ | refine tk2 ?_ | refine tk3 ?_ | refine tk12 (fun _ => ?_) | refine tk4 ?_ | refine tk5 ?_ | refine tk6 ?_ | refine tk7 ?_ | refine tk8 ?_ | refine tk9 ?_ | refine tk10 (fun _ _ => ?_) | refine tk11 (fun _ => ?_)); (conv => whnf))
    refine DrawS.go (qs 5) tys_ok mixed (by kernel_rfl) ?_
    (conv => whnf); repeat ((first | refine tk1 ?_ | refine tk2 ?_ | refine tk3 ?_ | refine tk12 (fun _ => ?_) | refine tk4 ?_ | refine tk5 ?_ | refine tk6 ?_ | refine tk7 ?_ | refine tk8 ?_ | refine tk9 ?_ | refine tk10 (fun _ _ => ?_) | refine tk11 (fun _ => ?_)); (conv => whnf))
    refine OthP.ifEq tys_ok rfl rfl rfl ?_
    (conv => whnf); repeat ((first | refine tk1 ?_ | refine tk2 ?_ | refine tk3 ?_ | refine tk12 (fun _ => ?_) | refine tk4 ?_ | refine tk5 ?_ | refine tk6 ?_ | refine tk7 ?_ | refine tk8 ?_ | refine tk9 ?_ | refine tk10 (fun _ _ => ?_) | refine tk11 (fun _ => ?_)); (conv => whnf))
end Go.Proofs.YtggokigjnaiokaaDoor.Vex
/- The program's functions on sizes, reckoned, second part: told values held against one another; items, length, chunked, Of. -/
namespace Go.Proofs.YtggokigjnaiokaaDoor.Vex
open Go Go.RowKit
set_option maxRecDepth 100000
set_option linter.unusedSectionVars false
variable {gI : GI} [HasMax gI]

abbrev toldV (x : Int × Int × Int) : List Value := [.int .u8 x.1, .int .i64 x.2.1, .int .i64 x.2.2]
theorem eqT_run (a b c a' b' c' : Int) (w : World) : (Op.equalIn 10000 93 (.agg ⟨[.int .u8 a, .int .i64 b, .int .i64 c]⟩) (.agg ⟨[.int .u8 a', .int .i64 b', .int .i64 c']⟩)).run Tryd.prog w = .ok (a == a' && (b == b' && c == c')) w := by
  rw [show (10000 : Nat) = 9999 + 1 from rfl, run_equalIn_struct w 9999 _ _ _ (by kernel_rfl) (by kernel_rfl)]
  rw [show (Tryd.prog.fieldsOf 93).toList = [{ name := "kind", type := 5, offset := 0, embedded := false, tag := "", pkgPath := "bellows/size", byteOffset := 0 }, { name := "n", type := 3, offset := 1, embedded := false, tag := "", pkgPath := "bellows/size", byteOffset := 8 }, { name := "status", type := 3, offset := 2, embedded := false, tag := "", pkgPath := "bellows/size", byteOffset := 16 }] from by kernel_rfl]
  have e8 : ∀ (x y : Int) w, (Op.equalIn 9999 5 (.int .u8 x) (.int .u8 y)).run Tryd.prog w = .ok (x == y) w := fun x y w => by
    rw [show (9999 : Nat) = 9998 + 1 from rfl, run_equalIn_int w 9998 _ _ _ _ _ Tryd.underlying5]
  have e64 : ∀ (x y : Int) w, (Op.equalIn 9999 3 (.int .i64 x) (.int .i64 y)).run Tryd.prog w = .ok (x == y) w := fun x y w => by
    rw [show (9999 : Nat) = 9998 + 1 from rfl, run_equalIn_int w 9998 _ _ _ _ _ Tryd.underlying3]
  simp only [Op.eqFields]
  cases h : a == a'
  · simp [go_sem, h, e8, e64]
  · cases h2 : b == b'
    · simp [go_sem, h, h2, e8, e64]
    · cases h3 : c == c' <;> simp [go_sem, h, h2, h3, e8, e64]
theorem OthP.neT {c : Ctx} {H : Hp} {d : Option Nat} {x y : Operand} {yt ty : TypeId} {pos : String} {after : Array Edge} {gd : Option (Nat × Bool)} {fr : Fr} {p q : Int × Int × Int} {K : Value → Prop} (hP : c.P = Tryd.prog)
    (hx : evK fr x fun v => v = .agg ⟨toldV p⟩) (hy : evK fr y fun v => v = .agg ⟨toldV q⟩) (k : K (.bool (!(decide (p = q))))) : OthP c ⟨d, .binOp .neq 93 x y yt, ty, pos, after, gd⟩ fr H K := ⟨⟨_, k, fun w _ => by
  rw [evK_eq] at hx hy
  rw [hP]
  have hg : (eqGuard .neq 93 x y (.agg ⟨toldV p⟩) (.agg ⟨toldV q⟩)).run Tryd.prog w = .ok () w := run_eqGuard_agg (P := Tryd.prog) w .neq 93 x y ⟨toldV p⟩ ⟨toldV q⟩ (by kernel_rfl)
  have hb : (binOp .neq 93 (.agg ⟨toldV p⟩) (.agg ⟨toldV q⟩)).run Tryd.prog w = .ok (.bool (!(decide (p = q)))) w := by
    show (do pure (.bool (!(← Op.equal 93 (.agg ⟨toldV p⟩) (.agg ⟨toldV q⟩)))) : Sem Value).run Tryd.prog w = _
    have e : Op.equal 93 (.agg ⟨toldV p⟩) (.agg ⟨toldV q⟩) = Op.equalIn 10000 93 (.agg ⟨toldV p⟩) (.agg ⟨toldV q⟩) := rfl
    rw [e, Sem.run_bind, toldV, toldV, eqT_run]
    have : (p.1 == q.1 && (p.2.1 == q.2.1 && p.2.2 == q.2.2)) = decide (p = q) := by
      rw [Bool.eq_iff_iff]
      simp [Prod.ext_iff]
    rw [this]
    rfl
  simp only [execOp, hx, hy, Sem.run_bind, hg, Result.andThen_ok, hb]
  rfl⟩⟩
theorem itemsAll_take (l : List (List UInt8)) (k : Nat) (h : k < l.length) : itemsAll (l.take (k + 1)) = itemsAll (l.take k) ++ itemsOf l[k] := by
  rw [List.take_succ_eq_append_getElem h, itemsAll_append]
  congr 1
  simp [itemsAll]
theorem itemsAll_sum : ∀ l : List (List UInt8), lsum (itemsAll l) ≤ lsum l
  | [] => Nat.le_refl _
  | x :: r => by
    have h1 := items_sum x
    have h2 := itemsAll_sum r
    have e : itemsAll (x :: r) = itemsOf x ++ itemsAll r := rfl
    rw [e, lsum_append, lsum_cons]
    omega
theorem lsum_take (l : List (List UInt8)) (k : Nat) : lsum (l.take k) ≤ lsum l := by
  have h := lsum_append (l.take k) (l.drop k)
  rw [List.take_append_drop] at h
  omega
theorem lsum_mem {l : List (List UInt8)} {s : List UInt8} (h : s ∈ l) : s.length + 1 ≤ lsum l := by
  induction l with
  | nil => cases h
  | cons y r ih =>
    rw [lsum_cons]
    rcases List.mem_cons.1 h with rfl | h
    · omega
    · have := ih h; omega
theorem sitems_f (A : Option Addr) (cp : Nat) (l : List (List UInt8)) (hl : lsum l ≤ 4000000) :
    FnS Tryd.prog gI 74 [.slice A l.length cp] [(A, l.map str)] 9 1 (itemsAll l).length ((itemsAll l).map str) := by
  have hz := lsum_length l
  refine FnE.of tys_ok Tryd.func74 rfl (by kernel_rfl) rfl rfl ?_; intro w hG hP
  have hR : ∀ H, RdA (mkC Tryd.prog gI w hG) H A (l.map str) := fun H => ⟨hP.1.now⟩
  (conv => whnf); repeat ((first | refine tk1 ?_ | refine tk2 ?_ | refine tk3 ?_ | refine tk12 (fun _ => ?_) | refine tk4 ?_ | refine tk5 ?_ | refine tk6 ?_ | refine tk7 ?_ | refine tk8 ?_ | refine tk9 ?_ | refine tk10 (fun _ _ => ?_) | refine tk11 (fun _ => ?_)); (conv => whnf))
  refine LoopS.nilRow 9 1 ?_
  refine LoopS.lp tys_ok (fun (x : Nat × Option Addr × Nat) u => [u 0, u 1, .slice x.2.1 (itemsAll (l.take x.1)).length x.2.2, u 3, u 4, .slice A l.length cp, .int .i64 l.length, .int .i64 (x.1 : Nat), u 8, u 9, u 10, u 11, u 12, u 13, u 14, u 15, u 16])
    (fun x => [.row (.slice x.2.1 (itemsAll (l.take x.1)).length x.2.2) 9 1 (itemsAll (l.take x.1)).length ((itemsAll (l.take x.1)).map str)])
    (fun x => x.1 ≤ l.length) (fun x => l.length - x.1) (0, none, 0) (Nat.zero_le _) rfl (by repeat' (first | exact List.Sublist.refl _ | exact List.nil_sublist _ | apply List.Sublist.cons_cons | apply List.Sublist.cons)) ?_
  rintro ⟨k, B, cq⟩ u hk
  dsimp only at hk ⊢
  (conv => whnf); repeat ((first | refine tk1 ?_ | refine tk2 ?_ | refine tk3 ?_ | refine tk12 (fun _ => ?_) | refine tk4 ?_ | refine tk5 ?_ | refine tk6 ?_ | refine tk7 ?_ | refine tk8 ?_ | refine tk9 ?_ | refine tk10 (fun _ _ => ?_) | refine tk11 (fun _ => ?_)); (conv => whnf))
  refine Cmp.cases (fun hlt => ?_) (fun hlt => ?_)
  · have hlt' : k < l.length := by omega
    have ht := itemsAll_take l k hlt'
    have h1 := itemsAll_sum (l.take (k + 1))
    have h2 := lsum_take l (k + 1)
    have h3 := lsum_length (itemsAll (l.take (k + 1)))
    have h4 := lsum_mem (List.getElem_mem hlt')
    have h5 : (itemsAll (l.take (k + 1))).length = (itemsAll (l.take k)).length + (itemsOf l[k]).length := by rw [ht, List.length_append]
    (conv => whnf); repeat ((first | refine tk1 ?_ | refine tk2 ?_ | refine tk3 ?_ | refine tk12 (fun _ => ?_) | refine tk4 ?_ | refine tk5 ?_ | refine tk6 ?_ | refine tk7 ?_ | refine tk8 ?_ | refine tk9 ?_ | refine tk10 (fun _ _ => ?_) | refine tk11 (fun _ => ?_)); (conv => whnf))
    refine IdxA.tc (xs := l.map str) (by rw [List.length_map]; omega) (by omega) (by omega) ?_
    (conv => whnf); repeat ((first | refine tk1 ?_ | refine tk2 ?_ | refine tk3 ?_ | refine tk12 (fun _ => ?_) | refine tk4 ?_ | refine tk5 ?_ | refine tk6 ?_ | refine tk7 ?_ | refine tk8 ?_ | refine tk9 ?_ | refine tk10 (fun _ _ => ?_) | refine tk11 (fun _ => ?_)); (conv => whnf))
    refine Ld.ta (xs := l.map str) (v := str l[k]) (by simp [hlt']) ?_
    (conv => whnf); repeat ((first | refine tk1 ?_ | refine tk2 ?_ | refine tk3 ?_ | refine tk12 (fun _ => ?_) | refine tk4 ?_ | refine tk5 ?_ | refine tk6 ?_ | refine tk7 ?_ | refine tk8 ?_ | refine tk9 ?_ | refine tk10 (fun _ _ => ?_) | refine tk11 (fun _ => ?_)); (conv => whnf))
    refine CallK.fnS (Items_f l[k] (by omega)) trivial (fun C cr => ?_)
    (conv => whnf); repeat ((first | refine tk1 ?_ | refine tk2 ?_ | refine tk3 ?_ | refine tk12 (fun _ => ?_) | refine tk4 ?_ | refine tk5 ?_ | refine tk6 ?_ | refine tk7 ?_ | refine tk8 ?_ | refine tk9 ?_ | refine tk10 (fun _ _ => ?_) | refine tk11 (fun _ => ?_)); (conv => whnf))
    refine AppS.tc (m := (itemsOf l[k]).length) SrcK.tc (by simp) (by simp; intro a _; rfl) (by decide) (by omega) (by omega) (zs := (itemsAll (l.take (k + 1))).map str) (by rw [ht, List.map_append]) (fun D cs => ?_)
    rw [← h5]
    (conv => whnf); repeat ((first | refine tk1 ?_ | refine tk2 ?_ | refine tk3 ?_ | refine tk12 (fun _ => ?_) | refine tk4 ?_ | refine tk5 ?_ | refine tk6 ?_ | refine tk7 ?_ | refine tk8 ?_ | refine tk9 ?_ | refine tk10 (fun _ _ => ?_) | refine tk11 (fun _ => ?_)); (conv => whnf))
    exact ⟨(k + 1, D, cs), by dsimp only; omega, rfl, (by repeat' (first | exact List.Sublist.refl _ | exact List.nil_sublist _ | apply List.Sublist.cons_cons | apply List.Sublist.cons)), by dsimp only; omega⟩
  · have he : l.take k = l := List.take_of_length_le (by omega)
    rw [he]
    (conv => whnf); repeat ((first | refine tk1 ?_ | refine tk2 ?_ | refine tk3 ?_ | refine tk12 (fun _ => ?_) | refine tk4 ?_ | refine tk5 ?_ | refine tk6 ?_ | refine tk7 ?_ | refine tk8 ?_ | refine tk9 ?_ | refine tk10 (fun _ _ => ?_) | refine tk11 (fun _ => ?_)); (conv => whnf))
    exact rowPost.of (List.mem_cons_self ..)
end Go.Proofs.YtggokigjnaiokaaDoor.Vex
/- The program's functions on sizes, reckoned, third part: length, chunked, of, Of. -/
namespace Go.Proofs.YtggokigjnaiokaaDoor.Vex
open Go Go.RowKit
set_option maxRecDepth 100000
set_option linter.unusedSectionVars false
variable {gI : GI} [HasMax gI]

theorem wrong_f : Fn Tryd.prog gI 72 [] (.agg ⟨toldV (0, 0, 400)⟩) := by
  refine Fn.of tys_ok Tryd.func72 rfl (by kernel_rfl) rfl rfl ?_; intro w hG
  (conv => whnf); repeat ((first | refine tk1 ?_ | refine tk2 ?_ | refine tk3 ?_ | refine tk12 (fun _ => ?_) | refine tk4 ?_ | refine tk5 ?_ | refine tk6 ?_ | refine tk7 ?_ | refine tk8 ?_ | refine tk9 ?_ | refine tk10 (fun _ _ => ?_) | refine tk11 (fun _ => ?_)); (conv => whnf))
  rfl
def xV (x : Option Int) : Int × Int × Int := match x with | none => (0, 0, 400) | some n => (1, n, 200)
theorem lenGo_cons (x : Option Int) (s : List UInt8) (r : List (List UInt8)) : lenGo x (s :: r) = if numOK s = true ∧ (x = none ∨ x = some (numN s)) then lenGo (some (numN s)) r else (0, 0, 400) := rfl
theorem lenGo_nil (x : Option Int) : lenGo x [] = xV x := by cases x <;> rfl
theorem slength_f (A : Option Addr) (cp : Nat) (l : List (List UInt8)) (hl : lsum l ≤ 4000000) :
    FnR Tryd.prog gI 75 [.slice A l.length cp] [(A, l.map str)] (.agg ⟨toldV (lenGo none l)⟩) := by
  have hz := lsum_length l
  refine FnE.of tys_ok Tryd.func75 rfl (by kernel_rfl) rfl rfl ?_; intro w hG hP
  have hR : ∀ H, RdA (mkC Tryd.prog gI w hG) H A (l.map str) := fun H => ⟨hP.1.now⟩
  (conv => whnf); repeat ((first | refine tk1 ?_ | refine tk2 ?_ | refine tk3 ?_ | refine tk12 (fun _ => ?_) | refine tk4 ?_ | refine tk5 ?_ | refine tk6 ?_ | refine tk7 ?_ | refine tk8 ?_ | refine tk9 ?_ | refine tk10 (fun _ _ => ?_) | refine tk11 (fun _ => ?_)); (conv => whnf))
  refine CallK.fn wrong_f ?_
  (conv => whnf); repeat ((first | refine tk1 ?_ | refine tk2 ?_ | refine tk3 ?_ | refine tk12 (fun _ => ?_) | refine tk4 ?_ | refine tk5 ?_ | refine tk6 ?_ | refine tk7 ?_ | refine tk8 ?_ | refine tk9 ?_ | refine tk10 (fun _ _ => ?_) | refine tk11 (fun _ => ?_)); (conv => whnf))
  rename_i b2 b3
  refine LoopS.lp tys_ok (fun (x : Nat × Option Int) u => [u 0, u 1, .pointer (some ⟨b2, 0, none⟩), .pointer (some ⟨b3, 0, none⟩), u 4, u 5, u 6, u 7, u 8, u 9, .slice A l.length cp, .int .i64 l.length, .int .i64 (x.1 : Nat), u 13, u 14, u 15, u 16, u 17, u 18, u 19, u 20, u 21, u 22, u 23, u 24, u 25, u 26, u 27, u 28, u 29, u 30, u 31, u 32, u 33, u 34, u 35, u 36, u 37, u 38])
    (fun x => [.box b3 (toldV (xV x.2)) 93, .box b2 [.int .u8 0, .int .i64 0, .int .i64 0] 93])
    (fun x => x.1 ≤ l.length ∧ lenGo none l = lenGo x.2 (l.drop x.1)) (fun x => l.length - x.1) (0, none) ⟨Nat.zero_le _, rfl⟩ rfl (by repeat' (first | exact List.Sublist.refl _ | exact List.nil_sublist _ | apply List.Sublist.cons_cons | apply List.Sublist.cons)) ?_
  rintro ⟨k, x⟩ u ⟨hk, hI⟩
  dsimp only at hk hI ⊢
  (conv => whnf); repeat ((first | refine tk1 ?_ | refine tk2 ?_ | refine tk3 ?_ | refine tk12 (fun _ => ?_) | refine tk4 ?_ | refine tk5 ?_ | refine tk6 ?_ | refine tk7 ?_ | refine tk8 ?_ | refine tk9 ?_ | refine tk10 (fun _ _ => ?_) | refine tk11 (fun _ => ?_)); (conv => whnf))
  refine Cmp.cases (fun hlt => ?_) (fun hlt => ?_)
  · have hlt' : k < l.length := by omega
    have h4 := lsum_mem (List.getElem_mem hlt')
    rw [List.drop_eq_getElem_cons hlt'] at hI
    rw [lenGo_cons] at hI
    (conv => whnf); repeat ((first | refine tk1 ?_ | refine tk2 ?_ | refine tk3 ?_ | refine tk12 (fun _ => ?_) | refine tk4 ?_ | refine tk5 ?_ | refine tk6 ?_ | refine tk7 ?_ | refine tk8 ?_ | refine tk9 ?_ | refine tk10 (fun _ _ => ?_) | refine tk11 (fun _ => ?_)); (conv => whnf))
    refine IdxA.tc (xs := l.map str) (by rw [List.length_map]; omega) (by omega) (by omega) ?_
    (conv => whnf); repeat ((first | refine tk1 ?_ | refine tk2 ?_ | refine tk3 ?_ | refine tk12 (fun _ => ?_) | refine tk4 ?_ | refine tk5 ?_ | refine tk6 ?_ | refine tk7 ?_ | refine tk8 ?_ | refine tk9 ?_ | refine tk10 (fun _ _ => ?_) | refine tk11 (fun _ => ?_)); (conv => whnf))
    refine Ld.ta (xs := l.map str) (v := str l[k]) (by simp [hlt']) ?_
    (conv => whnf); repeat ((first | refine tk1 ?_ | refine tk2 ?_ | refine tk3 ?_ | refine tk12 (fun _ => ?_) | refine tk4 ?_ | refine tk5 ?_ | refine tk6 ?_ | refine tk7 ?_ | refine tk8 ?_ | refine tk9 ?_ | refine tk10 (fun _ _ => ?_) | refine tk11 (fun _ => ?_)); (conv => whnf))
    refine CallK.fn (Number_f l[k] (by omega)) ?_
    cases hn : numOK l[k]
    · rw [if_neg (by simp [hn])] at hI
      rw [hI]
      (conv => whnf); repeat ((first | refine tk1 ?_ | refine tk2 ?_ | refine tk3 ?_ | refine tk12 (fun _ => ?_) | refine tk4 ?_ | refine tk5 ?_ | refine tk6 ?_ | refine tk7 ?_ | refine tk8 ?_ | refine tk9 ?_ | refine tk10 (fun _ _ => ?_) | refine tk11 (fun _ => ?_)); (conv => whnf))
      refine DrawS.go [(0, true), (1, true), (2, true), (3, true), (4, false), (5, true), (6, true), (7, true), (8, true), (9, true), (10, true), (11, true)] tys_ok mixed (by kernel_rfl) ?_
      (conv => whnf); repeat ((first | refine tk1 ?_ | refine tk2 ?_ | refine tk3 ?_ | refine tk12 (fun _ => ?_) | refine tk4 ?_ | refine tk5 ?_ | refine tk6 ?_ | refine tk7 ?_ | refine tk8 ?_ | refine tk9 ?_ | refine tk10 (fun _ _ => ?_) | refine tk11 (fun _ => ?_)); (conv => whnf))
      refine CallK.fn wrong_f ?_
      (conv => whnf); repeat ((first | refine tk1 ?_ | refine tk2 ?_ | refine tk3 ?_ | refine tk12 (fun _ => ?_) | refine tk4 ?_ | refine tk5 ?_ | refine tk6 ?_ | refine tk7 ?_ | refine tk8 ?_ | refine tk9 ?_ | refine tk10 (fun _ _ => ?_) | refine tk11 (fun _ => ?_)); (conv => whnf))
      exact fun w' _ => rfl
    · rw [hn] at hI
      (conv => whnf); repeat ((first | refine tk1 ?_ | refine tk2 ?_ | refine tk3 ?_ | refine tk12 (fun _ => ?_) | refine tk4 ?_ | refine tk5 ?_ | refine tk6 ?_ | refine tk7 ?_ | refine tk8 ?_ | refine tk9 ?_ | refine tk10 (fun _ _ => ?_) | refine tk11 (fun _ => ?_)); (conv => whnf))
      refine DrawS.go [(0, true), (1, true), (2, true), (3, true), (4, false), (5, true), (6, true), (7, true), (8, true), (9, true), (10, true), (11, true)] tys_ok mixed (by kernel_rfl) ?_
      (conv => whnf); repeat ((first | refine tk1 ?_ | refine tk2 ?_ | refine tk3 ?_ | refine tk12 (fun _ => ?_) | refine tk4 ?_ | refine tk5 ?_ | refine tk6 ?_ | refine tk7 ?_ | refine tk8 ?_ | refine tk9 ?_ | refine tk10 (fun _ _ => ?_) | refine tk11 (fun _ => ?_)); (conv => whnf))
      refine CallK.fn wrong_f ?_
      (conv => whnf); repeat ((first | refine tk1 ?_ | refine tk2 ?_ | refine tk3 ?_ | refine tk12 (fun _ => ?_) | refine tk4 ?_ | refine tk5 ?_ | refine tk6 ?_ | refine tk7 ?_ | refine tk8 ?_ | refine tk9 ?_ | refine tk10 (fun _ _ => ?_) | refine tk11 (fun _ => ?_)); (conv => whnf))
      refine OthP.neT (p := xV x) (q := (0, 0, 400)) rfl rfl rfl ?_
      cases x with
      | none =>
        rw [if_pos ⟨rfl, .inl rfl⟩] at hI
        rw [decide_eq_true (show xV none = (0, 0, 400) from rfl)]
        (conv => whnf); repeat ((first | refine tk1 ?_ | refine tk2 ?_ | refine tk3 ?_ | refine tk12 (fun _ => ?_) | refine tk4 ?_ | refine tk5 ?_ | refine tk6 ?_ | refine tk7 ?_ | refine tk8 ?_ | refine tk9 ?_ | refine tk10 (fun _ _ => ?_) | refine tk11 (fun _ => ?_)); (conv => whnf))
        exact ⟨(k + 1, some (numN l[k])), ⟨by dsimp only; omega, hI⟩, rfl, (by repeat' (first | exact List.Sublist.refl _ | exact List.nil_sublist _ | apply List.Sublist.cons_cons | apply List.Sublist.cons)), by dsimp only; omega⟩
      | some n =>
        rw [decide_eq_false (show ¬ xV (some n) = (0, 0, 400) by simp [xV])]
        (conv => whnf); repeat ((first | refine tk1 ?_ | refine tk2 ?_ | refine tk3 ?_ | refine tk12 (fun _ => ?_) | refine tk4 ?_ | refine tk5 ?_ | refine tk6 ?_ | refine tk7 ?_ | refine tk8 ?_ | refine tk9 ?_ | refine tk10 (fun _ _ => ?_) | refine tk11 (fun _ => ?_)); (conv => whnf))
        refine OthP.neT (p := xV (some n)) (q := (1, numN l[k], 200)) rfl rfl rfl ?_
        by_cases hq : n = numN l[k]
        · rw [if_pos ⟨rfl, .inr (by rw [hq])⟩] at hI
          rw [decide_eq_true (show xV (some n) = (1, numN l[k], 200) by simp [xV, hq])]
          (conv => whnf); repeat ((first | refine tk1 ?_ | refine tk2 ?_ | refine tk3 ?_ | refine tk12 (fun _ => ?_) | refine tk4 ?_ | refine tk5 ?_ | refine tk6 ?_ | refine tk7 ?_ | refine tk8 ?_ | refine tk9 ?_ | refine tk10 (fun _ _ => ?_) | refine tk11 (fun _ => ?_)); (conv => whnf))
          exact ⟨(k + 1, some (numN l[k])), ⟨by dsimp only; omega, hI⟩, rfl, (by repeat' (first | exact List.Sublist.refl _ | exact List.nil_sublist _ | apply List.Sublist.cons_cons | apply List.Sublist.cons)), by dsimp only; omega⟩
        · rw [if_neg (by simp [hq])] at hI
          rw [decide_eq_false (show ¬ xV (some n) = (1, numN l[k], 200) by simp [xV, hq])]
          rw [hI]
          (conv => whnf); repeat ((first | refine tk1 ?_ | refine tk2 ?_ | refine tk3 ?_ | refine tk12 (fun _ => ?_) | refine tk4 ?_ | refine tk5 ?_ | refine tk6 ?_ | refine tk7 ?_ | refine tk8 ?_ | refine tk9 ?_ | refine tk10 (fun _ _ => ?_) | refine tk11 (fun _ => ?_)); (conv => whnf))
          refine CallK.fn wrong_f ?_
          (conv => whnf); repeat ((first | refine tk1 ?_ | refine tk2 ?_ | refine tk3 ?_ | refine tk12 (fun _ => ?_) | refine tk4 ?_ | refine tk5 ?_ | refine tk6 ?_ | refine tk7 ?_ | refine tk8 ?_ | refine tk9 ?_ | refine tk10 (fun _ _ => ?_) | refine tk11 (fun _ => ?_)); (conv => whnf))
          exact fun w' _ => rfl
  · rw [List.drop_eq_nil_of_le (by omega), lenGo_nil] at hI
    rw [hI]
    (conv => whnf); repeat ((first | refine tk1 ?_ | refine tk2 ?_ | refine tk3 ?_ | refine tk12 (fun _ => ?_) | refine tk4 ?_ | refine tk5 ?_ | refine tk6 ?_ | refine tk7 ?_ | refine tk8 ?_ | refine tk9 ?_ | refine tk10 (fun _ _ => ?_) | refine tk11 (fun _ => ?_)); (conv => whnf))
    exact fun w' _ => rfl
theorem SIndex_f (A : Option Addr) (cp : Nat) (l : List (List UInt8)) (s : List UInt8) (hl : l.length ≤ 4000000000) :
    FnR Tryd.prog gI 60 [.slice A l.length cp, str s] [(A, l.map str)] (.int .i64 (idxI s l)) := by
  refine FnE.of tys_ok Tryd.func60 rfl (by kernel_rfl) rfl rfl ?_; intro w hG hP
  have hR : ∀ H, RdA (mkC Tryd.prog gI w hG) H A (l.map str) := fun H => ⟨hP.1.now⟩
  (conv => whnf); repeat ((first | refine tk1 ?_ | refine tk2 ?_ | refine tk3 ?_ | refine tk12 (fun _ => ?_) | refine tk4 ?_ | refine tk5 ?_ | refine tk6 ?_ | refine tk7 ?_ | refine tk8 ?_ | refine tk9 ?_ | refine tk10 (fun _ _ => ?_) | refine tk11 (fun _ => ?_)); (conv => whnf))
  refine LoopS.lp tys_ok (fun (k : Nat) u => [.slice A l.length cp, str s, u 2, u 3, u 4, u 5, u 6, .int .i64 l.length, .int .i64 (k : Nat), u 9, u 10, u 11, u 12, u 13, u 14, u 15, u 16, u 17, u 18]) (fun _ => [])
    (fun k => k ≤ l.length ∧ idxI s l = if idxI s (l.drop k) < 0 then -1 else idxI s (l.drop k) + k) (fun k => l.length - k) 0 ⟨Nat.zero_le _, by
      have := idxI_range s l
      rw [List.drop_zero]
      split <;> omega⟩ rfl (by repeat' (first | exact List.Sublist.refl _ | exact List.nil_sublist _ | apply List.Sublist.cons_cons | apply List.Sublist.cons)) ?_
  rintro k u ⟨hk, hI⟩
  (conv => whnf); repeat ((first | refine tk1 ?_ | refine tk2 ?_ | refine tk3 ?_ | refine tk12 (fun _ => ?_) | refine tk4 ?_ | refine tk5 ?_ | refine tk6 ?_ | refine tk7 ?_ | refine tk8 ?_ | refine tk9 ?_ | refine tk10 (fun _ _ => ?_) | refine tk11 (fun _ => ?_)); (conv => whnf))
  refine Cmp.cases (fun hlt => ?_) (fun hlt => ?_)
  · have hlt' : k < l.length := by omega
    rw [List.drop_eq_getElem_cons hlt'] at hI
    (conv => whnf); repeat ((first | refine tk1 ?_ | refine tk2 ?_ | refine tk3 ?_ | refine tk12 (fun _ => ?_) | refine tk4 ?_ | refine tk5 ?_ | refine tk6 ?_ | refine tk7 ?_ | refine tk8 ?_ | refine tk9 ?_ | refine tk10 (fun _ _ => ?_) | refine tk11 (fun _ => ?_)); (conv => whnf))
    refine IdxA.tc (xs := l.map str) (by rw [List.length_map]; omega) (by omega) (by omega) ?_
    (conv => whnf); repeat ((first | refine tk1 ?_ | refine tk2 ?_ | refine tk3 ?_ | refine tk12 (fun _ => ?_) | refine tk4 ?_ | refine tk5 ?_ | refine tk6 ?_ | refine tk7 ?_ | refine tk8 ?_ | refine tk9 ?_ | refine tk10 (fun _ _ => ?_) | refine tk11 (fun _ => ?_)); (conv => whnf))
    refine Ld.ta (xs := l.map str) (v := str l[k]) (by simp [hlt']) ?_
    (conv => whnf); repeat ((first | refine tk1 ?_ | refine tk2 ?_ | refine tk3 ?_ | refine tk12 (fun _ => ?_) | refine tk4 ?_ | refine tk5 ?_ | refine tk6 ?_ | refine tk7 ?_ | refine tk8 ?_ | refine tk9 ?_ | refine tk10 (fun _ _ => ?_) | refine tk11 (fun _ => ?_)); (conv => whnf))
    refine Cmp.cases (fun hq => ?_) (fun hq => ?_)
    · have e : idxI s (l[k] :: l.drop (k + 1)) = 0 := by unfold idxI; rw [if_pos hq]
      rw [e] at hI
      simp at hI
      rw [hI]
      (conv => whnf); repeat ((first | refine tk1 ?_ | refine tk2 ?_ | refine tk3 ?_ | refine tk12 (fun _ => ?_) | refine tk4 ?_ | refine tk5 ?_ | refine tk6 ?_ | refine tk7 ?_ | refine tk8 ?_ | refine tk9 ?_ | refine tk10 (fun _ _ => ?_) | refine tk11 (fun _ => ?_)); (conv => whnf))
      exact fun w' _ => rfl
    · have e : idxI s (l[k] :: l.drop (k + 1)) = if idxI s (l.drop (k + 1)) < 0 then -1 else idxI s (l.drop (k + 1)) + 1 := by
        rw [idxI, if_neg hq]
      have hr := idxI_range s (l.drop (k + 1))
      (conv => whnf); repeat ((first | refine tk1 ?_ | refine tk2 ?_ | refine tk3 ?_ | refine tk12 (fun _ => ?_) | refine tk4 ?_ | refine tk5 ?_ | refine tk6 ?_ | refine tk7 ?_ | refine tk8 ?_ | refine tk9 ?_ | refine tk10 (fun _ _ => ?_) | refine tk11 (fun _ => ?_)); (conv => whnf))
      refine ⟨k + 1, ⟨by omega, ?_⟩, rfl, (by repeat' (first | exact List.Sublist.refl _ | exact List.nil_sublist _ | apply List.Sublist.cons_cons | apply List.Sublist.cons)), by dsimp only; omega⟩
      rw [hI, e]
      by_cases h9 : idxI s (l.drop (k + 1)) < 0
      · rw [if_pos h9, if_pos h9, if_pos (by decide)]
      · rw [if_neg h9, if_neg h9, if_neg (by omega)]
        omega
  · rw [List.drop_eq_nil_of_le (by omega)] at hI
    have e : idxI s l = -1 := by rw [hI]; rfl
    rw [e]
    (conv => whnf); repeat ((first | refine tk1 ?_ | refine tk2 ?_ | refine tk3 ?_ | refine tk12 (fun _ => ?_) | refine tk4 ?_ | refine tk5 ?_ | refine tk6 ?_ | refine tk7 ?_ | refine tk8 ?_ | refine tk9 ?_ | refine tk10 (fun _ _ => ?_) | refine tk11 (fun _ => ?_)); (conv => whnf))
    exact fun w' _ => rfl
end Go.Proofs.YtggokigjnaiokaaDoor.Vex
/- The program's functions on sizes, reckoned, fourth part: of, Of. -/
namespace Go.Proofs.YtggokigjnaiokaaDoor.Vex
open Go Go.RowKit
set_option maxRecDepth 100000
set_option linter.unusedSectionVars false
variable {gI : GI} [HasMax gI]

theorem set_map (l : List (List UInt8)) (k : Nat) (h : k < l.length) : (((l.take k).map smallOf ++ l.drop k).map str).set k (str (smallOf l[k])) = ((l.take (k + 1)).map smallOf ++ l.drop (k + 1)).map str := by
  rw [← List.map_set, List.set_append_right _ _ (by simp; omega)]
  have e : k - (List.map smallOf (List.take k l)).length = 0 := by simp; omega
  rw [e, List.drop_eq_getElem_cons h, List.set_cons_zero, List.take_succ_eq_append_getElem h]
  congr 1
  rw [List.map_append, List.append_assoc]
  rfl
theorem get_map (l : List (List UInt8)) (k : Nat) (h : k < l.length) : (((l.take k).map smallOf ++ l.drop k).map str)[k]? = some (str l[k]) := by
  rw [List.getElem?_map, List.getElem?_append_right (by simp; omega)]
  simp [Nat.min_eq_left (Nat.le_of_lt h), h]
theorem of_f (m p q : List UInt8) (v : Int) (A : Option Addr) (cp : Nat) (F : List Fld) (c5 : Value) (hF : fsum F ≤ 2000000) (_hv : -9223372036854775808 ≤ v ∧ v ≤ 9223372036854775807) :
    FnR Tryd.prog gI 48 [.agg ⟨[str m, str p, str q, .int .i64 v, .slice A F.length cp, c5]⟩] [(A, fcells F)] (.agg ⟨toldV (sizeOf F v)⟩) := by
  have z1 := fsum_length F
  have z2 := allOf_sum codN F
  have z3 := allOf_sum lenN F
  have z4 := lsum_length (allOf F codN)
  have z5 := lsum_length (allOf F lenN)
  have z6 := allOf_le F hostN
  have hn : ∀ p ∈ F, p.1.length ≤ 140737488355328 := fun p hp => by have := fsum_mem hp; omega
  have hs : ∀ x ∈ [hostN, codN, lenN], x.length ≤ 140737488355328 := by decide
  refine FnE.of tys_ok Tryd.func48 rfl (by kernel_rfl) rfl rfl ?_; intro w hG hP
  have hR : ∀ H, RdA (mkC Tryd.prog gI w hG) H A (fcells F) := fun H => ⟨hP.1.now⟩
  (conv => whnf); repeat ((first | refine tk1 ?_ | refine tk2 ?_ | refine tk3 ?_ | refine tk12 (fun _ => ?_) | refine tk4 ?_ | refine tk5 ?_ | refine tk6 ?_ | refine tk7 ?_ | refine tk8 ?_ | refine tk9 ?_ | refine tk10 (fun _ _ => ?_) | refine tk11 (fun _ => ?_)); (conv => whnf))
  refine CallK.fnS (All_f A cp F hostN (by omega) (by decide) hn) ⟨RdA.ok, trivial⟩ (fun B0 c0 => ?_)
  (conv => whnf); repeat ((first | refine tk1 ?_ | refine tk2 ?_ | refine tk3 ?_ | refine tk12 (fun _ => ?_) | refine tk4 ?_ | refine tk5 ?_ | refine tk6 ?_ | refine tk7 ?_ | refine tk8 ?_ | refine tk9 ?_ | refine tk10 (fun _ _ => ?_) | refine tk11 (fun _ => ?_)); (conv => whnf))
  refine DrawS.go [(0, true), (1, true), (3, true), (4, true), (2, false), (5, false), (6, true), (7, true)] tys_ok mixed (by kernel_rfl) ?_
  (conv => whnf); repeat ((first | refine tk1 ?_ | refine tk2 ?_ | refine tk3 ?_ | refine tk12 (fun _ => ?_) | refine tk4 ?_ | refine tk5 ?_ | refine tk6 ?_ | refine tk7 ?_ | refine tk8 ?_ | refine tk9 ?_ | refine tk10 (fun _ _ => ?_) | refine tk11 (fun _ => ?_)); (conv => whnf))
  refine CallK.fnS (All_f A cp F codN (by omega) (by decide) hn) ⟨RdA.ok, trivial⟩ (fun B1 c1 => ?_)
  (conv => whnf); repeat ((first | refine tk1 ?_ | refine tk2 ?_ | refine tk3 ?_ | refine tk12 (fun _ => ?_) | refine tk4 ?_ | refine tk5 ?_ | refine tk6 ?_ | refine tk7 ?_ | refine tk8 ?_ | refine tk9 ?_ | refine tk10 (fun _ _ => ?_) | refine tk11 (fun _ => ?_)); (conv => whnf))
  refine CallK.fnS (All_f A cp F lenN (by omega) (by decide) hn) ⟨RdA.ok, trivial⟩ (fun B2 c2 => ?_)
  (conv => whnf); repeat ((first | refine tk1 ?_ | refine tk2 ?_ | refine tk3 ?_ | refine tk12 (fun _ => ?_) | refine tk4 ?_ | refine tk5 ?_ | refine tk6 ?_ | refine tk7 ?_ | refine tk8 ?_ | refine tk9 ?_ | refine tk10 (fun _ _ => ?_) | refine tk11 (fun _ => ?_)); (conv => whnf))
  refine Cmp.cases (fun q1 => ?_) (fun q1 => ?_)
  · have e : sizeOf F v = (0, 0, 400) := by unfold sizeOf; rw [if_pos (.inl (by omega))]
    rw [e]
    (conv => whnf); repeat ((first | refine tk1 ?_ | refine tk2 ?_ | refine tk3 ?_ | refine tk12 (fun _ => ?_) | refine tk4 ?_ | refine tk5 ?_ | refine tk6 ?_ | refine tk7 ?_ | refine tk8 ?_ | refine tk9 ?_ | refine tk10 (fun _ _ => ?_) | refine tk11 (fun _ => ?_)); (conv => whnf))
    refine CallK.fn wrong_f ?_
    (conv => whnf); repeat ((first | refine tk1 ?_ | refine tk2 ?_ | refine tk3 ?_ | refine tk12 (fun _ => ?_) | refine tk4 ?_ | refine tk5 ?_ | refine tk6 ?_ | refine tk7 ?_ | refine tk8 ?_ | refine tk9 ?_ | refine tk10 (fun _ _ => ?_) | refine tk11 (fun _ => ?_)); (conv => whnf))
    exact fun w' _ => rfl
  (conv => whnf); repeat ((first | refine tk1 ?_ | refine tk2 ?_ | refine tk3 ?_ | refine tk12 (fun _ => ?_) | refine tk4 ?_ | refine tk5 ?_ | refine tk6 ?_ | refine tk7 ?_ | refine tk8 ?_ | refine tk9 ?_ | refine tk10 (fun _ _ => ?_) | refine tk11 (fun _ => ?_)); (conv => whnf))
  refine Cmp.cases (fun q2 => ?_) (fun q2 => ?_)
  · (conv => whnf); repeat ((first | refine tk1 ?_ | refine tk2 ?_ | refine tk3 ?_ | refine tk12 (fun _ => ?_) | refine tk4 ?_ | refine tk5 ?_ | refine tk6 ?_ | refine tk7 ?_ | refine tk8 ?_ | refine tk9 ?_ | refine tk10 (fun _ _ => ?_) | refine tk11 (fun _ => ?_)); (conv => whnf))
    refine Cmp.cases (fun q3 => ?_) (fun q3 => ?_)
    · have e : sizeOf F v = (0, 0, 400) := by unfold sizeOf; rw [if_pos (.inr ⟨by omega, q3⟩)]
      rw [e]
      (conv => whnf); repeat ((first | refine tk1 ?_ | refine tk2 ?_ | refine tk3 ?_ | refine tk12 (fun _ => ?_) | refine tk4 ?_ | refine tk5 ?_ | refine tk6 ?_ | refine tk7 ?_ | refine tk8 ?_ | refine tk9 ?_ | refine tk10 (fun _ _ => ?_) | refine tk11 (fun _ => ?_)); (conv => whnf))
      refine CallK.fn wrong_f ?_
      (conv => whnf); repeat ((first | refine tk1 ?_ | refine tk2 ?_ | refine tk3 ?_ | refine tk12 (fun _ => ?_) | refine tk4 ?_ | refine tk5 ?_ | refine tk6 ?_ | refine tk7 ?_ | refine tk8 ?_ | refine tk9 ?_ | refine tk10 (fun _ _ => ?_) | refine tk11 (fun _ => ?_)); (conv => whnf))
      exact fun w' _ => rfl
    · have q4 : Hid (¬ (1 < (allOf F hostN).length ∨ ((allOf F hostN).length = 0 ∧ v ≠ 0))) := by show ¬ _; omega
      (conv => whnf); repeat ((first | refine tk1 ?_ | refine tk2 ?_ | refine tk3 ?_ | refine tk12 (fun _ => ?_) | refine tk4 ?_ | refine tk5 ?_ | refine tk6 ?_ | refine tk7 ?_ | refine tk8 ?_ | refine tk9 ?_ | refine tk10 (fun _ _ => ?_) | refine tk11 (fun _ => ?_)); (conv => whnf))
      clear q1 q2 q3
      rename_i p1 p2
      refine Cmp.cases (fun q5 => ?_) (fun q5 => ?_)
      · have e : sizeOf F v = codS v (decide (allOf F lenN ≠ [])) (itemsAll (allOf F codN)) := by
          unfold sizeOf
          rw [if_neg q4.out, if_pos (fun e => by rw [e] at q5; exact absurd q5 (by simp))]
        rw [e]
        obtain ⟨l, hl⟩ : ∃ l, itemsAll (allOf F codN) = l := ⟨_, rfl⟩
        have y1 := itemsAll_sum (allOf F codN)
        rw [hl] at y1
        have y2 := lsum_length l
        (conv => whnf); repeat ((first | refine tk1 ?_ | refine tk2 ?_ | refine tk3 ?_ | refine tk12 (fun _ => ?_) | refine tk4 ?_ | refine tk5 ?_ | refine tk6 ?_ | refine tk7 ?_ | refine tk8 ?_ | refine tk9 ?_ | refine tk10 (fun _ _ => ?_) | refine tk11 (fun _ => ?_)); (conv => whnf))
        refine DrawS.goW [3] [(0, true), (1, true), (2, false), (3, false), (4, false)] tys_ok mixed (by kernel_rfl) ?_
        (conv => whnf); repeat ((first | refine tk1 ?_ | refine tk2 ?_ | refine tk3 ?_ | refine tk12 (fun _ => ?_) | refine tk4 ?_ | refine tk5 ?_ | refine tk6 ?_ | refine tk7 ?_ | refine tk8 ?_ | refine tk9 ?_ | refine tk10 (fun _ _ => ?_) | refine tk11 (fun _ => ?_)); (conv => whnf))
        refine CallK.fnS (sitems_f B1 c1 (allOf F codN) (by omega)) ⟨RdA.ok, trivial⟩ (fun B3 c3 => ?_)
        rw [hl]
        (conv => whnf); repeat ((first | refine tk1 ?_ | refine tk2 ?_ | refine tk3 ?_ | refine tk12 (fun _ => ?_) | refine tk4 ?_ | refine tk5 ?_ | refine tk6 ?_ | refine tk7 ?_ | refine tk8 ?_ | refine tk9 ?_ | refine tk10 (fun _ _ => ?_) | refine tk11 (fun _ => ?_)); (conv => whnf))
        refine CallK.inl tys_ok Tryd.func73 rfl (by kernel_rfl) rfl rfl ?_
        (conv => whnf); repeat ((first | refine tk1 ?_ | refine tk2 ?_ | refine tk3 ?_ | refine tk12 (fun _ => ?_) | refine tk4 ?_ | refine tk5 ?_ | refine tk6 ?_ | refine tk7 ?_ | refine tk8 ?_ | refine tk9 ?_ | refine tk10 (fun _ _ => ?_) | refine tk11 (fun _ => ?_)); (conv => whnf))
        rename_i k2 k4
        refine LoopS.lp tys_ok (fun (k : Nat) u => [u 0, .slice B3 l.length c3, .pointer (some ⟨k2, 0, none⟩), u 3, .pointer (some ⟨k4, 0, none⟩), .int .i64 ((l.length : Int) - 1), u 6, u 7, u 8, u 9, u 10, .int .i64 l.length, .int .i64 (k : Nat), u 13, u 14, u 15, u 16, u 17, u 18, u 19, u 20, u 21, u 22, u 23, u 24, u 25, u 26, u 27, u 28, u 29, u 30, u 31, u 32, u 33, u 34, u 35, u 36, u 37, u 38, u 39, u 40, u 41, u 42, u 43, u 44, u 45, u 46, u 47, u 48])
          (fun k => [.box k4 [.int .u8 0, .int .i64 0, .int .i64 0] 93, .box k2 [str m, str p, str q, .int .i64 v, .slice A F.length cp, c5] 28, .row (.slice B3 l.length c3) 9 1 l.length (((l.take k).map smallOf ++ l.drop k).map str), .box p2 [.int .u8 0, .int .i64 0, .int .i64 0] 93])
          (fun k => k ≤ l.length) (fun k => l.length - k) 0 (Nat.zero_le _) rfl (by repeat' (first | exact List.Sublist.refl _ | exact List.nil_sublist _ | apply List.Sublist.cons_cons | apply List.Sublist.cons)) ?_
        intro k u hk
        (conv => whnf); repeat ((first | refine tk1 ?_ | refine tk2 ?_ | refine tk3 ?_ | refine tk12 (fun _ => ?_) | refine tk4 ?_ | refine tk5 ?_ | refine tk6 ?_ | refine tk7 ?_ | refine tk8 ?_ | refine tk9 ?_ | refine tk10 (fun _ _ => ?_) | refine tk11 (fun _ => ?_)); (conv => whnf))
        refine Cmp.cases (fun hlt => ?_) (fun hlt => ?_)
        · have hlt' : k < l.length := by omega
          have h4 := lsum_mem (List.getElem_mem hlt')
          have hxl : (((l.take k).map smallOf ++ l.drop k).map str).length = l.length := by simp; omega
          (conv => whnf); repeat ((first | refine tk1 ?_ | refine tk2 ?_ | refine tk3 ?_ | refine tk12 (fun _ => ?_) | refine tk4 ?_ | refine tk5 ?_ | refine tk6 ?_ | refine tk7 ?_ | refine tk8 ?_ | refine tk9 ?_ | refine tk10 (fun _ _ => ?_) | refine tk11 (fun _ => ?_)); (conv => whnf))
          refine IdxA.tc (xs := ((l.take k).map smallOf ++ l.drop k).map str) (by omega) (by omega) (by omega) ?_
          (conv => whnf); repeat ((first | refine tk1 ?_ | refine tk2 ?_ | refine tk3 ?_ | refine tk12 (fun _ => ?_) | refine tk4 ?_ | refine tk5 ?_ | refine tk6 ?_ | refine tk7 ?_ | refine tk8 ?_ | refine tk9 ?_ | refine tk10 (fun _ _ => ?_) | refine tk11 (fun _ => ?_)); (conv => whnf))
          refine Ld.ta (xs := ((l.take k).map smallOf ++ l.drop k).map str) (v := str l[k]) (by simpa using get_map l k hlt') ?_
          (conv => whnf); repeat ((first | refine tk1 ?_ | refine tk2 ?_ | refine tk3 ?_ | refine tk12 (fun _ => ?_) | refine tk4 ?_ | refine tk5 ?_ | refine tk6 ?_ | refine tk7 ?_ | refine tk8 ?_ | refine tk9 ?_ | refine tk10 (fun _ _ => ?_) | refine tk11 (fun _ => ?_)); (conv => whnf))
          refine CallK.fn (Small_f l[k] (by omega)) ?_
          (conv => whnf); repeat ((first | refine tk1 ?_ | refine tk2 ?_ | refine tk3 ?_ | refine tk12 (fun _ => ?_) | refine tk4 ?_ | refine tk5 ?_ | refine tk6 ?_ | refine tk7 ?_ | refine tk8 ?_ | refine tk9 ?_ | refine tk10 (fun _ _ => ?_) | refine tk11 (fun _ => ?_)); (conv => whnf))
          refine IdxA.tc (xs := ((l.take k).map smallOf ++ l.drop k).map str) (by omega) (by omega) (by omega) ?_
          (conv => whnf); repeat ((first | refine tk1 ?_ | refine tk2 ?_ | refine tk3 ?_ | refine tk12 (fun _ => ?_) | refine tk4 ?_ | refine tk5 ?_ | refine tk6 ?_ | refine tk7 ?_ | refine tk8 ?_ | refine tk9 ?_ | refine tk10 (fun _ _ => ?_) | refine tk11 (fun _ => ?_)); (conv => whnf))
          refine Sto.tr (xs := ((l.take k).map smallOf ++ l.drop k).map str) (xs' := ((l.take (k + 1)).map smallOf ++ l.drop (k + 1)).map str) (by rw [show ((k : Nat) : Int).toNat * 1 = k by omega]; exact set_map l k hlt') (by rw [hxl]; omega) rfl ?_
          (conv => whnf); repeat ((first | refine tk1 ?_ | refine tk2 ?_ | refine tk3 ?_ | refine tk12 (fun _ => ?_) | refine tk4 ?_ | refine tk5 ?_ | refine tk6 ?_ | refine tk7 ?_ | refine tk8 ?_ | refine tk9 ?_ | refine tk10 (fun _ _ => ?_) | refine tk11 (fun _ => ?_)); (conv => whnf))
          exact ⟨k + 1, by omega, rfl, (by repeat' (first | exact List.Sublist.refl _ | exact List.nil_sublist _ | apply List.Sublist.cons_cons | apply List.Sublist.cons)), by dsimp only; omega⟩
        · have he : (l.take k).map smallOf ++ l.drop k = l.map smallOf := by rw [List.take_of_length_le (by omega), List.drop_eq_nil_of_le (by omega), List.append_nil]
          rw [he]
          (conv => whnf); repeat ((first | refine tk1 ?_ | refine tk2 ?_ | refine tk3 ?_ | refine tk12 (fun _ => ?_) | refine tk4 ?_ | refine tk5 ?_ | refine tk6 ?_ | refine tk7 ?_ | refine tk8 ?_ | refine tk9 ?_ | refine tk10 (fun _ _ => ?_) | refine tk11 (fun _ => ?_)); (conv => whnf))
          refine Cmp.cases (fun r1 => ?_) (fun r1 => ?_)
          · have e2 : codS v (decide (allOf F lenN ≠ [])) l = (0, 0, 400) := by unfold codS; rw [if_pos (.inl r1)]
            rw [e2]
            (conv => whnf); repeat ((first | refine tk1 ?_ | refine tk2 ?_ | refine tk3 ?_ | refine tk12 (fun _ => ?_) | refine tk4 ?_ | refine tk5 ?_ | refine tk6 ?_ | refine tk7 ?_ | refine tk8 ?_ | refine tk9 ?_ | refine tk10 (fun _ _ => ?_) | refine tk11 (fun _ => ?_)); (conv => whnf))
            refine CallK.fn wrong_f ?_
            (conv => whnf); repeat ((first | refine tk1 ?_ | refine tk2 ?_ | refine tk3 ?_ | refine tk12 (fun _ => ?_) | refine tk4 ?_ | refine tk5 ?_ | refine tk6 ?_ | refine tk7 ?_ | refine tk8 ?_ | refine tk9 ?_ | refine tk10 (fun _ _ => ?_) | refine tk11 (fun _ => ?_)); (conv => whnf))
            exact fun w' _ => rfl
          (conv => whnf); repeat ((first | refine tk1 ?_ | refine tk2 ?_ | refine tk3 ?_ | refine tk12 (fun _ => ?_) | refine tk4 ?_ | refine tk5 ?_ | refine tk6 ?_ | refine tk7 ?_ | refine tk8 ?_ | refine tk9 ?_ | refine tk10 (fun _ _ => ?_) | refine tk11 (fun _ => ?_)); (conv => whnf))
          refine CallK.fnS (All_f A cp F lenN (by omega) (by decide) hn) ⟨RdA.ok, trivial⟩ (fun B4 c4 => ?_)
          (conv => whnf); repeat ((first | refine tk1 ?_ | refine tk2 ?_ | refine tk3 ?_ | refine tk12 (fun _ => ?_) | refine tk4 ?_ | refine tk5 ?_ | refine tk6 ?_ | refine tk7 ?_ | refine tk8 ?_ | refine tk9 ?_ | refine tk10 (fun _ _ => ?_) | refine tk11 (fun _ => ?_)); (conv => whnf))
          refine Cmp.cases (fun r2 => ?_) (fun r2 => ?_)
          · have e2 : codS v (decide (allOf F lenN ≠ [])) l = (0, 0, 400) := by
              unfold codS
              rw [if_pos (.inr (.inl (decide_eq_true (fun e => by rw [e] at r2; exact absurd r2 (by simp)))))]
            rw [e2]
            (conv => whnf); repeat ((first | refine tk1 ?_ | refine tk2 ?_ | refine tk3 ?_ | refine tk12 (fun _ => ?_) | refine tk4 ?_ | refine tk5 ?_ | refine tk6 ?_ | refine tk7 ?_ | refine tk8 ?_ | refine tk9 ?_ | refine tk10 (fun _ _ => ?_) | refine tk11 (fun _ => ?_)); (conv => whnf))
            refine CallK.fn wrong_f ?_
            (conv => whnf); repeat ((first | refine tk1 ?_ | refine tk2 ?_ | refine tk3 ?_ | refine tk12 (fun _ => ?_) | refine tk4 ?_ | refine tk5 ?_ | refine tk6 ?_ | refine tk7 ?_ | refine tk8 ?_ | refine tk9 ?_ | refine tk10 (fun _ _ => ?_) | refine tk11 (fun _ => ?_)); (conv => whnf))
            exact fun w' _ => rfl
          have r2' : allOf F lenN = [] := List.eq_nil_of_length_eq_zero (by omega)
          have e3 : decide (allOf F lenN ≠ []) = false := decide_eq_false (fun h => h r2')
          rw [e3]
          (conv => whnf); repeat ((first | refine tk1 ?_ | refine tk2 ?_ | refine tk3 ?_ | refine tk12 (fun _ => ?_) | refine tk4 ?_ | refine tk5 ?_ | refine tk6 ?_ | refine tk7 ?_ | refine tk8 ?_ | refine tk9 ?_ | refine tk10 (fun _ _ => ?_) | refine tk11 (fun _ => ?_)); (conv => whnf))
          have hidx := SIndex_f (gI := gI) B3 c3 (l.map smallOf) chunkedN (by rw [List.length_map]; omega)
          rw [List.length_map] at hidx
          refine CallK.fnR hidx ⟨RdA.ok, trivial⟩ ?_
          (conv => whnf); repeat ((first | refine tk1 ?_ | refine tk2 ?_ | refine tk3 ?_ | refine tk12 (fun _ => ?_) | refine tk4 ?_ | refine tk5 ?_ | refine tk6 ?_ | refine tk7 ?_ | refine tk8 ?_ | refine tk9 ?_ | refine tk10 (fun _ _ => ?_) | refine tk11 (fun _ => ?_)); (conv => whnf))
          refine Cmp.cases (fun r3 => ?_) (fun r3 => ?_)
          · have e2 : codS v false l = (0, 0, 400) := by
              unfold codS
              rw [if_pos (.inr (.inr (.inl r3)))]
            rw [e2]
            (conv => whnf); repeat ((first | refine tk1 ?_ | refine tk2 ?_ | refine tk3 ?_ | refine tk12 (fun _ => ?_) | refine tk4 ?_ | refine tk5 ?_ | refine tk6 ?_ | refine tk7 ?_ | refine tk8 ?_ | refine tk9 ?_ | refine tk10 (fun _ _ => ?_) | refine tk11 (fun _ => ?_)); (conv => whnf))
            refine CallK.fn wrong_f ?_
            (conv => whnf); repeat ((first | refine tk1 ?_ | refine tk2 ?_ | refine tk3 ?_ | refine tk12 (fun _ => ?_) | refine tk4 ?_ | refine tk5 ?_ | refine tk6 ?_ | refine tk7 ?_ | refine tk8 ?_ | refine tk9 ?_ | refine tk10 (fun _ _ => ?_) | refine tk11 (fun _ => ?_)); (conv => whnf))
            exact fun w' _ => rfl
          (conv => whnf); repeat ((first | refine tk1 ?_ | refine tk2 ?_ | refine tk3 ?_ | refine tk12 (fun _ => ?_) | refine tk4 ?_ | refine tk5 ?_ | refine tk6 ?_ | refine tk7 ?_ | refine tk8 ?_ | refine tk9 ?_ | refine tk10 (fun _ _ => ?_) | refine tk11 (fun _ => ?_)); (conv => whnf))
          refine Cmp.cases (fun r4 => ?_) (fun r4 => ?_)
          · have e2 : codS v false l = (0, 0, 400) := by
              unfold codS
              rw [if_pos (.inr (.inr (.inr (List.eq_nil_of_length_eq_zero (by omega)))))]
            rw [e2]
            (conv => whnf); repeat ((first | refine tk1 ?_ | refine tk2 ?_ | refine tk3 ?_ | refine tk12 (fun _ => ?_) | refine tk4 ?_ | refine tk5 ?_ | refine tk6 ?_ | refine tk7 ?_ | refine tk8 ?_ | refine tk9 ?_ | refine tk10 (fun _ _ => ?_) | refine tk11 (fun _ => ?_)); (conv => whnf))
            refine CallK.fn wrong_f ?_
            (conv => whnf); repeat ((first | refine tk1 ?_ | refine tk2 ?_ | refine tk3 ?_ | refine tk12 (fun _ => ?_) | refine tk4 ?_ | refine tk5 ?_ | refine tk6 ?_ | refine tk7 ?_ | refine tk8 ?_ | refine tk9 ?_ | refine tk10 (fun _ _ => ?_) | refine tk11 (fun _ => ?_)); (conv => whnf))
            exact fun w' _ => rfl
          have e5 : ¬ (v = 0 ∨ false = true ∨ idxI chunkedN (l.map smallOf) ≠ (l.length : Int) - 1 ∨ l = []) := by
            rintro (h | h | h | h)
            · exact r1 h
            · cases h
            · exact r3 h
            · subst h; exact r4 (by simp)
          (conv => whnf); repeat ((first | refine tk1 ?_ | refine tk2 ?_ | refine tk3 ?_ | refine tk12 (fun _ => ?_) | refine tk4 ?_ | refine tk5 ?_ | refine tk6 ?_ | refine tk7 ?_ | refine tk8 ?_ | refine tk9 ?_ | refine tk10 (fun _ _ => ?_) | refine tk11 (fun _ => ?_)); (conv => whnf))
          refine Cmp.cases (fun r5 => ?_) (fun r5 => ?_)
          · have e2 : codS v false l = (0, 0, 501) := by unfold codS; rw [if_neg e5, if_pos (by omega)]
            rw [e2]
            (conv => whnf); repeat ((first | refine tk1 ?_ | refine tk2 ?_ | refine tk3 ?_ | refine tk12 (fun _ => ?_) | refine tk4 ?_ | refine tk5 ?_ | refine tk6 ?_ | refine tk7 ?_ | refine tk8 ?_ | refine tk9 ?_ | refine tk10 (fun _ _ => ?_) | refine tk11 (fun _ => ?_)); (conv => whnf))
            exact fun w' _ => rfl
          · have e2 : codS v false l = (2, 0, 200) := by unfold codS; rw [if_neg e5, if_neg (by omega)]
            rw [e2]
            (conv => whnf); repeat ((first | refine tk1 ?_ | refine tk2 ?_ | refine tk3 ?_ | refine tk12 (fun _ => ?_) | refine tk4 ?_ | refine tk5 ?_ | refine tk6 ?_ | refine tk7 ?_ | refine tk8 ?_ | refine tk9 ?_ | refine tk10 (fun _ _ => ?_) | refine tk11 (fun _ => ?_)); (conv => whnf))
            exact fun w' _ => rfl
      · have q6 : ¬ allOf F codN ≠ [] := fun h => h (List.eq_nil_of_length_eq_zero (by omega))
        (conv => whnf); repeat ((first | refine tk1 ?_ | refine tk2 ?_ | refine tk3 ?_ | refine tk12 (fun _ => ?_) | refine tk4 ?_ | refine tk5 ?_ | refine tk6 ?_ | refine tk7 ?_ | refine tk8 ?_ | refine tk9 ?_ | refine tk10 (fun _ _ => ?_) | refine tk11 (fun _ => ?_)); (conv => whnf))
        refine Cmp.cases (fun q7 => ?_) (fun q7 => ?_)
        · have e : sizeOf F v = lenGo none (itemsAll (allOf F lenN)) := by
            unfold sizeOf
            rw [if_neg q4.out, if_neg q6, if_pos (fun e => by rw [e] at q7; exact absurd q7 (by simp))]
          rw [e]
          have y1 := itemsAll_sum (allOf F lenN)
          (conv => whnf); repeat ((first | refine tk1 ?_ | refine tk2 ?_ | refine tk3 ?_ | refine tk12 (fun _ => ?_) | refine tk4 ?_ | refine tk5 ?_ | refine tk6 ?_ | refine tk7 ?_ | refine tk8 ?_ | refine tk9 ?_ | refine tk10 (fun _ _ => ?_) | refine tk11 (fun _ => ?_)); (conv => whnf))
          refine CallK.fnS (sitems_f B2 c2 (allOf F lenN) (by omega)) ⟨RdA.ok, trivial⟩ (fun B3 c3 => ?_)
          (conv => whnf); repeat ((first | refine tk1 ?_ | refine tk2 ?_ | refine tk3 ?_ | refine tk12 (fun _ => ?_) | refine tk4 ?_ | refine tk5 ?_ | refine tk6 ?_ | refine tk7 ?_ | refine tk8 ?_ | refine tk9 ?_ | refine tk10 (fun _ _ => ?_) | refine tk11 (fun _ => ?_)); (conv => whnf))
          refine CallK.fnR (slength_f B3 c3 (itemsAll (allOf F lenN)) (by omega)) ⟨RdA.ok, trivial⟩ ?_
          (conv => whnf); repeat ((first | refine tk1 ?_ | refine tk2 ?_ | refine tk3 ?_ | refine tk12 (fun _ => ?_) | refine tk4 ?_ | refine tk5 ?_ | refine tk6 ?_ | refine tk7 ?_ | refine tk8 ?_ | refine tk9 ?_ | refine tk10 (fun _ _ => ?_) | refine tk11 (fun _ => ?_)); (conv => whnf))
          exact fun w' _ => rfl
        · have e : sizeOf F v = (0, 0, 200) := by
            unfold sizeOf
            rw [if_neg q4.out, if_neg q6, if_neg (fun h => h (List.eq_nil_of_length_eq_zero (by omega)))]
          rw [e]
          (conv => whnf); repeat ((first | refine tk1 ?_ | refine tk2 ?_ | refine tk3 ?_ | refine tk12 (fun _ => ?_) | refine tk4 ?_ | refine tk5 ?_ | refine tk6 ?_ | refine tk7 ?_ | refine tk8 ?_ | refine tk9 ?_ | refine tk10 (fun _ _ => ?_) | refine tk11 (fun _ => ?_)); (conv => whnf))
          exact fun w' _ => rfl
  · have q4 : Hid (¬ (1 < (allOf F hostN).length ∨ ((allOf F hostN).length = 0 ∧ v ≠ 0))) := by show ¬ _; omega
    (conv => whnf); repeat ((first | refine tk1 ?_ | refine tk2 ?_ | refine tk3 ?_ | refine tk12 (fun _ => ?_) | refine tk4 ?_ | refine tk5 ?_ | refine tk6 ?_ | refine tk7 ?_ | refine tk8 ?_ | refine tk9 ?_ | refine tk10 (fun _ _ => ?_) | refine tk11 (fun _ => ?_)); (conv => whnf))
    clear q1 q2
    rename_i p1 p2
    refine Cmp.cases (fun q5 => ?_) (fun q5 => ?_)
    · have e : sizeOf F v = codS v (decide (allOf F lenN ≠ [])) (itemsAll (allOf F codN)) := by
        unfold sizeOf
        rw [if_neg q4.out, if_pos (fun e => by rw [e] at q5; exact absurd q5 (by simp))]
      rw [e]
      obtain ⟨l, hl⟩ : ∃ l, itemsAll (allOf F codN) = l := ⟨_, rfl⟩
      have y1 := itemsAll_sum (allOf F codN)
      rw [hl] at y1
      have y2 := lsum_length l
      (conv => whnf); repeat ((first | refine tk1 ?_ | refine tk2 ?_ | refine tk3 ?_ | refine tk12 (fun _ => ?_) | refine tk4 ?_ | refine tk5 ?_ | refine tk6 ?_ | refine tk7 ?_ | refine tk8 ?_ | refine tk9 ?_ | refine tk10 (fun _ _ => ?_) | refine tk11 (fun _ => ?_)); (conv => whnf))
      refine DrawS.goW [3] [(0, true), (1, true), (2, false), (3, false), (4, false)] tys_ok mixed (by kernel_rfl) ?_
      (conv => whnf); repeat ((first | refine tk1 ?_ | refine tk2 ?_ | refine tk3 ?_ | refine tk12 (fun _ => ?_) | refine tk4 ?_ | refine tk5 ?_ | refine tk6 ?_ | refine tk7 ?_ | refine tk8 ?_ | refine tk9 ?_ | refine tk10 (fun _ _ => ?_) | refine tk11 (fun _ => ?_)); (conv => whnf))
      refine CallK.fnS (sitems_f B1 c1 (allOf F codN) (by omega)) ⟨RdA.ok, trivial⟩ (fun B3 c3 => ?_)
      rw [hl]
      (conv => whnf); repeat ((first | refine tk1 ?_ | refine tk2 ?_ | refine tk3 ?_ | refine tk12 (fun _ => ?_) | refine tk4 ?_ | refine tk5 ?_ | refine tk6 ?_ | refine tk7 ?_ | refine tk8 ?_ | refine tk9 ?_ | refine tk10 (fun _ _ => ?_) | refine tk11 (fun _ => ?_)); (conv => whnf))
      refine CallK.inl tys_ok Tryd.func73 rfl (by kernel_rfl) rfl rfl ?_
      (conv => whnf); repeat ((first | refine tk1 ?_ | refine tk2 ?_ | refine tk3 ?_ | refine tk12 (fun _ => ?_) | refine tk4 ?_ | refine tk5 ?_ | refine tk6 ?_ | refine tk7 ?_ | refine tk8 ?_ | refine tk9 ?_ | refine tk10 (fun _ _ => ?_) | refine tk11 (fun _ => ?_)); (conv => whnf))
      rename_i k2 k4
      refine LoopS.lp tys_ok (fun (k : Nat) u => [u 0, .slice B3 l.length c3, .pointer (some ⟨k2, 0, none⟩), u 3, .pointer (some ⟨k4, 0, none⟩), .int .i64 ((l.length : Int) - 1), u 6, u 7, u 8, u 9, u 10, .int .i64 l.length, .int .i64 (k : Nat), u 13, u 14, u 15, u 16, u 17, u 18, u 19, u 20, u 21, u 22, u 23, u 24, u 25, u 26, u 27, u 28, u 29, u 30, u 31, u 32, u 33, u 34, u 35, u 36, u 37, u 38, u 39, u 40, u 41, u 42, u 43, u 44, u 45, u 46, u 47, u 48])
        (fun k => [.box k4 [.int .u8 0, .int .i64 0, .int .i64 0] 93, .box k2 [str m, str p, str q, .int .i64 v, .slice A F.length cp, c5] 28, .row (.slice B3 l.length c3) 9 1 l.length (((l.take k).map smallOf ++ l.drop k).map str), .box p2 [.int .u8 0, .int .i64 0, .int .i64 0] 93])
        (fun k => k ≤ l.length) (fun k => l.length - k) 0 (Nat.zero_le _) rfl (by repeat' (first | exact List.Sublist.refl _ | exact List.nil_sublist _ | apply List.Sublist.cons_cons | apply List.Sublist.cons)) ?_
      intro k u hk
      (conv => whnf); repeat ((first | refine tk1 ?_ | refine tk2 ?_ | refine tk3 ?_ | refine tk12 (fun _ => ?_) | refine tk4 ?_ | refine tk5 ?_ | refine tk6 ?_ | refine tk7 ?_ | refine tk8 ?_ | refine tk9 ?_ | refine tk10 (fun _ _ => ?_) | refine tk11 (fun _ => ?_)); (conv => whnf))
      refine Cmp.cases (fun hlt => ?_) (fun hlt => ?_)
      · have hlt' : k < l.length := by omega
        have h4 := lsum_mem (List.getElem_mem hlt')
        have hxl : (((l.take k).map smallOf ++ l.drop k).map str).length = l.length := by simp; omega
        (conv => whnf); repeat ((first | refine tk1 ?_ | refine tk2 ?_ | refine tk3 ?_ | refine tk12 (fun _ => ?_) | refine tk4 ?_ | refine tk5 ?_ | refine tk6 ?_ | refine tk7 ?_ | refine tk8 ?_ | refine tk9 ?_ | refine tk10 (fun _ _ => ?_) | refine tk11 (fun _ => ?_)); (conv => whnf))
        refine IdxA.tc (xs := ((l.take k).map smallOf ++ l.drop k).map str) (by omega) (by omega) (by omega) ?_
        (conv => whnf); repeat ((first | refine tk1 ?_ | refine tk2 ?_ | refine tk3 ?_ | refine tk12 (fun _ => ?_) | refine tk4 ?_ | refine tk5 ?_ | refine tk6 ?_ | refine tk7 ?_ | refine tk8 ?_ | refine tk9 ?_ | refine tk10 (fun _ _ => ?_) | refine tk11 (fun _ => ?_)); (conv => whnf))
        refine Ld.ta (xs := ((l.take k).map smallOf ++ l.drop k).map str) (v := str l[k]) (by simpa using get_map l k hlt') ?_
        (conv => whnf); repeat ((first | refine tk1 ?_ | refine tk2 ?_ | refine tk3 ?_ | refine tk12 (fun _ => ?_) | refine tk4 ?_ | refine tk5 ?_ | refine tk6 ?_ | refine tk7 ?_ | refine tk8 ?_ | refine tk9 ?_ | refine tk10 (fun _ _ => ?_) | refine tk11 (fun _ => ?_)); (conv => whnf))
        refine CallK.fn (Small_f l[k] (by omega)) ?_
        (conv => whnf); repeat ((first | refine tk1 ?_ | refine tk2 ?_ | refine tk3 ?_ | refine tk12 (fun _ => ?_) | refine tk4 ?_ | refine tk5 ?_ | refine tk6 ?_ | refine tk7 ?_ | refine tk8 ?_ | refine tk9 ?_ | refine tk10 (fun _ _ => ?_) | refine tk11 (fun _ => ?_)); (conv => whnf))
        refine IdxA.tc (xs := ((l.take k).map smallOf ++ l.drop k).map str) (by omega) (by omega) (by omega) ?_
        (conv => whnf); repeat ((first | refine tk1 ?_ | refine tk2 ?_ | refine tk3 ?_ | refine tk12 (fun _ => ?_) | refine tk4 ?_ | refine tk5 ?_ | refine tk6 ?_ | refine tk7 ?_ | refine tk8 ?_ | refine tk9 ?_ | refine tk10 (fun _ _ => ?_) | refine tk11 (fun _ => ?_)); (conv => whnf))
        refine Sto.tr (xs := ((l.take k).map smallOf ++ l.drop k).map str) (xs' := ((l.take (k + 1)).map smallOf ++ l.drop (k + 1)).map str) (by rw [show ((k : Nat) : Int).toNat * 1 = k by omega]; exact set_map l k hlt') (by rw [hxl]; omega) rfl ?_
        (conv => whnf); repeat ((first | refine tk1 ?_ | refine tk2 ?_ | refine tk3 ?_ | refine tk12 (fun _ => ?_) | refine tk4 ?_ | refine tk5 ?_ | refine tk6 ?_ | refine tk7 ?_ | refine tk8 ?_ | refine tk9 ?_ | refine tk10 (fun _ _ => ?_) | refine tk11 (fun _ => ?_)); (conv => whnf))
        exact ⟨k + 1, by omega, rfl, (by repeat' (first | exact List.Sublist.refl _ | exact List.nil_sublist _ | apply List.Sublist.cons_cons | apply List.Sublist.cons)), by dsimp only; omega⟩
      · have he : (l.take k).map smallOf ++ l.drop k = l.map smallOf := by rw [List.take_of_length_le (by omega), List.drop_eq_nil_of_le (by omega), List.append_nil]
        rw [he]
        (conv => whnf); repeat ((first | refine tk1 ?_ | refine tk2 ?_ | refine tk3 ?_ | refine tk12 (fun _ => ?_) | refine tk4 ?_ | refine tk5 ?_ | refine tk6 ?_ | refine tk7 ?_ | refine tk8 ?_ | refine tk9 ?_ | refine tk10 (fun _ _ => ?_) | refine tk11 (fun _ => ?_)); (conv => whnf))
        refine Cmp.cases (fun r1 => ?_) (fun r1 => ?_)
        · have e2 : codS v (decide (allOf F lenN ≠ [])) l = (0, 0, 400) := by unfold codS; rw [if_pos (.inl r1)]
          rw [e2]
          (conv => whnf); repeat ((first | refine tk1 ?_ | refine tk2 ?_ | refine tk3 ?_ | refine tk12 (fun _ => ?_) | refine tk4 ?_ | refine tk5 ?_ | refine tk6 ?_ | refine tk7 ?_ | refine tk8 ?_ | refine tk9 ?_ | refine tk10 (fun _ _ => ?_) | refine tk11 (fun _ => ?_)); (conv => whnf))
          refine CallK.fn wrong_f ?_
          (conv => whnf); repeat ((first | refine tk1 ?_ | refine tk2 ?_ | refine tk3 ?_ | refine tk12 (fun _ => ?_) | refine tk4 ?_ | refine tk5 ?_ | refine tk6 ?_ | refine tk7 ?_ | refine tk8 ?_ | refine tk9 ?_ | refine tk10 (fun _ _ => ?_) | refine tk11 (fun _ => ?_)); (conv => whnf))
          exact fun w' _ => rfl
        (conv => whnf); repeat ((first | refine tk1 ?_ | refine tk2 ?_ | refine tk3 ?_ | refine tk12 (fun _ => ?_) | refine tk4 ?_ | refine tk5 ?_ | refine tk6 ?_ | refine tk7 ?_ | refine tk8 ?_ | refine tk9 ?_ | refine tk10 (fun _ _ => ?_) | refine tk11 (fun _ => ?_)); (conv => whnf))
        refine CallK.fnS (All_f A cp F lenN (by omega) (by decide) hn) ⟨RdA.ok, trivial⟩ (fun B4 c4 => ?_)
        (conv => whnf); repeat ((first | refine tk1 ?_ | refine tk2 ?_ | refine tk3 ?_ | refine tk12 (fun _ => ?_) | refine tk4 ?_ | refine tk5 ?_ | refine tk6 ?_ | refine tk7 ?_ | refine tk8 ?_ | refine tk9 ?_ | refine tk10 (fun _ _ => ?_) | refine tk11 (fun _ => ?_)); (conv => whnf))
        refine Cmp.cases (fun r2 => ?_) (fun r2 => ?_)
        · have e2 : codS v (decide (allOf F lenN ≠ [])) l = (0, 0, 400) := by
            unfold codS
            rw [if_pos (.inr (.inl (decide_eq_true (fun e => by rw [e] at r2; exact absurd r2 (by simp)))))]
          rw [e2]
          (conv => whnf); repeat ((first | refine tk1 ?_ | refine tk2 ?_ | refine tk3 ?_ | refine tk12 (fun _ => ?_) | refine tk4 ?_ | refine tk5 ?_ | refine tk6 ?_ | refine tk7 ?_ | refine tk8 ?_ | refine tk9 ?_ | refine tk10 (fun _ _ => ?_) | refine tk11 (fun _ => ?_)); (conv => whnf))
          refine CallK.fn wrong_f ?_
          (conv => whnf); repeat ((first | refine tk1 ?_ | refine tk2 ?_ | refine tk3 ?_ | refine tk12 (fun _ => ?_) | refine tk4 ?_ | refine tk5 ?_ | refine tk6 ?_ | refine tk7 ?_ | refine tk8 ?_ | refine tk9 ?_ | refine tk10 (fun _ _ => ?_) | refine tk11 (fun _ => ?_)); (conv => whnf))
          exact fun w' _ => rfl
        have r2' : allOf F lenN = [] := List.eq_nil_of_length_eq_zero (by omega)
        have e3 : decide (allOf F lenN ≠ []) = false := decide_eq_false (fun h => h r2')
        rw [e3]
        (conv => whnf); repeat ((first | refine tk1 ?_ | refine tk2 ?_ | refine tk3 ?_ | refine tk12 (fun _ => ?_) | refine tk4 ?_ | refine tk5 ?_ | refine tk6 ?_ | refine tk7 ?_ | refine tk8 ?_ | refine tk9 ?_ | refine tk10 (fun _ _ => ?_) | refine tk11 (fun _ => ?_)); (conv => whnf))
        have hidx := SIndex_f (gI := gI) B3 c3 (l.map smallOf) chunkedN (by rw [List.length_map]; omega)
        rw [List.length_map] at hidx
        refine CallK.fnR hidx ⟨RdA.ok, trivial⟩ ?_
        (conv => whnf); repeat ((first | refine tk1 ?_ | refine tk2 ?_ | refine tk3 ?_ | refine tk12 (fun _ => ?_) | refine tk4 ?_ | refine tk5 ?_ | refine tk6 ?_ | refine tk7 ?_ | refine tk8 ?_ | refine tk9 ?_ | refine tk10 (fun _ _ => ?_) | refine tk11 (fun _ => ?_)); (conv => whnf))
        refine Cmp.cases (fun r3 => ?_) (fun r3 => ?_)
        · have e2 : codS v false l = (0, 0, 400) := by
            unfold codS
            rw [if_pos (.inr (.inr (.inl r3)))]
          rw [e2]
          (conv => whnf); repeat ((first | refine tk1 ?_ | refine tk2 ?_ | refine tk3 ?_ | refine tk12 (fun _ => ?_) | refine tk4 ?_ | refine tk5 ?_ | refine tk6 ?_ | refine tk7 ?_ | refine tk8 ?_ | refine tk9 ?_ | refine tk10 (fun _ _ => ?_) | refine tk11 (fun _ => ?_)); (conv => whnf))
          refine CallK.fn wrong_f ?_
          (conv => whnf); repeat ((first | refine tk1 ?_ | refine tk2 ?_ | refine tk3 ?_ | refine tk12 (fun _ => ?_) | refine tk4 ?_ | refine tk5 ?_ | refine tk6 ?_ | refine tk7 ?_ | refine tk8 ?_ | refine tk9 ?_ | refine tk10 (fun _ _ => ?_) | refine tk11 (fun _ => ?_)); (conv => whnf))
          exact fun w' _ => rfl
        (conv => whnf); repeat ((first | refine tk1 ?_ | refine tk2 ?_ | refine tk3 ?_ | refine tk12 (fun _ => ?_) | refine tk4 ?_ | refine tk5 ?_ | refine tk6 ?_ | refine tk7 ?_ | refine tk8 ?_ | refine tk9 ?_ | refine tk10 (fun _ _ => ?_) | refine tk11 (fun _ => ?_)); (conv => whnf))
        refine Cmp.cases (fun r4 => ?_) (fun r4 => ?_)
        · have e2 : codS v false l = (0, 0, 400) := by
            unfold codS
            rw [if_pos (.inr (.inr (.inr (List.eq_nil_of_length_eq_zero (by omega)))))]
          rw [e2]
          (conv => whnf); repeat ((first | refine tk1 ?_ | refine tk2 ?_ | refine tk3 ?_ | refine tk12 (fun _ => ?_) | refine tk4 ?_ | refine tk5 ?_ | refine tk6 ?_ | refine tk7 ?_ | refine tk8 ?_ | refine tk9 ?_ | refine tk10 (fun _ _ => ?_) | refine tk11 (fun _ => ?_)); (conv => whnf))
          refine CallK.fn wrong_f ?_
          (conv => whnf); repeat ((first | refine tk1 ?_ | refine tk2 ?_ | refine tk3 ?_ | refine tk12 (fun _ => ?_) | refine tk4 ?_ | refine tk5 ?_ | refine tk6 ?_ | refine tk7 ?_ | refine tk8 ?_ | refine tk9 ?_ | refine tk10 (fun _ _ => ?_) | refine tk11 (fun _ => ?_)); (conv => whnf))
          exact fun w' _ => rfl
        have e5 : ¬ (v = 0 ∨ false = true ∨ idxI chunkedN (l.map smallOf) ≠ (l.length : Int) - 1 ∨ l = []) := by
          rintro (h | h | h | h)
          · exact r1 h
          · cases h
          · exact r3 h
          · subst h; exact r4 (by simp)
        (conv => whnf); repeat ((first | refine tk1 ?_ | refine tk2 ?_ | refine tk3 ?_ | refine tk12 (fun _ => ?_) | refine tk4 ?_ | refine tk5 ?_ | refine tk6 ?_ | refine tk7 ?_ | refine tk8 ?_ | refine tk9 ?_ | refine tk10 (fun _ _ => ?_) | refine tk11 (fun _ => ?_)); (conv => whnf))
        refine Cmp.cases (fun r5 => ?_) (fun r5 => ?_)
        · have e2 : codS v false l = (0, 0, 501) := by unfold codS; rw [if_neg e5, if_pos (by omega)]
          rw [e2]
          (conv => whnf); repeat ((first | refine tk1 ?_ | refine tk2 ?_ | refine tk3 ?_ | refine tk12 (fun _ => ?_) | refine tk4 ?_ | refine tk5 ?_ | refine tk6 ?_ | refine tk7 ?_ | refine tk8 ?_ | refine tk9 ?_ | refine tk10 (fun _ _ => ?_) | refine tk11 (fun _ => ?_)); (conv => whnf))
          exact fun w' _ => rfl
        · have e2 : codS v false l = (2, 0, 200) := by unfold codS; rw [if_neg e5, if_neg (by omega)]
          rw [e2]
          (conv => whnf); repeat ((first | refine tk1 ?_ | refine tk2 ?_ | refine tk3 ?_ | refine tk12 (fun _ => ?_) | refine tk4 ?_ | refine tk5 ?_ | refine tk6 ?_ | refine tk7 ?_ | refine tk8 ?_ | refine tk9 ?_ | refine tk10 (fun _ _ => ?_) | refine tk11 (fun _ => ?_)); (conv => whnf))
          exact fun w' _ => rfl
    · have q6 : ¬ allOf F codN ≠ [] := fun h => h (List.eq_nil_of_length_eq_zero (by omega))
      (conv => whnf); repeat ((first | refine tk1 ?_ | refine tk2 ?_ | refine tk3 ?_ | refine tk12 (fun _ => ?_) | refine tk4 ?_ | refine tk5 ?_ | refine tk6 ?_ | refine tk7 ?_ | refine tk8 ?_ | refine tk9 ?_ | refine tk10 (fun _ _ => ?_) | refine tk11 (fun _ => ?_)); (conv => whnf))
      refine Cmp.cases (fun q7 => ?_) (fun q7 => ?_)
      · have e : sizeOf F v = lenGo none (itemsAll (allOf F lenN)) := by
          unfold sizeOf
          rw [if_neg q4.out, if_neg q6, if_pos (fun e => by rw [e] at q7; exact absurd q7 (by simp))]
        rw [e]
        have y1 := itemsAll_sum (allOf F lenN)
        (conv => whnf); repeat ((first | refine tk1 ?_ | refine tk2 ?_ | refine tk3 ?_ | refine tk12 (fun _ => ?_) | refine tk4 ?_ | refine tk5 ?_ | refine tk6 ?_ | refine tk7 ?_ | refine tk8 ?_ | refine tk9 ?_ | refine tk10 (fun _ _ => ?_) | refine tk11 (fun _ => ?_)); (conv => whnf))
        refine CallK.fnS (sitems_f B2 c2 (allOf F lenN) (by omega)) ⟨RdA.ok, trivial⟩ (fun B3 c3 => ?_)
        (conv => whnf); repeat ((first | refine tk1 ?_ | refine tk2 ?_ | refine tk3 ?_ | refine tk12 (fun _ => ?_) | refine tk4 ?_ | refine tk5 ?_ | refine tk6 ?_ | refine tk7 ?_ | refine tk8 ?_ | refine tk9 ?_ | refine tk10 (fun _ _ => ?_) | refine tk11 (fun _ => ?_)); (conv => whnf))
        refine CallK.fnR (slength_f B3 c3 (itemsAll (allOf F lenN)) (by omega)) ⟨RdA.ok, trivial⟩ ?_
        (conv => whnf); repeat ((first | refine tk1 ?_ | refine tk2 ?_ | refine tk3 ?_ | refine tk12 (fun _ => ?_) | refine tk4 ?_ | refine tk5 ?_ | refine tk6 ?_ | refine tk7 ?_ | refine tk8 ?_ | refine tk9 ?_ | refine tk10 (fun _ _ => ?_) | refine tk11 (fun _ => ?_)); (conv => whnf))
        exact fun w' _ => rfl
      · have e : sizeOf F v = (0, 0, 200) := by
          unfold sizeOf
          rw [if_neg q4.out, if_neg q6, if_neg (fun h => h (List.eq_nil_of_length_eq_zero (by omega)))]
        rw [e]
        (conv => whnf); repeat ((first | refine tk1 ?_ | refine tk2 ?_ | refine tk3 ?_ | refine tk12 (fun _ => ?_) | refine tk4 ?_ | refine tk5 ?_ | refine tk6 ?_ | refine tk7 ?_ | refine tk8 ?_ | refine tk9 ?_ | refine tk10 (fun _ _ => ?_) | refine tk11 (fun _ => ?_)); (conv => whnf))
        exact fun w' _ => rfl
theorem Of_f (m p q : List UInt8) (v : Int) (A : Option Addr) (cp : Nat) (F : List Fld) (c5 : Value) (hF : fsum F ≤ 2000000) (hv : -9223372036854775808 ≤ v ∧ v ≤ 9223372036854775807) :
    FnR Tryd.prog gI 22 [.agg ⟨[str m, str p, str q, .int .i64 v, .slice A F.length cp, c5]⟩] [(A, fcells F)] (.tuple #[.int .u8 (sizeOf F v).1, .int .i64 (sizeOf F v).2.1, .int .i64 (sizeOf F v).2.2]) := by
  refine FnE.of tys_ok Tryd.func22 rfl (by kernel_rfl) rfl rfl ?_; intro w hG hP
  have hR : ∀ H, RdA (mkC Tryd.prog gI w hG) H A (fcells F) := fun H => ⟨hP.1.now⟩
  (conv => whnf); repeat ((first | refine tk1 ?_ | refine tk2 ?_ | refine tk3 ?_ | refine tk12 (fun _ => ?_) | refine tk4 ?_ | refine tk5 ?_ | refine tk6 ?_ | refine tk7 ?_ | refine tk8 ?_ | refine tk9 ?_ | refine tk10 (fun _ _ => ?_) | refine tk11 (fun _ => ?_)); (conv => whnf))
  refine CallK.fnR (of_f m p q v A cp F c5 hF hv) ⟨RdA.ok, trivial⟩ ?_
  (conv => whnf); repeat ((first | refine tk1 ?_ | refine tk2 ?_ | refine tk3 ?_ | refine tk12 (fun _ => ?_) | refine tk4 ?_ | refine tk5 ?_ | refine tk6 ?_ | refine tk7 ?_ | refine tk8 ?_ | refine tk9 ?_ | refine tk10 (fun _ _ => ?_) | refine tk11 (fun _ => ?_)); (conv => whnf))
  refine DrawS.go (qs 9) tys_ok mixed (by kernel_rfl) ?_
  (conv => whnf); repeat ((first | refine tk1 ?_ | refine tk2 ?_ | refine tk3 ?_ | refine tk12 (fun _ => ?_) | refine tk4 ?_ | refine tk5 ?_ | refine tk6 ?_ | refine tk7 ?_ | refine tk8 ?_ | refine tk9 ?_ | refine tk10 (fun _ _ => ?_) | refine tk11 (fun _ => ?_)); (conv => whnf))
  exact fun w' _ => rfl
end Go.Proofs.YtggokigjnaiokaaDoor.Vex
/- A walk by reckoning, part sixteen: regions in which two acts may come up together: both orders are gone. No program in sight. -/
namespace Go.Proofs.YtggokigjnaiokaaDoor.Vex
open Go Go.RowKit

/-- The orders that may come: q: an operation that is quiet; a: an act that comes up alone; ch: one of several that come up (stop ends their row). -/
inductive DT where
  | nil
  | q (i : Nat) (t : DT)
  | a (i : Nat) (t : DT)
  | ch (i : Nat) (t : DT) (r : DT)
  | stop
noncomputable def wtree (c : Ctx) (T : Ty) (ws : List Nat) (ops : List Oper) (t : DT) : (Fr → Hp → Prop) → Fr → Hp → Prop :=
  DT.rec (motive := fun _ => (Fr → Hp → Prop) → Fr → Hp → Prop) (fun K fr H => K fr H)
    (fun i _ ih K fr H => nthK ops i fun o => strOk T fr o.guard o.op (wstep c T .quiet ops o fr H (ih K)))
    (fun i _ ih K fr H => nthK ops i fun o => strOk T fr o.guard o.op (wstep c T (match ws.contains i with | true => .wact | false => .act) ops o fr H (ih K)))
    (fun i _ _ ih rh K fr H => (nthK ops i fun o => strOk T fr o.guard o.op (wstep c T (match ws.contains i with | true => .wact | false => .act) ops o fr H (ih K))) ∧ rh K fr H)
    (fun _ _ _ => True) t
def DT.heads : DT → List Nat
  | .ch i _ r => i :: r.heads
  | _ => []
noncomputable def treeB (T : Ty) (ws : List Nat) (ops : Array Oper) : DT → Bool → Array Bool → Bool
  | .nil, b, l => !b && (Region.ready .any ops l).isEmpty
  | .q i t, b, l => !b && (Region.ready .any ops l).contains i && Region.free .any ops l i && !isWr ws ops i && (((List.range ops.size).all fun j => !isWr ws ops j || l.getD j true || anc .any ops ops.size j i) || (match ops[i]? with | some o => blindOp T o.guard o.op | none => false)) && treeB T ws ops t false (l.setIfInBounds i true)
  | .a i t, b, l => !b && (Region.ready .any ops l == [i]) && treeB T ws ops t false (l.setIfInBounds i true)
  | .ch i t r, b, l => (b || ((Region.ready .any ops l).all fun k => k == i || r.heads.contains k)) && (Region.ready .any ops l).contains i && treeB T ws ops t false (l.setIfInBounds i true) && treeB T ws ops r true l
  | .stop, b, _ => b
def DT.len : DT → Nat
  | .nil => 0
  | .q _ t => t.len + 1
  | .a _ t => t.len + 1
  | .ch _ t r => max (t.len + 1) r.len
  | .stop => 0
section
variable {c : Ctx} {T : Ty}
theorem wact_ok (hT : TOk c.P T) (ws : List Nat) (ds : List Deferred) (ops : List Oper) (K : Fr → Hp → Prop) {ih : Fr → Hp → Prop} {i n : Nat} {l : Array Bool} {fr : Fr} {H : Hp} {w' : World}
    (h : nthK ops i fun o => strOk T fr o.guard o.op (wstep c T (match ws.contains i with | true => .wact | false => .act) ops o fr H ih)) (hw' : St c H w')
    (next : ∀ fr' H' w2, ih fr' H' → St c H' w2 → wpAnyR c.P .any ⟨ops⟩ (isWr ws ⟨ops⟩) (DrawQ c ds K) n (l.setIfInBounds i true) (actD ds fr') w2) :
    wpOp c.P ⟨ops⟩ (DrawQ c ds K) i (fun a2 w2 => (isWr ws ⟨ops⟩ i = false → R w' w2) ∧ wpAnyR c.P .any ⟨ops⟩ (isWr ws ⟨ops⟩) (DrawQ c ds K) n (l.setIfInBounds i true) a2 w2) (actD ds fr) w' := by
  obtain ⟨o, hoi, h⟩ := nthK_some h
  obtain ⟨h, hst⟩ := strOk_out h
  have hmd : ∃ m : Md, wstep c T m ops o fr H ih ∧ m ≠ .plain ∧ (ws.contains i = false → m = .act) ∧ (m = .act ∨ m = .wact) := by
    cases hw9 : ws.contains i
    · rw [hw9] at h
      exact ⟨Md.act, h, (fun h => by cases h), (fun _ => rfl), .inl rfl⟩
    · rw [hw9] at h
      exact ⟨Md.wact, h, (fun h => by cases h), (fun h => by cases h), .inr rfl⟩
  clear h
  obtain ⟨m, h, hm2, hm3, hm4⟩ := hmd
  have hoi' : (⟨ops⟩ : Array Oper)[i]? = some o := by simpa using hoi
  unfold wpOp
  simp only [hoi']
  rw [show (actD ds fr).tmps = (act fr).tmps from rfl]
  rcases wstep_cases hT h with ⟨hwd, hd | ⟨he, _⟩, _⟩ | ⟨hwd, hk⟩
  · rw [if_pos hwd]
    have hd : GoodD c m o fr H fun v H' => setO fr o.dst v fun fr' => ih fr' H' := by
      rcases hm4 with rfl | rfl
      · exact hd
      · exact hd
    refine .inl (Good.wp (hd w' hw') fun v H' w2 hs2 hk hrr => ?_)
    obtain ⟨fr', e, hk⟩ := setO_act (ds := ds) hk
    rw [e]
    refine ⟨fun hi => hrr ?_, next fr' H' w2 hk hs2⟩
    have h2 : isWr ws ⟨ops⟩ i = (wr o.op || ws.contains i) := by unfold isWr; rw [hoi']
    rw [h2, Bool.or_eq_false_iff] at hi
    rw [hm3 hi.2]
    simp [rOf, hi.1]
  · exact absurd he hm2
  · rw [if_neg (by rw [hwd]; exact Bool.false_ne_true)]
    obtain ⟨fr', e, hk⟩ := setO_act (ds := ds) hk
    rw [e]
    exact ⟨fun _ => R.refl _, next fr' H w' hk hw'⟩
abbrev TreeA (c : Ctx) (T : Ty) (ws : List Nat) (ds : List Deferred) (ops : List Oper) (K' K : Fr → Hp → Prop) (t : DT) : Prop := ∀ (n : Nat) (l : Array Bool) (fr : Fr) (H : Hp) (w : World),
  t.len ≤ n → closedL .any ⟨ops⟩ l → treeB T ws ⟨ops⟩ t false l = true → wtree c T ws ops t K' fr H → St c H w → wpAnyR c.P .any ⟨ops⟩ (isWr ws ⟨ops⟩) (DrawQ c ds K) n l (actD ds fr) w
abbrev TreeC (c : Ctx) (T : Ty) (ws : List Nat) (ds : List Deferred) (ops : List Oper) (K' K : Fr → Hp → Prop) (t : DT) : Prop := ∀ (n : Nat) (l : Array Bool) (fr : Fr) (H : Hp) (w' : World),
  t.len ≤ n + 1 → closedL .any ⟨ops⟩ l → treeB T ws ⟨ops⟩ t true l = true → wtree c T ws ops t K' fr H → St c H w' → ∀ k ∈ t.heads,
    wpOp c.P ⟨ops⟩ (DrawQ c ds K) k (fun a2 w2 => (isWr ws ⟨ops⟩ k = false → R w' w2) ∧ wpAnyR c.P .any ⟨ops⟩ (isWr ws ⟨ops⟩) (DrawQ c ds K) n (l.setIfInBounds k true) a2 w2) (actD ds fr) w'
theorem wtree_ok (hT : TOk c.P T) (ws : List Nat) (ds : List Deferred) (ops : List Oper) (hs : Region.noSelect ⟨ops⟩ = true) (K' K : Fr → Hp → Prop) (hK : ∀ fr H, K' fr H → ∃ H2, (∀ w, St c H w → St c H2 w) ∧ K fr H2) (t : DT) : TreeA c T ws ds ops K' K t ∧ TreeC c T ws ds ops K' K t := by
  induction t with
  | nil =>
    refine ⟨fun n l fr H w _ _ ho h hw => ?_, fun n l fr H w _ _ ho h hw k hk => by cases hk⟩
    simp only [treeB, Bool.and_eq_true, List.isEmpty_iff] at ho
    obtain ⟨H2, hs2, hk⟩ := hK fr H h
    exact wpAnyR_done ho.2 fun w' hR => ⟨fr, H2, rfl, hs2 _ (hw.below hR), rfl, hk⟩
  | q i t ih =>
    refine ⟨fun n l fr H w hn hc ho h hw => ?_, fun n l fr H w _ _ ho h hw k hk => by cases hk⟩
    obtain ⟨n, rfl⟩ : ∃ m, n = m + 1 := ⟨n - 1, by simp only [DT.len] at hn; omega⟩
    simp only [treeB, Bool.and_eq_true] at ho
    obtain ⟨⟨⟨⟨⟨_, hr⟩, hf⟩, hwi⟩, hall⟩, ho⟩ := ho
    rw [Bool.not_eq_true'] at hwi
    have hr : i ∈ Region.ready .any ⟨ops⟩ l := by simpa using hr
    obtain ⟨o, hoi, h⟩ := nthK_some h
    obtain ⟨h, hst⟩ := strOk_out h
    have hoi' : (⟨ops⟩ : Array Oper)[i]? = some o := by simpa using hoi
    have hQ : ∀ (v : Value) (ch : List PanicEntry) (a : Act) (w : World), DrawQ c ds K (.panic ch) (a.put o.dst v) w → DrawQ c ds K (.panic ch) a w := fun v ch a w ⟨_, _, _, _, he, _⟩ => by cases he
    have hn' : t.len ≤ n := by simpa [DT.len] using hn
    rw [hoi', Bool.or_eq_true] at hall
    dsimp only at hall
    rcases hall with hall | hbl
    rotate_left
    · rcases wstep_wop h with ⟨hwd, h⟩ | ⟨hwd, hk⟩
      · obtain ⟨v, hk, hq⟩ := blind_wop hT o hbl hst h
        obtain ⟨fr', e, hk⟩ := setO_act (ds := ds) hk
        refine wpAnyR_firstB (v := v) hoi' (Region.noSelect_spec hs) (hQ v) n l (actD ds fr) w hc (Region.free_spec hoi' hf) hr (fun w' => .inl ⟨hwd, ?_⟩) ?_
        · unfold Quiet1
          rw [show (actD ds fr).eval = (act fr).eval from rfl, hq w']
          exact ⟨rfl, rfl⟩
        · rw [e]
          exact ih.1 n _ fr' H w hn' (hc.set hr) ho hk hw
      · obtain ⟨fr', e, hk⟩ := setO_act (ds := ds) hk
        refine wpAnyR_firstB (v := undef) hoi' (Region.noSelect_spec hs) (hQ _) n l (actD ds fr) w hc (Region.free_spec hoi' hf) hr (fun w' => .inr ⟨hwd, rfl⟩) ?_
        rw [e]
        exact ih.1 n _ fr' H w hn' (hc.set hr) ho hk hw
    simp only [List.all_eq_true, List.mem_range, Bool.or_eq_true, Bool.not_eq_true'] at hall
    have hwr : ∀ j, isWr ws ⟨ops⟩ j = true → l.getD j true = false → anc .any ⟨ops⟩ (⟨ops⟩ : Array Oper).size j i = true := fun j hj hl => by
      have hlt : j < (⟨ops⟩ : Array Oper).size := by
        unfold isWr at hj
        rcases Nat.lt_or_ge j (⟨ops⟩ : Array Oper).size with h' | h'
        · exact h'
        · rw [Array.getElem?_eq_none h'] at hj; cases hj
      rcases hall j hlt with (h1 | h1) | h1
      · rw [hj] at h1; cases h1
      · rw [hl] at h1; cases h1
      · exact h1
    rcases wstep_cases hT h with ⟨hwd, ⟨v, hk, hq⟩ | ⟨he, _⟩, _⟩ | ⟨hwd, hk⟩
    · obtain ⟨fr', e, hk⟩ := setO_act (ds := ds) hk
      refine wpAnyR_first (v := v) hoi' (Region.noSelect_spec hs) (hQ v) hwi n l (actD ds fr) w hc hwr (Region.free_spec hoi' hf) hr (fun w' hR => .inl ⟨hwd, hq w' (hw.below hR)⟩) ?_
      rw [e]
      exact ih.1 n _ fr' H w hn' (hc.set hr) ho hk hw
    · cases he
    · obtain ⟨fr', e, hk⟩ := setO_act (ds := ds) hk
      refine wpAnyR_first (v := undef) hoi' (Region.noSelect_spec hs) (hQ _) hwi n l (actD ds fr) w hc hwr (Region.free_spec hoi' hf) hr (fun w' hR => .inr ⟨hwd, rfl⟩) ?_
      rw [e]
      exact ih.1 n _ fr' H w hn' (hc.set hr) ho hk hw
  | a i t ih =>
    refine ⟨fun n l fr H w hn hc ho h hw => ?_, fun n l fr H w _ _ ho h hw k hk => by cases hk⟩
    obtain ⟨n, rfl⟩ : ∃ m, n = m + 1 := ⟨n - 1, by simp only [DT.len] at hn; omega⟩
    simp only [treeB, Bool.and_eq_true, beq_iff_eq] at ho
    obtain ⟨⟨_, hr⟩, ho⟩ := ho
    have hri : i ∈ Region.ready .any ⟨ops⟩ l := by rw [hr]; simp
    refine wpAnyR_alone hr fun w' hR => ?_
    exact wact_ok hT ws ds ops K h (hw.below hR) fun fr' H' w2 hk hs2 => ih.1 n _ fr' H' w2 (by simpa [DT.len] using hn) (hc.set hri) ho hk hs2
  | ch i t r iht ihr =>
    have key : ∀ (n : Nat) (l : Array Bool) (fr : Fr) (H : Hp) (w' : World), (DT.ch i t r).len ≤ n + 1 → closedL .any ⟨ops⟩ l → ((Region.ready .any ⟨ops⟩ l).contains i = true) → treeB T ws ⟨ops⟩ t false (l.setIfInBounds i true) = true → treeB T ws ⟨ops⟩ r true l = true →
        wtree c T ws ops (.ch i t r) K' fr H → St c H w' → ∀ k ∈ (DT.ch i t r).heads,
        wpOp c.P ⟨ops⟩ (DrawQ c ds K) k (fun a2 w2 => (isWr ws ⟨ops⟩ k = false → R w' w2) ∧ wpAnyR c.P .any ⟨ops⟩ (isWr ws ⟨ops⟩) (DrawQ c ds K) n (l.setIfInBounds k true) a2 w2) (actD ds fr) w' := by
      intro n l fr H w' hn hc hri h1 h2 h hw k hk
      have hri : i ∈ Region.ready .any ⟨ops⟩ l := by simpa using hri
      have hn1 : t.len + 1 ≤ n + 1 ∧ r.len ≤ n + 1 := by simp only [DT.len] at hn; omega
      rcases List.mem_cons.1 hk with rfl | hk
      · exact wact_ok hT ws ds ops K h.1 hw fun fr' H' w2 hk hs2 => iht.1 n _ fr' H' w2 (by omega) (hc.set hri) h1 hk hs2
      · exact ihr.2 n l fr H w' hn1.2 hc h2 h.2 hw k hk
    refine ⟨fun n l fr H w hn hc ho h hw => ?_, fun n l fr H w' hn hc ho h hw k hk => ?_⟩
    · obtain ⟨n, rfl⟩ : ∃ m, n = m + 1 := ⟨n - 1, by simp only [DT.len] at hn; omega⟩
      simp only [treeB, Bool.and_eq_true, Bool.false_or] at ho
      obtain ⟨⟨⟨hall, hri⟩, h1⟩, h2⟩ := ho
      intro w' hR
      refine ⟨fun he => ?_, fun k hk => ?_⟩
      · rw [he] at hri; cases hri
      · refine key n l fr H w' hn hc hri h1 h2 h (hw.below hR) k ?_
        have := List.all_eq_true.1 hall k hk
        simp only [Bool.or_eq_true, beq_iff_eq] at this
        rcases this with rfl | h
        · exact List.mem_cons_self ..
        · exact List.mem_cons_of_mem _ (by simpa using h)
    · simp only [treeB, Bool.and_eq_true] at ho
      obtain ⟨⟨⟨_, hri⟩, h1⟩, h2⟩ := ho
      exact key n l fr H w' hn hc hri h1 h2 h hw k hk
  | stop =>
    refine ⟨fun n l fr H w _ _ ho h hw => ?_, fun n l fr H w _ _ ho h hw k hk => by cases hk⟩
    cases ho
noncomputable def forkB (T : Ty) (ws : List Nat) (ops : List Oper) (t : DT) : Bool := ops.all noDefer && Region.noSelect ⟨ops⟩ && (decide (t.len ≤ ops.length)) && treeB T ws ⟨ops⟩ t false (Array.replicate ops.length false)
/-- The entries of a heap, in another order, some left out. -/
inductive Cov : Hp → Hp → Prop
  | nil {H : Hp} : Cov H []
  | cons {H H2 G : Hp} {x : Ent} (h : Pick H x H2) (k : Cov H2 G) : Cov H (x :: G)
theorem Cov.perm {H G : Hp} (h : Cov H G) : ∃ R, H.Perm (G ++ R) := by
  induction h with
  | nil => exact ⟨_, List.Perm.refl _⟩
  | cons hp _ ih =>
    obtain ⟨R, hR⟩ := ih
    exact ⟨R, hp.perm.trans (hR.cons _)⟩
theorem Cov.st {H G : Hp} (h : Cov H G) {w : World} (hw : St c H w) : St c G w := by
  obtain ⟨R, hR⟩ := h.perm
  exact (hw.perm hR).sub (List.sublist_append_left _ _)
theorem DrawS.forkK {id : Nat} {ops : List Oper} {K' K : Fr → Hp → Prop} {fr : Fr} {H : Hp} (ws : List Nat) (t : DT) (hT : TOk c.P T) (hm : c.P.follows .mixedOrders = true) (hB : forkB T ws ops t = true) (hK : ∀ fr H, K' fr H → ∃ H2, (∀ w, St c H w → St c H2 w) ∧ K fr H2) (h : wtree c T ws ops t K' fr H) : DrawS c T id ops K fr H := by
  simp only [forkB, Bool.and_eq_true, decide_eq_true_eq] at hB
  refine ⟨hm, fun j o ca hj e => ?_, fun ds w hw => wpAny_of_R (Wr := isWr ws ⟨ops⟩) _ _ _ _ (((wtree_ok hT ws ds ops hB.1.1.2 K' K hK t).1 _ _ fr H w hB.1.2 (closedL_start _) hB.2 h hw).on (R.drew w))⟩
  have h1 := List.all_eq_true.1 hB.1.1.1 o (List.mem_of_getElem? (by simpa using hj))
  unfold noDefer at h1
  rw [e] at h1
  cases h1
/-- All orders that may come are told. -/
theorem DrawS.fork {id : Nat} {ops : List Oper} {K : Fr → Hp → Prop} {fr : Fr} {H : Hp} (ws : List Nat) (t : DT) (hT : TOk c.P T) (hm : c.P.follows .mixedOrders = true) (hB : forkB T ws ops t = true) (h : wtree c T ws ops t K fr H) : DrawS c T id ops K fr H :=
  DrawS.forkK ws t hT hm hB (fun _ H hk => ⟨H, fun _ h => h, hk⟩) h
/-- .. behind each of them one state: what is behind the region is gone once. -/
theorem DrawS.join {β : Type} {id : Nat} {ops : List Oper} {K : Fr → Hp → Prop} {fr : Fr} {H : Hp} (F : β → (Nat → Value) → Fr) (G : β → Hp) (ws : List Nat) (t : DT) (hT : TOk c.P T) (hm : c.P.follows .mixedOrders = true) (hB : forkB T ws ops t = true)
    (h : wtree c T ws ops t (fun fr H => ∃ x, fr = F x (jk fr) ∧ Cov H (G x)) fr H) (k : ∀ x u, K (F x u) (G x)) : DrawS c T id ops K fr H :=
  DrawS.forkK ws t hT hm hB (fun fr' H' ⟨x, hF, hc⟩ => ⟨G x, fun _ hw => hc.st hw, by rw [hF]; exact k x (jk fr')⟩) h
end
end Go.Proofs.YtggokigjnaiokaaDoor.Vex
