/- HeadNames returns true. -/
import Derived.Test.YtmdmmncoigeijaaGreatDoorMHeadNames3
import Derived.RangeFuncRecord
/- The references of the first line, reckoned: single bytes, quoted ones, paths, places. -/
namespace Go.Proofs.YtmdmmncoigeijaaGreatDoor.Vex
open Go Go.RowKit
set_option maxRecDepth 100000
set_option linter.unusedSectionVars false
variable {gI : GI} [HasMax gI] [HasErr gI]

theorem Digit_r (x : UInt8) : Fn Tryz.prog gI 161 [.int .u8 x.toNat] (.int .i64 (digI x.toNat)) := by
  have hxt := x.toNat_lt
  refine Fn.of tys_ok Tryz.func161 rfl (by kernel_rfl) rfl rfl ?_; intro w hG
  (repeat' ((conv => whnf); first | (first | refine tk1 ?_ | refine tk2 ?_ | refine tk3 ?_ | refine tk12 (fun _ => ?_) | refine tk4 ?_ | refine tk5 ?_ | refine tk6 ?_ | refine tk7 ?_ | refine tk8 ?_ | refine tk9 ?_ | refine tk10 (fun _ _ => ?_) | refine tk11 (fun _ => ?_) | refine tk13 ?_ | refine tk14 ?_) | refine Cmp.cases (fun _ => ?_) (fun _ => ?_) | refine IdxS.nat (by omega) ?_ | refine IdxS.go (by omega) (by omega) (fun _ _ _ => ?_) | refine SlcS.at (by omega) (by omega) (by omega) ?_ | refine CatS.at (by simp only [List.length_append, List.length_cons, List.length_nil]; omega) ?_ | refine Ar.in8 (by omega) (by omega) ?_)); all_goals (conv => whnf)
  all_goals first | rfl | (refine congrArg (Value.int IntKind.i64) ?_; unfold digI; repeat' split; all_goals omega)
theorem among19_r (x : UInt8) (l : List UInt8) (hl : l.length ≤ 1000000000) : Fn Tryz.prog gI 163 [.int .u8 x.toNat, str l] (.bool (l.contains x)) := by
  refine Fn.of tys_ok Tryz.func163 rfl (by kernel_rfl) rfl rfl ?_; intro w hG
  (conv => whnf); repeat ((first | refine tk1 ?_ | refine tk2 ?_ | refine tk3 ?_ | refine tk12 (fun _ => ?_) | refine tk4 ?_ | refine tk5 ?_ | refine tk6 ?_ | refine tk7 ?_ | refine tk8 ?_ | refine tk9 ?_ | refine tk10 (fun _ _ => ?_) | refine tk11 (fun _ => ?_) | refine tk13 ?_ | refine tk14 ?_); (conv => whnf))
  refine LoopS.lp tys_ok (fun (i : Nat) u => [.int .u8 x.toNat, str l, u 2, u 3, u 4, .int .i64 (i : Nat), u 6, u 7, u 8, u 9, u 10, u 11, u 12, u 13, u 14, u 15, u 16]) (fun _ => [])
    (fun i => i ≤ l.length ∧ l.contains x = (l.drop i).contains x) (fun i => l.length - i) 0 ⟨Nat.zero_le _, rfl⟩ rfl (by repeat' (first | exact List.Sublist.refl _ | exact List.nil_sublist _ | apply List.Sublist.cons_cons | apply List.Sublist.cons)) ?_
  intro i u ⟨hi, hI⟩
  (conv => whnf); repeat ((first | refine tk1 ?_ | refine tk2 ?_ | refine tk3 ?_ | refine tk12 (fun _ => ?_) | refine tk4 ?_ | refine tk5 ?_ | refine tk6 ?_ | refine tk7 ?_ | refine tk8 ?_ | refine tk9 ?_ | refine tk10 (fun _ _ => ?_) | refine tk11 (fun _ => ?_) | refine tk13 ?_ | refine tk14 ?_); (conv => whnf))
  refine Cmp.cases (fun hlt => ?_) (fun hlt => ?_)
  · have hlt' : i < l.length := by omega
    obtain ⟨y, hy⟩ : ∃ y, l[i] = y := ⟨_, rfl⟩
    have hd : l.drop i = y :: l.drop (i + 1) := by rw [← hy]; exact List.drop_eq_getElem_cons hlt'
    rw [hd] at hI
    (conv => whnf); repeat ((first | refine tk1 ?_ | refine tk2 ?_ | refine tk3 ?_ | refine tk12 (fun _ => ?_) | refine tk4 ?_ | refine tk5 ?_ | refine tk6 ?_ | refine tk7 ?_ | refine tk8 ?_ | refine tk9 ?_ | refine tk10 (fun _ _ => ?_) | refine tk11 (fun _ => ?_) | refine tk13 ?_ | refine tk14 ?_); (conv => whnf))
    refine IdxS.at y (by rw [Int.toNat_natCast, List.getElem?_eq_getElem hlt', hy]) (by omega) ?_
    (conv => whnf); repeat ((first | refine tk1 ?_ | refine tk2 ?_ | refine tk3 ?_ | refine tk12 (fun _ => ?_) | refine tk4 ?_ | refine tk5 ?_ | refine tk6 ?_ | refine tk7 ?_ | refine tk8 ?_ | refine tk9 ?_ | refine tk10 (fun _ _ => ?_) | refine tk11 (fun _ => ?_) | refine tk13 ?_ | refine tk14 ?_); (conv => whnf))
    refine Cmp.cases (fun hq => ?_) (fun hq => ?_)
    · have hyx : y = x := UInt8.toNat_inj.1 (by omega)
      subst hyx
      (conv => whnf); repeat ((first | refine tk1 ?_ | refine tk2 ?_ | refine tk3 ?_ | refine tk12 (fun _ => ?_) | refine tk4 ?_ | refine tk5 ?_ | refine tk6 ?_ | refine tk7 ?_ | refine tk8 ?_ | refine tk9 ?_ | refine tk10 (fun _ _ => ?_) | refine tk11 (fun _ => ?_) | refine tk13 ?_ | refine tk14 ?_); (conv => whnf))
      rw [hI]; simp
    · have hyx : ¬ x = y := fun e => hq (by rw [e])
      (conv => whnf); repeat ((first | refine tk1 ?_ | refine tk2 ?_ | refine tk3 ?_ | refine tk12 (fun _ => ?_) | refine tk4 ?_ | refine tk5 ?_ | refine tk6 ?_ | refine tk7 ?_ | refine tk8 ?_ | refine tk9 ?_ | refine tk10 (fun _ _ => ?_) | refine tk11 (fun _ => ?_) | refine tk13 ?_ | refine tk14 ?_); (conv => whnf))
      exact ⟨i + 1, ⟨by omega, by rw [hI]; simp [hyx]⟩, rfl, (by repeat' (first | exact List.Sublist.refl _ | exact List.nil_sublist _ | apply List.Sublist.cons_cons | apply List.Sublist.cons)), by dsimp only; omega⟩
  · (conv => whnf); repeat ((first | refine tk1 ?_ | refine tk2 ?_ | refine tk3 ?_ | refine tk12 (fun _ => ?_) | refine tk4 ?_ | refine tk5 ?_ | refine tk6 ?_ | refine tk7 ?_ | refine tk8 ?_ | refine tk9 ?_ | refine tk10 (fun _ _ => ?_) | refine tk11 (fun _ => ?_) | refine tk13 ?_ | refine tk14 ?_); (conv => whnf))
    rw [hI, List.drop_eq_nil_of_le (by omega)]; rfl
theorem free_r (x : UInt8) : Fn Tryz.prog gI 162 [.int .u8 x.toNat] (.bool (plainB freeL x)) := by
  refine Fn.of tys_ok Tryz.func162 rfl (by kernel_rfl) rfl rfl ?_; intro w hG
  (conv => whnf); repeat ((first | refine tk1 ?_ | refine tk2 ?_ | refine tk3 ?_ | refine tk12 (fun _ => ?_) | refine tk4 ?_ | refine tk5 ?_ | refine tk6 ?_ | refine tk7 ?_ | refine tk8 ?_ | refine tk9 ?_ | refine tk10 (fun _ _ => ?_) | refine tk11 (fun _ => ?_) | refine tk13 ?_ | refine tk14 ?_); (conv => whnf))
  refine CallK.fnB (Letter_r _) (fun h => ?_) (fun h => ?_)
  · (conv => whnf); repeat ((first | refine tk1 ?_ | refine tk2 ?_ | refine tk3 ?_ | refine tk12 (fun _ => ?_) | refine tk4 ?_ | refine tk5 ?_ | refine tk6 ?_ | refine tk7 ?_ | refine tk8 ?_ | refine tk9 ?_ | refine tk10 (fun _ _ => ?_) | refine tk11 (fun _ => ?_) | refine tk13 ?_ | refine tk14 ?_); (conv => whnf))
    unfold plainB; rw [h]; rfl
  · (conv => whnf); repeat ((first | refine tk1 ?_ | refine tk2 ?_ | refine tk3 ?_ | refine tk12 (fun _ => ?_) | refine tk4 ?_ | refine tk5 ?_ | refine tk6 ?_ | refine tk7 ?_ | refine tk8 ?_ | refine tk9 ?_ | refine tk10 (fun _ _ => ?_) | refine tk11 (fun _ => ?_) | refine tk13 ?_ | refine tk14 ?_); (conv => whnf))
    refine CallK.fn (among19_r x freeL (by decide)) ?_
    (conv => whnf); repeat ((first | refine tk1 ?_ | refine tk2 ?_ | refine tk3 ?_ | refine tk12 (fun _ => ?_) | refine tk4 ?_ | refine tk5 ?_ | refine tk6 ?_ | refine tk7 ?_ | refine tk8 ?_ | refine tk9 ?_ | refine tk10 (fun _ _ => ?_) | refine tk11 (fun _ => ?_) | refine tk13 ?_ | refine tk14 ?_); (conv => whnf))
    unfold plainB; rw [h]; rfl
def allL : List UInt8 := [33, 36, 38, 39, 40, 41, 42, 43, 44, 59, 61, 58, 64, 47]
theorem plain_all (x : UInt8) : plainB pathL x = (plainB freeL x || allL.contains x) := by
  unfold plainB
  rw [show pathL = freeL ++ allL from rfl, List.contains_append, ← Bool.or_assoc]
theorem plain_query (x : UInt8) : plainB queryL x = (plainB pathL x || x == 63) := by
  unfold plainB
  rw [show queryL = pathL ++ [63] from rfl, List.contains_append, ← Bool.or_assoc]
  simp only [List.contains_cons, List.contains_nil, Bool.or_false]
theorem all_r (x : UInt8) : Fn Tryz.prog gI 124 [.int .u8 x.toNat] (.bool (plainB pathL x)) := by
  rw [plain_all]
  refine Fn.of tys_ok Tryz.func124 rfl (by kernel_rfl) rfl rfl ?_; intro w hG
  (conv => whnf); repeat ((first | refine tk1 ?_ | refine tk2 ?_ | refine tk3 ?_ | refine tk12 (fun _ => ?_) | refine tk4 ?_ | refine tk5 ?_ | refine tk6 ?_ | refine tk7 ?_ | refine tk8 ?_ | refine tk9 ?_ | refine tk10 (fun _ _ => ?_) | refine tk11 (fun _ => ?_) | refine tk13 ?_ | refine tk14 ?_); (conv => whnf))
  refine CallK.fnB (free_r x) (fun h => ?_) (fun h => ?_)
  · rw [h]
    (conv => whnf); repeat ((first | refine tk1 ?_ | refine tk2 ?_ | refine tk3 ?_ | refine tk12 (fun _ => ?_) | refine tk4 ?_ | refine tk5 ?_ | refine tk6 ?_ | refine tk7 ?_ | refine tk8 ?_ | refine tk9 ?_ | refine tk10 (fun _ _ => ?_) | refine tk11 (fun _ => ?_) | refine tk13 ?_ | refine tk14 ?_); (conv => whnf))
    rfl
  · rw [h]
    (conv => whnf); repeat ((first | refine tk1 ?_ | refine tk2 ?_ | refine tk3 ?_ | refine tk12 (fun _ => ?_) | refine tk4 ?_ | refine tk5 ?_ | refine tk6 ?_ | refine tk7 ?_ | refine tk8 ?_ | refine tk9 ?_ | refine tk10 (fun _ _ => ?_) | refine tk11 (fun _ => ?_) | refine tk13 ?_ | refine tk14 ?_); (conv => whnf))
    refine CallK.fn (among19_r x allL (by decide)) ?_
    (conv => whnf); repeat ((first | refine tk1 ?_ | refine tk2 ?_ | refine tk3 ?_ | refine tk12 (fun _ => ?_) | refine tk4 ?_ | refine tk5 ?_ | refine tk6 ?_ | refine tk7 ?_ | refine tk8 ?_ | refine tk9 ?_ | refine tk10 (fun _ _ => ?_) | refine tk11 (fun _ => ?_) | refine tk13 ?_ | refine tk14 ?_); (conv => whnf))
    rfl
/-- Does a quoted byte stand there? -/
def qB : List UInt8 → Bool
  | x :: a :: b :: _ => x == 37 && (hexB a && hexB b)
  | _ => false
theorem quoted_r (s : List UInt8) (i : Nat) (hi : i ≤ s.length) (hs : s.length ≤ 1000000000) : Fn Tryz.prog gI 123 [str s, .int .i64 (i : Nat)] (.bool (qB (s.drop i))) := by
  have hz : (s.drop i).length = s.length - i := List.length_drop
  have at' : ∀ j, s[i + j]? = (s.drop i)[j]? := fun j => List.getElem?_drop.symm
  refine Fn.of tys_ok Tryz.func123 rfl (by kernel_rfl) rfl rfl ?_; intro w hG
  match hd : s.drop i with
  | [] =>
    rw [hd] at hz
    simp only [List.length_nil] at hz
    (conv => whnf); repeat ((first | refine tk1 ?_ | refine tk2 ?_ | refine tk3 ?_ | refine tk12 (fun _ => ?_) | refine tk4 ?_ | refine tk5 ?_ | refine tk6 ?_ | refine tk7 ?_ | refine tk8 ?_ | refine tk9 ?_ | refine tk10 (fun _ _ => ?_) | refine tk11 (fun _ => ?_) | refine tk13 ?_ | refine tk14 ?_); (conv => whnf))
    rfl
  | [_] =>
    rw [hd] at hz
    simp only [List.length_cons, List.length_nil] at hz
    (conv => whnf); repeat ((first | refine tk1 ?_ | refine tk2 ?_ | refine tk3 ?_ | refine tk12 (fun _ => ?_) | refine tk4 ?_ | refine tk5 ?_ | refine tk6 ?_ | refine tk7 ?_ | refine tk8 ?_ | refine tk9 ?_ | refine tk10 (fun _ _ => ?_) | refine tk11 (fun _ => ?_) | refine tk13 ?_ | refine tk14 ?_); (conv => whnf))
    rfl
  | [_, _] =>
    rw [hd] at hz
    simp only [List.length_cons, List.length_nil] at hz
    (conv => whnf); repeat ((first | refine tk1 ?_ | refine tk2 ?_ | refine tk3 ?_ | refine tk12 (fun _ => ?_) | refine tk4 ?_ | refine tk5 ?_ | refine tk6 ?_ | refine tk7 ?_ | refine tk8 ?_ | refine tk9 ?_ | refine tk10 (fun _ _ => ?_) | refine tk11 (fun _ => ?_) | refine tk13 ?_ | refine tk14 ?_); (conv => whnf))
    rfl
  | x :: a :: b :: t =>
    rw [hd] at hz at'
    simp only [List.length_cons] at hz
    have x0 : s[i]? = some x := at' 0
    have x1 : s[i + 1]? = some a := at' 1
    have x2 : s[i + 2]? = some b := at' 2
    (conv => whnf); repeat ((first | refine tk1 ?_ | refine tk2 ?_ | refine tk3 ?_ | refine tk12 (fun _ => ?_) | refine tk4 ?_ | refine tk5 ?_ | refine tk6 ?_ | refine tk7 ?_ | refine tk8 ?_ | refine tk9 ?_ | refine tk10 (fun _ _ => ?_) | refine tk11 (fun _ => ?_) | refine tk13 ?_ | refine tk14 ?_); (conv => whnf))
    refine IdxS.at x (by rw [Int.toNat_natCast]; exact x0) (by omega) ?_
    (conv => whnf); repeat ((first | refine tk1 ?_ | refine tk2 ?_ | refine tk3 ?_ | refine tk12 (fun _ => ?_) | refine tk4 ?_ | refine tk5 ?_ | refine tk6 ?_ | refine tk7 ?_ | refine tk8 ?_ | refine tk9 ?_ | refine tk10 (fun _ _ => ?_) | refine tk11 (fun _ => ?_) | refine tk13 ?_ | refine tk14 ?_); (conv => whnf))
    refine Cmp.cases (fun h => ?_) (fun h => ?_)
    · have hx : x = 37 := b8 (n := 37) (by decide) (by omega)
      subst hx
      (conv => whnf); repeat ((first | refine tk1 ?_ | refine tk2 ?_ | refine tk3 ?_ | refine tk12 (fun _ => ?_) | refine tk4 ?_ | refine tk5 ?_ | refine tk6 ?_ | refine tk7 ?_ | refine tk8 ?_ | refine tk9 ?_ | refine tk10 (fun _ _ => ?_) | refine tk11 (fun _ => ?_) | refine tk13 ?_ | refine tk14 ?_); (conv => whnf))
      refine IdxS.at a (by rw [show ((i : Int) + 1).toNat = i + 1 by omega]; exact x1) (by omega) ?_
      (conv => whnf); repeat ((first | refine tk1 ?_ | refine tk2 ?_ | refine tk3 ?_ | refine tk12 (fun _ => ?_) | refine tk4 ?_ | refine tk5 ?_ | refine tk6 ?_ | refine tk7 ?_ | refine tk8 ?_ | refine tk9 ?_ | refine tk10 (fun _ _ => ?_) | refine tk11 (fun _ => ?_) | refine tk13 ?_ | refine tk14 ?_); (conv => whnf))
      refine CallK.fn (Digit_r a) ?_
      (conv => whnf); repeat ((first | refine tk1 ?_ | refine tk2 ?_ | refine tk3 ?_ | refine tk12 (fun _ => ?_) | refine tk4 ?_ | refine tk5 ?_ | refine tk6 ?_ | refine tk7 ?_ | refine tk8 ?_ | refine tk9 ?_ | refine tk10 (fun _ _ => ?_) | refine tk11 (fun _ => ?_) | refine tk13 ?_ | refine tk14 ?_); (conv => whnf))
      refine Cmp.cases (fun ha => ?_) (fun ha => ?_)
      · have hha : hexB a = true := decide_eq_true ha
        (conv => whnf); repeat ((first | refine tk1 ?_ | refine tk2 ?_ | refine tk3 ?_ | refine tk12 (fun _ => ?_) | refine tk4 ?_ | refine tk5 ?_ | refine tk6 ?_ | refine tk7 ?_ | refine tk8 ?_ | refine tk9 ?_ | refine tk10 (fun _ _ => ?_) | refine tk11 (fun _ => ?_) | refine tk13 ?_ | refine tk14 ?_); (conv => whnf))
        refine IdxS.at b (by rw [show ((i : Int) + 2).toNat = i + 2 by omega]; exact x2) (by omega) ?_
        (conv => whnf); repeat ((first | refine tk1 ?_ | refine tk2 ?_ | refine tk3 ?_ | refine tk12 (fun _ => ?_) | refine tk4 ?_ | refine tk5 ?_ | refine tk6 ?_ | refine tk7 ?_ | refine tk8 ?_ | refine tk9 ?_ | refine tk10 (fun _ _ => ?_) | refine tk11 (fun _ => ?_) | refine tk13 ?_ | refine tk14 ?_); (conv => whnf))
        refine CallK.fn (Digit_r b) ?_
        (conv => whnf); repeat ((first | refine tk1 ?_ | refine tk2 ?_ | refine tk3 ?_ | refine tk12 (fun _ => ?_) | refine tk4 ?_ | refine tk5 ?_ | refine tk6 ?_ | refine tk7 ?_ | refine tk8 ?_ | refine tk9 ?_ | refine tk10 (fun _ _ => ?_) | refine tk11 (fun _ => ?_) | refine tk13 ?_ | refine tk14 ?_); (conv => whnf))
        refine Cmp.cases (fun hb => ?_) (fun hb => ?_)
        · have hhb : hexB b = true := decide_eq_true hb
          (conv => whnf); repeat ((first | refine tk1 ?_ | refine tk2 ?_ | refine tk3 ?_ | refine tk12 (fun _ => ?_) | refine tk4 ?_ | refine tk5 ?_ | refine tk6 ?_ | refine tk7 ?_ | refine tk8 ?_ | refine tk9 ?_ | refine tk10 (fun _ _ => ?_) | refine tk11 (fun _ => ?_) | refine tk13 ?_ | refine tk14 ?_); (conv => whnf))
          simp [qB, hha, hhb]
        · have hhb : hexB b = false := decide_eq_false hb
          (conv => whnf); repeat ((first | refine tk1 ?_ | refine tk2 ?_ | refine tk3 ?_ | refine tk12 (fun _ => ?_) | refine tk4 ?_ | refine tk5 ?_ | refine tk6 ?_ | refine tk7 ?_ | refine tk8 ?_ | refine tk9 ?_ | refine tk10 (fun _ _ => ?_) | refine tk11 (fun _ => ?_) | refine tk13 ?_ | refine tk14 ?_); (conv => whnf))
          simp [qB, hhb]
      · have hha : hexB a = false := decide_eq_false ha
        (conv => whnf); repeat ((first | refine tk1 ?_ | refine tk2 ?_ | refine tk3 ?_ | refine tk12 (fun _ => ?_) | refine tk4 ?_ | refine tk5 ?_ | refine tk6 ?_ | refine tk7 ?_ | refine tk8 ?_ | refine tk9 ?_ | refine tk10 (fun _ _ => ?_) | refine tk11 (fun _ => ?_) | refine tk13 ?_ | refine tk14 ?_); (conv => whnf))
        simp [qB, hha]
    · have hx : ¬ x = 37 := fun e => h (by rw [e]; rfl)
      (conv => whnf); repeat ((first | refine tk1 ?_ | refine tk2 ?_ | refine tk3 ?_ | refine tk12 (fun _ => ?_) | refine tk4 ?_ | refine tk5 ?_ | refine tk6 ?_ | refine tk7 ?_ | refine tk8 ?_ | refine tk9 ?_ | refine tk10 (fun _ _ => ?_) | refine tk11 (fun _ => ?_) | refine tk13 ?_ | refine tk14 ?_); (conv => whnf))
      simp [qB, hx]
theorem made_q {r : List UInt8} (h : qB (37 :: r) = false) : madeOf queryL (37 :: r) = false := by
  rw [made_37 queryL query_37]
  match r with
  | [] => rfl
  | [_] => rfl
  | a :: b :: t =>
    have h' : (hexB a && hexB b) = false := h
    simp only [h', Bool.false_and]
theorem Query_r (s : List UInt8) (hs : s.length ≤ 1000000000) : Fn Tryz.prog gI 93 [str s] (.bool (queryOf s)) := by
  unfold queryOf
  refine Fn.of tys_ok Tryz.func93 rfl (by kernel_rfl) rfl rfl ?_; intro w hG
  (conv => whnf); repeat ((first | refine tk1 ?_ | refine tk2 ?_ | refine tk3 ?_ | refine tk12 (fun _ => ?_) | refine tk4 ?_ | refine tk5 ?_ | refine tk6 ?_ | refine tk7 ?_ | refine tk8 ?_ | refine tk9 ?_ | refine tk10 (fun _ _ => ?_) | refine tk11 (fun _ => ?_) | refine tk13 ?_ | refine tk14 ?_); (conv => whnf))
  refine LoopS.lp tys_ok (fun (i : Nat) u => [str s, u 1, u 2, .int .i64 (i : Nat), u 4, u 5, u 6, u 7, u 8, u 9, u 10, u 11, u 12, u 13, u 14, u 15, u 16, u 17, u 18, u 19, u 20, u 21, u 22, u 23, u 24, u 25]) (fun _ => [])
    (fun i => i ≤ s.length ∧ madeOf queryL s = madeOf queryL (s.drop i)) (fun i => s.length - i) 0 ⟨Nat.zero_le _, rfl⟩ rfl (by repeat' (first | exact List.Sublist.refl _ | exact List.nil_sublist _ | apply List.Sublist.cons_cons | apply List.Sublist.cons)) ?_
  intro i u ⟨hi, hI⟩
  (conv => whnf); repeat ((first | refine tk1 ?_ | refine tk2 ?_ | refine tk3 ?_ | refine tk12 (fun _ => ?_) | refine tk4 ?_ | refine tk5 ?_ | refine tk6 ?_ | refine tk7 ?_ | refine tk8 ?_ | refine tk9 ?_ | refine tk10 (fun _ _ => ?_) | refine tk11 (fun _ => ?_) | refine tk13 ?_ | refine tk14 ?_); (conv => whnf))
  refine Cmp.cases (fun hlt => ?_) (fun hlt => ?_)
  · have hlt' : i < s.length := by omega
    obtain ⟨x, hx⟩ : ∃ x, s[i] = x := ⟨_, rfl⟩
    have hd : s.drop i = x :: s.drop (i + 1) := by rw [← hx]; exact List.drop_eq_getElem_cons hlt'
    have hxi : s[(i : Int).toNat]? = some x := by rw [Int.toNat_natCast, List.getElem?_eq_getElem hlt', hx]
    rw [hd] at hI
    (conv => whnf); repeat ((first | refine tk1 ?_ | refine tk2 ?_ | refine tk3 ?_ | refine tk12 (fun _ => ?_) | refine tk4 ?_ | refine tk5 ?_ | refine tk6 ?_ | refine tk7 ?_ | refine tk8 ?_ | refine tk9 ?_ | refine tk10 (fun _ _ => ?_) | refine tk11 (fun _ => ?_) | refine tk13 ?_ | refine tk14 ?_); (conv => whnf))
    refine CallK.fnB (quoted_r s i hi hs) (fun hq => ?_) (fun hq => ?_)
    · rw [hd] at hq
      match hr : s.drop (i + 1) with
      | [] => rw [hr] at hq; cases hq
      | [_] => rw [hr] at hq; cases hq
      | a :: b :: t =>
        rw [hr] at hq hI
        have hz : (s.drop (i + 1)).length = s.length - (i + 1) := List.length_drop
        rw [hr] at hz
        simp only [List.length_cons] at hz
        simp only [qB, Bool.and_eq_true, beq_iff_eq] at hq
        obtain ⟨rfl, ha, hb⟩ := hq
        rw [made_37 queryL query_37] at hI
        simp only [ha, hb, Bool.true_and] at hI
        have ht : s.drop (i + 3) = t := by rw [show i + 3 = (i + 1) + 2 by omega, ← List.drop_drop, hr]; rfl
        (conv => whnf); repeat ((first | refine tk1 ?_ | refine tk2 ?_ | refine tk3 ?_ | refine tk12 (fun _ => ?_) | refine tk4 ?_ | refine tk5 ?_ | refine tk6 ?_ | refine tk7 ?_ | refine tk8 ?_ | refine tk9 ?_ | refine tk10 (fun _ _ => ?_) | refine tk11 (fun _ => ?_) | refine tk13 ?_ | refine tk14 ?_); (conv => whnf))
        exact ⟨i + 3, ⟨by omega, by rw [hI, ht]⟩, rfl, (by repeat' (first | exact List.Sublist.refl _ | exact List.nil_sublist _ | apply List.Sublist.cons_cons | apply List.Sublist.cons)), by dsimp only; omega⟩
    · rw [hd] at hq
      (conv => whnf); repeat ((first | refine tk1 ?_ | refine tk2 ?_ | refine tk3 ?_ | refine tk12 (fun _ => ?_) | refine tk4 ?_ | refine tk5 ?_ | refine tk6 ?_ | refine tk7 ?_ | refine tk8 ?_ | refine tk9 ?_ | refine tk10 (fun _ _ => ?_) | refine tk11 (fun _ => ?_) | refine tk13 ?_ | refine tk14 ?_); (conv => whnf))
      refine IdxS.at x hxi (by omega) ?_
      (conv => whnf); repeat ((first | refine tk1 ?_ | refine tk2 ?_ | refine tk3 ?_ | refine tk12 (fun _ => ?_) | refine tk4 ?_ | refine tk5 ?_ | refine tk6 ?_ | refine tk7 ?_ | refine tk8 ?_ | refine tk9 ?_ | refine tk10 (fun _ _ => ?_) | refine tk11 (fun _ => ?_) | refine tk13 ?_ | refine tk14 ?_); (conv => whnf))
      refine CallK.fnB (all_r x) (fun hp => ?_) (fun hp => ?_)
      · have h37 : x ≠ 37 := fun e => by subst e; rw [plain_not_37 path_37] at hp; cases hp
        rw [made_cons queryL x _ h37, plain_query, hp] at hI
        (conv => whnf); repeat ((first | refine tk1 ?_ | refine tk2 ?_ | refine tk3 ?_ | refine tk12 (fun _ => ?_) | refine tk4 ?_ | refine tk5 ?_ | refine tk6 ?_ | refine tk7 ?_ | refine tk8 ?_ | refine tk9 ?_ | refine tk10 (fun _ _ => ?_) | refine tk11 (fun _ => ?_) | refine tk13 ?_ | refine tk14 ?_); (conv => whnf))
        exact ⟨i + 1, ⟨by omega, hI⟩, rfl, (by repeat' (first | exact List.Sublist.refl _ | exact List.nil_sublist _ | apply List.Sublist.cons_cons | apply List.Sublist.cons)), by dsimp only; omega⟩
      · (conv => whnf); repeat ((first | refine tk1 ?_ | refine tk2 ?_ | refine tk3 ?_ | refine tk12 (fun _ => ?_) | refine tk4 ?_ | refine tk5 ?_ | refine tk6 ?_ | refine tk7 ?_ | refine tk8 ?_ | refine tk9 ?_ | refine tk10 (fun _ _ => ?_) | refine tk11 (fun _ => ?_) | refine tk13 ?_ | refine tk14 ?_); (conv => whnf))
        refine IdxS.at x hxi (by omega) ?_
        (conv => whnf); repeat ((first | refine tk1 ?_ | refine tk2 ?_ | refine tk3 ?_ | refine tk12 (fun _ => ?_) | refine tk4 ?_ | refine tk5 ?_ | refine tk6 ?_ | refine tk7 ?_ | refine tk8 ?_ | refine tk9 ?_ | refine tk10 (fun _ _ => ?_) | refine tk11 (fun _ => ?_) | refine tk13 ?_ | refine tk14 ?_); (conv => whnf))
        refine Cmp.cases (fun h63 => ?_) (fun h63 => ?_)
        · have hf : madeOf queryL s = false := by
            by_cases h37 : x = 37
            · subst h37
              rw [hI]; exact made_q hq
            · rw [hI, made_cons queryL x _ h37, plain_query, hp]
              have : (x == 63) = false := by
                rw [beq_eq_false_iff_ne]
                exact fun e => h63 (by rw [e]; rfl)
              rw [this]; rfl
          (conv => whnf); repeat ((first | refine tk1 ?_ | refine tk2 ?_ | refine tk3 ?_ | refine tk12 (fun _ => ?_) | refine tk4 ?_ | refine tk5 ?_ | refine tk6 ?_ | refine tk7 ?_ | refine tk8 ?_ | refine tk9 ?_ | refine tk10 (fun _ _ => ?_) | refine tk11 (fun _ => ?_) | refine tk13 ?_ | refine tk14 ?_); (conv => whnf))
          rw [hf]
        · have hx63 : x = 63 := b8 (n := 63) (by decide) (by omega)
          subst hx63
          rw [made_cons queryL 63 _ (by decide), plain_query] at hI
          (conv => whnf); repeat ((first | refine tk1 ?_ | refine tk2 ?_ | refine tk3 ?_ | refine tk12 (fun _ => ?_) | refine tk4 ?_ | refine tk5 ?_ | refine tk6 ?_ | refine tk7 ?_ | refine tk8 ?_ | refine tk9 ?_ | refine tk10 (fun _ _ => ?_) | refine tk11 (fun _ => ?_) | refine tk13 ?_ | refine tk14 ?_); (conv => whnf))
          exact ⟨i + 1, ⟨by omega, by rw [hI]; simp⟩, rfl, (by repeat' (first | exact List.Sublist.refl _ | exact List.nil_sublist _ | apply List.Sublist.cons_cons | apply List.Sublist.cons)), by dsimp only; omega⟩
  · (conv => whnf); repeat ((first | refine tk1 ?_ | refine tk2 ?_ | refine tk3 ?_ | refine tk12 (fun _ => ?_) | refine tk4 ?_ | refine tk5 ?_ | refine tk6 ?_ | refine tk7 ?_ | refine tk8 ?_ | refine tk9 ?_ | refine tk10 (fun _ _ => ?_) | refine tk11 (fun _ => ?_) | refine tk13 ?_ | refine tk14 ?_); (conv => whnf))
    rw [hI, List.drop_eq_nil_of_le (by omega)]; rfl
theorem made_63 : ∀ (n : Nat) (s : List UInt8), s.length ≤ n → 63 ∉ s → madeOf queryL s = madeOf pathL s
  | _, [], _, _ => rfl
  | 0, x :: r, hl, _ => by simp at hl
  | n + 1, x :: r, hl, h => by
    have hx : x ≠ 63 := fun e => h (by simp [e])
    have hr : 63 ∉ r := fun e => h (by simp [e])
    by_cases h37 : x = 37
    · subst h37
      rw [made_37 queryL query_37, made_37 pathL path_37]
      match r with
      | [] => rfl
      | [_] => rfl
      | a :: b :: t =>
        simp only
        rw [made_63 n t (by simp at hl; omega) (fun e => hr (by simp [e]))]
    · have hb : (x == 63) = false := by rw [beq_eq_false_iff_ne]; exact hx
      rw [made_cons queryL x r h37, made_cons pathL x r h37, plain_query, hb, Bool.or_false, made_63 n r (by simpa using hl) hr]
theorem path_63 (s : List UInt8) (h : pathOf s = true) : 63 ∉ s := (path_no h).2
theorem Path_r (s : List UInt8) (hs : s.length ≤ 1000000000) : Fn Tryz.prog gI 92 [str s] (.bool (pathOf s)) := by
  refine Fn.of tys_ok Tryz.func92 rfl (by kernel_rfl) rfl rfl ?_; intro w hG
  (conv => whnf); repeat ((first | refine tk1 ?_ | refine tk2 ?_ | refine tk3 ?_ | refine tk12 (fun _ => ?_) | refine tk4 ?_ | refine tk5 ?_ | refine tk6 ?_ | refine tk7 ?_ | refine tk8 ?_ | refine tk9 ?_ | refine tk10 (fun _ _ => ?_) | refine tk11 (fun _ => ?_) | refine tk13 ?_ | refine tk14 ?_); (conv => whnf))
  refine LoopS.lp tys_ok (fun (i : Nat) u => [str s, u 1, u 2, .int .i64 (i : Nat), u 4, u 5, u 6, u 7, u 8, u 9, u 10, u 11, u 12, u 13, u 14, u 15, u 16, u 17, u 18, u 19, u 20, u 21, u 22, u 23, u 24, u 25]) (fun _ => [])
    (fun i => i ≤ s.length ∧ 63 ∉ s.take i) (fun i => s.length - i) 0 ⟨Nat.zero_le _, by simp⟩ rfl (by repeat' (first | exact List.Sublist.refl _ | exact List.nil_sublist _ | apply List.Sublist.cons_cons | apply List.Sublist.cons)) ?_
  intro i u ⟨hi, hI⟩
  (conv => whnf); repeat ((first | refine tk1 ?_ | refine tk2 ?_ | refine tk3 ?_ | refine tk12 (fun _ => ?_) | refine tk4 ?_ | refine tk5 ?_ | refine tk6 ?_ | refine tk7 ?_ | refine tk8 ?_ | refine tk9 ?_ | refine tk10 (fun _ _ => ?_) | refine tk11 (fun _ => ?_) | refine tk13 ?_ | refine tk14 ?_); (conv => whnf))
  refine Cmp.cases (fun hlt => ?_) (fun hlt => ?_)
  · have hlt' : i < s.length := by omega
    obtain ⟨x, hx⟩ : ∃ x, s[i] = x := ⟨_, rfl⟩
    have hxi : s[(i : Int).toNat]? = some x := by rw [Int.toNat_natCast, List.getElem?_eq_getElem hlt', hx]
    (conv => whnf); repeat ((first | refine tk1 ?_ | refine tk2 ?_ | refine tk3 ?_ | refine tk12 (fun _ => ?_) | refine tk4 ?_ | refine tk5 ?_ | refine tk6 ?_ | refine tk7 ?_ | refine tk8 ?_ | refine tk9 ?_ | refine tk10 (fun _ _ => ?_) | refine tk11 (fun _ => ?_) | refine tk13 ?_ | refine tk14 ?_); (conv => whnf))
    refine IdxS.at x hxi (by omega) ?_
    (conv => whnf); repeat ((first | refine tk1 ?_ | refine tk2 ?_ | refine tk3 ?_ | refine tk12 (fun _ => ?_) | refine tk4 ?_ | refine tk5 ?_ | refine tk6 ?_ | refine tk7 ?_ | refine tk8 ?_ | refine tk9 ?_ | refine tk10 (fun _ _ => ?_) | refine tk11 (fun _ => ?_) | refine tk13 ?_ | refine tk14 ?_); (conv => whnf))
    refine Cmp.cases (fun hq => ?_) (fun hq => ?_)
    · have hf : pathOf s = false := by
        cases h : pathOf s with
        | false => rfl
        | true =>
          refine absurd ?_ (path_63 s h)
          have hx63 : x = 63 := b8 (n := 63) (by decide) (by omega)
          rw [hx63] at hx
          rw [← hx]
          exact List.getElem_mem hlt'
      (conv => whnf); repeat ((first | refine tk1 ?_ | refine tk2 ?_ | refine tk3 ?_ | refine tk12 (fun _ => ?_) | refine tk4 ?_ | refine tk5 ?_ | refine tk6 ?_ | refine tk7 ?_ | refine tk8 ?_ | refine tk9 ?_ | refine tk10 (fun _ _ => ?_) | refine tk11 (fun _ => ?_) | refine tk13 ?_ | refine tk14 ?_); (conv => whnf))
      rw [hf]
    · (conv => whnf); repeat ((first | refine tk1 ?_ | refine tk2 ?_ | refine tk3 ?_ | refine tk12 (fun _ => ?_) | refine tk4 ?_ | refine tk5 ?_ | refine tk6 ?_ | refine tk7 ?_ | refine tk8 ?_ | refine tk9 ?_ | refine tk10 (fun _ _ => ?_) | refine tk11 (fun _ => ?_) | refine tk13 ?_ | refine tk14 ?_); (conv => whnf))
      refine ⟨i + 1, ⟨by omega, ?_⟩, rfl, (by repeat' (first | exact List.Sublist.refl _ | exact List.nil_sublist _ | apply List.Sublist.cons_cons | apply List.Sublist.cons)), by dsimp only; omega⟩
      rw [List.take_succ_eq_append_getElem hlt', hx]
      intro h
      rcases List.mem_append.1 h with h | h
      · exact hI h
      · simp only [List.mem_singleton] at h
        exact hq (by rw [← h]; rfl)
  · rw [List.take_of_length_le (by omega)] at hI
    have hm := made_63 s.length s (Nat.le_refl _) hI
    match s with
    | [] =>
      (conv => whnf); repeat ((first | refine tk1 ?_ | refine tk2 ?_ | refine tk3 ?_ | refine tk12 (fun _ => ?_) | refine tk4 ?_ | refine tk5 ?_ | refine tk6 ?_ | refine tk7 ?_ | refine tk8 ?_ | refine tk9 ?_ | refine tk10 (fun _ _ => ?_) | refine tk11 (fun _ => ?_) | refine tk13 ?_ | refine tk14 ?_); (conv => whnf))
      rfl
    | y :: r =>
      simp only [List.length_cons] at hi hlt
      (conv => whnf); repeat ((first | refine tk1 ?_ | refine tk2 ?_ | refine tk3 ?_ | refine tk12 (fun _ => ?_) | refine tk4 ?_ | refine tk5 ?_ | refine tk6 ?_ | refine tk7 ?_ | refine tk8 ?_ | refine tk9 ?_ | refine tk10 (fun _ _ => ?_) | refine tk11 (fun _ => ?_) | refine tk13 ?_ | refine tk14 ?_); (conv => whnf))
      refine IdxS.at y rfl (by omega) ?_
      (conv => whnf); repeat ((first | refine tk1 ?_ | refine tk2 ?_ | refine tk3 ?_ | refine tk12 (fun _ => ?_) | refine tk4 ?_ | refine tk5 ?_ | refine tk6 ?_ | refine tk7 ?_ | refine tk8 ?_ | refine tk9 ?_ | refine tk10 (fun _ _ => ?_) | refine tk11 (fun _ => ?_) | refine tk13 ?_ | refine tk14 ?_); (conv => whnf))
      refine Cmp.cases (fun h => ?_) (fun h => ?_)
      · have hy : y = 47 := b8 (n := 47) (by decide) (by omega)
        subst hy
        (conv => whnf); repeat ((first | refine tk1 ?_ | refine tk2 ?_ | refine tk3 ?_ | refine tk12 (fun _ => ?_) | refine tk4 ?_ | refine tk5 ?_ | refine tk6 ?_ | refine tk7 ?_ | refine tk8 ?_ | refine tk9 ?_ | refine tk10 (fun _ _ => ?_) | refine tk11 (fun _ => ?_) | refine tk13 ?_ | refine tk14 ?_); (conv => whnf))
        refine CallK.fn (Query_r _ hs) ?_
        (conv => whnf); repeat ((first | refine tk1 ?_ | refine tk2 ?_ | refine tk3 ?_ | refine tk12 (fun _ => ?_) | refine tk4 ?_ | refine tk5 ?_ | refine tk6 ?_ | refine tk7 ?_ | refine tk8 ?_ | refine tk9 ?_ | refine tk10 (fun _ _ => ?_) | refine tk11 (fun _ => ?_) | refine tk13 ?_ | refine tk14 ?_); (conv => whnf))
        unfold queryOf
        rw [hm]
        rfl
      · have hy : ¬ y = 47 := fun e => h (by rw [e]; rfl)
        (conv => whnf); repeat ((first | refine tk1 ?_ | refine tk2 ?_ | refine tk3 ?_ | refine tk12 (fun _ => ?_) | refine tk4 ?_ | refine tk5 ?_ | refine tk6 ?_ | refine tk7 ?_ | refine tk8 ?_ | refine tk9 ?_ | refine tk10 (fun _ _ => ?_) | refine tk11 (fun _ => ?_) | refine tk13 ?_ | refine tk14 ?_); (conv => whnf))
        simp [pathOf, hy]
theorem Method_r (s : List UInt8) : Fn Tryz.prog gI 91 [str s] (.bool (methodOf s)) := by
  refine Fn.of tys_ok Tryz.func91 rfl (by kernel_rfl) rfl rfl ?_; intro w hG
  (repeat' ((conv => whnf); first | (first | refine tk1 ?_ | refine tk2 ?_ | refine tk3 ?_ | refine tk12 (fun _ => ?_) | refine tk4 ?_ | refine tk5 ?_ | refine tk6 ?_ | refine tk7 ?_ | refine tk8 ?_ | refine tk9 ?_ | refine tk10 (fun _ _ => ?_) | refine tk11 (fun _ => ?_) | refine tk13 ?_ | refine tk14 ?_) | refine Cmp.cases (fun _ => ?_) (fun _ => ?_) | refine IdxS.nat (by omega) ?_ | refine IdxS.go (by omega) (by omega) (fun _ _ _ => ?_) | refine SlcS.at (by omega) (by omega) (by omega) ?_ | refine CatS.at (by simp only [List.length_append, List.length_cons, List.length_nil]; omega) ?_ | fail)); all_goals (conv => whnf)
  all_goals (refine congrArg Value.bool ?_; simp_all [methodOf, methodsL])
end Go.Proofs.YtmdmmncoigeijaaGreatDoor.Vex
/- ref19.Parse, reckoned. -/
namespace Go.Proofs.YtmdmmncoigeijaaGreatDoor.Vex
open Go Go.RowKit
set_option maxRecDepth 100000
set_option linter.unusedSectionVars false
variable {gI : GI} [HasMax gI] [HasErr gI]

theorem cut_find {c : UInt8} {s a b : List UInt8} {f : Bool} (h : cutB c s = (a, b, f)) : (f = true ∧ a.length < s.length ∧ s.take a.length = a ∧ s.drop (a.length + 1) = b) ∨ (f = false ∧ a = s ∧ b = []) := by
  cases f with
  | true =>
    have h1 := (cutB_yes c s (by rw [h])).1
    rw [h] at h1
    dsimp only at h1
    left
    refine ⟨rfl, ?_, ?_, ?_⟩
    · rw [h1]; simp
    · rw [h1]; simp
    · rw [h1]; simp
  | false =>
    have h1 := cutB_nope c s (by rw [h])
    rw [h] at h1
    exact .inr ⟨rfl, h1⟩
theorem line_steps {s a b t e p q : List UInt8} {f g k : Bool} (h1 : cutB 32 s = (a, b, f)) (h2 : cutB 32 b = (t, e, g)) (h3 : cutB 63 t = (p, q, k)) :
    lineOK s = (decide (s.length ≤ 4096) && f && g && (versionOf e).isSome && tokenOf a && pathOf p && queryOf q) ∧ lineRq s = ⟨a, p, q, (versionOf e).getD 0⟩ := by
  simp [lineOK, lineRq, lineTarget, h1, h2, h3]
theorem version_no {u : List UInt8} {d : UInt8} (h : u ≠ httpL) : versionOf (u ++ [d]) = none := by
  unfold versionOf
  split
  · rename_i d' heq
    have h2 : u ++ [d] = httpL ++ [d'] := heq
    exact absurd (List.append_inj_left' h2 rfl) h
  · rfl
theorem version_len {e : List UInt8} (h : e.length ≠ 8) : versionOf e = none := by
  unfold versionOf
  split
  · exact absurd rfl h
  · rfl
end Go.Proofs.YtmdmmncoigeijaaGreatDoor.Vex
/- ref19.Write, ref19.Quote, reckoned. -/
namespace Go.Proofs.YtmdmmncoigeijaaGreatDoor.Vex
open Go Go.RowKit
set_option maxRecDepth 100000
set_option linter.unusedSectionVars false
variable {gI : GI} [HasMax gI] [HasErr gI]

theorem Write_r (r : Rq) (c4 c5 : Value) (hm : r.m.length ≤ 1000000) (hp : r.p.length ≤ 1000000) (hq : r.q.length ≤ 1000000) :
    Fn Tryz.prog gI 52 [.agg ⟨[str r.m, str r.p, str r.q, .int .i64 r.v, c4, c5]⟩] (.tuple #[str (writeS r), .int .i64 (writeE r)]) := by
  have bad : writeOK r = false → Value.tuple #[str (writeS r), Value.int .i64 (writeE r)] = Value.tuple #[str [], .int .i64 3] := fun h => by unfold writeS writeE; rw [h]; rfl
  refine Fn.of tys_ok Tryz.func52 rfl (by kernel_rfl) rfl rfl ?_; intro w hG
  (conv => whnf); repeat ((first | refine tk1 ?_ | refine tk2 ?_ | refine tk3 ?_ | refine tk12 (fun _ => ?_) | refine tk4 ?_ | refine tk5 ?_ | refine tk6 ?_ | refine tk7 ?_ | refine tk8 ?_ | refine tk9 ?_ | refine tk10 (fun _ _ => ?_) | refine tk11 (fun _ => ?_) | refine tk13 ?_ | refine tk14 ?_); (conv => whnf))
  refine CatS.at (by simp; omega) ?_
  (conv => whnf); repeat ((first | refine tk1 ?_ | refine tk2 ?_ | refine tk3 ?_ | refine tk12 (fun _ => ?_) | refine tk4 ?_ | refine tk5 ?_ | refine tk6 ?_ | refine tk7 ?_ | refine tk8 ?_ | refine tk9 ?_ | refine tk10 (fun _ _ => ?_) | refine tk11 (fun _ => ?_) | refine tk13 ?_ | refine tk14 ?_); (conv => whnf))
  refine CatS.at (by simp; omega) ?_
  (conv => whnf); repeat ((first | refine tk1 ?_ | refine tk2 ?_ | refine tk3 ?_ | refine tk12 (fun _ => ?_) | refine tk4 ?_ | refine tk5 ?_ | refine tk6 ?_ | refine tk7 ?_ | refine tk8 ?_ | refine tk9 ?_ | refine tk10 (fun _ _ => ?_) | refine tk11 (fun _ => ?_) | refine tk13 ?_ | refine tk14 ?_); (conv => whnf))
  by_cases hq0 : r.q = []
  · refine Cmp.f (fun h => h hq0) ?_
    (conv => whnf); repeat ((first | refine tk1 ?_ | refine tk2 ?_ | refine tk3 ?_ | refine tk12 (fun _ => ?_) | refine tk4 ?_ | refine tk5 ?_ | refine tk6 ?_ | refine tk7 ?_ | refine tk8 ?_ | refine tk9 ?_ | refine tk10 (fun _ _ => ?_) | refine tk11 (fun _ => ?_) | refine tk13 ?_ | refine tk14 ?_); (conv => whnf))
    refine Cmp.cases (fun hv0 => ?_) (fun hv0 => ?_)
    · (conv => whnf); repeat ((first | refine tk1 ?_ | refine tk2 ?_ | refine tk3 ?_ | refine tk12 (fun _ => ?_) | refine tk4 ?_ | refine tk5 ?_ | refine tk6 ?_ | refine tk7 ?_ | refine tk8 ?_ | refine tk9 ?_ | refine tk10 (fun _ _ => ?_) | refine tk11 (fun _ => ?_) | refine tk13 ?_ | refine tk14 ?_); (conv => whnf))
      refine CatS.at (by simp; omega) ?_
      rw [show r.m ++ [32] ++ r.p ++ [32, 72, 84, 84, 80, 47, 49, 46, 48] = writeL r by unfold writeL targetOf; simp [hq0, hv0]]
      (conv => whnf); repeat ((first | refine tk1 ?_ | refine tk2 ?_ | refine tk3 ?_ | refine tk12 (fun _ => ?_) | refine tk4 ?_ | refine tk5 ?_ | refine tk6 ?_ | refine tk7 ?_ | refine tk8 ?_ | refine tk9 ?_ | refine tk10 (fun _ _ => ?_) | refine tk11 (fun _ => ?_) | refine tk13 ?_ | refine tk14 ?_); (conv => whnf))
      refine CallK.fn (Method_r r.m) ?_
      cases c1 : methodOf r.m
      · rw [bad (by unfold writeOK; rw [c1]; rfl)]
        (conv => whnf); repeat ((first | refine tk1 ?_ | refine tk2 ?_ | refine tk3 ?_ | refine tk12 (fun _ => ?_) | refine tk4 ?_ | refine tk5 ?_ | refine tk6 ?_ | refine tk7 ?_ | refine tk8 ?_ | refine tk9 ?_ | refine tk10 (fun _ _ => ?_) | refine tk11 (fun _ => ?_) | refine tk13 ?_ | refine tk14 ?_); (conv => whnf))
      (conv => whnf); repeat ((first | refine tk1 ?_ | refine tk2 ?_ | refine tk3 ?_ | refine tk12 (fun _ => ?_) | refine tk4 ?_ | refine tk5 ?_ | refine tk6 ?_ | refine tk7 ?_ | refine tk8 ?_ | refine tk9 ?_ | refine tk10 (fun _ _ => ?_) | refine tk11 (fun _ => ?_) | refine tk13 ?_ | refine tk14 ?_); (conv => whnf))
      refine CallK.fn (Path_r r.p (by omega)) ?_
      cases c2 : pathOf r.p
      · rw [bad (by unfold writeOK; rw [c2]; simp)]
        (conv => whnf); repeat ((first | refine tk1 ?_ | refine tk2 ?_ | refine tk3 ?_ | refine tk12 (fun _ => ?_) | refine tk4 ?_ | refine tk5 ?_ | refine tk6 ?_ | refine tk7 ?_ | refine tk8 ?_ | refine tk9 ?_ | refine tk10 (fun _ _ => ?_) | refine tk11 (fun _ => ?_) | refine tk13 ?_ | refine tk14 ?_); (conv => whnf))
      (conv => whnf); repeat ((first | refine tk1 ?_ | refine tk2 ?_ | refine tk3 ?_ | refine tk12 (fun _ => ?_) | refine tk4 ?_ | refine tk5 ?_ | refine tk6 ?_ | refine tk7 ?_ | refine tk8 ?_ | refine tk9 ?_ | refine tk10 (fun _ _ => ?_) | refine tk11 (fun _ => ?_) | refine tk13 ?_ | refine tk14 ?_); (conv => whnf))
      refine CallK.fn (Query_r r.q (by omega)) ?_
      cases c3 : queryOf r.q
      · rw [bad (by unfold writeOK; rw [c3]; simp)]
        (conv => whnf); repeat ((first | refine tk1 ?_ | refine tk2 ?_ | refine tk3 ?_ | refine tk12 (fun _ => ?_) | refine tk4 ?_ | refine tk5 ?_ | refine tk6 ?_ | refine tk7 ?_ | refine tk8 ?_ | refine tk9 ?_ | refine tk10 (fun _ _ => ?_) | refine tk11 (fun _ => ?_) | refine tk13 ?_ | refine tk14 ?_); (conv => whnf))
      (conv => whnf); repeat ((first | refine tk1 ?_ | refine tk2 ?_ | refine tk3 ?_ | refine tk12 (fun _ => ?_) | refine tk4 ?_ | refine tk5 ?_ | refine tk6 ?_ | refine tk7 ?_ | refine tk8 ?_ | refine tk9 ?_ | refine tk10 (fun _ _ => ?_) | refine tk11 (fun _ => ?_) | refine tk13 ?_ | refine tk14 ?_); (conv => whnf))
      refine Cmp.cases (fun c6 => ?_) (fun c6 => ?_)
      · rw [bad (by unfold writeOK; rw [decide_eq_false (show ¬ (writeL r).length ≤ 4096 by omega)]; simp)]
        (conv => whnf); repeat ((first | refine tk1 ?_ | refine tk2 ?_ | refine tk3 ?_ | refine tk12 (fun _ => ?_) | refine tk4 ?_ | refine tk5 ?_ | refine tk6 ?_ | refine tk7 ?_ | refine tk8 ?_ | refine tk9 ?_ | refine tk10 (fun _ _ => ?_) | refine tk11 (fun _ => ?_) | refine tk13 ?_ | refine tk14 ?_); (conv => whnf))
      · have hok : writeOK r = true := by
          unfold writeOK
          rw [c1, c2, c3, decide_eq_true (show 0 ≤ r.v by omega), decide_eq_true (show r.v ≤ 1 by omega), decide_eq_true (show (writeL r).length ≤ 4096 by omega)]
          rfl
        (conv => whnf); repeat ((first | refine tk1 ?_ | refine tk2 ?_ | refine tk3 ?_ | refine tk12 (fun _ => ?_) | refine tk4 ?_ | refine tk5 ?_ | refine tk6 ?_ | refine tk7 ?_ | refine tk8 ?_ | refine tk9 ?_ | refine tk10 (fun _ _ => ?_) | refine tk11 (fun _ => ?_) | refine tk13 ?_ | refine tk14 ?_); (conv => whnf))
        simp [writeS, writeE, hok]
    · (conv => whnf); repeat ((first | refine tk1 ?_ | refine tk2 ?_ | refine tk3 ?_ | refine tk12 (fun _ => ?_) | refine tk4 ?_ | refine tk5 ?_ | refine tk6 ?_ | refine tk7 ?_ | refine tk8 ?_ | refine tk9 ?_ | refine tk10 (fun _ _ => ?_) | refine tk11 (fun _ => ?_) | refine tk13 ?_ | refine tk14 ?_); (conv => whnf))
      refine CatS.at (by simp; omega) ?_
      rw [show r.m ++ [32] ++ r.p ++ [32, 72, 84, 84, 80, 47, 49, 46, 49] = writeL r by unfold writeL targetOf; simp [hq0, hv0]]
      (conv => whnf); repeat ((first | refine tk1 ?_ | refine tk2 ?_ | refine tk3 ?_ | refine tk12 (fun _ => ?_) | refine tk4 ?_ | refine tk5 ?_ | refine tk6 ?_ | refine tk7 ?_ | refine tk8 ?_ | refine tk9 ?_ | refine tk10 (fun _ _ => ?_) | refine tk11 (fun _ => ?_) | refine tk13 ?_ | refine tk14 ?_); (conv => whnf))
      refine CallK.fn (Method_r r.m) ?_
      cases c1 : methodOf r.m
      · rw [bad (by unfold writeOK; rw [c1]; rfl)]
        (conv => whnf); repeat ((first | refine tk1 ?_ | refine tk2 ?_ | refine tk3 ?_ | refine tk12 (fun _ => ?_) | refine tk4 ?_ | refine tk5 ?_ | refine tk6 ?_ | refine tk7 ?_ | refine tk8 ?_ | refine tk9 ?_ | refine tk10 (fun _ _ => ?_) | refine tk11 (fun _ => ?_) | refine tk13 ?_ | refine tk14 ?_); (conv => whnf))
      (conv => whnf); repeat ((first | refine tk1 ?_ | refine tk2 ?_ | refine tk3 ?_ | refine tk12 (fun _ => ?_) | refine tk4 ?_ | refine tk5 ?_ | refine tk6 ?_ | refine tk7 ?_ | refine tk8 ?_ | refine tk9 ?_ | refine tk10 (fun _ _ => ?_) | refine tk11 (fun _ => ?_) | refine tk13 ?_ | refine tk14 ?_); (conv => whnf))
      refine CallK.fn (Path_r r.p (by omega)) ?_
      cases c2 : pathOf r.p
      · rw [bad (by unfold writeOK; rw [c2]; simp)]
        (conv => whnf); repeat ((first | refine tk1 ?_ | refine tk2 ?_ | refine tk3 ?_ | refine tk12 (fun _ => ?_) | refine tk4 ?_ | refine tk5 ?_ | refine tk6 ?_ | refine tk7 ?_ | refine tk8 ?_ | refine tk9 ?_ | refine tk10 (fun _ _ => ?_) | refine tk11 (fun _ => ?_) | refine tk13 ?_ | refine tk14 ?_); (conv => whnf))
      (conv => whnf); repeat ((first | refine tk1 ?_ | refine tk2 ?_ | refine tk3 ?_ | refine tk12 (fun _ => ?_) | refine tk4 ?_ | refine tk5 ?_ | refine tk6 ?_ | refine tk7 ?_ | refine tk8 ?_ | refine tk9 ?_ | refine tk10 (fun _ _ => ?_) | refine tk11 (fun _ => ?_) | refine tk13 ?_ | refine tk14 ?_); (conv => whnf))
      refine CallK.fn (Query_r r.q (by omega)) ?_
      cases c3 : queryOf r.q
      · rw [bad (by unfold writeOK; rw [c3]; simp)]
        (conv => whnf); repeat ((first | refine tk1 ?_ | refine tk2 ?_ | refine tk3 ?_ | refine tk12 (fun _ => ?_) | refine tk4 ?_ | refine tk5 ?_ | refine tk6 ?_ | refine tk7 ?_ | refine tk8 ?_ | refine tk9 ?_ | refine tk10 (fun _ _ => ?_) | refine tk11 (fun _ => ?_) | refine tk13 ?_ | refine tk14 ?_); (conv => whnf))
      (conv => whnf); repeat ((first | refine tk1 ?_ | refine tk2 ?_ | refine tk3 ?_ | refine tk12 (fun _ => ?_) | refine tk4 ?_ | refine tk5 ?_ | refine tk6 ?_ | refine tk7 ?_ | refine tk8 ?_ | refine tk9 ?_ | refine tk10 (fun _ _ => ?_) | refine tk11 (fun _ => ?_) | refine tk13 ?_ | refine tk14 ?_); (conv => whnf))
      refine Cmp.cases (fun c4 => ?_) (fun c4 => ?_)
      · rw [bad (by unfold writeOK; rw [decide_eq_false (show ¬ 0 ≤ r.v by omega)]; simp)]
        (conv => whnf); repeat ((first | refine tk1 ?_ | refine tk2 ?_ | refine tk3 ?_ | refine tk12 (fun _ => ?_) | refine tk4 ?_ | refine tk5 ?_ | refine tk6 ?_ | refine tk7 ?_ | refine tk8 ?_ | refine tk9 ?_ | refine tk10 (fun _ _ => ?_) | refine tk11 (fun _ => ?_) | refine tk13 ?_ | refine tk14 ?_); (conv => whnf))
      (conv => whnf); repeat ((first | refine tk1 ?_ | refine tk2 ?_ | refine tk3 ?_ | refine tk12 (fun _ => ?_) | refine tk4 ?_ | refine tk5 ?_ | refine tk6 ?_ | refine tk7 ?_ | refine tk8 ?_ | refine tk9 ?_ | refine tk10 (fun _ _ => ?_) | refine tk11 (fun _ => ?_) | refine tk13 ?_ | refine tk14 ?_); (conv => whnf))
      refine Cmp.cases (fun c5 => ?_) (fun c5 => ?_)
      · rw [bad (by unfold writeOK; rw [decide_eq_false (show ¬ r.v ≤ 1 by omega)]; simp)]
        (conv => whnf); repeat ((first | refine tk1 ?_ | refine tk2 ?_ | refine tk3 ?_ | refine tk12 (fun _ => ?_) | refine tk4 ?_ | refine tk5 ?_ | refine tk6 ?_ | refine tk7 ?_ | refine tk8 ?_ | refine tk9 ?_ | refine tk10 (fun _ _ => ?_) | refine tk11 (fun _ => ?_) | refine tk13 ?_ | refine tk14 ?_); (conv => whnf))
      (conv => whnf); repeat ((first | refine tk1 ?_ | refine tk2 ?_ | refine tk3 ?_ | refine tk12 (fun _ => ?_) | refine tk4 ?_ | refine tk5 ?_ | refine tk6 ?_ | refine tk7 ?_ | refine tk8 ?_ | refine tk9 ?_ | refine tk10 (fun _ _ => ?_) | refine tk11 (fun _ => ?_) | refine tk13 ?_ | refine tk14 ?_); (conv => whnf))
      refine Cmp.cases (fun c6 => ?_) (fun c6 => ?_)
      · rw [bad (by unfold writeOK; rw [decide_eq_false (show ¬ (writeL r).length ≤ 4096 by omega)]; simp)]
        (conv => whnf); repeat ((first | refine tk1 ?_ | refine tk2 ?_ | refine tk3 ?_ | refine tk12 (fun _ => ?_) | refine tk4 ?_ | refine tk5 ?_ | refine tk6 ?_ | refine tk7 ?_ | refine tk8 ?_ | refine tk9 ?_ | refine tk10 (fun _ _ => ?_) | refine tk11 (fun _ => ?_) | refine tk13 ?_ | refine tk14 ?_); (conv => whnf))
      · have hok : writeOK r = true := by
          unfold writeOK
          rw [c1, c2, c3, decide_eq_true (show 0 ≤ r.v by omega), decide_eq_true (show r.v ≤ 1 by omega), decide_eq_true (show (writeL r).length ≤ 4096 by omega)]
          rfl
        (conv => whnf); repeat ((first | refine tk1 ?_ | refine tk2 ?_ | refine tk3 ?_ | refine tk12 (fun _ => ?_) | refine tk4 ?_ | refine tk5 ?_ | refine tk6 ?_ | refine tk7 ?_ | refine tk8 ?_ | refine tk9 ?_ | refine tk10 (fun _ _ => ?_) | refine tk11 (fun _ => ?_) | refine tk13 ?_ | refine tk14 ?_); (conv => whnf))
        simp [writeS, writeE, hok]
  · refine Cmp.t hq0 ?_
    (conv => whnf); repeat ((first | refine tk1 ?_ | refine tk2 ?_ | refine tk3 ?_ | refine tk12 (fun _ => ?_) | refine tk4 ?_ | refine tk5 ?_ | refine tk6 ?_ | refine tk7 ?_ | refine tk8 ?_ | refine tk9 ?_ | refine tk10 (fun _ _ => ?_) | refine tk11 (fun _ => ?_) | refine tk13 ?_ | refine tk14 ?_); (conv => whnf))
    refine CatS.at (by simp; omega) ?_
    (conv => whnf); repeat ((first | refine tk1 ?_ | refine tk2 ?_ | refine tk3 ?_ | refine tk12 (fun _ => ?_) | refine tk4 ?_ | refine tk5 ?_ | refine tk6 ?_ | refine tk7 ?_ | refine tk8 ?_ | refine tk9 ?_ | refine tk10 (fun _ _ => ?_) | refine tk11 (fun _ => ?_) | refine tk13 ?_ | refine tk14 ?_); (conv => whnf))
    refine CatS.at (by simp; omega) ?_
    (conv => whnf); repeat ((first | refine tk1 ?_ | refine tk2 ?_ | refine tk3 ?_ | refine tk12 (fun _ => ?_) | refine tk4 ?_ | refine tk5 ?_ | refine tk6 ?_ | refine tk7 ?_ | refine tk8 ?_ | refine tk9 ?_ | refine tk10 (fun _ _ => ?_) | refine tk11 (fun _ => ?_) | refine tk13 ?_ | refine tk14 ?_); (conv => whnf))
    refine Cmp.cases (fun hv0 => ?_) (fun hv0 => ?_)
    · (conv => whnf); repeat ((first | refine tk1 ?_ | refine tk2 ?_ | refine tk3 ?_ | refine tk12 (fun _ => ?_) | refine tk4 ?_ | refine tk5 ?_ | refine tk6 ?_ | refine tk7 ?_ | refine tk8 ?_ | refine tk9 ?_ | refine tk10 (fun _ _ => ?_) | refine tk11 (fun _ => ?_) | refine tk13 ?_ | refine tk14 ?_); (conv => whnf))
      refine CatS.at (by simp; omega) ?_
      rw [show r.m ++ [32] ++ r.p ++ [63] ++ r.q ++ [32, 72, 84, 84, 80, 47, 49, 46, 48] = writeL r by unfold writeL targetOf; simp [hq0, hv0]]
      (conv => whnf); repeat ((first | refine tk1 ?_ | refine tk2 ?_ | refine tk3 ?_ | refine tk12 (fun _ => ?_) | refine tk4 ?_ | refine tk5 ?_ | refine tk6 ?_ | refine tk7 ?_ | refine tk8 ?_ | refine tk9 ?_ | refine tk10 (fun _ _ => ?_) | refine tk11 (fun _ => ?_) | refine tk13 ?_ | refine tk14 ?_); (conv => whnf))
      refine CallK.fn (Method_r r.m) ?_
      cases c1 : methodOf r.m
      · rw [bad (by unfold writeOK; rw [c1]; rfl)]
        (conv => whnf); repeat ((first | refine tk1 ?_ | refine tk2 ?_ | refine tk3 ?_ | refine tk12 (fun _ => ?_) | refine tk4 ?_ | refine tk5 ?_ | refine tk6 ?_ | refine tk7 ?_ | refine tk8 ?_ | refine tk9 ?_ | refine tk10 (fun _ _ => ?_) | refine tk11 (fun _ => ?_) | refine tk13 ?_ | refine tk14 ?_); (conv => whnf))
      (conv => whnf); repeat ((first | refine tk1 ?_ | refine tk2 ?_ | refine tk3 ?_ | refine tk12 (fun _ => ?_) | refine tk4 ?_ | refine tk5 ?_ | refine tk6 ?_ | refine tk7 ?_ | refine tk8 ?_ | refine tk9 ?_ | refine tk10 (fun _ _ => ?_) | refine tk11 (fun _ => ?_) | refine tk13 ?_ | refine tk14 ?_); (conv => whnf))
      refine CallK.fn (Path_r r.p (by omega)) ?_
      cases c2 : pathOf r.p
      · rw [bad (by unfold writeOK; rw [c2]; simp)]
        (conv => whnf); repeat ((first | refine tk1 ?_ | refine tk2 ?_ | refine tk3 ?_ | refine tk12 (fun _ => ?_) | refine tk4 ?_ | refine tk5 ?_ | refine tk6 ?_ | refine tk7 ?_ | refine tk8 ?_ | refine tk9 ?_ | refine tk10 (fun _ _ => ?_) | refine tk11 (fun _ => ?_) | refine tk13 ?_ | refine tk14 ?_); (conv => whnf))
      (conv => whnf); repeat ((first | refine tk1 ?_ | refine tk2 ?_ | refine tk3 ?_ | refine tk12 (fun _ => ?_) | refine tk4 ?_ | refine tk5 ?_ | refine tk6 ?_ | refine tk7 ?_ | refine tk8 ?_ | refine tk9 ?_ | refine tk10 (fun _ _ => ?_) | refine tk11 (fun _ => ?_) | refine tk13 ?_ | refine tk14 ?_); (conv => whnf))
      refine CallK.fn (Query_r r.q (by omega)) ?_
      cases c3 : queryOf r.q
      · rw [bad (by unfold writeOK; rw [c3]; simp)]
        (conv => whnf); repeat ((first | refine tk1 ?_ | refine tk2 ?_ | refine tk3 ?_ | refine tk12 (fun _ => ?_) | refine tk4 ?_ | refine tk5 ?_ | refine tk6 ?_ | refine tk7 ?_ | refine tk8 ?_ | refine tk9 ?_ | refine tk10 (fun _ _ => ?_) | refine tk11 (fun _ => ?_) | refine tk13 ?_ | refine tk14 ?_); (conv => whnf))
      (conv => whnf); repeat ((first | refine tk1 ?_ | refine tk2 ?_ | refine tk3 ?_ | refine tk12 (fun _ => ?_) | refine tk4 ?_ | refine tk5 ?_ | refine tk6 ?_ | refine tk7 ?_ | refine tk8 ?_ | refine tk9 ?_ | refine tk10 (fun _ _ => ?_) | refine tk11 (fun _ => ?_) | refine tk13 ?_ | refine tk14 ?_); (conv => whnf))
      refine Cmp.cases (fun c6 => ?_) (fun c6 => ?_)
      · rw [bad (by unfold writeOK; rw [decide_eq_false (show ¬ (writeL r).length ≤ 4096 by omega)]; simp)]
        (conv => whnf); repeat ((first | refine tk1 ?_ | refine tk2 ?_ | refine tk3 ?_ | refine tk12 (fun _ => ?_) | refine tk4 ?_ | refine tk5 ?_ | refine tk6 ?_ | refine tk7 ?_ | refine tk8 ?_ | refine tk9 ?_ | refine tk10 (fun _ _ => ?_) | refine tk11 (fun _ => ?_) | refine tk13 ?_ | refine tk14 ?_); (conv => whnf))
      · have hok : writeOK r = true := by
          unfold writeOK
          rw [c1, c2, c3, decide_eq_true (show 0 ≤ r.v by omega), decide_eq_true (show r.v ≤ 1 by omega), decide_eq_true (show (writeL r).length ≤ 4096 by omega)]
          rfl
        (conv => whnf); repeat ((first | refine tk1 ?_ | refine tk2 ?_ | refine tk3 ?_ | refine tk12 (fun _ => ?_) | refine tk4 ?_ | refine tk5 ?_ | refine tk6 ?_ | refine tk7 ?_ | refine tk8 ?_ | refine tk9 ?_ | refine tk10 (fun _ _ => ?_) | refine tk11 (fun _ => ?_) | refine tk13 ?_ | refine tk14 ?_); (conv => whnf))
        simp [writeS, writeE, hok]
    · (conv => whnf); repeat ((first | refine tk1 ?_ | refine tk2 ?_ | refine tk3 ?_ | refine tk12 (fun _ => ?_) | refine tk4 ?_ | refine tk5 ?_ | refine tk6 ?_ | refine tk7 ?_ | refine tk8 ?_ | refine tk9 ?_ | refine tk10 (fun _ _ => ?_) | refine tk11 (fun _ => ?_) | refine tk13 ?_ | refine tk14 ?_); (conv => whnf))
      refine CatS.at (by simp; omega) ?_
      rw [show r.m ++ [32] ++ r.p ++ [63] ++ r.q ++ [32, 72, 84, 84, 80, 47, 49, 46, 49] = writeL r by unfold writeL targetOf; simp [hq0, hv0]]
      (conv => whnf); repeat ((first | refine tk1 ?_ | refine tk2 ?_ | refine tk3 ?_ | refine tk12 (fun _ => ?_) | refine tk4 ?_ | refine tk5 ?_ | refine tk6 ?_ | refine tk7 ?_ | refine tk8 ?_ | refine tk9 ?_ | refine tk10 (fun _ _ => ?_) | refine tk11 (fun _ => ?_) | refine tk13 ?_ | refine tk14 ?_); (conv => whnf))
      refine CallK.fn (Method_r r.m) ?_
      cases c1 : methodOf r.m
      · rw [bad (by unfold writeOK; rw [c1]; rfl)]
        (conv => whnf); repeat ((first | refine tk1 ?_ | refine tk2 ?_ | refine tk3 ?_ | refine tk12 (fun _ => ?_) | refine tk4 ?_ | refine tk5 ?_ | refine tk6 ?_ | refine tk7 ?_ | refine tk8 ?_ | refine tk9 ?_ | refine tk10 (fun _ _ => ?_) | refine tk11 (fun _ => ?_) | refine tk13 ?_ | refine tk14 ?_); (conv => whnf))
      (conv => whnf); repeat ((first | refine tk1 ?_ | refine tk2 ?_ | refine tk3 ?_ | refine tk12 (fun _ => ?_) | refine tk4 ?_ | refine tk5 ?_ | refine tk6 ?_ | refine tk7 ?_ | refine tk8 ?_ | refine tk9 ?_ | refine tk10 (fun _ _ => ?_) | refine tk11 (fun _ => ?_) | refine tk13 ?_ | refine tk14 ?_); (conv => whnf))
      refine CallK.fn (Path_r r.p (by omega)) ?_
      cases c2 : pathOf r.p
      · rw [bad (by unfold writeOK; rw [c2]; simp)]
        (conv => whnf); repeat ((first | refine tk1 ?_ | refine tk2 ?_ | refine tk3 ?_ | refine tk12 (fun _ => ?_) | refine tk4 ?_ | refine tk5 ?_ | refine tk6 ?_ | refine tk7 ?_ | refine tk8 ?_ | refine tk9 ?_ | refine tk10 (fun _ _ => ?_) | refine tk11 (fun _ => ?_) | refine tk13 ?_ | refine tk14 ?_); (conv => whnf))
      (conv => whnf); repeat ((first | refine tk1 ?_ | refine tk2 ?_ | refine tk3 ?_ | refine tk12 (fun _ => ?_) | refine tk4 ?_ | refine tk5 ?_ | refine tk6 ?_ | refine tk7 ?_ | refine tk8 ?_ | refine tk9 ?_ | refine tk10 (fun _ _ => ?_) | refine tk11 (fun _ => ?_) | refine tk13 ?_ | refine tk14 ?_); (conv => whnf))
      refine CallK.fn (Query_r r.q (by omega)) ?_
      cases c3 : queryOf r.q
      · rw [bad (by unfold writeOK; rw [c3]; simp)]
        (conv => whnf); repeat ((first | refine tk1 ?_ | refine tk2 ?_ | refine tk3 ?_ | refine tk12 (fun _ => ?_) | refine tk4 ?_ | refine tk5 ?_ | refine tk6 ?_ | refine tk7 ?_ | refine tk8 ?_ | refine tk9 ?_ | refine tk10 (fun _ _ => ?_) | refine tk11 (fun _ => ?_) | refine tk13 ?_ | refine tk14 ?_); (conv => whnf))
      (conv => whnf); repeat ((first | refine tk1 ?_ | refine tk2 ?_ | refine tk3 ?_ | refine tk12 (fun _ => ?_) | refine tk4 ?_ | refine tk5 ?_ | refine tk6 ?_ | refine tk7 ?_ | refine tk8 ?_ | refine tk9 ?_ | refine tk10 (fun _ _ => ?_) | refine tk11 (fun _ => ?_) | refine tk13 ?_ | refine tk14 ?_); (conv => whnf))
      refine Cmp.cases (fun c4 => ?_) (fun c4 => ?_)
      · rw [bad (by unfold writeOK; rw [decide_eq_false (show ¬ 0 ≤ r.v by omega)]; simp)]
        (conv => whnf); repeat ((first | refine tk1 ?_ | refine tk2 ?_ | refine tk3 ?_ | refine tk12 (fun _ => ?_) | refine tk4 ?_ | refine tk5 ?_ | refine tk6 ?_ | refine tk7 ?_ | refine tk8 ?_ | refine tk9 ?_ | refine tk10 (fun _ _ => ?_) | refine tk11 (fun _ => ?_) | refine tk13 ?_ | refine tk14 ?_); (conv => whnf))
      (conv => whnf); repeat ((first | refine tk1 ?_ | refine tk2 ?_ | refine tk3 ?_ | refine tk12 (fun _ => ?_) | refine tk4 ?_ | refine tk5 ?_ | refine tk6 ?_ | refine tk7 ?_ | refine tk8 ?_ | refine tk9 ?_ | refine tk10 (fun _ _ => ?_) | refine tk11 (fun _ => ?_) | refine tk13 ?_ | refine tk14 ?_); (conv => whnf))
      refine Cmp.cases (fun c5 => ?_) (fun c5 => ?_)
      · rw [bad (by unfold writeOK; rw [decide_eq_false (show ¬ r.v ≤ 1 by omega)]; simp)]
        (conv => whnf); repeat ((first | refine tk1 ?_ | refine tk2 ?_ | refine tk3 ?_ | refine tk12 (fun _ => ?_) | refine tk4 ?_ | refine tk5 ?_ | refine tk6 ?_ | refine tk7 ?_ | refine tk8 ?_ | refine tk9 ?_ | refine tk10 (fun _ _ => ?_) | refine tk11 (fun _ => ?_) | refine tk13 ?_ | refine tk14 ?_); (conv => whnf))
      (conv => whnf); repeat ((first | refine tk1 ?_ | refine tk2 ?_ | refine tk3 ?_ | refine tk12 (fun _ => ?_) | refine tk4 ?_ | refine tk5 ?_ | refine tk6 ?_ | refine tk7 ?_ | refine tk8 ?_ | refine tk9 ?_ | refine tk10 (fun _ _ => ?_) | refine tk11 (fun _ => ?_) | refine tk13 ?_ | refine tk14 ?_); (conv => whnf))
      refine Cmp.cases (fun c6 => ?_) (fun c6 => ?_)
      · rw [bad (by unfold writeOK; rw [decide_eq_false (show ¬ (writeL r).length ≤ 4096 by omega)]; simp)]
        (conv => whnf); repeat ((first | refine tk1 ?_ | refine tk2 ?_ | refine tk3 ?_ | refine tk12 (fun _ => ?_) | refine tk4 ?_ | refine tk5 ?_ | refine tk6 ?_ | refine tk7 ?_ | refine tk8 ?_ | refine tk9 ?_ | refine tk10 (fun _ _ => ?_) | refine tk11 (fun _ => ?_) | refine tk13 ?_ | refine tk14 ?_); (conv => whnf))
      · have hok : writeOK r = true := by
          unfold writeOK
          rw [c1, c2, c3, decide_eq_true (show 0 ≤ r.v by omega), decide_eq_true (show r.v ≤ 1 by omega), decide_eq_true (show (writeL r).length ≤ 4096 by omega)]
          rfl
        (conv => whnf); repeat ((first | refine tk1 ?_ | refine tk2 ?_ | refine tk3 ?_ | refine tk12 (fun _ => ?_) | refine tk4 ?_ | refine tk5 ?_ | refine tk6 ?_ | refine tk7 ?_ | refine tk8 ?_ | refine tk9 ?_ | refine tk10 (fun _ _ => ?_) | refine tk11 (fun _ => ?_) | refine tk13 ?_ | refine tk14 ?_); (conv => whnf))
        simp [writeS, writeE, hok]
theorem hexT_cut (n : Nat) (h : n < 16) : (hexT.take ((n : Int) + 1).toNat).drop (n : Int).toNat = [hexD n] := by
  have : ∀ n : Fin 16, (hexT.take (n.val + 1)).drop n.val = [hexD n.val] := by decide
  rw [Int.toNat_natCast, show ((n : Int) + 1).toNat = n + 1 by omega]
  exact this ⟨n, h⟩
theorem DivS.quo16 {x : Nat} {K : Value → Prop} (h : x < 256) (k : K (.int .i64 ((x / 16 : Nat) : Int))) : DivS .quo .i64 (x : Nat) 16 K := by
  have : ∀ n : Fin 256, ((n.val / 16 : Nat) : Int) = IntKind.i64.wrap ((n.val : Int).tdiv 16) := by decide +kernel
  exact ⟨by decide, .inl ⟨rfl, _, this ⟨x, h⟩, k⟩⟩
theorem DivS.rem16 {x : Nat} {K : Value → Prop} (h : x < 256) (k : K (.int .i64 ((x % 16 : Nat) : Int))) : DivS .rem .i64 (x : Nat) 16 K := by
  have : ∀ n : Fin 256, ((n.val % 16 : Nat) : Int) = (n.val : Int).tmod 16 := by decide +kernel
  exact ⟨by decide, .inr ⟨rfl, _, this ⟨x, h⟩, k⟩⟩
end Go.Proofs.YtmdmmncoigeijaaGreatDoor.Vex
/- Lists of fields: whether two are the same; whether one is great; reckoned. -/
namespace Go.Proofs.YtmdmmncoigeijaaGreatDoor.Vex
open Go Go.RowKit
set_option maxRecDepth 100000
set_option linter.unusedSectionVars false
variable {gI : GI} [HasMax gI]

theorem SameFields_r (A B : Option Addr) (cp cq : Nat) (a b : List Fld) (ha : a.length ≤ 1000000000) (hb : b.length ≤ 1000000000) :
    FnR Tryz.prog gI 42 [.slice A a.length cp, .slice B b.length cq] [(A, fcells a), (B, fcells b)] (.bool (decide (a = b))) := by
  refine FnE.of tys_ok Tryz.func42 rfl (by kernel_rfl) rfl rfl ?_; intro w hG hP
  have hA : ∀ H, RdA (mkC Tryz.prog gI w hG) H A (fcells a) := fun H => ⟨hP.1.now⟩
  have hB : ∀ H, RdA (mkC Tryz.prog gI w hG) H B (fcells b) := fun H => ⟨hP.2.1.now⟩
  (conv => whnf); repeat ((first | refine tk1 ?_ | refine tk2 ?_ | refine tk3 ?_ | refine tk12 (fun _ => ?_) | refine tk4 ?_ | refine tk5 ?_ | refine tk6 ?_ | refine tk7 ?_ | refine tk8 ?_ | refine tk9 ?_ | refine tk10 (fun _ _ => ?_) | refine tk11 (fun _ => ?_) | refine tk13 ?_ | refine tk14 ?_); (conv => whnf))
  refine Cmp.cases (fun hz => ?_) (fun hz => ?_)
  · (conv => whnf); repeat ((first | refine tk1 ?_ | refine tk2 ?_ | refine tk3 ?_ | refine tk12 (fun _ => ?_) | refine tk4 ?_ | refine tk5 ?_ | refine tk6 ?_ | refine tk7 ?_ | refine tk8 ?_ | refine tk9 ?_ | refine tk10 (fun _ _ => ?_) | refine tk11 (fun _ => ?_) | refine tk13 ?_ | refine tk14 ?_); (conv => whnf))
    intro w' _
    rw [decide_eq_false (fun h => hz (by rw [h]))]
  have hz' : a.length = b.length := by omega
  (conv => whnf); repeat ((first | refine tk1 ?_ | refine tk2 ?_ | refine tk3 ?_ | refine tk12 (fun _ => ?_) | refine tk4 ?_ | refine tk5 ?_ | refine tk6 ?_ | refine tk7 ?_ | refine tk8 ?_ | refine tk9 ?_ | refine tk10 (fun _ _ => ?_) | refine tk11 (fun _ => ?_) | refine tk13 ?_ | refine tk14 ?_); (conv => whnf))
  refine LoopS.lp tys_ok (fun (k : Nat) u => [.slice A a.length cp, .slice B b.length cq, u 2, u 3, u 4, .int .i64 (k : Nat), u 6, u 7, u 8, u 9, u 10, u 11, u 12, u 13, u 14, u 15, u 16, u 17, u 18, u 19, u 20, u 21, u 22, u 23, u 24, u 25]) (fun _ => [])
    (fun k => k ≤ a.length ∧ a.take k = b.take k) (fun k => a.length - k) 0 ⟨Nat.zero_le _, rfl⟩ rfl (by repeat' (first | exact List.Sublist.refl _ | exact List.nil_sublist _ | apply List.Sublist.cons_cons | apply List.Sublist.cons)) ?_
  intro k u ⟨hk, hI⟩
  (conv => whnf); repeat ((first | refine tk1 ?_ | refine tk2 ?_ | refine tk3 ?_ | refine tk12 (fun _ => ?_) | refine tk4 ?_ | refine tk5 ?_ | refine tk6 ?_ | refine tk7 ?_ | refine tk8 ?_ | refine tk9 ?_ | refine tk10 (fun _ _ => ?_) | refine tk11 (fun _ => ?_) | refine tk13 ?_ | refine tk14 ?_); (conv => whnf))
  refine Cmp.cases (fun hlt => ?_) (fun hlt => ?_)
  · have hka : k < a.length := by omega
    have hkb : k < b.length := by omega
    (conv => whnf); repeat ((first | refine tk1 ?_ | refine tk2 ?_ | refine tk3 ?_ | refine tk12 (fun _ => ?_) | refine tk4 ?_ | refine tk5 ?_ | refine tk6 ?_ | refine tk7 ?_ | refine tk8 ?_ | refine tk9 ?_ | refine tk10 (fun _ _ => ?_) | refine tk11 (fun _ => ?_) | refine tk13 ?_ | refine tk14 ?_); (conv => whnf))
    refine DrawS.go (qs 9) tys_ok mixed (by kernel_rfl) ?_
    (conv => whnf); repeat ((first | refine tk1 ?_ | refine tk2 ?_ | refine tk3 ?_ | refine tk12 (fun _ => ?_) | refine tk4 ?_ | refine tk5 ?_ | refine tk6 ?_ | refine tk7 ?_ | refine tk8 ?_ | refine tk9 ?_ | refine tk10 (fun _ _ => ?_) | refine tk11 (fun _ => ?_) | refine tk13 ?_ | refine tk14 ?_); (conv => whnf))
    refine IdxA.tc (by rw [fcells_length]; omega) (by omega) (by omega) ?_
    (conv => whnf); repeat ((first | refine tk1 ?_ | refine tk2 ?_ | refine tk3 ?_ | refine tk12 (fun _ => ?_) | refine tk4 ?_ | refine tk5 ?_ | refine tk6 ?_ | refine tk7 ?_ | refine tk8 ?_ | refine tk9 ?_ | refine tk10 (fun _ _ => ?_) | refine tk11 (fun _ => ?_) | refine tk13 ?_ | refine tk14 ?_); (conv => whnf))
    refine Ld.taN (fcells_two a k hka) rfl ?_
    (conv => whnf); repeat ((first | refine tk1 ?_ | refine tk2 ?_ | refine tk3 ?_ | refine tk12 (fun _ => ?_) | refine tk4 ?_ | refine tk5 ?_ | refine tk6 ?_ | refine tk7 ?_ | refine tk8 ?_ | refine tk9 ?_ | refine tk10 (fun _ _ => ?_) | refine tk11 (fun _ => ?_) | refine tk13 ?_ | refine tk14 ?_); (conv => whnf))
    refine IdxA.tc (by rw [fcells_length]; omega) (by omega) (by omega) ?_
    (conv => whnf); repeat ((first | refine tk1 ?_ | refine tk2 ?_ | refine tk3 ?_ | refine tk12 (fun _ => ?_) | refine tk4 ?_ | refine tk5 ?_ | refine tk6 ?_ | refine tk7 ?_ | refine tk8 ?_ | refine tk9 ?_ | refine tk10 (fun _ _ => ?_) | refine tk11 (fun _ => ?_) | refine tk13 ?_ | refine tk14 ?_); (conv => whnf))
    refine Ld.taN (fcells_two b k hkb) rfl ?_
    (conv => whnf); repeat ((first | refine tk1 ?_ | refine tk2 ?_ | refine tk3 ?_ | refine tk12 (fun _ => ?_) | refine tk4 ?_ | refine tk5 ?_ | refine tk6 ?_ | refine tk7 ?_ | refine tk8 ?_ | refine tk9 ?_ | refine tk10 (fun _ _ => ?_) | refine tk11 (fun _ => ?_) | refine tk13 ?_ | refine tk14 ?_); (conv => whnf))
    refine OthP.neF rfl rfl rfl ?_
    cases hq : (a[k].1 == b[k].1 && a[k].2 == b[k].2)
    · (conv => whnf); repeat ((first | refine tk1 ?_ | refine tk2 ?_ | refine tk3 ?_ | refine tk12 (fun _ => ?_) | refine tk4 ?_ | refine tk5 ?_ | refine tk6 ?_ | refine tk7 ?_ | refine tk8 ?_ | refine tk9 ?_ | refine tk10 (fun _ _ => ?_) | refine tk11 (fun _ => ?_) | refine tk13 ?_ | refine tk14 ?_); (conv => whnf))
      intro w' _
      rw [decide_eq_false (fun h => by subst h; simp at hq)]
    · have hq' : a[k] = b[k] := by simp at hq; exact Prod.ext hq.1 hq.2
      (conv => whnf); repeat ((first | refine tk1 ?_ | refine tk2 ?_ | refine tk3 ?_ | refine tk12 (fun _ => ?_) | refine tk4 ?_ | refine tk5 ?_ | refine tk6 ?_ | refine tk7 ?_ | refine tk8 ?_ | refine tk9 ?_ | refine tk10 (fun _ _ => ?_) | refine tk11 (fun _ => ?_) | refine tk13 ?_ | refine tk14 ?_); (conv => whnf))
      exact ⟨k + 1, ⟨by omega, by rw [List.take_succ_eq_append_getElem hka, List.take_succ_eq_append_getElem hkb, hI, hq']⟩, rfl, (by repeat' (first | exact List.Sublist.refl _ | exact List.nil_sublist _ | apply List.Sublist.cons_cons | apply List.Sublist.cons)), by dsimp only; omega⟩
  · (conv => whnf); repeat ((first | refine tk1 ?_ | refine tk2 ?_ | refine tk3 ?_ | refine tk12 (fun _ => ?_) | refine tk4 ?_ | refine tk5 ?_ | refine tk6 ?_ | refine tk7 ?_ | refine tk8 ?_ | refine tk9 ?_ | refine tk10 (fun _ _ => ?_) | refine tk11 (fun _ => ?_) | refine tk13 ?_ | refine tk14 ?_); (conv => whnf))
    intro w' _
    have : a = b := by rw [List.take_of_length_le (by omega), List.take_of_length_le (by omega)] at hI; exact hI
    rw [decide_eq_true this]
theorem Great18_b (A : Option Addr) (cp : Nat) (l : List Fld) : FnE Tryz.prog gI 32 [.slice A l.length cp] (fun w => Rdw w A (fcells l)) fun _ v _ => ∃ b, v = .bool b :=
  ⟨(Great_r (gI := gI) A cp l).can, fun w hG hp => ((Great_r A cp l).ok w hG ⟨hp, trivial⟩).mono fun _ _ ⟨v, he, hv, hr⟩ => ⟨v, he, ⟨_, hv⟩, hr⟩⟩
end Go.Proofs.YtmdmmncoigeijaaGreatDoor.Vex
/- A walk by reckoning, part sixteen: regions in which two acts may come up together: both orders are gone. No program in sight. -/
namespace Go.Proofs.YtmdmmncoigeijaaGreatDoor.Vex
open Go Go.RowKit

/-- The orders that may come: q: an operation that is quiet; a: an act that comes up alone; ch: one of several that come up (stop ends their row). -/
inductive DT where
  | nil
  | q (i : Nat) (t : DT)
  | a (i : Nat) (t : DT)
  | ch (i : Nat) (t : DT) (r : DT)
  | stop
noncomputable def wtree (c : Ctx) (T : Ty) (ws : List Nat) (ops : List Oper) (t : DT) : (Fr → Hp → Prop) → Fr → Hp → Prop :=
  DT.rec (motive := fun _ => (Fr → Hp → Prop) → Fr → Hp → Prop) (fun K fr H => K fr H)
    (fun i _ ih K fr H => nthK ops i fun o => strOk T fr o.guard o.op (wstep c T .quiet ops o fr H (ih K)))
    (fun i _ ih K fr H => nthK ops i fun o => strOk T fr o.guard o.op (wstep c T (match ws.contains i with | true => .wact | false => .act) ops o fr H (ih K)))
    (fun i _ _ ih rh K fr H => (nthK ops i fun o => strOk T fr o.guard o.op (wstep c T (match ws.contains i with | true => .wact | false => .act) ops o fr H (ih K))) ∧ rh K fr H)
    (fun _ _ _ => True) t
def DT.heads : DT → List Nat
  | .ch i _ r => i :: r.heads
  | _ => []
noncomputable def treeB (T : Ty) (ws : List Nat) (ops : Array Oper) : DT → Bool → Array Bool → Bool
  | .nil, b, l => !b && (Region.ready .any ops l).isEmpty
  | .q i t, b, l => !b && (Region.ready .any ops l).contains i && Region.free .any ops l i && !isWr ws ops i && (((List.range ops.size).all fun j => !isWr ws ops j || l.getD j true || anc .any ops ops.size j i) || (match ops[i]? with | some o => blindOp T o.guard o.op | none => false)) && treeB T ws ops t false (l.setIfInBounds i true)
  | .a i t, b, l => !b && (Region.ready .any ops l == [i]) && treeB T ws ops t false (l.setIfInBounds i true)
  | .ch i t r, b, l => (b || ((Region.ready .any ops l).all fun k => k == i || r.heads.contains k)) && (Region.ready .any ops l).contains i && treeB T ws ops t false (l.setIfInBounds i true) && treeB T ws ops r true l
  | .stop, b, _ => b
def DT.len : DT → Nat
  | .nil => 0
  | .q _ t => t.len + 1
  | .a _ t => t.len + 1
  | .ch _ t r => max (t.len + 1) r.len
  | .stop => 0
section
variable {c : Ctx} {T : Ty}
theorem wact_ok (hT : TOk c.P T) (ws : List Nat) (ds : List Deferred) (ops : List Oper) (K : Fr → Hp → Prop) {ih : Fr → Hp → Prop} {i n : Nat} {l : Array Bool} {fr : Fr} {H : Hp} {w' : World}
    (h : nthK ops i fun o => strOk T fr o.guard o.op (wstep c T (match ws.contains i with | true => .wact | false => .act) ops o fr H ih)) (hw' : St c H w')
    (next : ∀ fr' H' w2, ih fr' H' → St c H' w2 → wpAnyR c.P .any ⟨ops⟩ (isWr ws ⟨ops⟩) (DrawQ c ds K) n (l.setIfInBounds i true) (actD ds fr') w2) :
    wpOp c.P ⟨ops⟩ (DrawQ c ds K) i (fun a2 w2 => (isWr ws ⟨ops⟩ i = false → R w' w2) ∧ wpAnyR c.P .any ⟨ops⟩ (isWr ws ⟨ops⟩) (DrawQ c ds K) n (l.setIfInBounds i true) a2 w2) (actD ds fr) w' := by
  obtain ⟨o, hoi, h⟩ := nthK_some h
  obtain ⟨h, hst⟩ := strOk_out h
  have hmd : ∃ m : Md, wstep c T m ops o fr H ih ∧ m ≠ .plain ∧ (ws.contains i = false → m = .act) ∧ (m = .act ∨ m = .wact) := by
    cases hw9 : ws.contains i
    · rw [hw9] at h
      exact ⟨Md.act, h, (fun h => by cases h), (fun _ => rfl), .inl rfl⟩
    · rw [hw9] at h
      exact ⟨Md.wact, h, (fun h => by cases h), (fun h => by cases h), .inr rfl⟩
  clear h
  obtain ⟨m, h, hm2, hm3, hm4⟩ := hmd
  have hoi' : (⟨ops⟩ : Array Oper)[i]? = some o := by simpa using hoi
  unfold wpOp
  simp only [hoi']
  rw [show (actD ds fr).tmps = (act fr).tmps from rfl]
  rcases wstep_cases hT h with ⟨hwd, hd | ⟨he, _⟩, _⟩ | ⟨hwd, hk⟩
  · rw [if_pos hwd]
    have hd : GoodD c m o fr H fun v H' => setO fr o.dst v fun fr' => ih fr' H' := by
      rcases hm4 with rfl | rfl
      · exact hd
      · exact hd
    refine .inl (Good.wp (hd w' hw') fun v H' w2 hs2 hk hrr => ?_)
    obtain ⟨fr', e, hk⟩ := setO_act (ds := ds) hk
    rw [e]
    refine ⟨fun hi => hrr ?_, next fr' H' w2 hk hs2⟩
    have h2 : isWr ws ⟨ops⟩ i = (wr o.op || ws.contains i) := by unfold isWr; rw [hoi']
    rw [h2, Bool.or_eq_false_iff] at hi
    rw [hm3 hi.2]
    simp [rOf, hi.1]
  · exact absurd he hm2
  · rw [if_neg (by rw [hwd]; exact Bool.false_ne_true)]
    obtain ⟨fr', e, hk⟩ := setO_act (ds := ds) hk
    rw [e]
    exact ⟨fun _ => R.refl _, next fr' H w' hk hw'⟩
abbrev TreeA (c : Ctx) (T : Ty) (ws : List Nat) (ds : List Deferred) (ops : List Oper) (K' K : Fr → Hp → Prop) (t : DT) : Prop := ∀ (n : Nat) (l : Array Bool) (fr : Fr) (H : Hp) (w : World),
  t.len ≤ n → closedL .any ⟨ops⟩ l → treeB T ws ⟨ops⟩ t false l = true → wtree c T ws ops t K' fr H → St c H w → wpAnyR c.P .any ⟨ops⟩ (isWr ws ⟨ops⟩) (DrawQ c ds K) n l (actD ds fr) w
abbrev TreeC (c : Ctx) (T : Ty) (ws : List Nat) (ds : List Deferred) (ops : List Oper) (K' K : Fr → Hp → Prop) (t : DT) : Prop := ∀ (n : Nat) (l : Array Bool) (fr : Fr) (H : Hp) (w' : World),
  t.len ≤ n + 1 → closedL .any ⟨ops⟩ l → treeB T ws ⟨ops⟩ t true l = true → wtree c T ws ops t K' fr H → St c H w' → ∀ k ∈ t.heads,
    wpOp c.P ⟨ops⟩ (DrawQ c ds K) k (fun a2 w2 => (isWr ws ⟨ops⟩ k = false → R w' w2) ∧ wpAnyR c.P .any ⟨ops⟩ (isWr ws ⟨ops⟩) (DrawQ c ds K) n (l.setIfInBounds k true) a2 w2) (actD ds fr) w'
theorem wtree_ok (hT : TOk c.P T) (ws : List Nat) (ds : List Deferred) (ops : List Oper) (hs : Region.noSelect ⟨ops⟩ = true) (K' K : Fr → Hp → Prop) (hK : ∀ fr H, K' fr H → ∃ H2, (∀ w, St c H w → St c H2 w) ∧ K fr H2) (t : DT) : TreeA c T ws ds ops K' K t ∧ TreeC c T ws ds ops K' K t := by
  induction t with
  | nil =>
    refine ⟨fun n l fr H w _ _ ho h hw => ?_, fun n l fr H w _ _ ho h hw k hk => by cases hk⟩
    simp only [treeB, Bool.and_eq_true, List.isEmpty_iff] at ho
    obtain ⟨H2, hs2, hk⟩ := hK fr H h
    exact wpAnyR_done ho.2 fun w' hR => ⟨fr, H2, rfl, hs2 _ (hw.below hR), rfl, hk⟩
  | q i t ih =>
    refine ⟨fun n l fr H w hn hc ho h hw => ?_, fun n l fr H w _ _ ho h hw k hk => by cases hk⟩
    obtain ⟨n, rfl⟩ : ∃ m, n = m + 1 := ⟨n - 1, by simp only [DT.len] at hn; omega⟩
    simp only [treeB, Bool.and_eq_true] at ho
    obtain ⟨⟨⟨⟨⟨_, hr⟩, hf⟩, hwi⟩, hall⟩, ho⟩ := ho
    rw [Bool.not_eq_true'] at hwi
    have hr : i ∈ Region.ready .any ⟨ops⟩ l := by simpa using hr
    obtain ⟨o, hoi, h⟩ := nthK_some h
    obtain ⟨h, hst⟩ := strOk_out h
    have hoi' : (⟨ops⟩ : Array Oper)[i]? = some o := by simpa using hoi
    have hQ : ∀ (v : Value) (ch : List PanicEntry) (a : Act) (w : World), DrawQ c ds K (.panic ch) (a.put o.dst v) w → DrawQ c ds K (.panic ch) a w := fun v ch a w ⟨_, _, _, _, he, _⟩ => by cases he
    have hn' : t.len ≤ n := by simpa [DT.len] using hn
    rw [hoi', Bool.or_eq_true] at hall
    dsimp only at hall
    rcases hall with hall | hbl
    rotate_left
    · rcases wstep_wop h with ⟨hwd, h⟩ | ⟨hwd, hk⟩
      · obtain ⟨v, hk, hq⟩ := blind_wop hT o hbl hst h
        obtain ⟨fr', e, hk⟩ := setO_act (ds := ds) hk
        refine wpAnyR_firstB (v := v) hoi' (Region.noSelect_spec hs) (hQ v) n l (actD ds fr) w hc (Region.free_spec hoi' hf) hr (fun w' => .inl ⟨hwd, ?_⟩) ?_
        · unfold Quiet1
          rw [show (actD ds fr).eval = (act fr).eval from rfl, hq w']
          exact ⟨rfl, rfl⟩
        · rw [e]
          exact ih.1 n _ fr' H w hn' (hc.set hr) ho hk hw
      · obtain ⟨fr', e, hk⟩ := setO_act (ds := ds) hk
        refine wpAnyR_firstB (v := undef) hoi' (Region.noSelect_spec hs) (hQ _) n l (actD ds fr) w hc (Region.free_spec hoi' hf) hr (fun w' => .inr ⟨hwd, rfl⟩) ?_
        rw [e]
        exact ih.1 n _ fr' H w hn' (hc.set hr) ho hk hw
    simp only [List.all_eq_true, List.mem_range, Bool.or_eq_true, Bool.not_eq_true'] at hall
    have hwr : ∀ j, isWr ws ⟨ops⟩ j = true → l.getD j true = false → anc .any ⟨ops⟩ (⟨ops⟩ : Array Oper).size j i = true := fun j hj hl => by
      have hlt : j < (⟨ops⟩ : Array Oper).size := by
        unfold isWr at hj
        rcases Nat.lt_or_ge j (⟨ops⟩ : Array Oper).size with h' | h'
        · exact h'
        · rw [Array.getElem?_eq_none h'] at hj; cases hj
      rcases hall j hlt with (h1 | h1) | h1
      · rw [hj] at h1; cases h1
      · rw [hl] at h1; cases h1
      · exact h1
    rcases wstep_cases hT h with ⟨hwd, ⟨v, hk, hq⟩ | ⟨he, _⟩, _⟩ | ⟨hwd, hk⟩
    · obtain ⟨fr', e, hk⟩ := setO_act (ds := ds) hk
      refine wpAnyR_first (v := v) hoi' (Region.noSelect_spec hs) (hQ v) hwi n l (actD ds fr) w hc hwr (Region.free_spec hoi' hf) hr (fun w' hR => .inl ⟨hwd, hq w' (hw.below hR)⟩) ?_
      rw [e]
      exact ih.1 n _ fr' H w hn' (hc.set hr) ho hk hw
    · cases he
    · obtain ⟨fr', e, hk⟩ := setO_act (ds := ds) hk
      refine wpAnyR_first (v := undef) hoi' (Region.noSelect_spec hs) (hQ _) hwi n l (actD ds fr) w hc hwr (Region.free_spec hoi' hf) hr (fun w' hR => .inr ⟨hwd, rfl⟩) ?_
      rw [e]
      exact ih.1 n _ fr' H w hn' (hc.set hr) ho hk hw
  | a i t ih =>
    refine ⟨fun n l fr H w hn hc ho h hw => ?_, fun n l fr H w _ _ ho h hw k hk => by cases hk⟩
    obtain ⟨n, rfl⟩ : ∃ m, n = m + 1 := ⟨n - 1, by simp only [DT.len] at hn; omega⟩
    simp only [treeB, Bool.and_eq_true, beq_iff_eq] at ho
    obtain ⟨⟨_, hr⟩, ho⟩ := ho
    have hri : i ∈ Region.ready .any ⟨ops⟩ l := by rw [hr]; simp
    refine wpAnyR_alone hr fun w' hR => ?_
    exact wact_ok hT ws ds ops K h (hw.below hR) fun fr' H' w2 hk hs2 => ih.1 n _ fr' H' w2 (by simpa [DT.len] using hn) (hc.set hri) ho hk hs2
  | ch i t r iht ihr =>
    have key : ∀ (n : Nat) (l : Array Bool) (fr : Fr) (H : Hp) (w' : World), (DT.ch i t r).len ≤ n + 1 → closedL .any ⟨ops⟩ l → ((Region.ready .any ⟨ops⟩ l).contains i = true) → treeB T ws ⟨ops⟩ t false (l.setIfInBounds i true) = true → treeB T ws ⟨ops⟩ r true l = true →
        wtree c T ws ops (.ch i t r) K' fr H → St c H w' → ∀ k ∈ (DT.ch i t r).heads,
        wpOp c.P ⟨ops⟩ (DrawQ c ds K) k (fun a2 w2 => (isWr ws ⟨ops⟩ k = false → R w' w2) ∧ wpAnyR c.P .any ⟨ops⟩ (isWr ws ⟨ops⟩) (DrawQ c ds K) n (l.setIfInBounds k true) a2 w2) (actD ds fr) w' := by
      intro n l fr H w' hn hc hri h1 h2 h hw k hk
      have hri : i ∈ Region.ready .any ⟨ops⟩ l := by simpa using hri
      have hn1 : t.len + 1 ≤ n + 1 ∧ r.len ≤ n + 1 := by simp only [DT.len] at hn; omega
      rcases List.mem_cons.1 hk with rfl | hk
      · exact wact_ok hT ws ds ops K h.1 hw fun fr' H' w2 hk hs2 => iht.1 n _ fr' H' w2 (by omega) (hc.set hri) h1 hk hs2
      · exact ihr.2 n l fr H w' hn1.2 hc h2 h.2 hw k hk
    refine ⟨fun n l fr H w hn hc ho h hw => ?_, fun n l fr H w' hn hc ho h hw k hk => ?_⟩
    · obtain ⟨n, rfl⟩ : ∃ m, n = m + 1 := ⟨n - 1, by simp only [DT.len] at hn; omega⟩
      simp only [treeB, Bool.and_eq_true, Bool.false_or] at ho
      obtain ⟨⟨⟨hall, hri⟩, h1⟩, h2⟩ := ho
      intro w' hR
      refine ⟨fun he => ?_, fun k hk => ?_⟩
      · rw [he] at hri; cases hri
      · refine key n l fr H w' hn hc hri h1 h2 h (hw.below hR) k ?_
        have := List.all_eq_true.1 hall k hk
        simp only [Bool.or_eq_true, beq_iff_eq] at this
        rcases this with rfl | h
        · exact List.mem_cons_self ..
        · exact List.mem_cons_of_mem _ (by simpa using h)
    · simp only [treeB, Bool.and_eq_true] at ho
      obtain ⟨⟨⟨_, hri⟩, h1⟩, h2⟩ := ho
      exact key n l fr H w' hn hc hri h1 h2 h hw k hk
  | stop =>
    refine ⟨fun n l fr H w _ _ ho h hw => ?_, fun n l fr H w _ _ ho h hw k hk => by cases hk⟩
    cases ho
noncomputable def forkB (T : Ty) (ws : List Nat) (ops : List Oper) (t : DT) : Bool := ops.all noDefer && Region.noSelect ⟨ops⟩ && (decide (t.len ≤ ops.length)) && treeB T ws ⟨ops⟩ t false (Array.replicate ops.length false)
/-- The entries of a heap, in another order, some left out. -/
inductive Cov : Hp → Hp → Prop
  | nil {H : Hp} : Cov H []
  | cons {H H2 G : Hp} {x : Ent} (h : Pick H x H2) (k : Cov H2 G) : Cov H (x :: G)
theorem Cov.perm {H G : Hp} (h : Cov H G) : ∃ R, H.Perm (G ++ R) := by
  induction h with
  | nil => exact ⟨_, List.Perm.refl _⟩
  | cons hp _ ih =>
    obtain ⟨R, hR⟩ := ih
    exact ⟨R, hp.perm.trans (hR.cons _)⟩
theorem Cov.st {H G : Hp} (h : Cov H G) {w : World} (hw : St c H w) : St c G w := by
  obtain ⟨R, hR⟩ := h.perm
  exact (hw.perm hR).sub (List.sublist_append_left _ _)
theorem DrawS.forkK {id : Nat} {ops : List Oper} {K' K : Fr → Hp → Prop} {fr : Fr} {H : Hp} (ws : List Nat) (t : DT) (hT : TOk c.P T) (hm : c.P.follows .mixedOrders = true) (hB : forkB T ws ops t = true) (hK : ∀ fr H, K' fr H → ∃ H2, (∀ w, St c H w → St c H2 w) ∧ K fr H2) (h : wtree c T ws ops t K' fr H) : DrawS c T id ops K fr H := by
  simp only [forkB, Bool.and_eq_true, decide_eq_true_eq] at hB
  refine ⟨hm, fun j o ca hj e => ?_, fun ds w hw => wpAny_of_R (Wr := isWr ws ⟨ops⟩) _ _ _ _ (((wtree_ok hT ws ds ops hB.1.1.2 K' K hK t).1 _ _ fr H w hB.1.2 (closedL_start _) hB.2 h hw).on (R.drew w))⟩
  have h1 := List.all_eq_true.1 hB.1.1.1 o (List.mem_of_getElem? (by simpa using hj))
  unfold noDefer at h1
  rw [e] at h1
  cases h1
/-- All orders that may come are told. -/
theorem DrawS.fork {id : Nat} {ops : List Oper} {K : Fr → Hp → Prop} {fr : Fr} {H : Hp} (ws : List Nat) (t : DT) (hT : TOk c.P T) (hm : c.P.follows .mixedOrders = true) (hB : forkB T ws ops t = true) (h : wtree c T ws ops t K fr H) : DrawS c T id ops K fr H :=
  DrawS.forkK ws t hT hm hB (fun _ H hk => ⟨H, fun _ h => h, hk⟩) h
/-- .. behind each of them one state: what is behind the region is gone once. -/
theorem DrawS.join {β : Type} {id : Nat} {ops : List Oper} {K : Fr → Hp → Prop} {fr : Fr} {H : Hp} (F : β → (Nat → Value) → Fr) (G : β → Hp) (ws : List Nat) (t : DT) (hT : TOk c.P T) (hm : c.P.follows .mixedOrders = true) (hB : forkB T ws ops t = true)
    (h : wtree c T ws ops t (fun fr H => ∃ x, fr = F x (jk fr) ∧ Cov H (G x)) fr H) (k : ∀ x u, K (F x u) (G x)) : DrawS c T id ops K fr H :=
  DrawS.forkK ws t hT hm hB (fun fr' H' ⟨x, hF, hc⟩ => ⟨G x, fun _ hw => hc.st hw, by rw [hF]; exact k x (jk fr')⟩) h
end
end Go.Proofs.YtmdmmncoigeijaaGreatDoor.Vex
/- A walk by reckoning, part seventeen: functions that give back new memory of any kind; maps that came in. No program in sight. -/
namespace Go.Proofs.YtmdmmncoigeijaaGreatDoor.Vex
open Go Go.RowKit Go.MapKept

/-- New entries, behind a call. -/
def newH (w w' : World) (H : Hp) : Prop := (∀ y ∈ H, y.holds w' ∧ ∀ b, y.blk = some b → w.heap.size ≤ b ∧ b < w'.heap.size) ∧ (H.filterMap Ent.blk).Nodup
abbrev FnH (P : Program) (g : GI) (f : FuncId) (args : List Value) (pre : World → Prop) (K : Value → Hp → Prop) : Prop := FnE P g f args pre fun w v w' => ∃ H, K v H ∧ newH w w' H
theorem newH.of {P : Program} {g : GI} {w w' : World} {hG : g.G w} {H : Hp} (h : St (mkC P g w hG) H w') : newH w w' H :=
  ⟨fun y hy => ⟨(h.own y hy).1, fun b hb => ⟨((h.own y hy).2 b hb).2.elim id (fun h => by cases h), ((h.own y hy).2 b hb).1⟩⟩, h.apart⟩
theorem newH.cov {P : Program} {g : GI} {w w' : World} {hG : g.G w} {H H2 : Hp} (h : St (mkC P g w hG) H w') (hc : Cov H H2) : newH w w' H2 := newH.of (hc.st h)
section
variable {c : Ctx} {H : Hp}
theorem CallK.fnH {m : Bool} {f : Nat} {args : List Value} {pre : World → Prop} {K : Value → Hp → Prop} {K2 : Value → Hp → Prop} (h : FnH c.P c.g f args pre K) (hp : ∀ w, St c H w → pre w) (k : ∀ v H', K v H' → K2 v (H' ++ H)) : CallK c m f args H K2 :=
  CallK.fnE h hp fun w v w' hw ⟨H', hk, hn, hd⟩ hR => by
    refine ⟨H' ++ H, ?_, k v H' hk⟩
    have hw2 := hw.below hR
    refine ⟨hw2.mod, fun y hy => ?_, ?_⟩
    · rcases List.mem_append.1 hy with hy | hy
      · exact ⟨(hn y hy).1, fun b hb => ⟨((hn y hy).2 b hb).2, .inl (Nat.le_trans hw.mod.size ((hn y hy).2 b hb).1)⟩⟩
      · exact hw2.own y hy
    · rw [List.filterMap_append, List.nodup_append]
      refine ⟨hd, hw2.apart, fun a ha b hb e => ?_⟩
      obtain ⟨y, hy, hya⟩ := List.mem_filterMap.1 ha
      obtain ⟨z, hz, hzb⟩ := List.mem_filterMap.1 hb
      have h1 := ((hn y hy).2 a hya).1
      have h2 := ((hw.own z hz).2 b hzb).1
      omega
/-- A call whose value is known. -/
theorem CallK.fnEV {m : Bool} {f : Nat} {args : List Value} {pre : World → Prop} {v : Value} {K : Value → Hp → Prop} (h : FnE c.P c.g f args pre fun _ u _ => u = v) (hp : ∀ w, St c H w → pre w) (k : K v H) : CallK c m f args H K :=
  CallK.fnE h hp fun _ _ _ hw he hR => ⟨H, hw.below hR, by rw [he]; exact k⟩
theorem OthP.max2 {d : Option Nat} {x y : Operand} {ats : Array TypeId} {ty : TypeId} {pos : String} {after : Array Edge} {gd : Option (Nat × Bool)} {fr : Fr} {kd : IntKind} {a b : Int} {K : Value → Prop} (z : Int)
    (hx : evK fr x fun v => v = .int kd a) (hy : evK fr y fun v => v = .int kd b) (hz : max a b = z) (k : K (.int kd z)) : OthP c ⟨d, .call ⟨.builtin .max, #[x, y], ats⟩, ty, pos, after, gd⟩ fr H K := ⟨⟨_, k, fun w _ => by
  rw [evK_eq] at hx hy
  have hz' : z = if b > a then b else a := by subst hz; split <;> omega
  subst hz'
  simp only [go_sem, Builtin.max_]
  simp [hx, hy, Builtin.max2, List.foldlM]⟩⟩
/-- What a map has at a key, wherever the map lies. -/
theorem OthP.lookA {α : Type} [DecidableEq α] {kv : α → Value} {d : TypeDesc} {T : Ty} {fr : Fr} {dst : Option Nat} {ty : TypeId} {pos : String} {after : Array Edge} {gd : Option (Nat × Bool)} {t kt et : TypeId} {x i : Operand} {ok : Bool} {b : Nat} {k : α} {l : List (α × Value)} {z r : Value} {K : Value → Prop} (hk : KeyK d kv) (hT : TOk c.P T) (hb : ∀ w, St c H w → w.heap[b]? = some (mobj kv l))
    (hx : evK fr x fun v => v = .map (some b)) (hi : evK fr i fun v => v = kv k) (ht : (lookT T t).d = .map kt et) (hkt : (lookT T kt).d = d) (hd : d ≠ .invalid) (het : (lookT T et).d ≠ .invalid) (hz : (lookT T et).zero = z)
    (hr : (match ok with | true => .tuple ⟨[(mget k l).getD z, .bool (mget k l).isSome]⟩ | false => (mget k l).getD z) = r) (kk : K r) : OthP c ⟨dst, .lookup t x i ok, ty, pos, after, gd⟩ fr H K := ⟨⟨r, kk, fun w hw => by
  rw [evK_eq] at hx hi
  have hu := (lookT_ok hT (t := t) (by rw [ht]; intro h; cases h)).1
  have hku := (lookT_ok hT (t := kt) (by rw [hkt]; exact hd)).1
  rw [ht] at hu
  rw [hkt] at hku
  have hzv := run_zeroValue (lookT_ok hT (t := et) het) (w := w)
  rw [hz] at hzv
  have hb : w.heap[b]? = some (.map ⟨mkEs kv 0 l⟩ l.length) := hb w hw
  have hf := run_findKey (w := w) hku (findNow_es hk k l 0 0)
  have hc := run_checkKey (w := w) hku (hk.key k) (⟨mkEs kv 0 l⟩ : Array MapEntry).isEmpty 9999
  have hl : (Instr.lookup t (.map (some b)) (kv k) ok).run c.P w = .ok r w := by
    unfold Instr.lookup
    simp only [Sem.run_bind, run_underlying hu, Result.andThen_ok, MapKept.run_getObj_map hb, Sem.run_pure, hc, hf]
    subst hr
    cases mget k l with
    | none => cases ok <;> simp [hzv]
    | some v => cases ok <;> simp
  generalize (act fr).eval = ρ at *
  simp only [execOp, hx, hi, Sem.run_bind, hl, Result.andThen_ok, Sem.run_pure]⟩⟩
/-- An object that came in stays. -/
theorem obj_now {P : Program} {g : GI} {w : World} {hG : g.G w} {H : Hp} {b : Nat} {o : Obj} (h : w.heap[b]? = some o) : ∀ w', St (mkC P g w hG) H w' → w'.heap[b]? = some o := fun w' hw => by
  have hlt : b < w.heap.size := by
    rcases Nat.lt_or_ge b w.heap.size with h' | h'
    · exact h'
    · simp [Array.getElem?_eq_none h'] at h
  exact (hw.mod.block b hlt (fun h => by cases h)).trans h
/-- A cell that came in. -/
theorem Ld.now {P : Program} {g : GI} {w : World} {hG : g.G w} {H : Hp} {p : Addr} {v : Value} {K : Value → Prop} (h : w.cell? p = some v) (k : K v) : Ld (mkC P g w hG) H (.pointer (some p)) none K := Ld.old (c := mkC P g w hG) h (fun h => by cases h) k
end
end Go.Proofs.YtmdmmncoigeijaaGreatDoor.Vex
/- A walk by reckoning, part eighteen: heaps with a tail of entries that are not told one by one. No program in sight. -/
namespace Go.Proofs.YtmdmmncoigeijaaGreatDoor.Vex
open Go Go.RowKit

/-- What meets one heap meets another one. -/
def Into (c : Ctx) (H G : Hp) : Prop := ∀ w, St c H w → St c G w
section
variable {c : Ctx} {H G H2 : Hp} {x : Ent} {w : World}
theorem Into.refl : Into c H H := fun _ h => h
theorem Into.trans {K : Hp} (h : Into c H G) (k : Into c G K) : Into c H K := fun w hw => k w (h w hw)
theorem Into.perm (h : H.Perm G) : Into c H G := fun _ hw => hw.perm h
theorem Into.sub (h : G.Sublist H) : Into c H G := fun _ hw => hw.sub h
theorem Into.nil : Into c H [] := Into.sub (List.nil_sublist _)
theorem Into.skip (h : Into c H G) : Into c (x :: H) G := (Into.sub (List.sublist_cons_self _ _)).trans h
theorem Into.left : Into c (H ++ G) H := Into.sub (List.sublist_append_left _ _)
theorem Into.right : Into c (H ++ G) G := Into.sub (List.sublist_append_right _ _)
theorem Into.nilRow {e sz : Nat} (h : Into c H G) : Into c H (.row (.slice none 0 0) e sz 0 [] :: G) := fun w hw => (h w hw).nilRow e sz
/-- An entry is kept beside what the others are turned into: the others' own memory alone is looked at. -/
def Cv (H G : Hp) : Prop := ∃ R, H.Perm (G ++ R)
theorem Cv.into (h : Cv H G) : Into c H G := fun _ hw => by
  obtain ⟨R, hR⟩ := h
  exact (hw.perm hR).sub (List.sublist_append_left _ _)
theorem Cv.cons (h : Pick H x H2) (k : Cv H2 G) : Cv H (x :: G) := by
  obtain ⟨R, hR⟩ := k
  exact ⟨R, h.perm.trans (hR.cons _)⟩
theorem Cv.refl : Cv H H := ⟨[], by rw [List.append_nil]⟩
theorem Cv.nil : Cv H [] := ⟨H, List.Perm.refl _⟩
theorem Cv.skip (h : Cv H G) : Cv (x :: H) G := by
  obtain ⟨R, hR⟩ := h
  exact ⟨x :: R, (hR.cons x).trans List.perm_middle.symm⟩
theorem Cv.trans {K : Hp} (h : Cv H G) (k : Cv G K) : Cv H K := by
  obtain ⟨R, hR⟩ := h
  obtain ⟨S, hS⟩ := k
  exact ⟨S ++ R, hR.trans ((hS.append_right R).trans (by rw [List.append_assoc]))⟩
theorem Cv.of (h : H.Perm G) : Cv H G := ⟨[], by rw [List.append_nil]; exact h⟩
theorem Cv.left : Cv (H ++ G) H := ⟨G, List.Perm.refl _⟩
theorem Cv.right : Cv (H ++ G) G := ⟨H, List.perm_append_comm⟩
/-- A loop whose heap may change its order. -/
noncomputable def lpTQ (c : Ctx) {β : Type} (F : β → (Nat → Value) → Fr) (G : β → Hp) (pre : β → Prop) (μ : β → Nat) (x : β) (Q : Exit → Fr → Hp → Prop) (e : Exit) (fr : Fr) (H : Hp) : Prop := match e with
  | .normal => ∃ x', pre x' ∧ fr = F x' (jk fr) ∧ Into c H (G x') ∧ μ x' < μ x
  | e => Q e fr H
theorem LoopS.lpT {T : Ty} {β : Type} {body : Code} {Q : Exit → Fr → Hp → Prop} {fr : Fr} (hT : TOk c.P T) (F : β → (Nat → Value) → Fr) (G : β → Hp) (pre : β → Prop) (μ : β → Nat) (x0 : β) (h0 : pre x0) (hF : fr = F x0 (jk fr)) (hG : Into c H (G x0))
    (round : ∀ x u, pre x → wc c T body (lpTQ c F G pre μ x Q) (F x u) (G x)) : LoopS c T body Q fr H := by
  refine ⟨fun ds w hw => wp_loop_ghost (fun n a w => ∃ x u, pre x ∧ a = actD ds (F x u) ∧ St c (G x) w ∧ μ x = n) (μ x0) ⟨x0, jk fr, h0, by rw [← hF], hG w hw, rfl⟩ ?_⟩
  rintro n a w ⟨x, u, hx, rfl, hs, rfl⟩
  refine Code.wp_mono (fun e a w ⟨fr, H, ha, hs, hq⟩ => ?_) (wc_ok hT ds body _ _ _ w (round x u hx) hs)
  cases e with
  | normal =>
    obtain ⟨x', hx', hF', hG', hlt⟩ := hq
    exact ⟨μ x', hlt, x', jk fr, hx', by rw [ha, ← hF'], hG' w hs, rfl⟩
  | _ => exact ⟨fr, H, ha, hs, hq⟩
theorem LoopS.into {T : Ty} {body : Code} {Q : Exit → Fr → Hp → Prop} {fr : Fr} (hc : Into c H G) (h : LoopS c T body Q fr G) : LoopS c T body Q fr H := ⟨fun ds w hw => h.ok ds w (hc w hw)⟩

/-- All orders of a region, one state behind them, in a heap whose entries may change their order. -/
theorem DrawS.joinI {T : Ty} {β : Type} {id : Nat} {ops : List Oper} {K : Fr → Hp → Prop} {fr : Fr} (F : β → (Nat → Value) → Fr) (G : β → Hp) (ws : List Nat) (t : DT) (hT : TOk c.P T) (hm : c.P.follows .mixedOrders = true) (hB : forkB T ws ops t = true)
    (h : wtree c T ws ops t (fun fr H => ∃ x, fr = F x (jk fr) ∧ Into c H (G x)) fr H) (k : ∀ x u, K (F x u) (G x)) : DrawS c T id ops K fr H :=
  DrawS.forkK ws t hT hm hB (fun fr' H' ⟨x, hF, hc⟩ => ⟨G x, hc, by rw [hF]; exact k x (jk fr')⟩) h

theorem tk13 {b o i j : Nat} {n : Option Nat} {K : Value → Prop} (h : Ld c H (.pointer (some ⟨b, o + (i + j), none⟩)) n K) : Ld c H (.pointer (some (((⟨b, o, none⟩ : Addr).add i).add j))) n K := by
  rw [add_add, Addr.add_lit]
  exact h
theorem tk14 {b o i j n : Nat} {v : Value} {K : Hp → Prop} (h : Sto c H (.pointer (some ⟨b, o + (i + j), none⟩)) v n K) : Sto c H (.pointer (some (((⟨b, o, none⟩ : Addr).add i).add j))) v n K := by
  rw [add_add, Addr.add_lit]
  exact h

theorem CallK.into {m : Bool} {f : Nat} {args : List Value} {K : Value → Hp → Prop} (hi : Into c H G) (h : CallK c m f args G K) : CallK c m f args H K := ⟨h.can, fun w hw => h.ok w (hi w hw)⟩

/-! ## Tails -/
instance RdA.appL {T : Hp} {A : Option Addr} {xs : List Value} [h : RdA c H A xs] : RdA c (H ++ T) A xs where
  ok := h.ok.sub (List.sublist_append_left _ _)
instance RdA.appR {T : Hp} {A : Option Addr} {xs : List Value} [h : RdA c T A xs] : RdA c (H ++ T) A xs where
  ok := h.ok.sub (List.sublist_append_right _ _)
/-- New memory with a tail. -/
abbrev FnT (P : Program) (g : GI) (f : FuncId) (args : List Value) (pre : World → Prop) {X : Type} (V : X → Value) (Q : X → Prop) (Hd T : X → Hp) : Prop := FnE P g f args pre fun w v w' => ∃ x, v = V x ∧ Q x ∧ newH w w' (Hd x ++ T x)
theorem CallK.fnT {m : Bool} {f : Nat} {args : List Value} {pre : World → Prop} {X : Type} {V : X → Value} {Q : X → Prop} {Hd T : X → Hp} {K : Value → Hp → Prop} (h : FnT c.P c.g f args pre V Q Hd T) (hp : ∀ w, St c H w → pre w)
    (k : ∀ x, Q x → K (V x) (Hd x ++ (H ++ T x))) : CallK c m f args H K :=
  CallK.post (CallK.fnH (K := fun v H' => ∃ x, v = V x ∧ Q x ∧ H' = Hd x ++ T x) (⟨h.can, fun w hG hP => (h.ok w hG hP).mono fun e w' ⟨v, he, ⟨x, h1, h2, h3⟩, hR⟩ => ⟨v, he, ⟨_, ⟨x, h1, h2, rfl⟩, h3⟩, hR⟩⟩) hp (fun v H' ⟨x, h1, h2, h3⟩ =>
    ⟨Hd x ++ (H ++ T x), fun w hw => by
      subst h3
      refine hw.perm ?_
      rw [List.append_assoc]
      exact List.Perm.append_left _ List.perm_append_comm, by rw [h1]; exact k x h2⟩))
theorem newH.into {P : Program} {g : GI} {w w' : World} {hG : g.G w} {H H2 : Hp} (h : St (mkC P g w hG) H w') (hc : Into (mkC P g w hG) H H2) : newH w w' H2 := newH.of (hc w' h)

/-- A key's value is laid, in a literal. -/
theorem OthU.ins {α : Type} [DecidableEq α] {kv : α → Value} {d : TypeDesc} {T : Ty} {fr : Fr} {dst : Option Nat} {ty : TypeId} {pos : String} {after : Array Edge} {gd : Option (Nat × Bool)} {t kt et : TypeId} {x i y : Operand} {b : Nat} {k : α} {l l' : List (α × Value)} {f : Obj → Hp} {v : Value} {K : Value → Hp → Prop} (hk : KeyK d kv) (hT : TOk c.P T) [ho : ObjAt b H (mobj kv l) f]
    (hx : evK fr x fun v => v = .map (some b)) (hi : evK fr i fun v => v = kv k) (hy : evK fr y fun u => u = v) (ht : (lookT T t).d = .map kt et) (hkt : (lookT T kt).d = d) (hd : d ≠ .invalid) (hl' : mput k v l = l')
    (kk : K undef (f (mobj kv l'))) : OthU c ⟨dst, .insert t x i y, ty, pos, after, gd⟩ fr H K := ⟨fun w hw => by
  rw [evK_eq] at hx hi hy
  have hu := (lookT_ok hT (t := t) (by rw [ht]; intro h; cases h)).1
  have hku := (lookT_ok hT (t := kt) (by rw [hkt]; exact hd)).1
  rw [ht] at hu
  rw [hkt] at hku
  have hb : w.heap[b]? = some (.map ⟨mkEs kv 0 l⟩ l.length) := ho.holds hw
  refine ⟨_, _, ?_, ho.put hw (o' := mobj kv l'), kk⟩
  have hr := run_mapUpd (k := k) (v := v) hk hu hku hb
  rw [hl'] at hr
  generalize (act fr).eval = ρ at *
  simp only [execOp, hx, hi, hy, Sem.run_bind, hr, Result.andThen_ok, Sem.run_pure]⟩

/-! ## Parts of a body: each has bytes of its own -/
structure Prt where
  A : Option Addr
  cp : Nat
  l : List UInt8
  f : Bool
def Prt.row (e : Nat) (q : Prt) : Ent := .row (.slice q.A q.l.length q.cp) e 1 q.l.length (q.l.map byteV)
def rowsP (e : Nat) (ps : List Prt) : Hp := ps.map (Prt.row e)
def pcells : List Prt → List Value
  | [] => []
  | q :: r => .slice q.A q.l.length q.cp :: .bool q.f :: pcells r
def pure1 (q : Prt) : List UInt8 × Bool := (q.l, q.f)
theorem pcells_length : ∀ ps : List Prt, (pcells ps).length = ps.length * 2
  | [] => rfl
  | q :: r => by simp only [pcells, List.length_cons, pcells_length r]; omega
theorem pcells_append : ∀ a b : List Prt, pcells (a ++ b) = pcells a ++ pcells b
  | [], _ => rfl
  | q :: a, b => by simp only [List.cons_append, pcells, pcells_append a b]
theorem pcells_at : ∀ (l : List Prt) (k : Nat) (h : k < l.length), (pcells l)[k * 2]? = some (.slice l[k].A l[k].l.length l[k].cp) ∧ (pcells l)[k * 2 + 1]? = some (.bool l[k].f) ∧ ((pcells l).drop (k * 2)).take 2 = [.slice l[k].A l[k].l.length l[k].cp, .bool l[k].f]
  | q :: r, 0, _ => ⟨rfl, rfl, rfl⟩
  | q :: r, k + 1, h => by
    have ih := pcells_at r k (by simpa using h)
    rw [show (k + 1) * 2 = k * 2 + 1 + 1 by omega]
    simp only [pcells, List.getElem?_cons_succ, List.drop_succ_cons, List.getElem_cons_succ]
    exact ih
theorem pcells_one {ps : List Prt} : ∀ u ∈ pcells ps, u.oneCell' = true := by
  induction ps with
  | nil => intro u h; cases h
  | cons q r ih =>
    intro u h
    simp only [pcells, List.mem_cons] at h
    rcases h with rfl | rfl | h
    · rfl
    · rfl
    · exact ih u h
theorem Prt.rd {e : Nat} {ps : List Prt} {q : Prt} (h : q ∈ ps) : RdS c (rowsP e ps) q.A (q.l.map byteV) :=
  RdS.sub (H := [q.row e]) RdS.here (List.singleton_sublist.2 (List.mem_map_of_mem h))
theorem rowsP_app {e : Nat} {a b : List Prt} : rowsP e (a ++ b) = rowsP e a ++ rowsP e b := List.map_append
theorem Cv.snoc {e : Nat} {ps : List Prt} {q : Prt} (h : Cv H (q.row e :: rowsP e ps)) : Cv H (rowsP e (ps ++ [q])) :=
  h.trans (.of (by rw [rowsP_app]; exact (List.perm_append_comm (l₁ := [q.row e]) (l₂ := rowsP e ps))))
theorem Cv.close {e : Nat} {ps : List Prt} {q : Prt} {X : Hp} : Cv (q.row e :: (X ++ rowsP e ps)) (X ++ rowsP e (ps ++ [q])) :=
  .of (by
    rw [rowsP_app, ← List.append_assoc]
    exact (List.perm_append_comm (l₁ := [q.row e]) (l₂ := X ++ rowsP e ps)))
end
end Go.Proofs.YtmdmmncoigeijaaGreatDoor.Vex
/- The text of a head, by the program and by the document, reckoned; HeadWrites. -/
namespace Go.Proofs.YtmdmmncoigeijaaGreatDoor.Vex
open Go Go.RowKit
set_option maxRecDepth 100000
set_option linter.unusedSectionVars false
variable {gI : GI} [HasMax gI] [HasErr gI] [HasPow gI]

theorem HText_f (r : Rq) (FA : Option Addr) (Fc : Nat) (F : List Fld) (bv : Value) (hm : r.m.length ≤ 1000000) (hp : r.p.length ≤ 1000000) (hq : r.q.length ≤ 1000000) (h0 : -9223372036854775808 ≤ r.v) (h1 : r.v ≤ 9223372036854775807) (hF : fsum F ≤ 1048576) :
    FnR Tryz.prog gI 19 [.agg ⟨[str r.m, str r.p, str r.q, .int .i64 r.v, .slice FA F.length Fc, bv]⟩] [(FA, fcells F)] (.tuple #[str (textS r F), .int .i64 (textE r F)]) := by
  have hFl := fsum_length F
  have bad : headOK r F = false → Value.tuple #[str (textS r F), .int .i64 (textE r F)] = .tuple #[str [], .int .i64 3] := fun h => by unfold textS textE; rw [h]; rfl
  refine FnE.of tys_ok Tryz.func19 rfl (by kernel_rfl) rfl rfl ?_; intro w hG hP
  have hRF : ∀ H, RdA (mkC Tryz.prog gI w hG) H FA (fcells F) := fun H => ⟨hP.1.now⟩
  (conv => whnf); repeat ((first | refine tk1 ?_ | refine tk2 ?_ | refine tk3 ?_ | refine tk12 (fun _ => ?_) | refine tk4 ?_ | refine tk5 ?_ | refine tk6 ?_ | refine tk7 ?_ | refine tk8 ?_ | refine tk9 ?_ | refine tk10 (fun _ _ => ?_) | refine tk11 (fun _ => ?_) | refine tk13 ?_ | refine tk14 ?_); (conv => whnf))
  rename_i b1
  refine CallK.fn (LWrite_f r _ _ hm hp hq h0 h1) ?_
  cases hw9 : writeOK r
  · rw [bad (by unfold headOK; rw [hw9]; rfl), show writeS r = [] by unfold writeS; rw [hw9]; rfl, show writeE r = 3 by unfold writeE; rw [hw9]; rfl]
    (conv => whnf); repeat ((first | refine tk1 ?_ | refine tk2 ?_ | refine tk3 ?_ | refine tk12 (fun _ => ?_) | refine tk4 ?_ | refine tk5 ?_ | refine tk6 ?_ | refine tk7 ?_ | refine tk8 ?_ | refine tk9 ?_ | refine tk10 (fun _ _ => ?_) | refine tk11 (fun _ => ?_) | refine tk13 ?_ | refine tk14 ?_); (conv => whnf))
    exact fun w' _ => rfl
  have hwl : (writeL r).length ≤ 4096 := by
    unfold writeOK at hw9
    simp only [Bool.and_eq_true, decide_eq_true_eq] at hw9
    exact hw9.2
  rw [show writeS r = writeL r by unfold writeS; rw [hw9]; rfl, show writeE r = 0 by unfold writeE; rw [hw9]; rfl]
  (conv => whnf); repeat ((first | refine tk1 ?_ | refine tk2 ?_ | refine tk3 ?_ | refine tk12 (fun _ => ?_) | refine tk4 ?_ | refine tk5 ?_ | refine tk6 ?_ | refine tk7 ?_ | refine tk8 ?_ | refine tk9 ?_ | refine tk10 (fun _ _ => ?_) | refine tk11 (fun _ => ?_) | refine tk13 ?_ | refine tk14 ?_); (conv => whnf))
  rename_i b20
  refine LoopS.lp tys_ok (fun (x : Nat × Option Addr × Nat) u => [u 0, u 1, u 2, u 3, u 4, u 5, .slice x.2.1 (writeL r :: linesOf (F.take x.1)).length x.2.2, u 7, u 8, u 9, u 10, u 11, u 12, u 13, u 14, u 15, u 16, u 17, u 18, u 19, u 20, u 21, .slice FA F.length Fc, .int .i64 F.length, .int .i64 (x.1 : Nat), u 25, u 26, u 27, u 28, u 29, u 30, u 31, u 32, u 33, u 34, u 35, u 36, u 37, u 38, u 39, u 40, u 41, u 42, u 43, u 44])
    (fun x => [.row (.slice x.2.1 (writeL r :: linesOf (F.take x.1)).length x.2.2) 9 1 (writeL r :: linesOf (F.take x.1)).length ((writeL r :: linesOf (F.take x.1)).map str)])
    (fun x => x.1 ≤ F.length ∧ ∀ f ∈ F.take x.1, fieldOK f.1 f.2 = true) (fun x => F.length - x.1) (0, some ⟨b20, 0, none⟩, 1) ⟨Nat.zero_le _, fun f h => by simp at h⟩ rfl (by repeat' (first | exact List.Sublist.refl _ | exact List.nil_sublist _ | apply List.Sublist.cons_cons | apply List.Sublist.cons)) ?_
  rintro ⟨k, A, cp⟩ u ⟨hk, hok⟩
  dsimp only at hk hok ⊢
  have hll : (linesOf (F.take k)).length ≤ k := by unfold linesOf; rw [List.length_map, List.length_take]; omega
  (conv => whnf); repeat ((first | refine tk1 ?_ | refine tk2 ?_ | refine tk3 ?_ | refine tk12 (fun _ => ?_) | refine tk4 ?_ | refine tk5 ?_ | refine tk6 ?_ | refine tk7 ?_ | refine tk8 ?_ | refine tk9 ?_ | refine tk10 (fun _ _ => ?_) | refine tk11 (fun _ => ?_) | refine tk13 ?_ | refine tk14 ?_); (conv => whnf))
  refine Cmp.cases (fun hlt => ?_) (fun hlt => ?_)
  · have hlt' : k < F.length := by omega
    have f2 := fcells_two F k hlt'
    have hmem := List.getElem_mem hlt'
    have htk := linesOf_take F k hlt'
    have hft : F.take (k + 1) = F.take k ++ [F[k]] := List.take_succ_eq_append_getElem hlt'
    obtain ⟨n, v, hf⟩ : ∃ n v, F[k] = (n, v) := ⟨_, _, rfl⟩
    rw [hf] at f2 hmem htk hft
    have hz := fsum_mem hmem
    dsimp only at hz htk f2
    (conv => whnf); repeat ((first | refine tk1 ?_ | refine tk2 ?_ | refine tk3 ?_ | refine tk12 (fun _ => ?_) | refine tk4 ?_ | refine tk5 ?_ | refine tk6 ?_ | refine tk7 ?_ | refine tk8 ?_ | refine tk9 ?_ | refine tk10 (fun _ _ => ?_) | refine tk11 (fun _ => ?_) | refine tk13 ?_ | refine tk14 ?_); (conv => whnf))
    refine IdxA.tc (by rw [fcells_length]; omega) (by omega) (by omega) ?_
    (conv => whnf); repeat ((first | refine tk1 ?_ | refine tk2 ?_ | refine tk3 ?_ | refine tk12 (fun _ => ?_) | refine tk4 ?_ | refine tk5 ?_ | refine tk6 ?_ | refine tk7 ?_ | refine tk8 ?_ | refine tk9 ?_ | refine tk10 (fun _ _ => ?_) | refine tk11 (fun _ => ?_) | refine tk13 ?_ | refine tk14 ?_); (conv => whnf))
    refine Ld.taN f2 rfl ?_
    (conv => whnf); repeat ((first | refine tk1 ?_ | refine tk2 ?_ | refine tk3 ?_ | refine tk12 (fun _ => ?_) | refine tk4 ?_ | refine tk5 ?_ | refine tk6 ?_ | refine tk7 ?_ | refine tk8 ?_ | refine tk9 ?_ | refine tk10 (fun _ _ => ?_) | refine tk11 (fun _ => ?_) | refine tk13 ?_ | refine tk14 ?_); (conv => whnf))
    refine CallK.fn (Line_f n v (by omega)) ?_
    cases hfo : fieldOK n v
    · rw [bad (by unfold headOK; rw [List.all_eq_false.2 ⟨(n, v), hmem, by rw [hfo]; exact Bool.false_ne_true⟩]; simp), show lineOf n v = [] by unfold lineOf; rw [hfo]; rfl, show fieldE n v = 3 by unfold fieldE; rw [hfo]; rfl]
      (conv => whnf); repeat ((first | refine tk1 ?_ | refine tk2 ?_ | refine tk3 ?_ | refine tk12 (fun _ => ?_) | refine tk4 ?_ | refine tk5 ?_ | refine tk6 ?_ | refine tk7 ?_ | refine tk8 ?_ | refine tk9 ?_ | refine tk10 (fun _ _ => ?_) | refine tk11 (fun _ => ?_) | refine tk13 ?_ | refine tk14 ?_); (conv => whnf))
      exact fun w' _ => rfl
    · rw [show fieldE n v = 0 by unfold fieldE; rw [hfo]; rfl]
      (conv => whnf); repeat ((first | refine tk1 ?_ | refine tk2 ?_ | refine tk3 ?_ | refine tk12 (fun _ => ?_) | refine tk4 ?_ | refine tk5 ?_ | refine tk6 ?_ | refine tk7 ?_ | refine tk8 ?_ | refine tk9 ?_ | refine tk10 (fun _ _ => ?_) | refine tk11 (fun _ => ?_) | refine tk13 ?_ | refine tk14 ?_); (conv => whnf))
      refine AppS.tc (m := 1) (news := [str (lineOf n v)]) SrcK.tc rfl (by simp [Value.oneCell']) (by decide) (by simp only [List.length_cons]; omega) (by simp only [List.length_cons]; omega) (zs := (writeL r :: linesOf (F.take (k + 1))).map str) (by rw [htk]; simp) (fun A' cp' => ?_)
      rw [show (writeL r :: linesOf (F.take k)).length + 1 = (writeL r :: linesOf (F.take (k + 1))).length by rw [htk]; simp]
      (conv => whnf); repeat ((first | refine tk1 ?_ | refine tk2 ?_ | refine tk3 ?_ | refine tk12 (fun _ => ?_) | refine tk4 ?_ | refine tk5 ?_ | refine tk6 ?_ | refine tk7 ?_ | refine tk8 ?_ | refine tk9 ?_ | refine tk10 (fun _ _ => ?_) | refine tk11 (fun _ => ?_) | refine tk13 ?_ | refine tk14 ?_); (conv => whnf))
      exact ⟨(k + 1, A', cp'), ⟨by dsimp only; omega, fun f hm => by
        dsimp only at hm
        rw [hft] at hm
        rcases List.mem_append.1 hm with h | h
        · exact hok f h
        · rw [List.mem_singleton.1 h]; exact hfo⟩, rfl, (by repeat' (first | exact List.Sublist.refl _ | exact List.nil_sublist _ | apply List.Sublist.cons_cons | apply List.Sublist.cons)), by dsimp only; omega⟩
  · have ht : F.take k = F := List.take_of_length_le (by omega)
    rw [ht] at hok hll ⊢
    have hho : headOK r F = true := by unfold headOK; rw [hw9, List.all_eq_true.2 hok]; rfl
    have hcl := catL_le F
    have hjc := join_cat (writeL r) (linesOf F)
    have hjl := congrArg List.length hjc
    have hc2 : crlf.length = 2 := rfl
    simp only [List.length_append, hc2] at hjl
    rw [show textS r F = (Lib.join (writeL r :: linesOf F) crlf ++ crlf) ++ crlf by unfold textS headL; rw [hho, hjc]; rfl, show textE r F = 0 by unfold textE; rw [hho]; rfl]
    (conv => whnf); repeat ((first | refine tk1 ?_ | refine tk2 ?_ | refine tk3 ?_ | refine tk12 (fun _ => ?_) | refine tk4 ?_ | refine tk5 ?_ | refine tk6 ?_ | refine tk7 ?_ | refine tk8 ?_ | refine tk9 ?_ | refine tk10 (fun _ _ => ?_) | refine tk11 (fun _ => ?_) | refine tk13 ?_ | refine tk14 ?_); (conv => whnf))
    refine CallK.fnEV (Join_f A cp (writeL r :: linesOf F) crlf (by simp only [List.length_cons]; omega) (by omega)) (fun w1 hw1 => ⟨RdA.ok w1 hw1, (RowAt.cap (A := A) RowAt.here hw1).2⟩) ?_
    (conv => whnf); repeat ((first | refine tk1 ?_ | refine tk2 ?_ | refine tk3 ?_ | refine tk12 (fun _ => ?_) | refine tk4 ?_ | refine tk5 ?_ | refine tk6 ?_ | refine tk7 ?_ | refine tk8 ?_ | refine tk9 ?_ | refine tk10 (fun _ _ => ?_) | refine tk11 (fun _ => ?_) | refine tk13 ?_ | refine tk14 ?_); (conv => whnf))
    refine CatS.at (by show _ + 2 ≤ _; omega) ?_
    (conv => whnf); repeat ((first | refine tk1 ?_ | refine tk2 ?_ | refine tk3 ?_ | refine tk12 (fun _ => ?_) | refine tk4 ?_ | refine tk5 ?_ | refine tk6 ?_ | refine tk7 ?_ | refine tk8 ?_ | refine tk9 ?_ | refine tk10 (fun _ _ => ?_) | refine tk11 (fun _ => ?_) | refine tk13 ?_ | refine tk14 ?_); (conv => whnf))
    refine CatS.at (by show (_ ++ crlf).length + 2 ≤ _; rw [List.length_append, hc2]; omega) ?_
    (conv => whnf); repeat ((first | refine tk1 ?_ | refine tk2 ?_ | refine tk3 ?_ | refine tk12 (fun _ => ?_) | refine tk4 ?_ | refine tk5 ?_ | refine tk6 ?_ | refine tk7 ?_ | refine tk8 ?_ | refine tk9 ?_ | refine tk10 (fun _ _ => ?_) | refine tk11 (fun _ => ?_) | refine tk13 ?_ | refine tk14 ?_); (conv => whnf))
    exact fun w' _ => rfl
theorem RText_r (r : Rq) (FA : Option Addr) (Fc : Nat) (F : List Fld) (bv : Value) (hm : r.m.length ≤ 1000000) (hp : r.p.length ≤ 1000000) (hq : r.q.length ≤ 1000000) (h0 : -9223372036854775808 ≤ r.v) (h1 : r.v ≤ 9223372036854775807) (hF : fsum F ≤ 1048576) :
    FnR Tryz.prog gI 20 [.agg ⟨[str r.m, str r.p, str r.q, .int .i64 r.v, .slice FA F.length Fc, bv]⟩] [(FA, fcells F)] (.tuple #[str (textS r F), .int .i64 (textE r F)]) := by
  have hFl := fsum_length F
  have hc2 : crlf.length = 2 := rfl
  have bad : headOK r F = false → Value.tuple #[str (textS r F), .int .i64 (textE r F)] = .tuple #[str [], .int .i64 3] := fun h => by unfold textS textE; rw [h]; rfl
  refine FnE.of tys_ok Tryz.func20 rfl (by kernel_rfl) rfl rfl ?_; intro w hG hP
  have hRF : ∀ H, RdA (mkC Tryz.prog gI w hG) H FA (fcells F) := fun H => ⟨hP.1.now⟩
  (conv => whnf); repeat ((first | refine tk1 ?_ | refine tk2 ?_ | refine tk3 ?_ | refine tk12 (fun _ => ?_) | refine tk4 ?_ | refine tk5 ?_ | refine tk6 ?_ | refine tk7 ?_ | refine tk8 ?_ | refine tk9 ?_ | refine tk10 (fun _ _ => ?_) | refine tk11 (fun _ => ?_) | refine tk13 ?_ | refine tk14 ?_); (conv => whnf))
  rename_i b1
  refine CallK.fn (Write_r r _ _ hm hp hq) ?_
  cases hw9 : writeOK r
  · rw [bad (by unfold headOK; rw [hw9]; rfl), show writeS r = [] by unfold writeS; rw [hw9]; rfl, show writeE r = 3 by unfold writeE; rw [hw9]; rfl]
    (conv => whnf); repeat ((first | refine tk1 ?_ | refine tk2 ?_ | refine tk3 ?_ | refine tk12 (fun _ => ?_) | refine tk4 ?_ | refine tk5 ?_ | refine tk6 ?_ | refine tk7 ?_ | refine tk8 ?_ | refine tk9 ?_ | refine tk10 (fun _ _ => ?_) | refine tk11 (fun _ => ?_) | refine tk13 ?_ | refine tk14 ?_); (conv => whnf))
    exact fun w' _ => rfl
  have hwl : (writeL r).length ≤ 4096 := by
    unfold writeOK at hw9
    simp only [Bool.and_eq_true, decide_eq_true_eq] at hw9
    exact hw9.2
  rw [show writeS r = writeL r by unfold writeS; rw [hw9]; rfl, show writeE r = 0 by unfold writeE; rw [hw9]; rfl]
  (conv => whnf); repeat ((first | refine tk1 ?_ | refine tk2 ?_ | refine tk3 ?_ | refine tk12 (fun _ => ?_) | refine tk4 ?_ | refine tk5 ?_ | refine tk6 ?_ | refine tk7 ?_ | refine tk8 ?_ | refine tk9 ?_ | refine tk10 (fun _ _ => ?_) | refine tk11 (fun _ => ?_) | refine tk13 ?_ | refine tk14 ?_); (conv => whnf))
  refine CatS.at (by show _ + 2 ≤ _; omega) ?_
  (conv => whnf); repeat ((first | refine tk1 ?_ | refine tk2 ?_ | refine tk3 ?_ | refine tk12 (fun _ => ?_) | refine tk4 ?_ | refine tk5 ?_ | refine tk6 ?_ | refine tk7 ?_ | refine tk8 ?_ | refine tk9 ?_ | refine tk10 (fun _ _ => ?_) | refine tk11 (fun _ => ?_) | refine tk13 ?_ | refine tk14 ?_); (conv => whnf))
  refine LoopS.lp tys_ok (fun (k : Nat) u => [u 0, .pointer (some ⟨b1, 0, none⟩), u 2, u 3, str (headL r (F.take k)), u 5, .int .i64 (k : Nat), u 7, u 8, u 9, u 10, u 11, u 12, u 13, u 14, u 15, u 16, u 17, u 18, u 19, u 20, u 21, u 22, u 23, u 24, u 25, u 26, u 27, u 28, u 29, u 30, u 31, u 32, u 33, u 34, u 35, u 36, u 37, u 38, u 39, u 40, u 41, u 42, u 43])
    (fun _ => [.box b1 [str r.m, str r.p, str r.q, .int .i64 r.v, .slice FA F.length Fc, bv] 28])
    (fun k => k ≤ F.length ∧ ∀ f ∈ F.take k, fieldOK f.1 f.2 = true) (fun k => F.length - k) 0 ⟨Nat.zero_le _, fun f h => by simp at h⟩ (by rw [show headL r (F.take 0) = writeL r ++ crlf by unfold headL; simp [linesOf, catL]]; rfl) (by repeat' (first | exact List.Sublist.refl _ | exact List.nil_sublist _ | apply List.Sublist.cons_cons | apply List.Sublist.cons)) ?_
  rintro k u ⟨hk, hok⟩
  have hcl := catL_le (F.take k)
  have hct := fsum_take F k
  have hhl : (headL r (F.take k)).length = (writeL r).length + 2 + (catL (linesOf (F.take k))).length := by unfold headL; simp only [List.length_append, hc2]
  (conv => whnf); repeat ((first | refine tk1 ?_ | refine tk2 ?_ | refine tk3 ?_ | refine tk12 (fun _ => ?_) | refine tk4 ?_ | refine tk5 ?_ | refine tk6 ?_ | refine tk7 ?_ | refine tk8 ?_ | refine tk9 ?_ | refine tk10 (fun _ _ => ?_) | refine tk11 (fun _ => ?_) | refine tk13 ?_ | refine tk14 ?_); (conv => whnf))
  refine Cmp.cases (fun hlt => ?_) (fun hlt => ?_)
  · have hlt' : k < F.length := by omega
    have f2 := fcells_two F k hlt'
    have hmem := List.getElem_mem hlt'
    have htk := linesOf_take F k hlt'
    have hft : F.take (k + 1) = F.take k ++ [F[k]] := List.take_succ_eq_append_getElem hlt'
    obtain ⟨n, v, hf⟩ : ∃ n v, F[k] = (n, v) := ⟨_, _, rfl⟩
    rw [hf] at f2 hmem htk hft
    have hz := fsum_mem hmem
    have hz2 := line_le n v
    dsimp only at hz htk f2
    (conv => whnf); repeat ((first | refine tk1 ?_ | refine tk2 ?_ | refine tk3 ?_ | refine tk12 (fun _ => ?_) | refine tk4 ?_ | refine tk5 ?_ | refine tk6 ?_ | refine tk7 ?_ | refine tk8 ?_ | refine tk9 ?_ | refine tk10 (fun _ _ => ?_) | refine tk11 (fun _ => ?_) | refine tk13 ?_ | refine tk14 ?_); (conv => whnf))
    refine IdxA.tc (by rw [fcells_length]; omega) (by omega) (by omega) ?_
    (conv => whnf); repeat ((first | refine tk1 ?_ | refine tk2 ?_ | refine tk3 ?_ | refine tk12 (fun _ => ?_) | refine tk4 ?_ | refine tk5 ?_ | refine tk6 ?_ | refine tk7 ?_ | refine tk8 ?_ | refine tk9 ?_ | refine tk10 (fun _ _ => ?_) | refine tk11 (fun _ => ?_) | refine tk13 ?_ | refine tk14 ?_); (conv => whnf))
    refine Ld.taN f2 rfl ?_
    (conv => whnf); repeat ((first | refine tk1 ?_ | refine tk2 ?_ | refine tk3 ?_ | refine tk12 (fun _ => ?_) | refine tk4 ?_ | refine tk5 ?_ | refine tk6 ?_ | refine tk7 ?_ | refine tk8 ?_ | refine tk9 ?_ | refine tk10 (fun _ _ => ?_) | refine tk11 (fun _ => ?_) | refine tk13 ?_ | refine tk14 ?_); (conv => whnf))
    refine CallK.fn (Line_r n v) ?_
    cases hfo : fieldOK n v
    · rw [bad (by unfold headOK; rw [List.all_eq_false.2 ⟨(n, v), hmem, by rw [hfo]; exact Bool.false_ne_true⟩]; simp), show lineOf n v = [] by unfold lineOf; rw [hfo]; rfl, show fieldE n v = 3 by unfold fieldE; rw [hfo]; rfl]
      (conv => whnf); repeat ((first | refine tk1 ?_ | refine tk2 ?_ | refine tk3 ?_ | refine tk12 (fun _ => ?_) | refine tk4 ?_ | refine tk5 ?_ | refine tk6 ?_ | refine tk7 ?_ | refine tk8 ?_ | refine tk9 ?_ | refine tk10 (fun _ _ => ?_) | refine tk11 (fun _ => ?_) | refine tk13 ?_ | refine tk14 ?_); (conv => whnf))
      exact fun w' _ => rfl
    · rw [show fieldE n v = 0 by unfold fieldE; rw [hfo]; rfl]
      have hnx : headL r (F.take (k + 1)) = (headL r (F.take k) ++ lineOf n v) ++ crlf := by unfold headL; rw [htk, catL_snoc]; simp only [List.append_assoc]
      (conv => whnf); repeat ((first | refine tk1 ?_ | refine tk2 ?_ | refine tk3 ?_ | refine tk12 (fun _ => ?_) | refine tk4 ?_ | refine tk5 ?_ | refine tk6 ?_ | refine tk7 ?_ | refine tk8 ?_ | refine tk9 ?_ | refine tk10 (fun _ _ => ?_) | refine tk11 (fun _ => ?_) | refine tk13 ?_ | refine tk14 ?_); (conv => whnf))
      refine CatS.at (by omega) ?_
      (conv => whnf); repeat ((first | refine tk1 ?_ | refine tk2 ?_ | refine tk3 ?_ | refine tk12 (fun _ => ?_) | refine tk4 ?_ | refine tk5 ?_ | refine tk6 ?_ | refine tk7 ?_ | refine tk8 ?_ | refine tk9 ?_ | refine tk10 (fun _ _ => ?_) | refine tk11 (fun _ => ?_) | refine tk13 ?_ | refine tk14 ?_); (conv => whnf))
      refine CatS.at (by rw [List.length_append]; show _ + 2 ≤ _; omega) ?_
      (conv => whnf); repeat ((first | refine tk1 ?_ | refine tk2 ?_ | refine tk3 ?_ | refine tk12 (fun _ => ?_) | refine tk4 ?_ | refine tk5 ?_ | refine tk6 ?_ | refine tk7 ?_ | refine tk8 ?_ | refine tk9 ?_ | refine tk10 (fun _ _ => ?_) | refine tk11 (fun _ => ?_) | refine tk13 ?_ | refine tk14 ?_); (conv => whnf))
      exact ⟨k + 1, ⟨by omega, fun f hm => by
        rw [hft] at hm
        rcases List.mem_append.1 hm with h | h
        · exact hok f h
        · rw [List.mem_singleton.1 h]; exact hfo⟩, by dsimp only; rw [hnx]; rfl, (by repeat' (first | exact List.Sublist.refl _ | exact List.nil_sublist _ | apply List.Sublist.cons_cons | apply List.Sublist.cons)), by dsimp only; omega⟩
  · have ht : F.take k = F := List.take_of_length_le (by omega)
    rw [ht] at hok hhl hcl ⊢
    have hho : headOK r F = true := by unfold headOK; rw [hw9, List.all_eq_true.2 hok]; rfl
    rw [show textS r F = headL r F ++ crlf by unfold textS; rw [hho]; rfl, show textE r F = 0 by unfold textE; rw [hho]; rfl]
    (conv => whnf); repeat ((first | refine tk1 ?_ | refine tk2 ?_ | refine tk3 ?_ | refine tk12 (fun _ => ?_) | refine tk4 ?_ | refine tk5 ?_ | refine tk6 ?_ | refine tk7 ?_ | refine tk8 ?_ | refine tk9 ?_ | refine tk10 (fun _ _ => ?_) | refine tk11 (fun _ => ?_) | refine tk13 ?_ | refine tk14 ?_); (conv => whnf))
    refine CatS.at (by show _ + 2 ≤ _; omega) ?_
    (conv => whnf); repeat ((first | refine tk1 ?_ | refine tk2 ?_ | refine tk3 ?_ | refine tk12 (fun _ => ?_) | refine tk4 ?_ | refine tk5 ?_ | refine tk6 ?_ | refine tk7 ?_ | refine tk8 ?_ | refine tk9 ?_ | refine tk10 (fun _ _ => ?_) | refine tk11 (fun _ => ?_) | refine tk13 ?_ | refine tk14 ?_); (conv => whnf))
    exact fun w' _ => rfl
theorem Great20_b (m p q : List UInt8) (v : Int) (FA : Option Addr) (Fc : Nat) (F : List Fld) (bv : Value) :
    FnE Tryz.prog gI 18 [.agg ⟨[str m, str p, str q, .int .i64 v, .slice FA F.length Fc, bv]⟩] (fun w => RdL w [(FA, fcells F)]) fun _ v _ => ∃ b, v = .bool b := by
  refine FnE.of tys_ok Tryz.func18 rfl (by kernel_rfl) rfl rfl ?_; intro w hG hP
  have hRF : ∀ H, RdA (mkC Tryz.prog gI w hG) H FA (fcells F) := fun H => ⟨hP.1.now⟩
  (conv => whnf); repeat ((first | refine tk1 ?_ | refine tk2 ?_ | refine tk3 ?_ | refine tk12 (fun _ => ?_) | refine tk4 ?_ | refine tk5 ?_ | refine tk6 ?_ | refine tk7 ?_ | refine tk8 ?_ | refine tk9 ?_ | refine tk10 (fun _ _ => ?_) | refine tk11 (fun _ => ?_) | refine tk13 ?_ | refine tk14 ?_); (conv => whnf))
  refine Cmp.cases (fun g1 => ?_) (fun g1 => ?_)
  · (conv => whnf); repeat ((first | refine tk1 ?_ | refine tk2 ?_ | refine tk3 ?_ | refine tk12 (fun _ => ?_) | refine tk4 ?_ | refine tk5 ?_ | refine tk6 ?_ | refine tk7 ?_ | refine tk8 ?_ | refine tk9 ?_ | refine tk10 (fun _ _ => ?_) | refine tk11 (fun _ => ?_) | refine tk13 ?_ | refine tk14 ?_); (conv => whnf))
    exact fun w' _ => ⟨_, rfl⟩
  (conv => whnf); repeat ((first | refine tk1 ?_ | refine tk2 ?_ | refine tk3 ?_ | refine tk12 (fun _ => ?_) | refine tk4 ?_ | refine tk5 ?_ | refine tk6 ?_ | refine tk7 ?_ | refine tk8 ?_ | refine tk9 ?_ | refine tk10 (fun _ _ => ?_) | refine tk11 (fun _ => ?_) | refine tk13 ?_ | refine tk14 ?_); (conv => whnf))
  refine Cmp.cases (fun g1 => ?_) (fun g1 => ?_)
  · (conv => whnf); repeat ((first | refine tk1 ?_ | refine tk2 ?_ | refine tk3 ?_ | refine tk12 (fun _ => ?_) | refine tk4 ?_ | refine tk5 ?_ | refine tk6 ?_ | refine tk7 ?_ | refine tk8 ?_ | refine tk9 ?_ | refine tk10 (fun _ _ => ?_) | refine tk11 (fun _ => ?_) | refine tk13 ?_ | refine tk14 ?_); (conv => whnf))
    exact fun w' _ => ⟨_, rfl⟩
  (conv => whnf); repeat ((first | refine tk1 ?_ | refine tk2 ?_ | refine tk3 ?_ | refine tk12 (fun _ => ?_) | refine tk4 ?_ | refine tk5 ?_ | refine tk6 ?_ | refine tk7 ?_ | refine tk8 ?_ | refine tk9 ?_ | refine tk10 (fun _ _ => ?_) | refine tk11 (fun _ => ?_) | refine tk13 ?_ | refine tk14 ?_); (conv => whnf))
  refine Cmp.cases (fun g1 => ?_) (fun g1 => ?_)
  · (conv => whnf); repeat ((first | refine tk1 ?_ | refine tk2 ?_ | refine tk3 ?_ | refine tk12 (fun _ => ?_) | refine tk4 ?_ | refine tk5 ?_ | refine tk6 ?_ | refine tk7 ?_ | refine tk8 ?_ | refine tk9 ?_ | refine tk10 (fun _ _ => ?_) | refine tk11 (fun _ => ?_) | refine tk13 ?_ | refine tk14 ?_); (conv => whnf))
    exact fun w' _ => ⟨_, rfl⟩
  (conv => whnf); repeat ((first | refine tk1 ?_ | refine tk2 ?_ | refine tk3 ?_ | refine tk12 (fun _ => ?_) | refine tk4 ?_ | refine tk5 ?_ | refine tk6 ?_ | refine tk7 ?_ | refine tk8 ?_ | refine tk9 ?_ | refine tk10 (fun _ _ => ?_) | refine tk11 (fun _ => ?_) | refine tk13 ?_ | refine tk14 ?_); (conv => whnf))
  refine CallK.fnAny (Great18_b FA Fc F) (fun w1 hw1 => (hRF _).ok w1 hw1) (fun b1 => ?_)
  (conv => whnf); repeat ((first | refine tk1 ?_ | refine tk2 ?_ | refine tk3 ?_ | refine tk12 (fun _ => ?_) | refine tk4 ?_ | refine tk5 ?_ | refine tk6 ?_ | refine tk7 ?_ | refine tk8 ?_ | refine tk9 ?_ | refine tk10 (fun _ _ => ?_) | refine tk11 (fun _ => ?_) | refine tk13 ?_ | refine tk14 ?_); (conv => whnf))
  exact fun w' _ => ⟨_, rfl⟩
theorem Great20_t (m p q : List UInt8) (v : Int) (FA : Option Addr) (Fc : Nat) (F : List Fld) (bv : Value) (h : ¬ (m.length ≤ 3000 ∧ p.length ≤ 3000 ∧ q.length ≤ 3000)) :
    Fn Tryz.prog gI 18 [.agg ⟨[str m, str p, str q, .int .i64 v, .slice FA F.length Fc, bv]⟩] (.bool true) := by
  refine Fn.of tys_ok Tryz.func18 rfl (by kernel_rfl) rfl rfl ?_; intro w hG
  (conv => whnf); repeat ((first | refine tk1 ?_ | refine tk2 ?_ | refine tk3 ?_ | refine tk12 (fun _ => ?_) | refine tk4 ?_ | refine tk5 ?_ | refine tk6 ?_ | refine tk7 ?_ | refine tk8 ?_ | refine tk9 ?_ | refine tk10 (fun _ _ => ?_) | refine tk11 (fun _ => ?_) | refine tk13 ?_ | refine tk14 ?_); (conv => whnf))
  refine Cmp.cases (fun g1 => ?_) (fun g1 => ?_)
  · (conv => whnf); repeat ((first | refine tk1 ?_ | refine tk2 ?_ | refine tk3 ?_ | refine tk12 (fun _ => ?_) | refine tk4 ?_ | refine tk5 ?_ | refine tk6 ?_ | refine tk7 ?_ | refine tk8 ?_ | refine tk9 ?_ | refine tk10 (fun _ _ => ?_) | refine tk11 (fun _ => ?_) | refine tk13 ?_ | refine tk14 ?_); (conv => whnf))
  (conv => whnf); repeat ((first | refine tk1 ?_ | refine tk2 ?_ | refine tk3 ?_ | refine tk12 (fun _ => ?_) | refine tk4 ?_ | refine tk5 ?_ | refine tk6 ?_ | refine tk7 ?_ | refine tk8 ?_ | refine tk9 ?_ | refine tk10 (fun _ _ => ?_) | refine tk11 (fun _ => ?_) | refine tk13 ?_ | refine tk14 ?_); (conv => whnf))
  refine Cmp.cases (fun g2 => ?_) (fun g2 => ?_)
  · (conv => whnf); repeat ((first | refine tk1 ?_ | refine tk2 ?_ | refine tk3 ?_ | refine tk12 (fun _ => ?_) | refine tk4 ?_ | refine tk5 ?_ | refine tk6 ?_ | refine tk7 ?_ | refine tk8 ?_ | refine tk9 ?_ | refine tk10 (fun _ _ => ?_) | refine tk11 (fun _ => ?_) | refine tk13 ?_ | refine tk14 ?_); (conv => whnf))
  (conv => whnf); repeat ((first | refine tk1 ?_ | refine tk2 ?_ | refine tk3 ?_ | refine tk12 (fun _ => ?_) | refine tk4 ?_ | refine tk5 ?_ | refine tk6 ?_ | refine tk7 ?_ | refine tk8 ?_ | refine tk9 ?_ | refine tk10 (fun _ _ => ?_) | refine tk11 (fun _ => ?_) | refine tk13 ?_ | refine tk14 ?_); (conv => whnf))
theorem HeadWrites_v (x : Req) (hv : -9223372036854775808 ≤ x.v ∧ x.v ≤ 9223372036854775807) (hF : fsum x.F.l ≤ 1048576) : FnR Tryz.prog gI 4 [.agg ⟨x.cells⟩] [(x.F.A, fcells x.F.l)] (.bool true) := by
  obtain ⟨m, p, q, v, ⟨FA, Fc, F⟩, ⟨BA, Bc, B⟩⟩ := x
  unfold Req.cells
  dsimp only at hv hF ⊢
  refine FnE.of tys_ok Tryz.func4 rfl (by kernel_rfl) rfl rfl ?_; intro w hG hP
  have hRF : ∀ H, RdA (mkC Tryz.prog gI w hG) H FA (fcells F) := fun H => ⟨hP.1.now⟩
  (conv => whnf); repeat ((first | refine tk1 ?_ | refine tk2 ?_ | refine tk3 ?_ | refine tk12 (fun _ => ?_) | refine tk4 ?_ | refine tk5 ?_ | refine tk6 ?_ | refine tk7 ?_ | refine tk8 ?_ | refine tk9 ?_ | refine tk10 (fun _ _ => ?_) | refine tk11 (fun _ => ?_) | refine tk13 ?_ | refine tk14 ?_); (conv => whnf))
  by_cases hg : m.length ≤ 3000 ∧ p.length ≤ 3000 ∧ q.length ≤ 3000
  rotate_left
  · refine CallK.fn (Great20_t m p q v FA Fc F _ hg) ?_
    (conv => whnf); repeat ((first | refine tk1 ?_ | refine tk2 ?_ | refine tk3 ?_ | refine tk12 (fun _ => ?_) | refine tk4 ?_ | refine tk5 ?_ | refine tk6 ?_ | refine tk7 ?_ | refine tk8 ?_ | refine tk9 ?_ | refine tk10 (fun _ _ => ?_) | refine tk11 (fun _ => ?_) | refine tk13 ?_ | refine tk14 ?_); (conv => whnf))
    exact fun w' _ => rfl
  obtain ⟨hm, hp, hq⟩ := hg
  refine CallK.fnAny (Great20_b m p q v FA Fc F _) (fun w1 hw1 => ⟨(hRF _).ok w1 hw1, trivial⟩) (fun b => ?_)
  cases b
  · (conv => whnf); repeat ((first | refine tk1 ?_ | refine tk2 ?_ | refine tk3 ?_ | refine tk12 (fun _ => ?_) | refine tk4 ?_ | refine tk5 ?_ | refine tk6 ?_ | refine tk7 ?_ | refine tk8 ?_ | refine tk9 ?_ | refine tk10 (fun _ _ => ?_) | refine tk11 (fun _ => ?_) | refine tk13 ?_ | refine tk14 ?_); (conv => whnf))
    refine CallK.fnR (HText_f ⟨m, p, q, v⟩ FA Fc F _ (by dsimp only; omega) (by dsimp only; omega) (by dsimp only; omega) hv.1 hv.2 hF) ⟨(hRF _).ok, trivial⟩ ?_
    (conv => whnf); repeat ((first | refine tk1 ?_ | refine tk2 ?_ | refine tk3 ?_ | refine tk12 (fun _ => ?_) | refine tk4 ?_ | refine tk5 ?_ | refine tk6 ?_ | refine tk7 ?_ | refine tk8 ?_ | refine tk9 ?_ | refine tk10 (fun _ _ => ?_) | refine tk11 (fun _ => ?_) | refine tk13 ?_ | refine tk14 ?_); (conv => whnf))
    refine CallK.fnR (RText_r ⟨m, p, q, v⟩ FA Fc F _ (by dsimp only; omega) (by dsimp only; omega) (by dsimp only; omega) hv.1 hv.2 hF) ⟨(hRF _).ok, trivial⟩ ?_
    (conv => whnf); repeat ((first | refine tk1 ?_ | refine tk2 ?_ | refine tk3 ?_ | refine tk12 (fun _ => ?_) | refine tk4 ?_ | refine tk5 ?_ | refine tk6 ?_ | refine tk7 ?_ | refine tk8 ?_ | refine tk9 ?_ | refine tk10 (fun _ _ => ?_) | refine tk11 (fun _ => ?_) | refine tk13 ?_ | refine tk14 ?_); (conv => whnf))
    refine Cmp.t rfl ?_
    (conv => whnf); repeat ((first | refine tk1 ?_ | refine tk2 ?_ | refine tk3 ?_ | refine tk12 (fun _ => ?_) | refine tk4 ?_ | refine tk5 ?_ | refine tk6 ?_ | refine tk7 ?_ | refine tk8 ?_ | refine tk9 ?_ | refine tk10 (fun _ _ => ?_) | refine tk11 (fun _ => ?_) | refine tk13 ?_ | refine tk14 ?_); (conv => whnf))
    exact fun w' _ => rfl
  · (conv => whnf); repeat ((first | refine tk1 ?_ | refine tk2 ?_ | refine tk3 ?_ | refine tk12 (fun _ => ?_) | refine tk4 ?_ | refine tk5 ?_ | refine tk6 ?_ | refine tk7 ?_ | refine tk8 ?_ | refine tk9 ?_ | refine tk10 (fun _ _ => ?_) | refine tk11 (fun _ => ?_) | refine tk13 ?_ | refine tk14 ?_); (conv => whnf))
    exact fun w' _ => rfl
end Go.Proofs.YtmdmmncoigeijaaGreatDoor.Vex
/- Heads as their bytes come, as plain functions. No program in sight. -/
namespace Go.Proofs.YtmdmmncoigeijaaGreatDoor.Vex

structure Lm where
  line : Int
  head : Int
  fields : Int
  body : Int
  wait : Int
def fromB (n a b : Int) : Bool := decide (a ≤ n) && decide (n ≤ b)
def limOK (l : Lm) : Bool := fromB l.line 1 4096 && (fromB l.head 2 4096 && (fromB l.fields 0 100 && (fromB l.body 0 131072 && fromB l.wait 1 10000)))
def limE (l : Lm) : Int := if limOK l then 0 else 8
/-- A head under way: what was read, the line, whether a 13 stands at its end, how many bytes other lines had, and whether the first line has ended. -/
structure HSt where
  rq : Rq
  fs : List Fld
  text : List UInt8
  cr : Bool
  many : Nat
  ph : Bool
def hst0 : HSt := ⟨rq0, [], [], false, 0, false⟩
/-- What a byte is to a line: its end, another one of it, a status; and whether a 13 stands then. -/
structure Tk where
  e : Bool
  o : Bool
  st : Int
  cr : Bool
def takeG (cr : Bool) (x : UInt8) : Tk :=
  if cr && decide (x.toNat = 10) then ⟨true, false, 0, false⟩
  else if cr || decide (x.toNat = 10) then ⟨false, false, 400, cr⟩
  else if x.toNat = 13 then ⟨false, false, 0, true⟩
  else ⟨false, true, 0, cr⟩
def firstG (l : Lm) (s : HSt) (x : UInt8) : HSt × Int :=
  let t := takeG s.cr x
  if t.st ≠ 0 then ({ s with cr := t.cr }, t.st)
  else if t.o then (if (s.text.length : Int) = l.line then ({ s with cr := t.cr }, 414) else ({ s with cr := t.cr, text := s.text ++ [x] }, 0))
  else if t.e then (if lineSt s.text = 200 then (⟨lineR s.text, [], [], t.cr, s.many, true⟩, 0) else ({ s with cr := t.cr }, lineSt s.text))
  else ({ s with cr := t.cr }, 0)
def otherG (l : Lm) (s : HSt) (x : UInt8) : HSt × Int :=
  if (s.many : Int) = l.head then (s, 431)
  else
    let t := takeG s.cr x
    let s1 : HSt := { s with cr := t.cr, many := s.many + 1 }
    if t.st ≠ 0 then (s1, t.st)
    else if t.o then ({ s1 with text := s.text ++ [x] }, 0)
    else if t.e then
      if s.text = [] then (s1, 200)
      else if (s.fs.length : Int) = l.fields then (s1, 431)
      else if parseE s.text = 0 then ({ s1 with fs := s.fs ++ [(parseN s.text, parseV s.text)], text := [] }, 0)
      else (s1, 400)
    else (s1, 0)
def stepG (l : Lm) (s : HSt) (x : UInt8) : HSt × Int := if s.ph then otherG l s x else firstG l s x
/-- What a scan tells: the request, its fields, how many bytes, and the status. -/
structure HRes where
  rq : Rq
  fs : List Fld
  used : Nat
  st : Int
deriving DecidableEq
def hres0 : HRes := ⟨rq0, [], 0, 0⟩
def scanG (l : Lm) (s : HSt) (i : Nat) : List UInt8 → HRes
  | [] => hres0
  | x :: r => if (stepG l s x).2 = 0 then scanG l (stepG l s x).1 (i + 1) r
    else if (stepG l s x).2 = 200 then ⟨(stepG l s x).1.rq, (stepG l s x).1.fs, i + 1, 200⟩ else ⟨rq0, [], 0, (stepG l s x).2⟩
def scanE (l : Lm) (b : List UInt8) : Int := if limOK l then (if b.length ≤ 131072 then 0 else 4) else 8
def scanR (l : Lm) (b : List UInt8) : HRes := if scanE l b = 0 then scanG l hst0 0 b else hres0
/-- Bounds. -/
structure HSt.Le (s : HSt) (n : Nat) : Prop where
  text : s.text.length ≤ n
  fs : s.fs.length ≤ n
  many : s.many ≤ n
theorem takeG_cases (cr : Bool) (x : UInt8) : (takeG cr x = ⟨true, false, 0, false⟩ ∧ cr = true ∧ x.toNat = 10) ∨ (takeG cr x = ⟨false, false, 400, cr⟩) ∨ (takeG cr x = ⟨false, false, 0, true⟩ ∧ cr = false ∧ x.toNat = 13) ∨ (takeG cr x = ⟨false, true, 0, false⟩ ∧ cr = false ∧ x.toNat ≠ 10 ∧ x.toNat ≠ 13) := by
  unfold takeG
  cases cr <;> by_cases h1 : x.toNat = 10 <;> by_cases h2 : x.toNat = 13 <;> simp [h1, h2]
theorem step_le {l : Lm} {s : HSt} {x : UInt8} {n : Nat} (h : s.Le n) : (stepG l s x).1.Le (n + 1) := by
  obtain ⟨h1, h2, h3⟩ := h
  unfold stepG otherG firstG
  rcases takeG_cases s.cr x with ⟨e, _, _⟩ | e | ⟨e, _, _⟩ | ⟨e, _, _, _⟩ <;> rw [e] <;> dsimp only <;> (repeat' split) <;> first | contradiction | (refine ⟨?_, ?_, ?_⟩ <;> simp <;> omega)
theorem step_ph {l : Lm} {s : HSt} {x : UInt8} (h0 : s.ph = false → s.fs = []) (h : (stepG l s x).1.ph = false) : (stepG l s x).1.fs = [] := by
  unfold stepG at h ⊢
  cases hp : s.ph
  · rw [hp] at h
    simp only [Bool.false_eq_true, if_false] at h ⊢
    unfold firstG at h ⊢
    dsimp only at h ⊢
    (repeat' split) <;> first | exact h0 hp | rfl
  · rw [hp] at h
    simp only [if_true] at h ⊢
    unfold otherG at h
    dsimp only at h
    revert h
    (repeat' split) <;> intro h <;> dsimp only at h <;> rw [hp] at h <;> cases h
end Go.Proofs.YtmdmmncoigeijaaGreatDoor.Vex
/- A walk by reckoning, part nineteen: a row that is turned to its own type. No program in sight. -/
namespace Go.Proofs.YtmdmmncoigeijaaGreatDoor.Vex
open Go Go.RowKit Go.MapKept

/-- A row's object, by its first cells. -/
def RowO (o : Obj) (xs : List Value) : Prop := ∃ cur e fz, o = .cells cur e fz ∧ cur.toList.take xs.length = xs
section
variable {c : Ctx} {T : Ty} {H : Hp} {fr : Fr} {dst : Option Nat} {ty : TypeId} {pos : String} {after : Array Edge} {gd : Option (Nat × Bool)}
theorem RowO.rd {o : Obj} {xs : List Value} (h : RowO o xs) {b : Nat} : ∀ H, RdA c (.obj b o :: H) (some ⟨b, 0, none⟩) xs := fun H => ⟨fun w hw j u hj => by
  obtain ⟨cur, e, fz, rfl, ht⟩ := h
  have ho : w.heap[b]? = some (.cells cur e fz) := (hw.own _ (List.mem_cons_self ..)).1
  refine ⟨_, rfl, ?_⟩
  have h1 : cur.toList[j]? = some u := by
    rw [← ht, List.getElem?_take] at hj
    split at hj
    · exact hj
    · cases hj
  rw [Addr.add_lit]
  show (match w.heap[b]? with | some (.cells c _ _) => c[0 + j]? | _ => none) = some u
  rw [ho]
  simpa using h1⟩
theorem Oth.same {t e : TypeId} {x : Operand} {b n cp : Nat} {e' sz n' : Nat} {xs : List Value} {H2 : Hp} {K : Value → Hp → Prop} [hr : TakeRow (.slice (some ⟨b, 0, none⟩) n cp) H e' sz n' xs H2] (hT : TOk c.P T)
    (hx : evK fr x fun v => v = .slice (some ⟨b, 0, none⟩) n cp) (ht : (lookT T t).d = .slice e) (he : (lookT T e).d = .int .u8) (k : ∀ o, RowO o xs → K (.slice (some ⟨b, 0, none⟩) n cp) (.obj b o :: H2)) :
    Oth c false ⟨dst, .convert t t x, ty, pos, after, gd⟩ fr H K := ⟨fun w hw => by
  rw [evK_eq] at hx
  have hu := (lookT_ok hT (t := t) (by rw [ht]; intro h; cases h)).1
  have hue := (lookT_ok hT (t := e) (by rw [he]; intro h; cases h)).1
  rw [ht] at hu
  rw [he] at hue
  have hw1 := hw.perm hr.ok.perm
  have hrow : RowH w (.slice (some ⟨b, 0, none⟩) n cp) e' sz n' xs := (hw1.own _ (List.mem_cons_self ..)).1
  have hbk := (hw1.own _ (List.mem_cons_self ..)).2
  obtain ⟨hl, h0 | ⟨g, cap, cur, fz, h1, hg, h2, h3, h4, h5, _⟩⟩ := hrow
  · cases h0.1
  cases h1
  have hsh : w.shape? b = some (e', cur.size) := by unfold World.shape?; rw [hg]
  obtain ⟨fz', hfz⟩ : ∃ fz', w.freeze ⟨b, cur.size, none⟩ 1 = w.putObj b (.cells cur e' fz') := by
    refine ⟨if fz.1 == fz.2 then (cur.size, cur.size + 1) else (min fz.1 cur.size, max fz.2 (cur.size + 1)), ?_⟩
    unfold World.freeze World.putObj
    rw [if_neg (by decide)]
    congr 1
    have hlt : b < w.heap.size := (hbk b rfl).1
    have hge : w.heap[b] = .cells cur e' fz := by rw [Array.getElem?_eq_getElem hlt] at hg; exact Option.some.inj hg
    apply Array.ext
    · simp
    · intro i h1 h2
      simp only [Array.getElem_modify, Array.getElem_setIfInBounds (by simpa using h1)]
      by_cases hi : b = i
      · subst hi
        rw [if_pos rfl, if_pos rfl, hge]
      · rw [if_neg hi, if_neg hi]
  have hobj : St c (.obj b (.cells cur e' fz) :: H2) w := by
    have hrest := hw1.sub (List.sublist_cons_self _ _)
    refine hrest.push hg (fun b' hb' => hbk b' hb') (fun b' hb' y hy hyb => ?_)
    have := hw1.apart
    rw [List.filterMap_cons] at this
    exact (List.nodup_cons.1 this).1 (List.mem_filterMap.2 ⟨y, hy, by rw [hyb, ← hb']; rfl⟩)
  have hrun : (convert t t (.slice (some ⟨b, 0, none⟩) n cp)).run c.P w = .ok (.slice (some ⟨b, 0, none⟩) n cp) (w.putObj b (.cells cur e' fz')) := by
    simp [convert, run_underlying hu, run_underlying hue, markStringish, hsh]
    exact hfz
  refine ⟨_, _, _, ?_, hobj.putObj (o' := .cells cur e' fz'), k _ ⟨cur, e', fz', rfl, by rw [hl]; exact h5⟩, fun h => by cases h⟩
  generalize (act fr).eval = ρ at *
  simp only [execOp, hx, Sem.run_bind, hrun, Result.andThen_ok, Sem.run_pure]⟩
end
end Go.Proofs.YtmdmmncoigeijaaGreatDoor.Vex
/- The program's functions on heads, reckoned: Check, take, first, other. -/
namespace Go.Proofs.YtmdmmncoigeijaaGreatDoor.Vex
open Go Go.RowKit
set_option maxRecDepth 100000
set_option linter.unusedSectionVars false
variable {gI : GI} [HasMax gI] [HasErr gI]

def limV (l : Lm) : Value := .agg ⟨[.int .i64 l.line, .int .i64 l.head, .int .i64 l.fields, .int .i64 l.body, .int .i64 l.wait]⟩
theorem from_f (n a b : Int) : Fn Tryz.prog gI 56 [.int .i64 n, .int .i64 a, .int .i64 b] (.bool (fromB n a b)) := by
  refine Fn.of tys_ok Tryz.func56 rfl (by kernel_rfl) rfl rfl ?_; intro w hG
  (conv => whnf); repeat ((first | refine tk1 ?_ | refine tk2 ?_ | refine tk3 ?_ | refine tk12 (fun _ => ?_) | refine tk4 ?_ | refine tk5 ?_ | refine tk6 ?_ | refine tk7 ?_ | refine tk8 ?_ | refine tk9 ?_ | refine tk10 (fun _ _ => ?_) | refine tk11 (fun _ => ?_) | refine tk13 ?_ | refine tk14 ?_); (conv => whnf))
  refine Cmp.cases (fun h1 => ?_) (fun h1 => ?_)
  · (conv => whnf); repeat ((first | refine tk1 ?_ | refine tk2 ?_ | refine tk3 ?_ | refine tk12 (fun _ => ?_) | refine tk4 ?_ | refine tk5 ?_ | refine tk6 ?_ | refine tk7 ?_ | refine tk8 ?_ | refine tk9 ?_ | refine tk10 (fun _ _ => ?_) | refine tk11 (fun _ => ?_) | refine tk13 ?_ | refine tk14 ?_); (conv => whnf))
    refine Cmp.of (decide (n ≤ b)) (by simp) ?_
    rw [show fromB n a b = decide (n ≤ b) by unfold fromB; rw [decide_eq_true (show a ≤ n by omega)]; rfl]
    (conv => whnf); repeat ((first | refine tk1 ?_ | refine tk2 ?_ | refine tk3 ?_ | refine tk12 (fun _ => ?_) | refine tk4 ?_ | refine tk5 ?_ | refine tk6 ?_ | refine tk7 ?_ | refine tk8 ?_ | refine tk9 ?_ | refine tk10 (fun _ _ => ?_) | refine tk11 (fun _ => ?_) | refine tk13 ?_ | refine tk14 ?_); (conv => whnf))
  · rw [show fromB n a b = false by unfold fromB; rw [decide_eq_false (show ¬ a ≤ n by omega)]; rfl]
    (conv => whnf); repeat ((first | refine tk1 ?_ | refine tk2 ?_ | refine tk3 ?_ | refine tk12 (fun _ => ?_) | refine tk4 ?_ | refine tk5 ?_ | refine tk6 ?_ | refine tk7 ?_ | refine tk8 ?_ | refine tk9 ?_ | refine tk10 (fun _ _ => ?_) | refine tk11 (fun _ => ?_) | refine tk13 ?_ | refine tk14 ?_); (conv => whnf))
theorem HCheck_f (l : Lm) : Fn Tryz.prog gI 24 [limV l] (.int .i64 (limE l)) := by
  unfold limE limOK limV
  refine Fn.of tys_ok Tryz.func24 rfl (by kernel_rfl) rfl rfl ?_; intro w hG
  (conv => whnf); repeat ((first | refine tk1 ?_ | refine tk2 ?_ | refine tk3 ?_ | refine tk12 (fun _ => ?_) | refine tk4 ?_ | refine tk5 ?_ | refine tk6 ?_ | refine tk7 ?_ | refine tk8 ?_ | refine tk9 ?_ | refine tk10 (fun _ _ => ?_) | refine tk11 (fun _ => ?_) | refine tk13 ?_ | refine tk14 ?_); (conv => whnf))
  refine CallK.fn (from_f l.line 1 4096) ?_
  cases fromB l.line 1 4096
  · (conv => whnf); repeat ((first | refine tk1 ?_ | refine tk2 ?_ | refine tk3 ?_ | refine tk12 (fun _ => ?_) | refine tk4 ?_ | refine tk5 ?_ | refine tk6 ?_ | refine tk7 ?_ | refine tk8 ?_ | refine tk9 ?_ | refine tk10 (fun _ _ => ?_) | refine tk11 (fun _ => ?_) | refine tk13 ?_ | refine tk14 ?_); (conv => whnf))
    rfl
  (conv => whnf); repeat ((first | refine tk1 ?_ | refine tk2 ?_ | refine tk3 ?_ | refine tk12 (fun _ => ?_) | refine tk4 ?_ | refine tk5 ?_ | refine tk6 ?_ | refine tk7 ?_ | refine tk8 ?_ | refine tk9 ?_ | refine tk10 (fun _ _ => ?_) | refine tk11 (fun _ => ?_) | refine tk13 ?_ | refine tk14 ?_); (conv => whnf))
  refine CallK.fn (from_f l.head 2 4096) ?_
  cases fromB l.head 2 4096
  · (conv => whnf); repeat ((first | refine tk1 ?_ | refine tk2 ?_ | refine tk3 ?_ | refine tk12 (fun _ => ?_) | refine tk4 ?_ | refine tk5 ?_ | refine tk6 ?_ | refine tk7 ?_ | refine tk8 ?_ | refine tk9 ?_ | refine tk10 (fun _ _ => ?_) | refine tk11 (fun _ => ?_) | refine tk13 ?_ | refine tk14 ?_); (conv => whnf))
    rfl
  (conv => whnf); repeat ((first | refine tk1 ?_ | refine tk2 ?_ | refine tk3 ?_ | refine tk12 (fun _ => ?_) | refine tk4 ?_ | refine tk5 ?_ | refine tk6 ?_ | refine tk7 ?_ | refine tk8 ?_ | refine tk9 ?_ | refine tk10 (fun _ _ => ?_) | refine tk11 (fun _ => ?_) | refine tk13 ?_ | refine tk14 ?_); (conv => whnf))
  refine CallK.fn (from_f l.fields 0 100) ?_
  cases fromB l.fields 0 100
  · (conv => whnf); repeat ((first | refine tk1 ?_ | refine tk2 ?_ | refine tk3 ?_ | refine tk12 (fun _ => ?_) | refine tk4 ?_ | refine tk5 ?_ | refine tk6 ?_ | refine tk7 ?_ | refine tk8 ?_ | refine tk9 ?_ | refine tk10 (fun _ _ => ?_) | refine tk11 (fun _ => ?_) | refine tk13 ?_ | refine tk14 ?_); (conv => whnf))
    rfl
  (conv => whnf); repeat ((first | refine tk1 ?_ | refine tk2 ?_ | refine tk3 ?_ | refine tk12 (fun _ => ?_) | refine tk4 ?_ | refine tk5 ?_ | refine tk6 ?_ | refine tk7 ?_ | refine tk8 ?_ | refine tk9 ?_ | refine tk10 (fun _ _ => ?_) | refine tk11 (fun _ => ?_) | refine tk13 ?_ | refine tk14 ?_); (conv => whnf))
  refine CallK.fn (from_f l.body 0 131072) ?_
  cases fromB l.body 0 131072
  · (conv => whnf); repeat ((first | refine tk1 ?_ | refine tk2 ?_ | refine tk3 ?_ | refine tk12 (fun _ => ?_) | refine tk4 ?_ | refine tk5 ?_ | refine tk6 ?_ | refine tk7 ?_ | refine tk8 ?_ | refine tk9 ?_ | refine tk10 (fun _ _ => ?_) | refine tk11 (fun _ => ?_) | refine tk13 ?_ | refine tk14 ?_); (conv => whnf))
    rfl
  (conv => whnf); repeat ((first | refine tk1 ?_ | refine tk2 ?_ | refine tk3 ?_ | refine tk12 (fun _ => ?_) | refine tk4 ?_ | refine tk5 ?_ | refine tk6 ?_ | refine tk7 ?_ | refine tk8 ?_ | refine tk9 ?_ | refine tk10 (fun _ _ => ?_) | refine tk11 (fun _ => ?_) | refine tk13 ?_ | refine tk14 ?_); (conv => whnf))
  refine CallK.fn (from_f l.wait 1 10000) ?_
  cases fromB l.wait 1 10000
  · (conv => whnf); repeat ((first | refine tk1 ?_ | refine tk2 ?_ | refine tk3 ?_ | refine tk12 (fun _ => ?_) | refine tk4 ?_ | refine tk5 ?_ | refine tk6 ?_ | refine tk7 ?_ | refine tk8 ?_ | refine tk9 ?_ | refine tk10 (fun _ _ => ?_) | refine tk11 (fun _ => ?_) | refine tk13 ?_ | refine tk14 ?_); (conv => whnf))
    rfl
  · (conv => whnf); repeat ((first | refine tk1 ?_ | refine tk2 ?_ | refine tk3 ?_ | refine tk12 (fun _ => ?_) | refine tk4 ?_ | refine tk5 ?_ | refine tk6 ?_ | refine tk7 ?_ | refine tk8 ?_ | refine tk9 ?_ | refine tk10 (fun _ _ => ?_) | refine tk11 (fun _ => ?_) | refine tk13 ?_ | refine tk14 ?_); (conv => whnf))
    rfl
theorem take_k {c : Ctx} (hc : Ours Tryz.prog gI c) {b : Nat} {x : UInt8} {v0 v1 v2 v3 v4 v5 v6 v7 v8 v9 v10 tv mv nv : Value} {cr : Bool} {X : Hp} {K : Value → Hp → Prop}
    (k : K (.tuple #[.bool (takeG cr x).e, .bool (takeG cr x).o, .int .i64 (takeG cr x).st]) (.box b [v0, v1, v2, v3, v4, v5, v6, v7, v8, v9, v10, tv, .bool (takeG cr x).cr, mv, nv] 106 :: X)) :
    CallK c false 94 [.pointer (some ⟨b, 0, none⟩), .int .u8 x.toNat] (.box b [v0, v1, v2, v3, v4, v5, v6, v7, v8, v9, v10, tv, .bool cr, mv, nv] 106 :: X) K := by
  obtain ⟨P, g, w0, M, hM, hG⟩ := c
  obtain ⟨rfl, rfl⟩ := hc
  have hx := x.toNat_lt
  unfold takeG at k
  refine CallK.inl tys_ok Tryz.func94 rfl (by kernel_rfl) rfl rfl ?_
  cases cr
  · simp only [Bool.false_and, Bool.false_or, Bool.false_eq_true, if_false] at k
    (conv => whnf); repeat ((first | refine tk1 ?_ | refine tk2 ?_ | refine tk3 ?_ | refine tk12 (fun _ => ?_) | refine tk4 ?_ | refine tk5 ?_ | refine tk6 ?_ | refine tk7 ?_ | refine tk8 ?_ | refine tk9 ?_ | refine tk10 (fun _ _ => ?_) | refine tk11 (fun _ => ?_) | refine tk13 ?_ | refine tk14 ?_); (conv => whnf))
    refine Cmp.cases (fun h1 => ?_) (fun h1 => ?_)
    · rw [if_pos (by simpa using (show x.toNat = 10 by omega))] at k
      (conv => whnf); repeat ((first | refine tk1 ?_ | refine tk2 ?_ | refine tk3 ?_ | refine tk12 (fun _ => ?_) | refine tk4 ?_ | refine tk5 ?_ | refine tk6 ?_ | refine tk7 ?_ | refine tk8 ?_ | refine tk9 ?_ | refine tk10 (fun _ _ => ?_) | refine tk11 (fun _ => ?_) | refine tk13 ?_ | refine tk14 ?_); (conv => whnf))
      exact k
    · rw [if_neg (by simpa using (show ¬ x.toNat = 10 by omega))] at k
      (conv => whnf); repeat ((first | refine tk1 ?_ | refine tk2 ?_ | refine tk3 ?_ | refine tk12 (fun _ => ?_) | refine tk4 ?_ | refine tk5 ?_ | refine tk6 ?_ | refine tk7 ?_ | refine tk8 ?_ | refine tk9 ?_ | refine tk10 (fun _ _ => ?_) | refine tk11 (fun _ => ?_) | refine tk13 ?_ | refine tk14 ?_); (conv => whnf))
      refine Cmp.cases (fun h2 => ?_) (fun h2 => ?_)
      · rw [if_pos (show x.toNat = 13 by omega)] at k
        (conv => whnf); repeat ((first | refine tk1 ?_ | refine tk2 ?_ | refine tk3 ?_ | refine tk12 (fun _ => ?_) | refine tk4 ?_ | refine tk5 ?_ | refine tk6 ?_ | refine tk7 ?_ | refine tk8 ?_ | refine tk9 ?_ | refine tk10 (fun _ _ => ?_) | refine tk11 (fun _ => ?_) | refine tk13 ?_ | refine tk14 ?_); (conv => whnf))
        exact k
      · rw [if_neg (show ¬ x.toNat = 13 by omega)] at k
        (conv => whnf); repeat ((first | refine tk1 ?_ | refine tk2 ?_ | refine tk3 ?_ | refine tk12 (fun _ => ?_) | refine tk4 ?_ | refine tk5 ?_ | refine tk6 ?_ | refine tk7 ?_ | refine tk8 ?_ | refine tk9 ?_ | refine tk10 (fun _ _ => ?_) | refine tk11 (fun _ => ?_) | refine tk13 ?_ | refine tk14 ?_); (conv => whnf))
        exact k
  · simp only [Bool.true_and, Bool.true_or, if_true] at k
    (conv => whnf); repeat ((first | refine tk1 ?_ | refine tk2 ?_ | refine tk3 ?_ | refine tk12 (fun _ => ?_) | refine tk4 ?_ | refine tk5 ?_ | refine tk6 ?_ | refine tk7 ?_ | refine tk8 ?_ | refine tk9 ?_ | refine tk10 (fun _ _ => ?_) | refine tk11 (fun _ => ?_) | refine tk13 ?_ | refine tk14 ?_); (conv => whnf))
    refine Cmp.cases (fun h1 => ?_) (fun h1 => ?_)
    · rw [if_pos (by simpa using (show x.toNat = 10 by omega))] at k
      (conv => whnf); repeat ((first | refine tk1 ?_ | refine tk2 ?_ | refine tk3 ?_ | refine tk12 (fun _ => ?_) | refine tk4 ?_ | refine tk5 ?_ | refine tk6 ?_ | refine tk7 ?_ | refine tk8 ?_ | refine tk9 ?_ | refine tk10 (fun _ _ => ?_) | refine tk11 (fun _ => ?_) | refine tk13 ?_ | refine tk14 ?_); (conv => whnf))
      exact k
    · rw [if_neg (by simpa using (show ¬ x.toNat = 10 by omega))] at k
      (conv => whnf); repeat ((first | refine tk1 ?_ | refine tk2 ?_ | refine tk3 ?_ | refine tk12 (fun _ => ?_) | refine tk4 ?_ | refine tk5 ?_ | refine tk6 ?_ | refine tk7 ?_ | refine tk8 ?_ | refine tk9 ?_ | refine tk10 (fun _ _ => ?_) | refine tk11 (fun _ => ?_) | refine tk13 ?_ | refine tk14 ?_); (conv => whnf))
      exact k
def nextF (ph : Bool) : Nat := if ph then 96 else 55
/-- The memory of a head under way. -/
structure HMem where
  tA : Option Addr
  tc : Nat
  fA : Option Addr
  fc : Nat
def hHeap (b : Nat) (l : Lm) (s : HSt) (y : HMem) (X : Hp) : Hp :=
  .box b [.int .i64 l.line, .int .i64 l.head, .int .i64 l.fields, .int .i64 l.body, .int .i64 l.wait, str s.rq.m, str s.rq.p, str s.rq.q, .int .i64 s.rq.v, .slice y.fA s.fs.length y.fc, .slice none 0 0, .slice y.tA s.text.length y.tc, .bool s.cr, .int .i64 (s.many : Nat), .func (.func (nextF s.ph)) ⟨[]⟩ ⟨[]⟩] 106 ::
  .row (.slice y.tA s.text.length y.tc) 5 1 s.text.length (s.text.map byteV) :: .row (.slice y.fA s.fs.length y.fc) 47 2 s.fs.length (fcells s.fs) :: X
theorem first_k {c : Ctx} (hc : Ours Tryz.prog gI c) {b : Nat} {l : Lm} {s : HSt} {y : HMem} {x : UInt8} {X : Hp} {K : Value → Hp → Prop} (hs : s.Le 200000) (hp : s.ph = false) (h0 : s.fs = [])
    (k : ∀ y', K (.int .i64 (firstG l s x).2) (hHeap b l (firstG l s x).1 y' X)) : CallK c false 55 [.pointer (some ⟨b, 0, none⟩), .int .u8 x.toNat] (hHeap b l s y X) K := by
  obtain ⟨P, g, w0, M, hM, hG⟩ := c
  have hc' := hc
  obtain ⟨rfl, rfl⟩ := hc
  obtain ⟨rq, fs, text, cr, many, ph⟩ := s
  obtain ⟨tA, tc, fA, fc⟩ := y
  obtain ⟨hz1, hz2, hz3⟩ := hs
  dsimp only at hz1 hz2 hz3 hp h0
  subst hp h0
  unfold hHeap
  dsimp only
  unfold firstG hHeap at k
  dsimp only at k
  refine CallK.post ?_
  refine CallK.inl tys_ok Tryz.func55 rfl (by kernel_rfl) rfl rfl ?_
  (conv => whnf); repeat ((first | refine tk1 ?_ | refine tk2 ?_ | refine tk3 ?_ | refine tk12 (fun _ => ?_) | refine tk4 ?_ | refine tk5 ?_ | refine tk6 ?_ | refine tk7 ?_ | refine tk8 ?_ | refine tk9 ?_ | refine tk10 (fun _ _ => ?_) | refine tk11 (fun _ => ?_) | refine tk13 ?_ | refine tk14 ?_); (conv => whnf))
  refine take_k hc' ?_
  rcases takeG_cases cr x with ⟨e, _, _⟩ | e | ⟨e, _, _⟩ | ⟨e, _, _⟩ <;> rw [e] at k ⊢ <;> dsimp only at k ⊢
  · rw [if_neg (by decide)] at k
    simp only [Bool.false_eq_true, if_false, if_true] at k
    (conv => whnf); repeat ((first | refine tk1 ?_ | refine tk2 ?_ | refine tk3 ?_ | refine tk12 (fun _ => ?_) | refine tk4 ?_ | refine tk5 ?_ | refine tk6 ?_ | refine tk7 ?_ | refine tk8 ?_ | refine tk9 ?_ | refine tk10 (fun _ _ => ?_) | refine tk11 (fun _ => ?_) | refine tk13 ?_ | refine tk14 ?_); (conv => whnf))
    refine DrawS.go (qs 15) tys_ok mixed (by kernel_rfl) ?_
    (conv => whnf); repeat ((first | refine tk1 ?_ | refine tk2 ?_ | refine tk3 ?_ | refine tk12 (fun _ => ?_) | refine tk4 ?_ | refine tk5 ?_ | refine tk6 ?_ | refine tk7 ?_ | refine tk8 ?_ | refine tk9 ?_ | refine tk10 (fun _ _ => ?_) | refine tk11 (fun _ => ?_) | refine tk13 ?_ | refine tk14 ?_); (conv => whnf))
    refine B2S.tc (xs := text.map byteV) (l := text) rfl rfl ?_
    (conv => whnf); repeat ((first | refine tk1 ?_ | refine tk2 ?_ | refine tk3 ?_ | refine tk12 (fun _ => ?_) | refine tk4 ?_ | refine tk5 ?_ | refine tk6 ?_ | refine tk7 ?_ | refine tk8 ?_ | refine tk9 ?_ | refine tk10 (fun _ _ => ?_) | refine tk11 (fun _ => ?_) | refine tk13 ?_ | refine tk14 ?_); (conv => whnf))
    refine CallK.fn (LParse_f text (by omega)) ?_
    by_cases h2 : lineSt text = 200
    · rw [if_pos h2] at k
      rw [h2]
      (conv => whnf); repeat ((first | refine tk1 ?_ | refine tk2 ?_ | refine tk3 ?_ | refine tk12 (fun _ => ?_) | refine tk4 ?_ | refine tk5 ?_ | refine tk6 ?_ | refine tk7 ?_ | refine tk8 ?_ | refine tk9 ?_ | refine tk10 (fun _ _ => ?_) | refine tk11 (fun _ => ?_) | refine tk13 ?_ | refine tk14 ?_); (conv => whnf))
      exact ⟨_, Into.trans (Into.nilRow (e := 47) (sz := 2) (Into.nilRow (e := 5) (sz := 1) Into.refl)) (Cv.into (by (try dsimp only); repeat' (first | with_reducible exact Cv.refl | with_reducible exact Cv.left | with_reducible exact Cv.right | with_reducible exact Cv.nil | (with_reducible apply Cv.cons; focus ((repeat (first | with_reducible exact Pick.here | with_reducible apply Pick.skip)); done)) | (apply Cv.cons; focus ((repeat (first | exact Pick.here | apply Pick.skip)); done)) | exact Cv.nil | exact Cv.refl | exact Cv.left | exact Cv.right | refine Cv.skip ?_))), k ⟨none, 0, none, 0⟩⟩
    · rw [if_neg h2] at k
      (conv => whnf); repeat ((first | refine tk1 ?_ | refine tk2 ?_ | refine tk3 ?_ | refine tk12 (fun _ => ?_) | refine tk4 ?_ | refine tk5 ?_ | refine tk6 ?_ | refine tk7 ?_ | refine tk8 ?_ | refine tk9 ?_ | refine tk10 (fun _ _ => ?_) | refine tk11 (fun _ => ?_) | refine tk13 ?_ | refine tk14 ?_); (conv => whnf))
      exact ⟨_, Cv.into (by (try dsimp only); repeat' (first | with_reducible exact Cv.refl | with_reducible exact Cv.left | with_reducible exact Cv.right | with_reducible exact Cv.nil | (with_reducible apply Cv.cons; focus ((repeat (first | with_reducible exact Pick.here | with_reducible apply Pick.skip)); done)) | (apply Cv.cons; focus ((repeat (first | exact Pick.here | apply Pick.skip)); done)) | exact Cv.nil | exact Cv.refl | exact Cv.left | exact Cv.right | refine Cv.skip ?_)), k ⟨tA, tc, fA, fc⟩⟩
  · rw [if_pos (by decide)] at k
    (conv => whnf); repeat ((first | refine tk1 ?_ | refine tk2 ?_ | refine tk3 ?_ | refine tk12 (fun _ => ?_) | refine tk4 ?_ | refine tk5 ?_ | refine tk6 ?_ | refine tk7 ?_ | refine tk8 ?_ | refine tk9 ?_ | refine tk10 (fun _ _ => ?_) | refine tk11 (fun _ => ?_) | refine tk13 ?_ | refine tk14 ?_); (conv => whnf))
    exact ⟨_, Into.refl, k ⟨tA, tc, fA, fc⟩⟩
  · rw [if_neg (by decide)] at k
    simp only [Bool.false_eq_true, if_false] at k
    (conv => whnf); repeat ((first | refine tk1 ?_ | refine tk2 ?_ | refine tk3 ?_ | refine tk12 (fun _ => ?_) | refine tk4 ?_ | refine tk5 ?_ | refine tk6 ?_ | refine tk7 ?_ | refine tk8 ?_ | refine tk9 ?_ | refine tk10 (fun _ _ => ?_) | refine tk11 (fun _ => ?_) | refine tk13 ?_ | refine tk14 ?_); (conv => whnf))
    refine DrawS.go (qs 15) tys_ok mixed (by kernel_rfl) ?_
    (conv => whnf); repeat ((first | refine tk1 ?_ | refine tk2 ?_ | refine tk3 ?_ | refine tk12 (fun _ => ?_) | refine tk4 ?_ | refine tk5 ?_ | refine tk6 ?_ | refine tk7 ?_ | refine tk8 ?_ | refine tk9 ?_ | refine tk10 (fun _ _ => ?_) | refine tk11 (fun _ => ?_) | refine tk13 ?_ | refine tk14 ?_); (conv => whnf))
    exact ⟨_, Into.refl, k ⟨tA, tc, fA, fc⟩⟩
  · rw [if_neg (by decide)] at k
    simp only [if_true] at k
    (conv => whnf); repeat ((first | refine tk1 ?_ | refine tk2 ?_ | refine tk3 ?_ | refine tk12 (fun _ => ?_) | refine tk4 ?_ | refine tk5 ?_ | refine tk6 ?_ | refine tk7 ?_ | refine tk8 ?_ | refine tk9 ?_ | refine tk10 (fun _ _ => ?_) | refine tk11 (fun _ => ?_) | refine tk13 ?_ | refine tk14 ?_); (conv => whnf))
    refine DrawS.go (qs 15) tys_ok mixed (by kernel_rfl) ?_
    (conv => whnf); repeat ((first | refine tk1 ?_ | refine tk2 ?_ | refine tk3 ?_ | refine tk12 (fun _ => ?_) | refine tk4 ?_ | refine tk5 ?_ | refine tk6 ?_ | refine tk7 ?_ | refine tk8 ?_ | refine tk9 ?_ | refine tk10 (fun _ _ => ?_) | refine tk11 (fun _ => ?_) | refine tk13 ?_ | refine tk14 ?_); (conv => whnf))
    by_cases h2 : (text.length : Int) = l.line
    · rw [if_pos h2] at k
      refine Cmp.t h2 ?_
      (conv => whnf); repeat ((first | refine tk1 ?_ | refine tk2 ?_ | refine tk3 ?_ | refine tk12 (fun _ => ?_) | refine tk4 ?_ | refine tk5 ?_ | refine tk6 ?_ | refine tk7 ?_ | refine tk8 ?_ | refine tk9 ?_ | refine tk10 (fun _ _ => ?_) | refine tk11 (fun _ => ?_) | refine tk13 ?_ | refine tk14 ?_); (conv => whnf))
      exact ⟨_, Into.refl, k ⟨tA, tc, fA, fc⟩⟩
    · rw [if_neg h2] at k
      refine Cmp.f h2 ?_
      (conv => whnf); repeat ((first | refine tk1 ?_ | refine tk2 ?_ | refine tk3 ?_ | refine tk12 (fun _ => ?_) | refine tk4 ?_ | refine tk5 ?_ | refine tk6 ?_ | refine tk7 ?_ | refine tk8 ?_ | refine tk9 ?_ | refine tk10 (fun _ _ => ?_) | refine tk11 (fun _ => ?_) | refine tk13 ?_ | refine tk14 ?_); (conv => whnf))
      refine AppS.tc (m := 1) (news := [byteV x]) SrcK.tc rfl (by simp [Value.oneCell', byteV]) (by decide) (by omega) (by omega) (zs := (text ++ [x]).map byteV) (by rw [List.map_append]; rfl) (fun tA' tc' => ?_)
      rw [show text.length + 1 = (text ++ [x]).length by simp]
      (conv => whnf); repeat ((first | refine tk1 ?_ | refine tk2 ?_ | refine tk3 ?_ | refine tk12 (fun _ => ?_) | refine tk4 ?_ | refine tk5 ?_ | refine tk6 ?_ | refine tk7 ?_ | refine tk8 ?_ | refine tk9 ?_ | refine tk10 (fun _ _ => ?_) | refine tk11 (fun _ => ?_) | refine tk13 ?_ | refine tk14 ?_); (conv => whnf))
      refine ⟨_, ?_, k ⟨tA', tc', fA, fc⟩⟩
      exact Cv.into (by (try dsimp only); repeat' (first | with_reducible exact Cv.refl | with_reducible exact Cv.left | with_reducible exact Cv.right | with_reducible exact Cv.nil | (with_reducible apply Cv.cons; focus ((repeat (first | with_reducible exact Pick.here | with_reducible apply Pick.skip)); done)) | (apply Cv.cons; focus ((repeat (first | exact Pick.here | apply Pick.skip)); done)) | exact Cv.nil | exact Cv.refl | exact Cv.left | exact Cv.right | refine Cv.skip ?_))
theorem other_k {c : Ctx} (hc : Ours Tryz.prog gI c) {b : Nat} {l : Lm} {s : HSt} {y : HMem} {x : UInt8} {X : Hp} {K : Value → Hp → Prop} (hs : s.Le 200000) (hp : s.ph = true)
    (k : ∀ y', K (.int .i64 (otherG l s x).2) (hHeap b l (otherG l s x).1 y' X)) : CallK c false 96 [.pointer (some ⟨b, 0, none⟩), .int .u8 x.toNat] (hHeap b l s y X) K := by
  obtain ⟨P, g, w0, M, hM, hG⟩ := c
  have hc' := hc
  obtain ⟨rfl, rfl⟩ := hc
  obtain ⟨rq, fs, text, cr, many, ph⟩ := s
  obtain ⟨tA, tc, fA, fc⟩ := y
  obtain ⟨hz1, hz2, hz3⟩ := hs
  dsimp only at hz1 hz2 hz3 hp
  subst hp
  unfold hHeap
  dsimp only
  unfold otherG hHeap at k
  dsimp only at k
  refine CallK.post ?_
  refine CallK.inl tys_ok Tryz.func96 rfl (by kernel_rfl) rfl rfl ?_
  (conv => whnf); repeat ((first | refine tk1 ?_ | refine tk2 ?_ | refine tk3 ?_ | refine tk12 (fun _ => ?_) | refine tk4 ?_ | refine tk5 ?_ | refine tk6 ?_ | refine tk7 ?_ | refine tk8 ?_ | refine tk9 ?_ | refine tk10 (fun _ _ => ?_) | refine tk11 (fun _ => ?_) | refine tk13 ?_ | refine tk14 ?_); (conv => whnf))
  refine DrawS.go (qs 10) tys_ok mixed (by kernel_rfl) ?_
  (conv => whnf); repeat ((first | refine tk1 ?_ | refine tk2 ?_ | refine tk3 ?_ | refine tk12 (fun _ => ?_) | refine tk4 ?_ | refine tk5 ?_ | refine tk6 ?_ | refine tk7 ?_ | refine tk8 ?_ | refine tk9 ?_ | refine tk10 (fun _ _ => ?_) | refine tk11 (fun _ => ?_) | refine tk13 ?_ | refine tk14 ?_); (conv => whnf))
  by_cases hm : (many : Int) = l.head
  · rw [if_pos hm] at k
    refine Cmp.t hm ?_
    (conv => whnf); repeat ((first | refine tk1 ?_ | refine tk2 ?_ | refine tk3 ?_ | refine tk12 (fun _ => ?_) | refine tk4 ?_ | refine tk5 ?_ | refine tk6 ?_ | refine tk7 ?_ | refine tk8 ?_ | refine tk9 ?_ | refine tk10 (fun _ _ => ?_) | refine tk11 (fun _ => ?_) | refine tk13 ?_ | refine tk14 ?_); (conv => whnf))
    exact ⟨_, Into.refl, k ⟨tA, tc, fA, fc⟩⟩
  rw [if_neg hm] at k
  refine Cmp.f hm ?_
  (conv => whnf); repeat ((first | refine tk1 ?_ | refine tk2 ?_ | refine tk3 ?_ | refine tk12 (fun _ => ?_) | refine tk4 ?_ | refine tk5 ?_ | refine tk6 ?_ | refine tk7 ?_ | refine tk8 ?_ | refine tk9 ?_ | refine tk10 (fun _ _ => ?_) | refine tk11 (fun _ => ?_) | refine tk13 ?_ | refine tk14 ?_); (conv => whnf))
  refine take_k hc' ?_
  rcases takeG_cases cr x with ⟨e, _, _⟩ | e | ⟨e, _, _⟩ | ⟨e, _, _⟩ <;> rw [e] at k ⊢ <;> dsimp only at k ⊢
  · rw [if_neg (by decide)] at k
    simp only [Bool.false_eq_true, if_false, if_true] at k
    (conv => whnf); repeat ((first | refine tk1 ?_ | refine tk2 ?_ | refine tk3 ?_ | refine tk12 (fun _ => ?_) | refine tk4 ?_ | refine tk5 ?_ | refine tk6 ?_ | refine tk7 ?_ | refine tk8 ?_ | refine tk9 ?_ | refine tk10 (fun _ _ => ?_) | refine tk11 (fun _ => ?_) | refine tk13 ?_ | refine tk14 ?_); (conv => whnf))
    by_cases ht : text = []
    · rw [if_pos ht] at k
      refine Cmp.t (by rw [ht]; rfl) ?_
      (conv => whnf); repeat ((first | refine tk1 ?_ | refine tk2 ?_ | refine tk3 ?_ | refine tk12 (fun _ => ?_) | refine tk4 ?_ | refine tk5 ?_ | refine tk6 ?_ | refine tk7 ?_ | refine tk8 ?_ | refine tk9 ?_ | refine tk10 (fun _ _ => ?_) | refine tk11 (fun _ => ?_) | refine tk13 ?_ | refine tk14 ?_); (conv => whnf))
      exact ⟨_, Into.refl, k ⟨tA, tc, fA, fc⟩⟩
    rw [if_neg ht] at k
    have ht2 := List.length_pos_iff.2 ht
    refine Cmp.f (by omega) ?_
    (conv => whnf); repeat ((first | refine tk1 ?_ | refine tk2 ?_ | refine tk3 ?_ | refine tk12 (fun _ => ?_) | refine tk4 ?_ | refine tk5 ?_ | refine tk6 ?_ | refine tk7 ?_ | refine tk8 ?_ | refine tk9 ?_ | refine tk10 (fun _ _ => ?_) | refine tk11 (fun _ => ?_) | refine tk13 ?_ | refine tk14 ?_); (conv => whnf))
    refine DrawS.go (qs 16) tys_ok mixed (by kernel_rfl) ?_
    (conv => whnf); repeat ((first | refine tk1 ?_ | refine tk2 ?_ | refine tk3 ?_ | refine tk12 (fun _ => ?_) | refine tk4 ?_ | refine tk5 ?_ | refine tk6 ?_ | refine tk7 ?_ | refine tk8 ?_ | refine tk9 ?_ | refine tk10 (fun _ _ => ?_) | refine tk11 (fun _ => ?_) | refine tk13 ?_ | refine tk14 ?_); (conv => whnf))
    by_cases hfl : (fs.length : Int) = l.fields
    · rw [if_pos hfl] at k
      refine Cmp.t hfl ?_
      (conv => whnf); repeat ((first | refine tk1 ?_ | refine tk2 ?_ | refine tk3 ?_ | refine tk12 (fun _ => ?_) | refine tk4 ?_ | refine tk5 ?_ | refine tk6 ?_ | refine tk7 ?_ | refine tk8 ?_ | refine tk9 ?_ | refine tk10 (fun _ _ => ?_) | refine tk11 (fun _ => ?_) | refine tk13 ?_ | refine tk14 ?_); (conv => whnf))
      exact ⟨_, Into.refl, k ⟨tA, tc, fA, fc⟩⟩
    rw [if_neg hfl] at k
    refine Cmp.f hfl ?_
    (conv => whnf); repeat ((first | refine tk1 ?_ | refine tk2 ?_ | refine tk3 ?_ | refine tk12 (fun _ => ?_) | refine tk4 ?_ | refine tk5 ?_ | refine tk6 ?_ | refine tk7 ?_ | refine tk8 ?_ | refine tk9 ?_ | refine tk10 (fun _ _ => ?_) | refine tk11 (fun _ => ?_) | refine tk13 ?_ | refine tk14 ?_); (conv => whnf))
    refine B2S.tc (xs := text.map byteV) (l := text) rfl rfl ?_
    (conv => whnf); repeat ((first | refine tk1 ?_ | refine tk2 ?_ | refine tk3 ?_ | refine tk12 (fun _ => ?_) | refine tk4 ?_ | refine tk5 ?_ | refine tk6 ?_ | refine tk7 ?_ | refine tk8 ?_ | refine tk9 ?_ | refine tk10 (fun _ _ => ?_) | refine tk11 (fun _ => ?_) | refine tk13 ?_ | refine tk14 ?_); (conv => whnf))
    refine CallK.fn (Parse_f text (by omega)) ?_
    (conv => whnf); repeat ((first | refine tk1 ?_ | refine tk2 ?_ | refine tk3 ?_ | refine tk12 (fun _ => ?_) | refine tk4 ?_ | refine tk5 ?_ | refine tk6 ?_ | refine tk7 ?_ | refine tk8 ?_ | refine tk9 ?_ | refine tk10 (fun _ _ => ?_) | refine tk11 (fun _ => ?_) | refine tk13 ?_ | refine tk14 ?_); (conv => whnf))
    by_cases he : parseE text = 0
    · rw [if_pos he] at k
      rw [he]
      (conv => whnf); repeat ((first | refine tk1 ?_ | refine tk2 ?_ | refine tk3 ?_ | refine tk12 (fun _ => ?_) | refine tk4 ?_ | refine tk5 ?_ | refine tk6 ?_ | refine tk7 ?_ | refine tk8 ?_ | refine tk9 ?_ | refine tk10 (fun _ _ => ?_) | refine tk11 (fun _ => ?_) | refine tk13 ?_ | refine tk14 ?_); (conv => whnf))
      refine DrawS.go [(0, true), (1, true), (2, true), (3, true), (4, true), (5, true), (6, true), (7, true), (8, false), (9, false), (10, true), (11, true), (12, true), (13, false), (14, true), (15, true), (16, false)] tys_ok mixed (by kernel_rfl) ?_
      (conv => whnf); repeat ((first | refine tk1 ?_ | refine tk2 ?_ | refine tk3 ?_ | refine tk12 (fun _ => ?_) | refine tk4 ?_ | refine tk5 ?_ | refine tk6 ?_ | refine tk7 ?_ | refine tk8 ?_ | refine tk9 ?_ | refine tk10 (fun _ _ => ?_) | refine tk11 (fun _ => ?_) | refine tk13 ?_ | refine tk14 ?_); (conv => whnf))
      refine AppS.tc (m := 1) (news := [str (parseN text), str (parseV text)]) SrcK.tc rfl (by simp [Value.oneCell']) (by decide) (by omega) (by omega) (zs := fcells (fs ++ [(parseN text, parseV text)])) (by rw [fcells_app]; rfl) (fun fA' fc' => ?_)
      rw [show fs.length + 1 = (fs ++ [(parseN text, parseV text)]).length by simp]
      (conv => whnf); repeat ((first | refine tk1 ?_ | refine tk2 ?_ | refine tk3 ?_ | refine tk12 (fun _ => ?_) | refine tk4 ?_ | refine tk5 ?_ | refine tk6 ?_ | refine tk7 ?_ | refine tk8 ?_ | refine tk9 ?_ | refine tk10 (fun _ _ => ?_) | refine tk11 (fun _ => ?_) | refine tk13 ?_ | refine tk14 ?_); (conv => whnf))
      refine ⟨_, ?_, k ⟨none, 0, fA', fc'⟩⟩
      exact Into.trans (Into.nilRow (e := 5) (sz := 1) Into.refl) (Cv.into (by (try dsimp only); repeat' (first | with_reducible exact Cv.refl | with_reducible exact Cv.left | with_reducible exact Cv.right | with_reducible exact Cv.nil | (with_reducible apply Cv.cons; focus ((repeat (first | with_reducible exact Pick.here | with_reducible apply Pick.skip)); done)) | (apply Cv.cons; focus ((repeat (first | exact Pick.here | apply Pick.skip)); done)) | exact Cv.nil | exact Cv.refl | exact Cv.left | exact Cv.right | refine Cv.skip ?_)))
    · rw [if_neg he] at k
      refine Cmp.t he ?_
      (conv => whnf); repeat ((first | refine tk1 ?_ | refine tk2 ?_ | refine tk3 ?_ | refine tk12 (fun _ => ?_) | refine tk4 ?_ | refine tk5 ?_ | refine tk6 ?_ | refine tk7 ?_ | refine tk8 ?_ | refine tk9 ?_ | refine tk10 (fun _ _ => ?_) | refine tk11 (fun _ => ?_) | refine tk13 ?_ | refine tk14 ?_); (conv => whnf))
      exact ⟨_, Cv.into (by (try dsimp only); repeat' (first | with_reducible exact Cv.refl | with_reducible exact Cv.left | with_reducible exact Cv.right | with_reducible exact Cv.nil | (with_reducible apply Cv.cons; focus ((repeat (first | with_reducible exact Pick.here | with_reducible apply Pick.skip)); done)) | (apply Cv.cons; focus ((repeat (first | exact Pick.here | apply Pick.skip)); done)) | exact Cv.nil | exact Cv.refl | exact Cv.left | exact Cv.right | refine Cv.skip ?_)), k ⟨tA, tc, fA, fc⟩⟩
  · rw [if_pos (by decide)] at k
    (conv => whnf); repeat ((first | refine tk1 ?_ | refine tk2 ?_ | refine tk3 ?_ | refine tk12 (fun _ => ?_) | refine tk4 ?_ | refine tk5 ?_ | refine tk6 ?_ | refine tk7 ?_ | refine tk8 ?_ | refine tk9 ?_ | refine tk10 (fun _ _ => ?_) | refine tk11 (fun _ => ?_) | refine tk13 ?_ | refine tk14 ?_); (conv => whnf))
    exact ⟨_, Into.refl, k ⟨tA, tc, fA, fc⟩⟩
  · rw [if_neg (by decide)] at k
    simp only [Bool.false_eq_true, if_false] at k
    (conv => whnf); repeat ((first | refine tk1 ?_ | refine tk2 ?_ | refine tk3 ?_ | refine tk12 (fun _ => ?_) | refine tk4 ?_ | refine tk5 ?_ | refine tk6 ?_ | refine tk7 ?_ | refine tk8 ?_ | refine tk9 ?_ | refine tk10 (fun _ _ => ?_) | refine tk11 (fun _ => ?_) | refine tk13 ?_ | refine tk14 ?_); (conv => whnf))
    refine DrawS.go (qs 16) tys_ok mixed (by kernel_rfl) ?_
    (conv => whnf); repeat ((first | refine tk1 ?_ | refine tk2 ?_ | refine tk3 ?_ | refine tk12 (fun _ => ?_) | refine tk4 ?_ | refine tk5 ?_ | refine tk6 ?_ | refine tk7 ?_ | refine tk8 ?_ | refine tk9 ?_ | refine tk10 (fun _ _ => ?_) | refine tk11 (fun _ => ?_) | refine tk13 ?_ | refine tk14 ?_); (conv => whnf))
    exact ⟨_, Into.refl, k ⟨tA, tc, fA, fc⟩⟩
  · rw [if_neg (by decide)] at k
    simp only [if_true] at k
    (conv => whnf); repeat ((first | refine tk1 ?_ | refine tk2 ?_ | refine tk3 ?_ | refine tk12 (fun _ => ?_) | refine tk4 ?_ | refine tk5 ?_ | refine tk6 ?_ | refine tk7 ?_ | refine tk8 ?_ | refine tk9 ?_ | refine tk10 (fun _ _ => ?_) | refine tk11 (fun _ => ?_) | refine tk13 ?_ | refine tk14 ?_); (conv => whnf))
    refine AppS.tc (m := 1) (news := [byteV x]) SrcK.tc rfl (by simp [Value.oneCell', byteV]) (by decide) (by omega) (by omega) (zs := (text ++ [x]).map byteV) (by rw [List.map_append]; rfl) (fun tA' tc' => ?_)
    rw [show text.length + 1 = (text ++ [x]).length by simp]
    (conv => whnf); repeat ((first | refine tk1 ?_ | refine tk2 ?_ | refine tk3 ?_ | refine tk12 (fun _ => ?_) | refine tk4 ?_ | refine tk5 ?_ | refine tk6 ?_ | refine tk7 ?_ | refine tk8 ?_ | refine tk9 ?_ | refine tk10 (fun _ _ => ?_) | refine tk11 (fun _ => ?_) | refine tk13 ?_ | refine tk14 ?_); (conv => whnf))
    refine ⟨_, ?_, k ⟨tA', tc', fA, fc⟩⟩
    exact Cv.into (by (try dsimp only); repeat' (first | with_reducible exact Cv.refl | with_reducible exact Cv.left | with_reducible exact Cv.right | with_reducible exact Cv.nil | (with_reducible apply Cv.cons; focus ((repeat (first | with_reducible exact Pick.here | with_reducible apply Pick.skip)); done)) | (apply Cv.cons; focus ((repeat (first | exact Pick.here | apply Pick.skip)); done)) | exact Cv.nil | exact Cv.refl | exact Cv.left | exact Cv.right | refine Cv.skip ?_))
/-- One byte. -/
theorem step_k {c : Ctx} (hc : Ours Tryz.prog gI c) {b : Nat} {l : Lm} {s : HSt} {y : HMem} {x : UInt8} {X : Hp} {K : Value → Hp → Prop} (hs : s.Le 200000) (h0 : s.ph = false → s.fs = [])
    (k : ∀ y', K (.int .i64 (stepG l s x).2) (hHeap b l (stepG l s x).1 y' X)) : CallK c false (nextF s.ph) [.pointer (some ⟨b, 0, none⟩), .int .u8 x.toNat] (hHeap b l s y X) K := by
  unfold stepG at k
  unfold nextF
  cases hp : s.ph
  · rw [hp] at k
    exact first_k hc hs hp (h0 hp) k
  · rw [hp] at k
    exact other_k hc hs hp k
end Go.Proofs.YtmdmmncoigeijaaGreatDoor.Vex
/- The program's Scan of heads, and Same of requests, reckoned. -/
namespace Go.Proofs.YtmdmmncoigeijaaGreatDoor.Vex
open Go Go.RowKit
set_option maxRecDepth 100000
set_option linter.unusedSectionVars false
variable {gI : GI} [HasMax gI] [HasErr gI]

structure ScV where
  fA : Option Addr
  fc : Nat
def reqC (rq : Rq) (fA : Option Addr) (n fc : Nat) : List Value := [str rq.m, str rq.p, str rq.q, .int .i64 rq.v, .slice fA n fc, .slice none 0 0]
def ScV.val (r : HRes) (e : Int) (x : ScV) : Value := .tuple #[.agg ⟨reqC r.rq x.fA r.fs.length x.fc⟩, .int .i64 (r.used : Nat), .int .i64 r.st, .int .i64 e]
def ScV.hd (r : HRes) (x : ScV) : Hp := [.row (.slice x.fA r.fs.length x.fc) 47 2 r.fs.length (fcells r.fs)]
theorem tk15 {c : Ctx} {H : Hp} {b n j : Nat} {vs L : List Value} {t : TypeId} {f : List Value → Hp} {K : Hp → Prop} [h : BoxAt b H vs t f] (k : K (f (L.take j))) (hn : (L.take j).length = n := by exact rfl) (hv : vs.length = n := by exact rfl) (h1 : ∀ x ∈ L, x.oneCell' = true := by simp [Value.oneCell']) :
    Sto c H (.pointer (some ⟨b, 0, none⟩)) (.agg ⟨L.take j⟩) n K := Sto.tv hn hv (fun x hx => h1 x (List.mem_of_mem_take hx)) k
structure SL where
  k : Nat
  s : HSt
  y : HMem
theorem HScan_f (l : Lm) (BA : Option Addr) (Bc : Nat) (b : List UInt8) (hb : b.length ≤ 1000000000) :
    FnT Tryz.prog gI 22 [limV l, .slice BA b.length Bc] (fun w => RdL w [(BA, b.map byteV)]) (ScV.val (scanR l b) (scanE l b)) (fun _ => True) (ScV.hd (scanR l b)) (fun _ => []) := by
  unfold limV
  refine FnE.of tys_ok Tryz.func22 rfl (by kernel_rfl) rfl rfl ?_; intro w hG hP
  have hRB : ∀ H, RdA (mkC Tryz.prog gI w hG) H BA (b.map byteV) := fun H => ⟨hP.1.now⟩
  have hfail : ∀ (st e : Int) (r : HRes) (w w' : World) (hG : gI.G w), r = ⟨rq0, [], 0, st⟩ → St (mkC Tryz.prog gI w hG) [] w' → ∃ x, Value.tuple #[.agg ⟨[str [], str [], str [], .int .i64 0, .slice none 0 0, .slice none 0 0]⟩, .int .i64 0, .int .i64 st, .int .i64 e] = ScV.val r e x ∧ True ∧ newH w w' (ScV.hd r x ++ []) := fun st e r w w' hG hr hw' => by
    subst hr
    exact ⟨⟨none, 0⟩, rfl, trivial, newH.of (hw'.nilRow 47 2)⟩
  (conv => whnf); repeat ((first | refine tk1 ?_ | refine tk2 ?_ | refine tk3 ?_ | refine tk12 (fun _ => ?_) | refine tk4 ?_ | refine tk5 ?_ | refine tk6 ?_ | refine tk7 ?_ | refine tk8 ?_ | refine tk9 ?_ | refine tk10 (fun _ _ => ?_) | refine tk11 (fun _ => ?_) | refine tk13 ?_ | refine tk14 ?_); (conv => whnf))
  rename_i b2 b4
  refine CallK.fn (HCheck_f l) ?_
  unfold limE scanR scanE
  cases hl : limOK l
  · simp only [Bool.false_eq_true, if_false]
    rw [if_neg (show ¬ (8 : Int) = 0 by decide)]
    (conv => whnf); repeat ((first | refine tk1 ?_ | refine tk2 ?_ | refine tk3 ?_ | refine tk12 (fun _ => ?_) | refine tk4 ?_ | refine tk5 ?_ | refine tk6 ?_ | refine tk7 ?_ | refine tk8 ?_ | refine tk9 ?_ | refine tk10 (fun _ _ => ?_) | refine tk11 (fun _ => ?_) | refine tk13 ?_ | refine tk14 ?_); (conv => whnf))
    exact fun w' hw' => hfail 0 8 _ w w' hG rfl (hw'.sub (List.nil_sublist _))
  simp only [if_true]
  (conv => whnf); repeat ((first | refine tk1 ?_ | refine tk2 ?_ | refine tk3 ?_ | refine tk12 (fun _ => ?_) | refine tk4 ?_ | refine tk5 ?_ | refine tk6 ?_ | refine tk7 ?_ | refine tk8 ?_ | refine tk9 ?_ | refine tk10 (fun _ _ => ?_) | refine tk11 (fun _ => ?_) | refine tk13 ?_ | refine tk14 ?_); (conv => whnf))
  refine Cmp.cases (fun h1 => ?_) (fun h1 => ?_)
  · rw [if_neg (show ¬ b.length ≤ 131072 by omega), if_neg (show ¬ (4 : Int) = 0 by decide)]
    (conv => whnf); repeat ((first | refine tk1 ?_ | refine tk2 ?_ | refine tk3 ?_ | refine tk12 (fun _ => ?_) | refine tk4 ?_ | refine tk5 ?_ | refine tk6 ?_ | refine tk7 ?_ | refine tk8 ?_ | refine tk9 ?_ | refine tk10 (fun _ _ => ?_) | refine tk11 (fun _ => ?_) | refine tk13 ?_ | refine tk14 ?_); (conv => whnf))
    exact fun w' hw' => hfail 0 4 _ w w' hG rfl (hw'.sub (List.nil_sublist _))
  rw [if_pos (show b.length ≤ 131072 by omega), if_pos rfl]
  have hou : Ours Tryz.prog gI (mkC Tryz.prog gI w hG) := ⟨rfl, rfl⟩
  (conv => whnf); repeat ((first | refine tk1 ?_ | refine tk2 ?_ | refine tk3 ?_ | refine tk12 (fun _ => ?_) | refine tk4 ?_ | refine tk5 ?_ | refine tk6 ?_ | refine tk7 ?_ | refine tk8 ?_ | refine tk9 ?_ | refine tk10 (fun _ _ => ?_) | refine tk11 (fun _ => ?_) | refine tk13 ?_ | refine tk14 ?_); (conv => whnf))
  rename_i b9
  refine LoopS.lpT tys_ok (fun (x : SL) u => [u 0, u 1, u 2, u 3, .pointer (some ⟨b4, 0, none⟩), u 5, u 6, u 7, u 8, .pointer (some ⟨b9, 0, none⟩), u 10, u 11, u 12, u 13, u 14, u 15, u 16, u 17, u 18, u 19, u 20, u 21, u 22, u 23, u 24, u 25, .slice BA b.length Bc, .int .i64 b.length, .int .i64 (x.k : Nat), u 29, u 30, u 31, u 32, u 33, u 34, u 35, u 36, u 37, u 38, u 39, u 40, u 41, u 42, u 43, u 44, u 45, u 46, u 47, u 48, u 49, u 50, u 51, u 52, u 53, u 54])
    (fun x => hHeap b9 l x.s x.y [.box b4 [str [], str [], str [], .int .i64 0, .slice none 0 0, .slice none 0 0] 28])
    (fun x => x.k ≤ b.length ∧ scanG l hst0 0 b = scanG l x.s x.k (b.drop x.k) ∧ x.s.Le x.k ∧ (x.s.ph = false → x.s.fs = [])) (fun x => b.length - x.k) ⟨0, hst0, ⟨none, 0, none, 0⟩⟩ ⟨Nat.zero_le _, rfl, ⟨Nat.le_refl _, Nat.le_refl _, Nat.le_refl _⟩, fun _ => rfl⟩ rfl ?_ ?_
  · unfold hHeap
    exact Into.trans (Into.nilRow (e := 5) (sz := 1) (Into.nilRow (e := 47) (sz := 2) Into.refl)) (Cv.into (by (try dsimp only); repeat' (first | with_reducible exact Cv.refl | with_reducible exact Cv.left | with_reducible exact Cv.right | with_reducible exact Cv.nil | (with_reducible apply Cv.cons; focus ((repeat (first | with_reducible exact Pick.here | with_reducible apply Pick.skip)); done)) | (apply Cv.cons; focus ((repeat (first | exact Pick.here | apply Pick.skip)); done)) | exact Cv.nil | exact Cv.refl | exact Cv.left | exact Cv.right | refine Cv.skip ?_)))
  rintro ⟨k, s, y⟩ u ⟨hk, hI, hle, h0⟩
  dsimp only at hk hI hle h0 ⊢
  unfold hHeap
  (conv => whnf); repeat ((first | refine tk1 ?_ | refine tk2 ?_ | refine tk3 ?_ | refine tk12 (fun _ => ?_) | refine tk4 ?_ | refine tk5 ?_ | refine tk6 ?_ | refine tk7 ?_ | refine tk8 ?_ | refine tk9 ?_ | refine tk10 (fun _ _ => ?_) | refine tk11 (fun _ => ?_) | refine tk13 ?_ | refine tk14 ?_); (conv => whnf))
  refine Cmp.cases (fun hlt => ?_) (fun hlt => ?_)
  · have hlt' : k < b.length := by omega
    have hxb : (b.map byteV)[k]? = some (.int .u8 b[k].toNat) := by rw [List.getElem?_map, List.getElem?_eq_getElem hlt']; rfl
    rw [List.drop_eq_getElem_cons hlt', scanG] at hI
    obtain ⟨x, hx⟩ : ∃ x, b[k] = x := ⟨_, rfl⟩
    rw [hx] at hI hxb
    have hle' := step_le (l := l) (x := x) hle
    have hph : (stepG l s x).1.ph = false → (stepG l s x).1.fs = [] := fun h => step_ph h0 h
    (conv => whnf); repeat ((first | refine tk1 ?_ | refine tk2 ?_ | refine tk3 ?_ | refine tk12 (fun _ => ?_) | refine tk4 ?_ | refine tk5 ?_ | refine tk6 ?_ | refine tk7 ?_ | refine tk8 ?_ | refine tk9 ?_ | refine tk10 (fun _ _ => ?_) | refine tk11 (fun _ => ?_) | refine tk13 ?_ | refine tk14 ?_); (conv => whnf))
    refine IdxA.tc (by rw [List.length_map]; omega) (by omega) (by omega) ?_
    (conv => whnf); repeat ((first | refine tk1 ?_ | refine tk2 ?_ | refine tk3 ?_ | refine tk12 (fun _ => ?_) | refine tk4 ?_ | refine tk5 ?_ | refine tk6 ?_ | refine tk7 ?_ | refine tk8 ?_ | refine tk9 ?_ | refine tk10 (fun _ _ => ?_) | refine tk11 (fun _ => ?_) | refine tk13 ?_ | refine tk14 ?_); (conv => whnf))
    refine Ld.ta (v := .int .u8 x.toNat) (by rw [show ((k : Nat) : Int).toNat * 1 = k by omega]; exact hxb) ?_
    (conv => whnf); repeat ((first | refine tk1 ?_ | refine tk2 ?_ | refine tk3 ?_ | refine tk12 (fun _ => ?_) | refine tk4 ?_ | refine tk5 ?_ | refine tk6 ?_ | refine tk7 ?_ | refine tk8 ?_ | refine tk9 ?_ | refine tk10 (fun _ _ => ?_) | refine tk11 (fun _ => ?_) | refine tk13 ?_ | refine tk14 ?_); (conv => whnf))
    refine step_k hou (l := l) (s := s) (y := y) (x := x) (X := [.box b4 [str [], str [], str [], .int .i64 0, .slice none 0 0, .slice none 0 0] 28]) ⟨by have := hle.text; omega, by have := hle.fs; omega, by have := hle.many; omega⟩ h0 (fun y' => ?_)
    rcases hst : stepG l s x with ⟨s1, st⟩
    rw [hst] at hI hle' hph
    dsimp only at hI hle' hph ⊢
    unfold hHeap
    by_cases hs0 : st = 0
    · rw [if_pos hs0] at hI
      subst hs0
      (conv => whnf); repeat ((first | refine tk1 ?_ | refine tk2 ?_ | refine tk3 ?_ | refine tk12 (fun _ => ?_) | refine tk4 ?_ | refine tk5 ?_ | refine tk6 ?_ | refine tk7 ?_ | refine tk8 ?_ | refine tk9 ?_ | refine tk10 (fun _ _ => ?_) | refine tk11 (fun _ => ?_) | refine tk13 ?_ | refine tk14 ?_); (conv => whnf))
      exact ⟨⟨k + 1, s1, y'⟩, ⟨by dsimp only; omega, hI, hle', hph⟩, rfl, Into.refl, by dsimp only; omega⟩
    rw [if_neg hs0] at hI
    by_cases hs2 : st = 200
    · rw [if_pos hs2] at hI
      rw [hI]
      subst hs2
      (conv => whnf); repeat ((first | refine tk15 ?_ | first | refine tk1 ?_ | refine tk2 ?_ | refine tk3 ?_ | refine tk12 (fun _ => ?_) | refine tk4 ?_ | refine tk5 ?_ | refine tk6 ?_ | refine tk7 ?_ | refine tk8 ?_ | refine tk9 ?_ | refine tk10 (fun _ _ => ?_) | refine tk11 (fun _ => ?_) | refine tk13 ?_ | refine tk14 ?_); (conv => whnf))
      exact fun w' hw' => ⟨⟨y'.fA, y'.fc⟩, rfl, trivial, newH.into hw' (Cv.into (by (try dsimp only); repeat' (first | with_reducible exact Cv.refl | with_reducible exact Cv.left | with_reducible exact Cv.right | with_reducible exact Cv.nil | (with_reducible apply Cv.cons; focus ((repeat (first | with_reducible exact Pick.here | with_reducible apply Pick.skip)); done)) | (apply Cv.cons; focus ((repeat (first | exact Pick.here | apply Pick.skip)); done)) | exact Cv.nil | exact Cv.refl | exact Cv.left | exact Cv.right | refine Cv.skip ?_)))⟩
    · rw [if_neg hs2] at hI
      rw [hI]
      (conv => whnf); repeat ((first | refine tk1 ?_ | refine tk2 ?_ | refine tk3 ?_ | refine tk12 (fun _ => ?_) | refine tk4 ?_ | refine tk5 ?_ | refine tk6 ?_ | refine tk7 ?_ | refine tk8 ?_ | refine tk9 ?_ | refine tk10 (fun _ _ => ?_) | refine tk11 (fun _ => ?_) | refine tk13 ?_ | refine tk14 ?_); (conv => whnf))
      exact fun w' hw' => hfail st 0 _ w w' hG rfl (hw'.sub (List.nil_sublist _))
  · rw [List.drop_eq_nil_of_le (by omega)] at hI
    have hI : scanG l hst0 0 b = hres0 := hI
    rw [hI]
    (conv => whnf); repeat ((first | refine tk1 ?_ | refine tk2 ?_ | refine tk3 ?_ | refine tk12 (fun _ => ?_) | refine tk4 ?_ | refine tk5 ?_ | refine tk6 ?_ | refine tk7 ?_ | refine tk8 ?_ | refine tk9 ?_ | refine tk10 (fun _ _ => ?_) | refine tk11 (fun _ => ?_) | refine tk13 ?_ | refine tk14 ?_); (conv => whnf))
    exact fun w' hw' => hfail 0 0 _ w w' hG rfl (hw'.sub (List.nil_sublist _))
theorem HSame_r (a b : Rq) (A B : Option Addr) (cp cq : Nat) (fa fb : List Fld) (ha : fa.length ≤ 1000000000) (hb : fb.length ≤ 1000000000) :
    FnR Tryz.prog gI 25 [.agg ⟨reqC a A fa.length cp⟩, .agg ⟨reqC b B fb.length cq⟩] [(A, fcells fa), (B, fcells fb)] (.bool (decide (a = b) && decide (fa = fb))) := by
  obtain ⟨am, ap, aq, av⟩ := a
  obtain ⟨bm, bp, bq, bv⟩ := b
  unfold reqC
  dsimp only
  refine FnE.of tys_ok Tryz.func25 rfl (by kernel_rfl) rfl rfl ?_; intro w hG hP
  (conv => whnf); repeat ((first | refine tk1 ?_ | refine tk2 ?_ | refine tk3 ?_ | refine tk12 (fun _ => ?_) | refine tk4 ?_ | refine tk5 ?_ | refine tk6 ?_ | refine tk7 ?_ | refine tk8 ?_ | refine tk9 ?_ | refine tk10 (fun _ _ => ?_) | refine tk11 (fun _ => ?_) | refine tk13 ?_ | refine tk14 ?_); (conv => whnf))
  refine Cmp.cases (fun h1 => ?_) (fun h1 => ?_)
  rotate_left
  · rw [decide_eq_false (show ¬ (⟨am, ap, aq, av⟩ : Rq) = ⟨bm, bp, bq, bv⟩ from fun h => h1 (congrArg Rq.m h))]
    (conv => whnf); repeat ((first | refine tk1 ?_ | refine tk2 ?_ | refine tk3 ?_ | refine tk12 (fun _ => ?_) | refine tk4 ?_ | refine tk5 ?_ | refine tk6 ?_ | refine tk7 ?_ | refine tk8 ?_ | refine tk9 ?_ | refine tk10 (fun _ _ => ?_) | refine tk11 (fun _ => ?_) | refine tk13 ?_ | refine tk14 ?_); (conv => whnf))
    exact fun w' _ => rfl
  (conv => whnf); repeat ((first | refine tk1 ?_ | refine tk2 ?_ | refine tk3 ?_ | refine tk12 (fun _ => ?_) | refine tk4 ?_ | refine tk5 ?_ | refine tk6 ?_ | refine tk7 ?_ | refine tk8 ?_ | refine tk9 ?_ | refine tk10 (fun _ _ => ?_) | refine tk11 (fun _ => ?_) | refine tk13 ?_ | refine tk14 ?_); (conv => whnf))
  refine Cmp.cases (fun h2 => ?_) (fun h2 => ?_)
  rotate_left
  · rw [decide_eq_false (show ¬ (⟨am, ap, aq, av⟩ : Rq) = ⟨bm, bp, bq, bv⟩ from fun h => h2 (congrArg Rq.p h))]
    (conv => whnf); repeat ((first | refine tk1 ?_ | refine tk2 ?_ | refine tk3 ?_ | refine tk12 (fun _ => ?_) | refine tk4 ?_ | refine tk5 ?_ | refine tk6 ?_ | refine tk7 ?_ | refine tk8 ?_ | refine tk9 ?_ | refine tk10 (fun _ _ => ?_) | refine tk11 (fun _ => ?_) | refine tk13 ?_ | refine tk14 ?_); (conv => whnf))
    exact fun w' _ => rfl
  (conv => whnf); repeat ((first | refine tk1 ?_ | refine tk2 ?_ | refine tk3 ?_ | refine tk12 (fun _ => ?_) | refine tk4 ?_ | refine tk5 ?_ | refine tk6 ?_ | refine tk7 ?_ | refine tk8 ?_ | refine tk9 ?_ | refine tk10 (fun _ _ => ?_) | refine tk11 (fun _ => ?_) | refine tk13 ?_ | refine tk14 ?_); (conv => whnf))
  refine Cmp.cases (fun h3 => ?_) (fun h3 => ?_)
  rotate_left
  · rw [decide_eq_false (show ¬ (⟨am, ap, aq, av⟩ : Rq) = ⟨bm, bp, bq, bv⟩ from fun h => h3 (congrArg Rq.q h))]
    (conv => whnf); repeat ((first | refine tk1 ?_ | refine tk2 ?_ | refine tk3 ?_ | refine tk12 (fun _ => ?_) | refine tk4 ?_ | refine tk5 ?_ | refine tk6 ?_ | refine tk7 ?_ | refine tk8 ?_ | refine tk9 ?_ | refine tk10 (fun _ _ => ?_) | refine tk11 (fun _ => ?_) | refine tk13 ?_ | refine tk14 ?_); (conv => whnf))
    exact fun w' _ => rfl
  (conv => whnf); repeat ((first | refine tk1 ?_ | refine tk2 ?_ | refine tk3 ?_ | refine tk12 (fun _ => ?_) | refine tk4 ?_ | refine tk5 ?_ | refine tk6 ?_ | refine tk7 ?_ | refine tk8 ?_ | refine tk9 ?_ | refine tk10 (fun _ _ => ?_) | refine tk11 (fun _ => ?_) | refine tk13 ?_ | refine tk14 ?_); (conv => whnf))
  refine Cmp.cases (fun h4 => ?_) (fun h4 => ?_)
  rotate_left
  · rw [decide_eq_false (show ¬ (⟨am, ap, aq, av⟩ : Rq) = ⟨bm, bp, bq, bv⟩ from fun h => h4 (congrArg Rq.v h))]
    (conv => whnf); repeat ((first | refine tk1 ?_ | refine tk2 ?_ | refine tk3 ?_ | refine tk12 (fun _ => ?_) | refine tk4 ?_ | refine tk5 ?_ | refine tk6 ?_ | refine tk7 ?_ | refine tk8 ?_ | refine tk9 ?_ | refine tk10 (fun _ _ => ?_) | refine tk11 (fun _ => ?_) | refine tk13 ?_ | refine tk14 ?_); (conv => whnf))
    exact fun w' _ => rfl
  rw [decide_eq_true (show (⟨am, ap, aq, av⟩ : Rq) = ⟨bm, bp, bq, bv⟩ by rw [h1, h2, h3, h4])]
  clear h1 h2 h3 h4
  (conv => whnf); repeat ((first | refine tk1 ?_ | refine tk2 ?_ | refine tk3 ?_ | refine tk12 (fun _ => ?_) | refine tk4 ?_ | refine tk5 ?_ | refine tk6 ?_ | refine tk7 ?_ | refine tk8 ?_ | refine tk9 ?_ | refine tk10 (fun _ _ => ?_) | refine tk11 (fun _ => ?_) | refine tk13 ?_ | refine tk14 ?_); (conv => whnf))
  refine CallK.fnR (SameFields_r A B cp cq fa fb ha hb) ⟨hP.1.now, hP.2.1.now, trivial⟩ ?_
  cases hd : decide (fa = fb)
  · (conv => whnf); repeat ((first | refine tk1 ?_ | refine tk2 ?_ | refine tk3 ?_ | refine tk12 (fun _ => ?_) | refine tk4 ?_ | refine tk5 ?_ | refine tk6 ?_ | refine tk7 ?_ | refine tk8 ?_ | refine tk9 ?_ | refine tk10 (fun _ _ => ?_) | refine tk11 (fun _ => ?_) | refine tk13 ?_ | refine tk14 ?_); (conv => whnf))
    exact fun w' _ => rfl
  · (conv => whnf); repeat ((first | refine tk1 ?_ | refine tk2 ?_ | refine tk3 ?_ | refine tk12 (fun _ => ?_) | refine tk4 ?_ | refine tk5 ?_ | refine tk6 ?_ | refine tk7 ?_ | refine tk8 ?_ | refine tk9 ?_ | refine tk10 (fun _ _ => ?_) | refine tk11 (fun _ => ?_) | refine tk13 ?_ | refine tk14 ?_); (conv => whnf))
    refine B2S.rd (l := []) RdS.nil rfl ?_
    (conv => whnf); repeat ((first | refine tk1 ?_ | refine tk2 ?_ | refine tk3 ?_ | refine tk12 (fun _ => ?_) | refine tk4 ?_ | refine tk5 ?_ | refine tk6 ?_ | refine tk7 ?_ | refine tk8 ?_ | refine tk9 ?_ | refine tk10 (fun _ _ => ?_) | refine tk11 (fun _ => ?_) | refine tk13 ?_ | refine tk14 ?_); (conv => whnf))
    refine B2S.rd (l := []) RdS.nil rfl ?_
    (conv => whnf); repeat ((first | refine tk1 ?_ | refine tk2 ?_ | refine tk3 ?_ | refine tk12 (fun _ => ?_) | refine tk4 ?_ | refine tk5 ?_ | refine tk6 ?_ | refine tk7 ?_ | refine tk8 ?_ | refine tk9 ?_ | refine tk10 (fun _ _ => ?_) | refine tk11 (fun _ => ?_) | refine tk13 ?_ | refine tk14 ?_); (conv => whnf))
    exact fun w' _ => rfl
end Go.Proofs.YtmdmmncoigeijaaGreatDoor.Vex
/- Plain laws on heads: beginnings, and greater limits. No program in sight. -/
namespace Go.Proofs.YtmdmmncoigeijaaGreatDoor.Vex

theorem scan_cons (l : Lm) (s : HSt) (i : Nat) (x : UInt8) (r : List UInt8) : scanG l s i (x :: r) = if (stepG l s x).2 = 0 then scanG l (stepG l s x).1 (i + 1) r
    else if (stepG l s x).2 = 200 then ⟨(stepG l s x).1.rq, (stepG l s x).1.fs, i + 1, 200⟩ else ⟨rq0, [], 0, (stepG l s x).2⟩ := rfl
/-- What is whole stands in the bytes; what is not tells nothing. -/
theorem scan_used (l : Lm) : ∀ (b : List UInt8) (s : HSt) (i : Nat), ((scanG l s i b).st = 200 ∧ i < (scanG l s i b).used ∧ (scanG l s i b).used ≤ i + b.length) ∨ ((scanG l s i b).st ≠ 200 ∧ (scanG l s i b).used = 0 ∧ (scanG l s i b).rq = rq0 ∧ (scanG l s i b).fs = [])
  | [], s, i => .inr ⟨by show ¬ (0 : Int) = 200; decide, rfl, rfl, rfl⟩
  | x :: r, s, i => by
    rw [scan_cons]
    split
    · have ih := scan_used l r (stepG l s x).1 (i + 1)
      rw [List.length_cons]
      rcases ih with ⟨h1, h2, h3⟩ | h
      · exact .inl ⟨h1, by omega, by omega⟩
      · exact .inr h
    · split
      · exact .inl ⟨rfl, Nat.lt_succ_self _, by rw [List.length_cons]; dsimp only; omega⟩
      · rename_i h1 h2
        exact .inr ⟨h2, rfl, rfl, rfl⟩
/-- Beginnings. -/
theorem scan_take (l : Lm) : ∀ (b : List UInt8) (s : HSt) (i n : Nat), n ≤ b.length → ((scanG l s i (b.take n)).st ≠ 0 → scanG l s i b = scanG l s i (b.take n)) ∧ ((scanG l s i b).st = 200 → ((scanG l s i (b.take n)).st = 200 ↔ (scanG l s i b).used ≤ i + n))
  | [], s, i, n, h => by
    obtain rfl : n = 0 := by simpa using h
    exact ⟨fun h => absurd rfl h, fun h => absurd h (by show ¬ (0 : Int) = 200; decide)⟩
  | x :: r, s, i, 0, _ => by
    refine ⟨fun h => absurd rfl h, fun h => ?_⟩
    rcases scan_used l (x :: r) s i with ⟨_, h2, _⟩ | ⟨h2, _⟩
    · exact ⟨fun h => absurd h (by show ¬ (0 : Int) = 200; decide), fun h => (by omega)⟩
    · exact absurd h h2
  | x :: r, s, i, n + 1, hn => by
    rw [List.take_succ_cons, scan_cons, scan_cons]
    split
    · have ih := scan_take l r (stepG l s x).1 (i + 1) n (by simpa using hn)
      rw [show i + 1 + n = i + (n + 1) by omega] at ih
      exact ih
    · split
      · exact ⟨fun _ => rfl, fun _ => ⟨fun _ => by dsimp only; omega, fun _ => rfl⟩⟩
      · exact ⟨fun _ => rfl, fun h => absurd h (by assumption)⟩
/-- What holds at each byte. -/
structure HInv (l : Lm) (s : HSt) (i : Nat) : Prop where
  fs : (s.fs.length : Int) ≤ l.fields
  many : (s.many : Int) ≤ l.head
  a : s.ph = false → s.many = 0 ∧ i = s.text.length + (if s.cr then 1 else 0) ∧ (s.text.length : Int) ≤ l.line
  b : s.ph = true → (i : Int) ≤ l.line + 2 + s.many
theorem inv0 {l : Lm} (h : limOK l = true) : HInv l hst0 0 := by
  unfold limOK fromB at h
  simp only [Bool.and_eq_true, decide_eq_true_eq] at h
  exact ⟨h.2.2.1.1, by show (0 : Int) ≤ _; omega, fun _ => ⟨rfl, rfl, by show (0 : Int) ≤ _; omega⟩, fun h => by cases h⟩
/-- A byte that is no error does the same with greater limits. -/
theorem step_lim {l m : Lm} {s : HSt} {i : Nat} {x : UInt8} (h : HInv l s i) (h1 : l.line ≤ m.line) (h2 : l.head ≤ m.head) (h3 : l.fields ≤ m.fields) (hst : (stepG l s x).2 = 0 ∨ (stepG l s x).2 = 200) :
    stepG m s x = stepG l s x ∧ ((stepG l s x).2 = 0 → HInv l (stepG l s x).1 (i + 1)) ∧ ((stepG l s x).2 = 200 → ((stepG l s x).1.fs.length : Int) ≤ l.fields ∧ ((i + 1 : Nat) : Int) ≤ l.line + 2 + l.head) := by
  obtain ⟨rq, fs, text, cr, many, ph⟩ := s
  obtain ⟨i1, i2, i3, i4⟩ := h
  dsimp only at i1 i2 i3 i4
  cases ph
  · obtain ⟨j1, j2, j3⟩ := i3 rfl
    clear i3 i4
    unfold stepG at hst ⊢
    simp only [Bool.false_eq_true, if_false] at hst ⊢
    unfold firstG at hst ⊢
    dsimp only at hst ⊢
    rcases takeG_cases cr x with ⟨e, c1, _⟩ | e | ⟨e, c1, _⟩ | ⟨e, c1, _⟩ <;> rw [e] at hst ⊢ <;> dsimp only at hst ⊢
    · simp only [ne_eq, not_true, Bool.false_eq_true, if_false, if_true] at hst ⊢
      by_cases h9 : lineSt text = 200
      · rw [if_pos h9]
        refine ⟨by first | rfl | trivial, fun _ => ⟨by show (0 : Int) ≤ _; omega, by show (many : Int) ≤ _; omega, fun h => (by cases h), fun _ => ?_⟩, fun h => by cases h⟩
        show ((i + 1 : Nat) : Int) ≤ l.line + 2 + many
        rw [c1] at j2
        simp only [if_true] at j2
        omega
      · rw [if_neg h9] at hst
        rw [if_neg h9]
        dsimp only at hst
        have hz : ¬ lineSt text = 0 := by unfold lineSt; split <;> (try split) <;> decide
        rcases hst with h | h
        · exact absurd h hz
        · exact absurd h h9
    · simp at hst
    · simp only [ne_eq, not_true, Bool.false_eq_true, if_false] at hst ⊢
      refine ⟨by first | rfl | trivial, fun _ => ⟨i1, i2, fun _ => ⟨j1, ?_, j3⟩, fun h => by cases h⟩, fun h => by cases h⟩
      show i + 1 = text.length + (if true then 1 else 0)
      rw [c1] at j2
      simp at j2 ⊢
      omega
    · simp only [ne_eq, not_true, if_false, if_true] at hst ⊢
      by_cases h9 : (text.length : Int) = l.line
      · rw [if_pos h9] at hst
        rcases hst with h | h <;> cases h
      · rw [if_neg h9, if_neg (show ¬ (text.length : Int) = m.line by omega)]
        refine ⟨by first | rfl | trivial, fun _ => ⟨i1, i2, fun _ => ⟨j1, ?_, ?_⟩, fun h => by cases h⟩, fun h => by cases h⟩
        · show i + 1 = (text ++ [x]).length + (if false then 1 else 0)
          rw [c1] at j2
          simp at j2 ⊢
          omega
        · show ((text ++ [x]).length : Int) ≤ _
          rw [List.length_append]
          simp only [List.length_singleton]
          omega
  · have j4 := i4 rfl
    clear i3 i4
    unfold stepG at hst ⊢
    simp only [if_true] at hst ⊢
    unfold otherG at hst ⊢
    dsimp only at hst ⊢
    by_cases hm : (many : Int) = l.head
    · rw [if_pos hm] at hst
      rcases hst with h | h <;> cases h
    rw [if_neg hm] at hst
    rw [if_neg hm, if_neg (show ¬ (many : Int) = m.head by omega)]
    have k4 : ((i + 1 : Nat) : Int) ≤ l.line + 2 + ((many + 1 : Nat) : Int) := by omega
    have k2 : ((many + 1 : Nat) : Int) ≤ l.head := by omega
    rcases takeG_cases cr x with ⟨e, _, _⟩ | e | ⟨e, _, _⟩ | ⟨e, _, _⟩ <;> rw [e] at hst ⊢ <;> dsimp only at hst ⊢
    · simp only [ne_eq, not_true, Bool.false_eq_true, if_false, if_true] at hst ⊢
      by_cases ht : text = []
      · rw [if_pos ht, if_pos ht]
        exact ⟨rfl, fun h => (by cases h), fun _ => ⟨i1, by omega⟩⟩
      rw [if_neg ht] at hst
      rw [if_neg ht, if_neg ht]
      by_cases hf : (fs.length : Int) = l.fields
      · rw [if_pos hf] at hst
        rcases hst with h | h <;> cases h
      rw [if_neg hf] at hst
      rw [if_neg hf, if_neg (show ¬ (fs.length : Int) = m.fields by omega)]
      by_cases hp : parseE text = 0
      · rw [if_pos hp]
        refine ⟨by first | rfl | trivial, fun _ => ⟨?_, k2, fun h => (by cases h), fun _ => k4⟩, fun h => by cases h⟩
        show ((fs ++ [(parseN text, parseV text)]).length : Int) ≤ _
        rw [List.length_append]
        simp only [List.length_singleton]
        omega
      · rw [if_neg hp] at hst
        rcases hst with h | h <;> cases h
    · simp at hst
    · simp only [ne_eq, not_true, Bool.false_eq_true, if_false] at hst ⊢
      exact ⟨by first | rfl | trivial, fun _ => ⟨i1, k2, fun h => (by cases h), fun _ => k4⟩, fun h => by cases h⟩
    · simp only [ne_eq, not_true, if_false, if_true] at hst ⊢
      exact ⟨by first | rfl | trivial, fun _ => ⟨i1, k2, fun h => (by cases h), fun _ => k4⟩, fun h => by cases h⟩
theorem scan_lim {l m : Lm} (h1 : l.line ≤ m.line) (h2 : l.head ≤ m.head) (h3 : l.fields ≤ m.fields) : ∀ (b : List UInt8) (s : HSt) (i : Nat), HInv l s i → (scanG l s i b).st = 200 →
    scanG m s i b = scanG l s i b ∧ ((scanG l s i b).fs.length : Int) ≤ l.fields ∧ ((scanG l s i b).used : Int) ≤ l.line + 2 + l.head
  | [], _, _, _, h => absurd h (by show ¬ (0 : Int) = 200; decide)
  | x :: r, s, i, hi, h => by
    rw [scan_cons] at h
    rw [scan_cons, scan_cons]
    by_cases h0 : (stepG l s x).2 = 0
    · rw [if_pos h0] at h
      obtain ⟨e1, e2, _⟩ := step_lim (x := x) hi h1 h2 h3 (.inl h0)
      rw [e1, if_pos h0, if_pos h0]
      exact scan_lim h1 h2 h3 r _ _ (e2 h0) h
    · rw [if_neg h0] at h
      by_cases h9 : (stepG l s x).2 = 200
      · obtain ⟨e1, _, e3⟩ := step_lim (x := x) hi h1 h2 h3 (.inr h9)
        rw [e1, if_neg h0, if_neg h0, if_pos h9]
        exact ⟨rfl, e3 h9⟩
      · rw [if_neg h9] at h
        exact absurd h h9
theorem scan_fs (l : Lm) : ∀ (b : List UInt8) (s : HSt) (i : Nat), s.Le i → (scanG l s i b).fs.length ≤ i + b.length
  | [], _, _, _ => Nat.zero_le _
  | x :: r, s, i, h => by
    have h1 := step_le (l := l) (x := x) h
    rw [scan_cons, List.length_cons]
    split
    · have := scan_fs l r _ _ h1
      omega
    · split
      · have := h1.fs
        show (stepG l s x).1.fs.length ≤ _
        omega
      · exact Nat.zero_le _
theorem scanR_fs (l : Lm) (b : List UInt8) (h : b.length ≤ 1000000000) : (scanR l b).fs.length ≤ 1000000000 := by
  unfold scanR
  split
  · have := scan_fs l b hst0 0 ⟨Nat.le_refl _, Nat.le_refl _, Nat.le_refl _⟩
    omega
  · exact Nat.zero_le _
end Go.Proofs.YtmdmmncoigeijaaGreatDoor.Vex
/- The statements' own first head, and HeadBegins, reckoned. -/
namespace Go.Proofs.YtmdmmncoigeijaaGreatDoor.Vex
open Go Go.RowKit
set_option maxRecDepth 100000
set_option linter.unusedSectionVars false
variable {gI : GI} [HasMax gI] [HasErr gI]

theorem SlcV.le {c : Ctx} {H : Hp} {A : Option Addr} {n cp sz : Nat} {h : Int} {K : Value → Prop} (h0 : 0 ≤ h) (h1 : h ≤ cp) (k : K (.slice A h.toNat cp)) : SlcV c H A n cp 0 (some h) sz K := by
  refine ⟨Int.le_refl _, h0, fun h' e w hw => by cases e; exact h1, ?_⟩
  have : A.map (·.add ((0 : Int).toNat * sz)) = A := by
    cases A with
    | none => rfl
    | some a =>
      simp only [Option.map_some, Int.toNat_zero, Nat.zero_mul, Option.some.injEq]
      unfold Addr.add
      split <;> simp_all
  simp only [this, ite_self, Option.getD_some]
  exact k
def limS : Lm := ⟨20, 40, 2, 0, 1⟩
theorem small20_f : Fn Tryz.prog gI 54 [] (limV limS) := by
  refine Fn.of tys_ok Tryz.func54 rfl (by kernel_rfl) rfl rfl ?_; intro w hG
  (conv => whnf); repeat ((first | refine tk1 ?_ | refine tk2 ?_ | refine tk3 ?_ | refine tk12 (fun _ => ?_) | refine tk4 ?_ | refine tk5 ?_ | refine tk6 ?_ | refine tk7 ?_ | refine tk8 ?_ | refine tk9 ?_ | refine tk10 (fun _ _ => ?_) | refine tk11 (fun _ => ?_) | refine tk13 ?_ | refine tk14 ?_); (conv => whnf))
  rfl
def aliveB : List UInt8 := [71, 69, 84, 32, 47, 32, 72, 84, 84, 80, 47, 49, 46, 49, 13, 10, 65, 58, 32, 98, 13, 10, 13, 10, 120]
theorem alive_scan : scanR limS aliveB = ⟨⟨[71, 69, 84], [47], [], 1⟩, [([97], [98])], 24, 200⟩ ∧ scanE limS aliveB = 0 := by decide +kernel
theorem alive20_f : Fn Tryz.prog gI 23 [] (.bool true) := by
  refine Fn.of tys_ok Tryz.func23 rfl (by kernel_rfl) rfl rfl ?_; intro w hG
  (conv => whnf); repeat ((first | refine tk1 ?_ | refine tk2 ?_ | refine tk3 ?_ | refine tk12 (fun _ => ?_) | refine tk4 ?_ | refine tk5 ?_ | refine tk6 ?_ | refine tk7 ?_ | refine tk8 ?_ | refine tk9 ?_ | refine tk10 (fun _ _ => ?_) | refine tk11 (fun _ => ?_) | refine tk13 ?_ | refine tk14 ?_); (conv => whnf))
  refine CallK.fn small20_f ?_
  (conv => whnf); repeat ((first | refine tk1 ?_ | refine tk2 ?_ | refine tk3 ?_ | refine tk12 (fun _ => ?_) | refine tk4 ?_ | refine tk5 ?_ | refine tk6 ?_ | refine tk7 ?_ | refine tk8 ?_ | refine tk9 ?_ | refine tk10 (fun _ _ => ?_) | refine tk11 (fun _ => ?_) | refine tk13 ?_ | refine tk14 ?_); (conv => whnf))
  rename_i b7
  refine Oth.same tys_ok rfl rfl rfl (fun o7 ho7 => ?_)
  have hR7 : ∀ H, RdA (mkC Tryz.prog gI w hG) (.obj b7 o7 :: H) (some ⟨b7, 0, none⟩) _ := ho7.rd
  have hs := HScan_f (gI := gI) limS (some ⟨b7, 0, none⟩) 25 aliveB (by decide)
  rw [alive_scan.1, alive_scan.2] at hs
  (conv => whnf); repeat ((first | refine tk1 ?_ | refine tk2 ?_ | refine tk3 ?_ | refine tk12 (fun _ => ?_) | refine tk4 ?_ | refine tk5 ?_ | refine tk6 ?_ | refine tk7 ?_ | refine tk8 ?_ | refine tk9 ?_ | refine tk10 (fun _ _ => ?_) | refine tk11 (fun _ => ?_) | refine tk13 ?_ | refine tk14 ?_); (conv => whnf))
  refine CallK.fnT hs (fun w1 hw1 => ⟨RdA.ok (xs := aliveB.map byteV) w1 hw1, trivial⟩) ?_
  intro x _
  dsimp only [ScV.val, ScV.hd, reqC, List.cons_append, List.nil_append, List.append_nil]
  (conv => whnf); repeat ((first | refine tk1 ?_ | refine tk2 ?_ | refine tk3 ?_ | refine tk12 (fun _ => ?_) | refine tk4 ?_ | refine tk5 ?_ | refine tk6 ?_ | refine tk7 ?_ | refine tk8 ?_ | refine tk9 ?_ | refine tk10 (fun _ _ => ?_) | refine tk11 (fun _ => ?_) | refine tk13 ?_ | refine tk14 ?_); (conv => whnf))
  rename_i b1 b27
  refine CallK.fnR (HSame_r ⟨[71, 69, 84], [47], [], 1⟩ ⟨[71, 69, 84], [47], [], 1⟩ x.fA _ x.fc 1 [([97], [98])] [([97], [98])] (by decide) (by decide)) ⟨RdA.ok, RdA.ok (xs := fcells [([97], [98])]), trivial⟩ ?_
  (conv => whnf); repeat ((first | refine tk1 ?_ | refine tk2 ?_ | refine tk3 ?_ | refine tk12 (fun _ => ?_) | refine tk4 ?_ | refine tk5 ?_ | refine tk6 ?_ | refine tk7 ?_ | refine tk8 ?_ | refine tk9 ?_ | refine tk10 (fun _ _ => ?_) | refine tk11 (fun _ => ?_) | refine tk13 ?_ | refine tk14 ?_); (conv => whnf))
  rfl
end Go.Proofs.YtmdmmncoigeijaaGreatDoor.Vex
/- The statement HeadNames, reckoned. -/
namespace Go.Proofs.YtmdmmncoigeijaaGreatDoor.Vex
open Go Go.RowKit
set_option maxRecDepth 100000
set_option linter.unusedSectionVars false
variable {gI : GI} [HasMax gI] [HasErr gI] [HasPow gI]

theorem is20 (s : List UInt8) (n : Int) (hs : s.length ≤ 1000) (h : scanR limS s = ⟨rq0, [], 0, n⟩ ∧ scanE limS s = 0) : Fn Tryz.prog gI 21 [str s, .int .i64 n] (.bool true) := by
  have hsc := fun (A : Option Addr) (c : Nat) => HScan_f (gI := gI) limS A c s (by omega)
  rw [h.1, h.2] at hsc
  refine Fn.of tys_ok Tryz.func21 rfl (by kernel_rfl) rfl rfl ?_; intro w hG
  (conv => whnf); repeat ((first | refine tk1 ?_ | refine tk2 ?_ | refine tk3 ?_ | refine tk12 (fun _ => ?_) | refine tk4 ?_ | refine tk5 ?_ | refine tk6 ?_ | refine tk7 ?_ | refine tk8 ?_ | refine tk9 ?_ | refine tk10 (fun _ _ => ?_) | refine tk11 (fun _ => ?_) | refine tk13 ?_ | refine tk14 ?_); (conv => whnf))
  refine CallK.fn small20_f ?_
  (conv => whnf); repeat ((first | refine tk1 ?_ | refine tk2 ?_ | refine tk3 ?_ | refine tk12 (fun _ => ?_) | refine tk4 ?_ | refine tk5 ?_ | refine tk6 ?_ | refine tk7 ?_ | refine tk8 ?_ | refine tk9 ?_ | refine tk10 (fun _ _ => ?_) | refine tk11 (fun _ => ?_) | refine tk13 ?_ | refine tk14 ?_); (conv => whnf))
  rename_i b13 c13
  refine CallK.fnT (hsc (some ⟨b13, 0, none⟩) c13) (fun w1 hw1 => ⟨RdA.ok w1 hw1, trivial⟩) ?_
  intro x _
  dsimp only [ScV.val, ScV.hd, reqC, List.cons_append, List.nil_append, List.append_nil]
  (conv => whnf); repeat ((first | refine tk1 ?_ | refine tk2 ?_ | refine tk3 ?_ | refine tk12 (fun _ => ?_) | refine tk4 ?_ | refine tk5 ?_ | refine tk6 ?_ | refine tk7 ?_ | refine tk8 ?_ | refine tk9 ?_ | refine tk10 (fun _ _ => ?_) | refine tk11 (fun _ => ?_) | refine tk13 ?_ | refine tk14 ?_); (conv => whnf))
  refine CallK.fnR (HSame_r rq0 rq0 x.fA none x.fc 0 [] [] (by decide) (by decide)) ⟨RdS.nil, RdS.nil, trivial⟩ ?_
  (conv => whnf); repeat ((first | refine tk1 ?_ | refine tk2 ?_ | refine tk3 ?_ | refine tk12 (fun _ => ?_) | refine tk4 ?_ | refine tk5 ?_ | refine tk6 ?_ | refine tk7 ?_ | refine tk8 ?_ | refine tk9 ?_ | refine tk10 (fun _ _ => ?_) | refine tk11 (fun _ => ?_) | refine tk13 ?_ | refine tk14 ?_); (conv => whnf))
  rfl
theorem names_text : textS ⟨[71, 69, 84], [47], [], 1⟩ [([97], [98])] = [71, 69, 84, 32, 47, 32, 72, 84, 84, 80, 47, 49, 46, 49, 13, 10, 97, 58, 32, 98, 13, 10, 13, 10] ∧ textE ⟨[71, 69, 84], [47], [], 1⟩ [([97], [98])] = 0 := by decide +kernel
theorem names_zero : scanR ⟨0, 0, 0, 0, 0⟩ [] = hres0 ∧ scanE ⟨0, 0, 0, 0, 0⟩ [] = 8 := by decide +kernel
set_option maxHeartbeats 4000000 in
theorem HeadNames_v : Fn Tryz.prog gI 5 [] (.bool true) := by
  refine Fn.of tys_ok Tryz.func5 rfl (by kernel_rfl) rfl rfl ?_; intro w hG
  (conv => whnf); repeat ((first | refine tk1 ?_ | refine tk2 ?_ | refine tk3 ?_ | refine tk12 (fun _ => ?_) | refine tk4 ?_ | refine tk5 ?_ | refine tk6 ?_ | refine tk7 ?_ | refine tk8 ?_ | refine tk9 ?_ | refine tk10 (fun _ _ => ?_) | refine tk11 (fun _ => ?_) | refine tk13 ?_ | refine tk14 ?_); (conv => whnf))
  refine CallK.fn (is20 [71, 69, 84, 32, 47, 32, 72, 84, 84, 80, 47, 49, 46, 49, 13, 10] 0 (by decide) (by decide +kernel)) ?_
  (conv => whnf); repeat ((first | refine tk1 ?_ | refine tk2 ?_ | refine tk3 ?_ | refine tk12 (fun _ => ?_) | refine tk4 ?_ | refine tk5 ?_ | refine tk6 ?_ | refine tk7 ?_ | refine tk8 ?_ | refine tk9 ?_ | refine tk10 (fun _ _ => ?_) | refine tk11 (fun _ => ?_) | refine tk13 ?_ | refine tk14 ?_); (conv => whnf))
  refine CallK.fn (is20 [71, 69, 84, 32, 47, 10] 400 (by decide) (by decide +kernel)) ?_
  (conv => whnf); repeat ((first | refine tk1 ?_ | refine tk2 ?_ | refine tk3 ?_ | refine tk12 (fun _ => ?_) | refine tk4 ?_ | refine tk5 ?_ | refine tk6 ?_ | refine tk7 ?_ | refine tk8 ?_ | refine tk9 ?_ | refine tk10 (fun _ _ => ?_) | refine tk11 (fun _ => ?_) | refine tk13 ?_ | refine tk14 ?_); (conv => whnf))
  refine CallK.fn (is20 [71, 69, 84, 32, 47, 13, 120] 400 (by decide) (by decide +kernel)) ?_
  (conv => whnf); repeat ((first | refine tk1 ?_ | refine tk2 ?_ | refine tk3 ?_ | refine tk12 (fun _ => ?_) | refine tk4 ?_ | refine tk5 ?_ | refine tk6 ?_ | refine tk7 ?_ | refine tk8 ?_ | refine tk9 ?_ | refine tk10 (fun _ _ => ?_) | refine tk11 (fun _ => ?_) | refine tk13 ?_ | refine tk14 ?_); (conv => whnf))
  refine CallK.fn (is20 [97, 98, 99, 100, 101, 102, 103, 104, 105, 106, 107, 108, 109, 110, 111, 112, 113, 114, 115, 116, 117] 414 (by decide) (by decide +kernel)) ?_
  (conv => whnf); repeat ((first | refine tk1 ?_ | refine tk2 ?_ | refine tk3 ?_ | refine tk12 (fun _ => ?_) | refine tk4 ?_ | refine tk5 ?_ | refine tk6 ?_ | refine tk7 ?_ | refine tk8 ?_ | refine tk9 ?_ | refine tk10 (fun _ _ => ?_) | refine tk11 (fun _ => ?_) | refine tk13 ?_ | refine tk14 ?_); (conv => whnf))
  refine CallK.fn (is20 [97, 98, 99, 100, 101, 102, 103, 104, 105, 106, 107, 108, 109, 110, 111, 112, 113, 114, 115, 116] 0 (by decide) (by decide +kernel)) ?_
  (conv => whnf); repeat ((first | refine tk1 ?_ | refine tk2 ?_ | refine tk3 ?_ | refine tk12 (fun _ => ?_) | refine tk4 ?_ | refine tk5 ?_ | refine tk6 ?_ | refine tk7 ?_ | refine tk8 ?_ | refine tk9 ?_ | refine tk10 (fun _ _ => ?_) | refine tk11 (fun _ => ?_) | refine tk13 ?_ | refine tk14 ?_); (conv => whnf))
  refine CallK.fn (is20 [71, 69, 84, 32, 47, 32, 72, 84, 84, 80, 47, 49, 46, 49, 13, 10, 97, 58, 13, 10, 98, 58, 13, 10, 99, 58, 13, 10] 431 (by decide) (by decide +kernel)) ?_
  (conv => whnf); repeat ((first | refine tk1 ?_ | refine tk2 ?_ | refine tk3 ?_ | refine tk12 (fun _ => ?_) | refine tk4 ?_ | refine tk5 ?_ | refine tk6 ?_ | refine tk7 ?_ | refine tk8 ?_ | refine tk9 ?_ | refine tk10 (fun _ _ => ?_) | refine tk11 (fun _ => ?_) | refine tk13 ?_ | refine tk14 ?_); (conv => whnf))
  refine CallK.fn (is20 [71, 69, 84, 32, 47, 32, 72, 84, 84, 80, 47, 49, 46, 49, 13, 10, 97, 58, 13, 10, 98, 58, 13, 10, 99, 58, 13] 0 (by decide) (by decide +kernel)) ?_
  (conv => whnf); repeat ((first | refine tk1 ?_ | refine tk2 ?_ | refine tk3 ?_ | refine tk12 (fun _ => ?_) | refine tk4 ?_ | refine tk5 ?_ | refine tk6 ?_ | refine tk7 ?_ | refine tk8 ?_ | refine tk9 ?_ | refine tk10 (fun _ _ => ?_) | refine tk11 (fun _ => ?_) | refine tk13 ?_ | refine tk14 ?_); (conv => whnf))
  refine CallK.fn (is20 [71, 69, 84, 32, 47, 32, 72, 84, 84, 80, 47, 49, 46, 49, 13, 10, 97, 58, 98, 98, 98, 98, 98, 98, 98, 98, 98, 98, 98, 98, 98, 98, 98, 98, 98, 98, 98, 98, 98, 98, 98, 98, 98, 98, 98, 98, 98, 98, 98, 98, 98, 98, 98, 98, 98, 98, 98] 431 (by decide) (by decide +kernel)) ?_
  (conv => whnf); repeat ((first | refine tk1 ?_ | refine tk2 ?_ | refine tk3 ?_ | refine tk12 (fun _ => ?_) | refine tk4 ?_ | refine tk5 ?_ | refine tk6 ?_ | refine tk7 ?_ | refine tk8 ?_ | refine tk9 ?_ | refine tk10 (fun _ _ => ?_) | refine tk11 (fun _ => ?_) | refine tk13 ?_ | refine tk14 ?_); (conv => whnf))
  refine CallK.fn (is20 [71, 69, 84, 32, 47, 32, 72, 84, 84, 80, 47, 49, 46, 49, 13, 10, 97, 58, 98, 98, 98, 98, 98, 98, 98, 98, 98, 98, 98, 98, 98, 98, 98, 98, 98, 98, 98, 98, 98, 98, 98, 98, 98, 98, 98, 98, 98, 98, 98, 98, 98, 98, 98, 98, 98, 98] 0 (by decide) (by decide +kernel)) ?_
  (conv => whnf); repeat ((first | refine tk1 ?_ | refine tk2 ?_ | refine tk3 ?_ | refine tk12 (fun _ => ?_) | refine tk4 ?_ | refine tk5 ?_ | refine tk6 ?_ | refine tk7 ?_ | refine tk8 ?_ | refine tk9 ?_ | refine tk10 (fun _ _ => ?_) | refine tk11 (fun _ => ?_) | refine tk13 ?_ | refine tk14 ?_); (conv => whnf))
  have hz := HScan_f (gI := gI) ⟨0, 0, 0, 0, 0⟩ none 0 [] (by decide)
  rw [names_zero.1, names_zero.2] at hz
  refine CallK.fnT hz (fun w1 hw1 => ⟨(RdS.nil (c := mkC Tryz.prog gI w hG) (H := [])) w1 (hw1.sub (List.nil_sublist _)), trivial⟩) ?_
  intro x _
  dsimp only [ScV.val, ScV.hd, reqC, List.cons_append, List.nil_append, List.append_nil]
  (conv => whnf); repeat ((first | refine tk1 ?_ | refine tk2 ?_ | refine tk3 ?_ | refine tk12 (fun _ => ?_) | refine tk4 ?_ | refine tk5 ?_ | refine tk6 ?_ | refine tk7 ?_ | refine tk8 ?_ | refine tk9 ?_ | refine tk10 (fun _ _ => ?_) | refine tk11 (fun _ => ?_) | refine tk13 ?_ | refine tk14 ?_); (conv => whnf))
  have ht := fun (A : Option Addr) => HText_f (gI := gI) ⟨[71, 69, 84], [47], [], 1⟩ A 1 [([97], [98])] (.slice none 0 0) (by decide) (by decide) (by decide) (by decide) (by decide) (by decide)
  rw [names_text.1, names_text.2] at ht
  refine CallK.fnR (ht _) ⟨RdA.ok (xs := fcells [([97], [98])]), trivial⟩ ?_
  (conv => whnf); repeat ((first | refine tk1 ?_ | refine tk2 ?_ | refine tk3 ?_ | refine tk12 (fun _ => ?_) | refine tk4 ?_ | refine tk5 ?_ | refine tk6 ?_ | refine tk7 ?_ | refine tk8 ?_ | refine tk9 ?_ | refine tk10 (fun _ _ => ?_) | refine tk11 (fun _ => ?_) | refine tk13 ?_ | refine tk14 ?_); (conv => whnf))
  refine CallK.fn alive20_f ?_
  (conv => whnf); repeat ((first | refine tk1 ?_ | refine tk2 ?_ | refine tk3 ?_ | refine tk12 (fun _ => ?_) | refine tk4 ?_ | refine tk5 ?_ | refine tk6 ?_ | refine tk7 ?_ | refine tk8 ?_ | refine tk9 ?_ | refine tk10 (fun _ _ => ?_) | refine tk11 (fun _ => ?_) | refine tk13 ?_ | refine tk14 ?_); (conv => whnf))
  refine CallK.fn (is20 [66, 82, 69, 87, 32, 47, 32, 72, 84, 84, 80, 47, 49, 46, 49, 13, 10] 501 (by decide) (by decide +kernel)) ?_
  (conv => whnf); repeat ((first | refine tk1 ?_ | refine tk2 ?_ | refine tk3 ?_ | refine tk12 (fun _ => ?_) | refine tk4 ?_ | refine tk5 ?_ | refine tk6 ?_ | refine tk7 ?_ | refine tk8 ?_ | refine tk9 ?_ | refine tk10 (fun _ _ => ?_) | refine tk11 (fun _ => ?_) | refine tk13 ?_ | refine tk14 ?_); (conv => whnf))
  refine CallK.fn (is20 [71, 69, 84, 32, 47, 32, 72, 84, 84, 80, 47, 49, 46, 49, 13, 10, 32, 97, 58, 32, 98, 13, 10] 400 (by decide) (by decide +kernel)) ?_
  (conv => whnf); repeat ((first | refine tk1 ?_ | refine tk2 ?_ | refine tk3 ?_ | refine tk12 (fun _ => ?_) | refine tk4 ?_ | refine tk5 ?_ | refine tk6 ?_ | refine tk7 ?_ | refine tk8 ?_ | refine tk9 ?_ | refine tk10 (fun _ _ => ?_) | refine tk11 (fun _ => ?_) | refine tk13 ?_ | refine tk14 ?_); (conv => whnf))
end Go.Proofs.YtmdmmncoigeijaaGreatDoor.Vex
namespace Go.Proofs.YtmdmmncoigeijaaGreatDoor.headNames
open Go.ChangeShapes Go.WideShapes Go.ChangeAt Go.RowKit

set_option maxRecDepth 100000 in
theorem contract (H : Type) (enc : TypeId × Value → H) (W : World) (base : Nat) (args : Array Value) (ds gs : List (DataW H)) (before : List MemPlace)
    (hval : ∀ (j : Nat) t v, Tryz.f5.params[j]? = some t → args[j]? = some v → Value.okWide Tryz.prog W .any base t v)
    (hW : DataW.Whole enc Tryz.prog Tryz.f5.params.toList Rows.headNamesSpec.vars false W args.toList ds gs before) (hL : laidMetH Tryz.prog Rows.headNamesRow.laid W) (hS : W.ShapedOpen Tryz.prog) :
    Calls Tryz.prog 5 args W fun e W' => ∃ v, e = .returned v ∧ Rows.headNamesSpec.post enc Tryz.prog Tryz.f5 false true false false W args v W' := by
  have hW' := hW
  obtain ⟨p, q, hA, hV, rfl, hfz, hnd⟩ := hW
  rw [Tryz.params5] at hA hval
  obtain ⟨hargs, rfl, rfl⟩ := trodAll_nil hA
  obtain rfl : args = #[] := by rw [← Array.toList_inj]; exact hargs
  obtain ⟨rfl, rfl⟩ := trodVars_none hV
  have hG := Vex.gP_of hL hS (by kernel_rfl) (List.mem_of_getElem? (i := 5) rfl) (List.mem_of_getElem? (i := 4) rfl) (List.mem_of_getElem? (i := 2) rfl)
  refine (Vex.done_F Vex.HeadNames_v hG).mono fun e W' ⟨he, hb⟩ => ?_
  exact ⟨_, he, law_post laidOut rfl hW' (by kernel_rfl) (by kernel_rfl) Tryz.underlying4 (by kernel_rfl) hb⟩

abbrev start : Array Value := #[]
theorem laid_met (os : Os) : laidMet Tryz.prog Rows.headNamesRow.laid ((laidWorld os start).forCall (fun _ _ => 0) ⟨#[], start, []⟩).memory :=
  laidMet_of_run' 8 (by kernel_rfl) (by kernel_rfl)
theorem reads (os : Os) {H : Type} (enc : TypeId × Value → H) : ∃ places, DataW.whole enc Tryz.prog ((laidWorld os start).forCall (fun _ _ => 0) ⟨#[], start, []⟩).memory Tryz.f5.params.toList Rows.headNamesSpec.vars false start.toList 8 = some ([], [], places) :=
  ⟨[], by kernel_rfl⟩

set_option maxRecDepth 100000 in
theorem lifted (os : Os) (started : os.Started) (H : Type) (enc : TypeId × Value → H) (F : Stop.Interp) :
    ReturnsInHanded {} Tryz.checked os 5 .any ((OpenSpec.ofChange Rows.headNamesSpec).preRow enc Tryz.prog Tryz.f5 Rows.headNamesRow.domain false Rows.headNamesRow.laid) (((OpenSpec.ofChange Rows.headNamesSpec).at F).post enc Tryz.prog Tryz.f5 false true false false) := by
  obtain ⟨places, hx⟩ := reads os enc
  refine returnsInHanded_of_row (C := Tryz.checked) (s := OpenSpec.ofChange Rows.headNamesSpec) own started (by kernel_rfl) Tryz.func5
    (witness_row_atRef (enc := enc) (C := Tryz.checked) false (laidWorld os start) start rfl (by kernel_rfl) (by kernel_rfl) (by kernel_rfl)
      (OpenSpec.preRow_of_cond 8 hx (by kernel_rfl) (fun k hk => by cases hk) (by kernel_rfl) (laid_met os))) ?_
  intro W base args ds gs before hval hW _ _ _ hL hS _
  exact contract H enc W base args ds gs before hval hW hL hS

theorem said : Rows.HeadNamesSaid :=
  OpenClaim.holds_of_cond 5 Tryz.f5 rfl rfl rfl rfl rfl rfl rfl ⟨rfl, rfl, rfl, rfl, rfl⟩ rfl rfl rfl rfl rfl (by kernel_rfl) Tryz.func5 (by kernel_rfl)
    (of_decide_eq_true (by kernel_rfl)) (by unfold Func.isWrapper; first | (rw [if_pos (by decide +kernel)]; kernel_rfl) | (rw [if_neg (by decide +kernel)]; exact ⟨rfl, rfl⟩))
    (fun os started H enc _ F => by rw [OpenClaim.pre_eq_preRow]; exact lifted os started H enc F)

/-- No parameter wants a stand-in; the program's own looks. -/
theorem plain (f : FuncId) (fn : Func) (hf : Tryz.pinned.checked.prog.funcNamed "bellows/bellowslaw20.HeadNames" = some f) (hfn : Tryz.pinned.checked.prog.funcs[f]? = some fn) :
    true = Tryz.pinned.checked.prog.looks [] ∧ ∀ (j : Nat) t, fn.params[j]? = some t → Tryz.pinned.checked.prog.wantsStandIn t = false := by
  obtain rfl : f = 5 := Option.some.inj ((show Tryz.prog.funcNamed "bellows/bellowslaw20.HeadNames" = some 5 by kernel_rfl).symm.trans hf) |>.symm
  obtain rfl : fn = Tryz.f5 := (Option.some.inj (Tryz.func5.symm.trans hfn)).symm
  refine ⟨by kernel_rfl, fun j t ht => ?_⟩
  have hall : (Tryz.f5.params.toList.all fun t => !Tryz.prog.wantsStandIn t) = true := by kernel_rfl
  have := List.all_eq_true.1 hall t (Array.mem_toList_iff.2 (Array.mem_of_getElem? ht))
  exact (show Tryz.prog.wantsStandIn t = false by simpa using this)

theorem proved : Rows.HeadNamesCardSaid :=
  Claim7.holds_tied_plain_at .later [] _ _ _ _ said (fun _ h => by cases h) (by kernel_rfl) (fun _ h => by cases h) headNames_row_tie rfl ⟨rfl, rfl⟩ (by kernel_rfl) rfl plain (by kernel_rfl)
end Go.Proofs.YtmdmmncoigeijaaGreatDoor.headNames
