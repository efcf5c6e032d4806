/- For every request of bulk at most uptoSmall HeadWrites returns true; the argument reads behind the call as it read before. -/
import Derived.Test.YtmdmmncoigeijaaGreatDoorMHeadWrites3
/- The references of the first line, reckoned: single bytes, quoted ones, paths, places. -/
namespace Go.Proofs.YtmdmmncoigeijaaGreatDoor.Vex
open Go Go.RowKit
set_option maxRecDepth 100000
set_option linter.unusedSectionVars false
variable {gI : GI} [HasMax gI] [HasErr gI]

theorem Digit_r (x : UInt8) : Fn Tryz.prog gI 161 [.int .u8 x.toNat] (.int .i64 (digI x.toNat)) := by
  have hxt := x.toNat_lt
  refine Fn.of tys_ok Tryz.func161 rfl (by kernel_rfl) rfl rfl ?_; intro w hG
  (repeat' ((conv => whnf); first | (first | refine tk1 ?_ | refine tk2 ?_ | refine tk3 ?_ | refine tk12 (fun _ => ?_) | refine tk4 ?_ | refine tk5 ?_ | refine tk6 ?_ | refine tk7 ?_ | refine tk8 ?_ | refine tk9 ?_ | refine tk10 (fun _ _ => ?_) | refine tk11 (fun _ => ?_) | refine tk13 ?_ | refine tk14 ?_) | refine Cmp.cases (fun _ => ?_) (fun _ => ?_) | refine IdxS.nat (by omega) ?_ | refine IdxS.go (by omega) (by omega) (fun _ _ _ => ?_) | refine SlcS.at (by omega) (by omega) (by omega) ?_ | refine CatS.at (by simp only [List.length_append, List.length_cons, List.length_nil]; omega) ?_ | refine Ar.in8 (by omega) (by omega) ?_)); all_goals (conv => whnf)
  all_goals first | rfl | (refine congrArg (Value.int IntKind.i64) ?_; unfold digI; repeat' split; all_goals omega)
theorem among19_r (x : UInt8) (l : List UInt8) (hl : l.length ≤ 1000000000) : Fn Tryz.prog gI 163 [.int .u8 x.toNat, str l] (.bool (l.contains x)) := by
  refine Fn.of tys_ok Tryz.func163 rfl (by kernel_rfl) rfl rfl ?_; intro w hG
  (conv => whnf); repeat ((first | refine tk1 ?_ | refine tk2 ?_ | refine tk3 ?_ | refine tk12 (fun _ => ?_) | refine tk4 ?_ | refine tk5 ?_ | refine tk6 ?_ | refine tk7 ?_ | refine tk8 ?_ | refine tk9 ?_ | refine tk10 (fun _ _ => ?_) | refine tk11 (fun _ => ?_) | refine tk13 ?_ | refine tk14 ?_); (conv => whnf))
  refine LoopS.lp tys_ok (fun (i : Nat) u => [.int .u8 x.toNat, str l, u 2, u 3, u 4, .int .i64 (i : Nat), u 6, u 7, u 8, u 9, u 10, u 11, u 12, u 13, u 14, u 15, u 16]) (fun _ => [])
    (fun i => i ≤ l.length ∧ l.contains x = (l.drop i).contains x) (fun i => l.length - i) 0 ⟨Nat.zero_le _, rfl⟩ rfl (by repeat' (first | exact List.Sublist.refl _ | exact List.nil_sublist _ | apply List.Sublist.cons_cons | apply List.Sublist.cons)) ?_
  intro i u ⟨hi, hI⟩
  (conv => whnf); repeat ((first | refine tk1 ?_ | refine tk2 ?_ | refine tk3 ?_ | refine tk12 (fun _ => ?_) | refine tk4 ?_ | refine tk5 ?_ | refine tk6 ?_ | refine tk7 ?_ | refine tk8 ?_ | refine tk9 ?_ | refine tk10 (fun _ _ => ?_) | refine tk11 (fun _ => ?_) | refine tk13 ?_ | refine tk14 ?_); (conv => whnf))
  refine Cmp.cases (fun hlt => ?_) (fun hlt => ?_)
  · have hlt' : i < l.length := by omega
    obtain ⟨y, hy⟩ : ∃ y, l[i] = y := ⟨_, rfl⟩
    have hd : l.drop i = y :: l.drop (i + 1) := by rw [← hy]; exact List.drop_eq_getElem_cons hlt'
    rw [hd] at hI
    (conv => whnf); repeat ((first | refine tk1 ?_ | refine tk2 ?_ | refine tk3 ?_ | refine tk12 (fun _ => ?_) | refine tk4 ?_ | refine tk5 ?_ | refine tk6 ?_ | refine tk7 ?_ | refine tk8 ?_ | refine tk9 ?_ | refine tk10 (fun _ _ => ?_) | refine tk11 (fun _ => ?_) | refine tk13 ?_ | refine tk14 ?_); (conv => whnf))
    refine IdxS.at y (by rw [Int.toNat_natCast, List.getElem?_eq_getElem hlt', hy]) (by omega) ?_
    (conv => whnf); repeat ((first | refine tk1 ?_ | refine tk2 ?_ | refine tk3 ?_ | refine tk12 (fun _ => ?_) | refine tk4 ?_ | refine tk5 ?_ | refine tk6 ?_ | refine tk7 ?_ | refine tk8 ?_ | refine tk9 ?_ | refine tk10 (fun _ _ => ?_) | refine tk11 (fun _ => ?_) | refine tk13 ?_ | refine tk14 ?_); (conv => whnf))
    refine Cmp.cases (fun hq => ?_) (fun hq => ?_)
    · have hyx : y = x := UInt8.toNat_inj.1 (by omega)
      subst hyx
      (conv => whnf); repeat ((first | refine tk1 ?_ | refine tk2 ?_ | refine tk3 ?_ | refine tk12 (fun _ => ?_) | refine tk4 ?_ | refine tk5 ?_ | refine tk6 ?_ | refine tk7 ?_ | refine tk8 ?_ | refine tk9 ?_ | refine tk10 (fun _ _ => ?_) | refine tk11 (fun _ => ?_) | refine tk13 ?_ | refine tk14 ?_); (conv => whnf))
      rw [hI]; simp
    · have hyx : ¬ x = y := fun e => hq (by rw [e])
      (conv => whnf); repeat ((first | refine tk1 ?_ | refine tk2 ?_ | refine tk3 ?_ | refine tk12 (fun _ => ?_) | refine tk4 ?_ | refine tk5 ?_ | refine tk6 ?_ | refine tk7 ?_ | refine tk8 ?_ | refine tk9 ?_ | refine tk10 (fun _ _ => ?_) | refine tk11 (fun _ => ?_) | refine tk13 ?_ | refine tk14 ?_); (conv => whnf))
      exact ⟨i + 1, ⟨by omega, by rw [hI]; simp [hyx]⟩, rfl, (by repeat' (first | exact List.Sublist.refl _ | exact List.nil_sublist _ | apply List.Sublist.cons_cons | apply List.Sublist.cons)), by dsimp only; omega⟩
  · (conv => whnf); repeat ((first | refine tk1 ?_ | refine tk2 ?_ | refine tk3 ?_ | refine tk12 (fun _ => ?_) | refine tk4 ?_ | refine tk5 ?_ | refine tk6 ?_ | refine tk7 ?_ | refine tk8 ?_ | refine tk9 ?_ | refine tk10 (fun _ _ => ?_) | refine tk11 (fun _ => ?_) | refine tk13 ?_ | refine tk14 ?_); (conv => whnf))
    rw [hI, List.drop_eq_nil_of_le (by omega)]; rfl
theorem free_r (x : UInt8) : Fn Tryz.prog gI 162 [.int .u8 x.toNat] (.bool (plainB freeL x)) := by
  refine Fn.of tys_ok Tryz.func162 rfl (by kernel_rfl) rfl rfl ?_; intro w hG
  (conv => whnf); repeat ((first | refine tk1 ?_ | refine tk2 ?_ | refine tk3 ?_ | refine tk12 (fun _ => ?_) | refine tk4 ?_ | refine tk5 ?_ | refine tk6 ?_ | refine tk7 ?_ | refine tk8 ?_ | refine tk9 ?_ | refine tk10 (fun _ _ => ?_) | refine tk11 (fun _ => ?_) | refine tk13 ?_ | refine tk14 ?_); (conv => whnf))
  refine CallK.fnB (Letter_r _) (fun h => ?_) (fun h => ?_)
  · (conv => whnf); repeat ((first | refine tk1 ?_ | refine tk2 ?_ | refine tk3 ?_ | refine tk12 (fun _ => ?_) | refine tk4 ?_ | refine tk5 ?_ | refine tk6 ?_ | refine tk7 ?_ | refine tk8 ?_ | refine tk9 ?_ | refine tk10 (fun _ _ => ?_) | refine tk11 (fun _ => ?_) | refine tk13 ?_ | refine tk14 ?_); (conv => whnf))
    unfold plainB; rw [h]; rfl
  · (conv => whnf); repeat ((first | refine tk1 ?_ | refine tk2 ?_ | refine tk3 ?_ | refine tk12 (fun _ => ?_) | refine tk4 ?_ | refine tk5 ?_ | refine tk6 ?_ | refine tk7 ?_ | refine tk8 ?_ | refine tk9 ?_ | refine tk10 (fun _ _ => ?_) | refine tk11 (fun _ => ?_) | refine tk13 ?_ | refine tk14 ?_); (conv => whnf))
    refine CallK.fn (among19_r x freeL (by decide)) ?_
    (conv => whnf); repeat ((first | refine tk1 ?_ | refine tk2 ?_ | refine tk3 ?_ | refine tk12 (fun _ => ?_) | refine tk4 ?_ | refine tk5 ?_ | refine tk6 ?_ | refine tk7 ?_ | refine tk8 ?_ | refine tk9 ?_ | refine tk10 (fun _ _ => ?_) | refine tk11 (fun _ => ?_) | refine tk13 ?_ | refine tk14 ?_); (conv => whnf))
    unfold plainB; rw [h]; rfl
def allL : List UInt8 := [33, 36, 38, 39, 40, 41, 42, 43, 44, 59, 61, 58, 64, 47]
theorem plain_all (x : UInt8) : plainB pathL x = (plainB freeL x || allL.contains x) := by
  unfold plainB
  rw [show pathL = freeL ++ allL from rfl, List.contains_append, ← Bool.or_assoc]
theorem plain_query (x : UInt8) : plainB queryL x = (plainB pathL x || x == 63) := by
  unfold plainB
  rw [show queryL = pathL ++ [63] from rfl, List.contains_append, ← Bool.or_assoc]
  simp only [List.contains_cons, List.contains_nil, Bool.or_false]
theorem all_r (x : UInt8) : Fn Tryz.prog gI 124 [.int .u8 x.toNat] (.bool (plainB pathL x)) := by
  rw [plain_all]
  refine Fn.of tys_ok Tryz.func124 rfl (by kernel_rfl) rfl rfl ?_; intro w hG
  (conv => whnf); repeat ((first | refine tk1 ?_ | refine tk2 ?_ | refine tk3 ?_ | refine tk12 (fun _ => ?_) | refine tk4 ?_ | refine tk5 ?_ | refine tk6 ?_ | refine tk7 ?_ | refine tk8 ?_ | refine tk9 ?_ | refine tk10 (fun _ _ => ?_) | refine tk11 (fun _ => ?_) | refine tk13 ?_ | refine tk14 ?_); (conv => whnf))
  refine CallK.fnB (free_r x) (fun h => ?_) (fun h => ?_)
  · rw [h]
    (conv => whnf); repeat ((first | refine tk1 ?_ | refine tk2 ?_ | refine tk3 ?_ | refine tk12 (fun _ => ?_) | refine tk4 ?_ | refine tk5 ?_ | refine tk6 ?_ | refine tk7 ?_ | refine tk8 ?_ | refine tk9 ?_ | refine tk10 (fun _ _ => ?_) | refine tk11 (fun _ => ?_) | refine tk13 ?_ | refine tk14 ?_); (conv => whnf))
    rfl
  · rw [h]
    (conv => whnf); repeat ((first | refine tk1 ?_ | refine tk2 ?_ | refine tk3 ?_ | refine tk12 (fun _ => ?_) | refine tk4 ?_ | refine tk5 ?_ | refine tk6 ?_ | refine tk7 ?_ | refine tk8 ?_ | refine tk9 ?_ | refine tk10 (fun _ _ => ?_) | refine tk11 (fun _ => ?_) | refine tk13 ?_ | refine tk14 ?_); (conv => whnf))
    refine CallK.fn (among19_r x allL (by decide)) ?_
    (conv => whnf); repeat ((first | refine tk1 ?_ | refine tk2 ?_ | refine tk3 ?_ | refine tk12 (fun _ => ?_) | refine tk4 ?_ | refine tk5 ?_ | refine tk6 ?_ | refine tk7 ?_ | refine tk8 ?_ | refine tk9 ?_ | refine tk10 (fun _ _ => ?_) | refine tk11 (fun _ => ?_) | refine tk13 ?_ | refine tk14 ?_); (conv => whnf))
    rfl
/-- Does a quoted byte stand there? -/
def qB : List UInt8 → Bool
  | x :: a :: b :: _ => x == 37 && (hexB a && hexB b)
  | _ => false
theorem quoted_r (s : List UInt8) (i : Nat) (hi : i ≤ s.length) (hs : s.length ≤ 1000000000) : Fn Tryz.prog gI 123 [str s, .int .i64 (i : Nat)] (.bool (qB (s.drop i))) := by
  have hz : (s.drop i).length = s.length - i := List.length_drop
  have at' : ∀ j, s[i + j]? = (s.drop i)[j]? := fun j => List.getElem?_drop.symm
  refine Fn.of tys_ok Tryz.func123 rfl (by kernel_rfl) rfl rfl ?_; intro w hG
  match hd : s.drop i with
  | [] =>
    rw [hd] at hz
    simp only [List.length_nil] at hz
    (conv => whnf); repeat ((first | refine tk1 ?_ | refine tk2 ?_ | refine tk3 ?_ | refine tk12 (fun _ => ?_) | refine tk4 ?_ | refine tk5 ?_ | refine tk6 ?_ | refine tk7 ?_ | refine tk8 ?_ | refine tk9 ?_ | refine tk10 (fun _ _ => ?_) | refine tk11 (fun _ => ?_) | refine tk13 ?_ | refine tk14 ?_); (conv => whnf))
    rfl
  | [_] =>
    rw [hd] at hz
    simp only [List.length_cons, List.length_nil] at hz
    (conv => whnf); repeat ((first | refine tk1 ?_ | refine tk2 ?_ | refine tk3 ?_ | refine tk12 (fun _ => ?_) | refine tk4 ?_ | refine tk5 ?_ | refine tk6 ?_ | refine tk7 ?_ | refine tk8 ?_ | refine tk9 ?_ | refine tk10 (fun _ _ => ?_) | refine tk11 (fun _ => ?_) | refine tk13 ?_ | refine tk14 ?_); (conv => whnf))
    rfl
  | [_, _] =>
    rw [hd] at hz
    simp only [List.length_cons, List.length_nil] at hz
    (conv => whnf); repeat ((first | refine tk1 ?_ | refine tk2 ?_ | refine tk3 ?_ | refine tk12 (fun _ => ?_) | refine tk4 ?_ | refine tk5 ?_ | refine tk6 ?_ | refine tk7 ?_ | refine tk8 ?_ | refine tk9 ?_ | refine tk10 (fun _ _ => ?_) | refine tk11 (fun _ => ?_) | refine tk13 ?_ | refine tk14 ?_); (conv => whnf))
    rfl
  | x :: a :: b :: t =>
    rw [hd] at hz at'
    simp only [List.length_cons] at hz
    have x0 : s[i]? = some x := at' 0
    have x1 : s[i + 1]? = some a := at' 1
    have x2 : s[i + 2]? = some b := at' 2
    (conv => whnf); repeat ((first | refine tk1 ?_ | refine tk2 ?_ | refine tk3 ?_ | refine tk12 (fun _ => ?_) | refine tk4 ?_ | refine tk5 ?_ | refine tk6 ?_ | refine tk7 ?_ | refine tk8 ?_ | refine tk9 ?_ | refine tk10 (fun _ _ => ?_) | refine tk11 (fun _ => ?_) | refine tk13 ?_ | refine tk14 ?_); (conv => whnf))
    refine IdxS.at x (by rw [Int.toNat_natCast]; exact x0) (by omega) ?_
    (conv => whnf); repeat ((first | refine tk1 ?_ | refine tk2 ?_ | refine tk3 ?_ | refine tk12 (fun _ => ?_) | refine tk4 ?_ | refine tk5 ?_ | refine tk6 ?_ | refine tk7 ?_ | refine tk8 ?_ | refine tk9 ?_ | refine tk10 (fun _ _ => ?_) | refine tk11 (fun _ => ?_) | refine tk13 ?_ | refine tk14 ?_); (conv => whnf))
    refine Cmp.cases (fun h => ?_) (fun h => ?_)
    · have hx : x = 37 := b8 (n := 37) (by decide) (by omega)
      subst hx
      (conv => whnf); repeat ((first | refine tk1 ?_ | refine tk2 ?_ | refine tk3 ?_ | refine tk12 (fun _ => ?_) | refine tk4 ?_ | refine tk5 ?_ | refine tk6 ?_ | refine tk7 ?_ | refine tk8 ?_ | refine tk9 ?_ | refine tk10 (fun _ _ => ?_) | refine tk11 (fun _ => ?_) | refine tk13 ?_ | refine tk14 ?_); (conv => whnf))
      refine IdxS.at a (by rw [show ((i : Int) + 1).toNat = i + 1 by omega]; exact x1) (by omega) ?_
      (conv => whnf); repeat ((first | refine tk1 ?_ | refine tk2 ?_ | refine tk3 ?_ | refine tk12 (fun _ => ?_) | refine tk4 ?_ | refine tk5 ?_ | refine tk6 ?_ | refine tk7 ?_ | refine tk8 ?_ | refine tk9 ?_ | refine tk10 (fun _ _ => ?_) | refine tk11 (fun _ => ?_) | refine tk13 ?_ | refine tk14 ?_); (conv => whnf))
      refine CallK.fn (Digit_r a) ?_
      (conv => whnf); repeat ((first | refine tk1 ?_ | refine tk2 ?_ | refine tk3 ?_ | refine tk12 (fun _ => ?_) | refine tk4 ?_ | refine tk5 ?_ | refine tk6 ?_ | refine tk7 ?_ | refine tk8 ?_ | refine tk9 ?_ | refine tk10 (fun _ _ => ?_) | refine tk11 (fun _ => ?_) | refine tk13 ?_ | refine tk14 ?_); (conv => whnf))
      refine Cmp.cases (fun ha => ?_) (fun ha => ?_)
      · have hha : hexB a = true := decide_eq_true ha
        (conv => whnf); repeat ((first | refine tk1 ?_ | refine tk2 ?_ | refine tk3 ?_ | refine tk12 (fun _ => ?_) | refine tk4 ?_ | refine tk5 ?_ | refine tk6 ?_ | refine tk7 ?_ | refine tk8 ?_ | refine tk9 ?_ | refine tk10 (fun _ _ => ?_) | refine tk11 (fun _ => ?_) | refine tk13 ?_ | refine tk14 ?_); (conv => whnf))
        refine IdxS.at b (by rw [show ((i : Int) + 2).toNat = i + 2 by omega]; exact x2) (by omega) ?_
        (conv => whnf); repeat ((first | refine tk1 ?_ | refine tk2 ?_ | refine tk3 ?_ | refine tk12 (fun _ => ?_) | refine tk4 ?_ | refine tk5 ?_ | refine tk6 ?_ | refine tk7 ?_ | refine tk8 ?_ | refine tk9 ?_ | refine tk10 (fun _ _ => ?_) | refine tk11 (fun _ => ?_) | refine tk13 ?_ | refine tk14 ?_); (conv => whnf))
        refine CallK.fn (Digit_r b) ?_
        (conv => whnf); repeat ((first | refine tk1 ?_ | refine tk2 ?_ | refine tk3 ?_ | refine tk12 (fun _ => ?_) | refine tk4 ?_ | refine tk5 ?_ | refine tk6 ?_ | refine tk7 ?_ | refine tk8 ?_ | refine tk9 ?_ | refine tk10 (fun _ _ => ?_) | refine tk11 (fun _ => ?_) | refine tk13 ?_ | refine tk14 ?_); (conv => whnf))
        refine Cmp.cases (fun hb => ?_) (fun hb => ?_)
        · have hhb : hexB b = true := decide_eq_true hb
          (conv => whnf); repeat ((first | refine tk1 ?_ | refine tk2 ?_ | refine tk3 ?_ | refine tk12 (fun _ => ?_) | refine tk4 ?_ | refine tk5 ?_ | refine tk6 ?_ | refine tk7 ?_ | refine tk8 ?_ | refine tk9 ?_ | refine tk10 (fun _ _ => ?_) | refine tk11 (fun _ => ?_) | refine tk13 ?_ | refine tk14 ?_); (conv => whnf))
          simp [qB, hha, hhb]
        · have hhb : hexB b = false := decide_eq_false hb
          (conv => whnf); repeat ((first | refine tk1 ?_ | refine tk2 ?_ | refine tk3 ?_ | refine tk12 (fun _ => ?_) | refine tk4 ?_ | refine tk5 ?_ | refine tk6 ?_ | refine tk7 ?_ | refine tk8 ?_ | refine tk9 ?_ | refine tk10 (fun _ _ => ?_) | refine tk11 (fun _ => ?_) | refine tk13 ?_ | refine tk14 ?_); (conv => whnf))
          simp [qB, hhb]
      · have hha : hexB a = false := decide_eq_false ha
        (conv => whnf); repeat ((first | refine tk1 ?_ | refine tk2 ?_ | refine tk3 ?_ | refine tk12 (fun _ => ?_) | refine tk4 ?_ | refine tk5 ?_ | refine tk6 ?_ | refine tk7 ?_ | refine tk8 ?_ | refine tk9 ?_ | refine tk10 (fun _ _ => ?_) | refine tk11 (fun _ => ?_) | refine tk13 ?_ | refine tk14 ?_); (conv => whnf))
        simp [qB, hha]
    · have hx : ¬ x = 37 := fun e => h (by rw [e]; rfl)
      (conv => whnf); repeat ((first | refine tk1 ?_ | refine tk2 ?_ | refine tk3 ?_ | refine tk12 (fun _ => ?_) | refine tk4 ?_ | refine tk5 ?_ | refine tk6 ?_ | refine tk7 ?_ | refine tk8 ?_ | refine tk9 ?_ | refine tk10 (fun _ _ => ?_) | refine tk11 (fun _ => ?_) | refine tk13 ?_ | refine tk14 ?_); (conv => whnf))
      simp [qB, hx]
theorem made_q {r : List UInt8} (h : qB (37 :: r) = false) : madeOf queryL (37 :: r) = false := by
  rw [made_37 queryL query_37]
  match r with
  | [] => rfl
  | [_] => rfl
  | a :: b :: t =>
    have h' : (hexB a && hexB b) = false := h
    simp only [h', Bool.false_and]
theorem Query_r (s : List UInt8) (hs : s.length ≤ 1000000000) : Fn Tryz.prog gI 93 [str s] (.bool (queryOf s)) := by
  unfold queryOf
  refine Fn.of tys_ok Tryz.func93 rfl (by kernel_rfl) rfl rfl ?_; intro w hG
  (conv => whnf); repeat ((first | refine tk1 ?_ | refine tk2 ?_ | refine tk3 ?_ | refine tk12 (fun _ => ?_) | refine tk4 ?_ | refine tk5 ?_ | refine tk6 ?_ | refine tk7 ?_ | refine tk8 ?_ | refine tk9 ?_ | refine tk10 (fun _ _ => ?_) | refine tk11 (fun _ => ?_) | refine tk13 ?_ | refine tk14 ?_); (conv => whnf))
  refine LoopS.lp tys_ok (fun (i : Nat) u => [str s, u 1, u 2, .int .i64 (i : Nat), u 4, u 5, u 6, u 7, u 8, u 9, u 10, u 11, u 12, u 13, u 14, u 15, u 16, u 17, u 18, u 19, u 20, u 21, u 22, u 23, u 24, u 25]) (fun _ => [])
    (fun i => i ≤ s.length ∧ madeOf queryL s = madeOf queryL (s.drop i)) (fun i => s.length - i) 0 ⟨Nat.zero_le _, rfl⟩ rfl (by repeat' (first | exact List.Sublist.refl _ | exact List.nil_sublist _ | apply List.Sublist.cons_cons | apply List.Sublist.cons)) ?_
  intro i u ⟨hi, hI⟩
  (conv => whnf); repeat ((first | refine tk1 ?_ | refine tk2 ?_ | refine tk3 ?_ | refine tk12 (fun _ => ?_) | refine tk4 ?_ | refine tk5 ?_ | refine tk6 ?_ | refine tk7 ?_ | refine tk8 ?_ | refine tk9 ?_ | refine tk10 (fun _ _ => ?_) | refine tk11 (fun _ => ?_) | refine tk13 ?_ | refine tk14 ?_); (conv => whnf))
  refine Cmp.cases (fun hlt => ?_) (fun hlt => ?_)
  · have hlt' : i < s.length := by omega
    obtain ⟨x, hx⟩ : ∃ x, s[i] = x := ⟨_, rfl⟩
    have hd : s.drop i = x :: s.drop (i + 1) := by rw [← hx]; exact List.drop_eq_getElem_cons hlt'
    have hxi : s[(i : Int).toNat]? = some x := by rw [Int.toNat_natCast, List.getElem?_eq_getElem hlt', hx]
    rw [hd] at hI
    (conv => whnf); repeat ((first | refine tk1 ?_ | refine tk2 ?_ | refine tk3 ?_ | refine tk12 (fun _ => ?_) | refine tk4 ?_ | refine tk5 ?_ | refine tk6 ?_ | refine tk7 ?_ | refine tk8 ?_ | refine tk9 ?_ | refine tk10 (fun _ _ => ?_) | refine tk11 (fun _ => ?_) | refine tk13 ?_ | refine tk14 ?_); (conv => whnf))
    refine CallK.fnB (quoted_r s i hi hs) (fun hq => ?_) (fun hq => ?_)
    · rw [hd] at hq
      match hr : s.drop (i + 1) with
      | [] => rw [hr] at hq; cases hq
      | [_] => rw [hr] at hq; cases hq
      | a :: b :: t =>
        rw [hr] at hq hI
        have hz : (s.drop (i + 1)).length = s.length - (i + 1) := List.length_drop
        rw [hr] at hz
        simp only [List.length_cons] at hz
        simp only [qB, Bool.and_eq_true, beq_iff_eq] at hq
        obtain ⟨rfl, ha, hb⟩ := hq
        rw [made_37 queryL query_37] at hI
        simp only [ha, hb, Bool.true_and] at hI
        have ht : s.drop (i + 3) = t := by rw [show i + 3 = (i + 1) + 2 by omega, ← List.drop_drop, hr]; rfl
        (conv => whnf); repeat ((first | refine tk1 ?_ | refine tk2 ?_ | refine tk3 ?_ | refine tk12 (fun _ => ?_) | refine tk4 ?_ | refine tk5 ?_ | refine tk6 ?_ | refine tk7 ?_ | refine tk8 ?_ | refine tk9 ?_ | refine tk10 (fun _ _ => ?_) | refine tk11 (fun _ => ?_) | refine tk13 ?_ | refine tk14 ?_); (conv => whnf))
        exact ⟨i + 3, ⟨by omega, by rw [hI, ht]⟩, rfl, (by repeat' (first | exact List.Sublist.refl _ | exact List.nil_sublist _ | apply List.Sublist.cons_cons | apply List.Sublist.cons)), by dsimp only; omega⟩
    · rw [hd] at hq
      (conv => whnf); repeat ((first | refine tk1 ?_ | refine tk2 ?_ | refine tk3 ?_ | refine tk12 (fun _ => ?_) | refine tk4 ?_ | refine tk5 ?_ | refine tk6 ?_ | refine tk7 ?_ | refine tk8 ?_ | refine tk9 ?_ | refine tk10 (fun _ _ => ?_) | refine tk11 (fun _ => ?_) | refine tk13 ?_ | refine tk14 ?_); (conv => whnf))
      refine IdxS.at x hxi (by omega) ?_
      (conv => whnf); repeat ((first | refine tk1 ?_ | refine tk2 ?_ | refine tk3 ?_ | refine tk12 (fun _ => ?_) | refine tk4 ?_ | refine tk5 ?_ | refine tk6 ?_ | refine tk7 ?_ | refine tk8 ?_ | refine tk9 ?_ | refine tk10 (fun _ _ => ?_) | refine tk11 (fun _ => ?_) | refine tk13 ?_ | refine tk14 ?_); (conv => whnf))
      refine CallK.fnB (all_r x) (fun hp => ?_) (fun hp => ?_)
      · have h37 : x ≠ 37 := fun e => by subst e; rw [plain_not_37 path_37] at hp; cases hp
        rw [made_cons queryL x _ h37, plain_query, hp] at hI
        (conv => whnf); repeat ((first | refine tk1 ?_ | refine tk2 ?_ | refine tk3 ?_ | refine tk12 (fun _ => ?_) | refine tk4 ?_ | refine tk5 ?_ | refine tk6 ?_ | refine tk7 ?_ | refine tk8 ?_ | refine tk9 ?_ | refine tk10 (fun _ _ => ?_) | refine tk11 (fun _ => ?_) | refine tk13 ?_ | refine tk14 ?_); (conv => whnf))
        exact ⟨i + 1, ⟨by omega, hI⟩, rfl, (by repeat' (first | exact List.Sublist.refl _ | exact List.nil_sublist _ | apply List.Sublist.cons_cons | apply List.Sublist.cons)), by dsimp only; omega⟩
      · (conv => whnf); repeat ((first | refine tk1 ?_ | refine tk2 ?_ | refine tk3 ?_ | refine tk12 (fun _ => ?_) | refine tk4 ?_ | refine tk5 ?_ | refine tk6 ?_ | refine tk7 ?_ | refine tk8 ?_ | refine tk9 ?_ | refine tk10 (fun _ _ => ?_) | refine tk11 (fun _ => ?_) | refine tk13 ?_ | refine tk14 ?_); (conv => whnf))
        refine IdxS.at x hxi (by omega) ?_
        (conv => whnf); repeat ((first | refine tk1 ?_ | refine tk2 ?_ | refine tk3 ?_ | refine tk12 (fun _ => ?_) | refine tk4 ?_ | refine tk5 ?_ | refine tk6 ?_ | refine tk7 ?_ | refine tk8 ?_ | refine tk9 ?_ | refine tk10 (fun _ _ => ?_) | refine tk11 (fun _ => ?_) | refine tk13 ?_ | refine tk14 ?_); (conv => whnf))
        refine Cmp.cases (fun h63 => ?_) (fun h63 => ?_)
        · have hf : madeOf queryL s = false := by
            by_cases h37 : x = 37
            · subst h37
              rw [hI]; exact made_q hq
            · rw [hI, made_cons queryL x _ h37, plain_query, hp]
              have : (x == 63) = false := by
                rw [beq_eq_false_iff_ne]
                exact fun e => h63 (by rw [e]; rfl)
              rw [this]; rfl
          (conv => whnf); repeat ((first | refine tk1 ?_ | refine tk2 ?_ | refine tk3 ?_ | refine tk12 (fun _ => ?_) | refine tk4 ?_ | refine tk5 ?_ | refine tk6 ?_ | refine tk7 ?_ | refine tk8 ?_ | refine tk9 ?_ | refine tk10 (fun _ _ => ?_) | refine tk11 (fun _ => ?_) | refine tk13 ?_ | refine tk14 ?_); (conv => whnf))
          rw [hf]
        · have hx63 : x = 63 := b8 (n := 63) (by decide) (by omega)
          subst hx63
          rw [made_cons queryL 63 _ (by decide), plain_query] at hI
          (conv => whnf); repeat ((first | refine tk1 ?_ | refine tk2 ?_ | refine tk3 ?_ | refine tk12 (fun _ => ?_) | refine tk4 ?_ | refine tk5 ?_ | refine tk6 ?_ | refine tk7 ?_ | refine tk8 ?_ | refine tk9 ?_ | refine tk10 (fun _ _ => ?_) | refine tk11 (fun _ => ?_) | refine tk13 ?_ | refine tk14 ?_); (conv => whnf))
          exact ⟨i + 1, ⟨by omega, by rw [hI]; simp⟩, rfl, (by repeat' (first | exact List.Sublist.refl _ | exact List.nil_sublist _ | apply List.Sublist.cons_cons | apply List.Sublist.cons)), by dsimp only; omega⟩
  · (conv => whnf); repeat ((first | refine tk1 ?_ | refine tk2 ?_ | refine tk3 ?_ | refine tk12 (fun _ => ?_) | refine tk4 ?_ | refine tk5 ?_ | refine tk6 ?_ | refine tk7 ?_ | refine tk8 ?_ | refine tk9 ?_ | refine tk10 (fun _ _ => ?_) | refine tk11 (fun _ => ?_) | refine tk13 ?_ | refine tk14 ?_); (conv => whnf))
    rw [hI, List.drop_eq_nil_of_le (by omega)]; rfl
theorem made_63 : ∀ (n : Nat) (s : List UInt8), s.length ≤ n → 63 ∉ s → madeOf queryL s = madeOf pathL s
  | _, [], _, _ => rfl
  | 0, x :: r, hl, _ => by simp at hl
  | n + 1, x :: r, hl, h => by
    have hx : x ≠ 63 := fun e => h (by simp [e])
    have hr : 63 ∉ r := fun e => h (by simp [e])
    by_cases h37 : x = 37
    · subst h37
      rw [made_37 queryL query_37, made_37 pathL path_37]
      match r with
      | [] => rfl
      | [_] => rfl
      | a :: b :: t =>
        simp only
        rw [made_63 n t (by simp at hl; omega) (fun e => hr (by simp [e]))]
    · have hb : (x == 63) = false := by rw [beq_eq_false_iff_ne]; exact hx
      rw [made_cons queryL x r h37, made_cons pathL x r h37, plain_query, hb, Bool.or_false, made_63 n r (by simpa using hl) hr]
theorem path_63 (s : List UInt8) (h : pathOf s = true) : 63 ∉ s := (path_no h).2
theorem Path_r (s : List UInt8) (hs : s.length ≤ 1000000000) : Fn Tryz.prog gI 92 [str s] (.bool (pathOf s)) := by
  refine Fn.of tys_ok Tryz.func92 rfl (by kernel_rfl) rfl rfl ?_; intro w hG
  (conv => whnf); repeat ((first | refine tk1 ?_ | refine tk2 ?_ | refine tk3 ?_ | refine tk12 (fun _ => ?_) | refine tk4 ?_ | refine tk5 ?_ | refine tk6 ?_ | refine tk7 ?_ | refine tk8 ?_ | refine tk9 ?_ | refine tk10 (fun _ _ => ?_) | refine tk11 (fun _ => ?_) | refine tk13 ?_ | refine tk14 ?_); (conv => whnf))
  refine LoopS.lp tys_ok (fun (i : Nat) u => [str s, u 1, u 2, .int .i64 (i : Nat), u 4, u 5, u 6, u 7, u 8, u 9, u 10, u 11, u 12, u 13, u 14, u 15, u 16, u 17, u 18, u 19, u 20, u 21, u 22, u 23, u 24, u 25]) (fun _ => [])
    (fun i => i ≤ s.length ∧ 63 ∉ s.take i) (fun i => s.length - i) 0 ⟨Nat.zero_le _, by simp⟩ rfl (by repeat' (first | exact List.Sublist.refl _ | exact List.nil_sublist _ | apply List.Sublist.cons_cons | apply List.Sublist.cons)) ?_
  intro i u ⟨hi, hI⟩
  (conv => whnf); repeat ((first | refine tk1 ?_ | refine tk2 ?_ | refine tk3 ?_ | refine tk12 (fun _ => ?_) | refine tk4 ?_ | refine tk5 ?_ | refine tk6 ?_ | refine tk7 ?_ | refine tk8 ?_ | refine tk9 ?_ | refine tk10 (fun _ _ => ?_) | refine tk11 (fun _ => ?_) | refine tk13 ?_ | refine tk14 ?_); (conv => whnf))
  refine Cmp.cases (fun hlt => ?_) (fun hlt => ?_)
  · have hlt' : i < s.length := by omega
    obtain ⟨x, hx⟩ : ∃ x, s[i] = x := ⟨_, rfl⟩
    have hxi : s[(i : Int).toNat]? = some x := by rw [Int.toNat_natCast, List.getElem?_eq_getElem hlt', hx]
    (conv => whnf); repeat ((first | refine tk1 ?_ | refine tk2 ?_ | refine tk3 ?_ | refine tk12 (fun _ => ?_) | refine tk4 ?_ | refine tk5 ?_ | refine tk6 ?_ | refine tk7 ?_ | refine tk8 ?_ | refine tk9 ?_ | refine tk10 (fun _ _ => ?_) | refine tk11 (fun _ => ?_) | refine tk13 ?_ | refine tk14 ?_); (conv => whnf))
    refine IdxS.at x hxi (by omega) ?_
    (conv => whnf); repeat ((first | refine tk1 ?_ | refine tk2 ?_ | refine tk3 ?_ | refine tk12 (fun _ => ?_) | refine tk4 ?_ | refine tk5 ?_ | refine tk6 ?_ | refine tk7 ?_ | refine tk8 ?_ | refine tk9 ?_ | refine tk10 (fun _ _ => ?_) | refine tk11 (fun _ => ?_) | refine tk13 ?_ | refine tk14 ?_); (conv => whnf))
    refine Cmp.cases (fun hq => ?_) (fun hq => ?_)
    · have hf : pathOf s = false := by
        cases h : pathOf s with
        | false => rfl
        | true =>
          refine absurd ?_ (path_63 s h)
          have hx63 : x = 63 := b8 (n := 63) (by decide) (by omega)
          rw [hx63] at hx
          rw [← hx]
          exact List.getElem_mem hlt'
      (conv => whnf); repeat ((first | refine tk1 ?_ | refine tk2 ?_ | refine tk3 ?_ | refine tk12 (fun _ => ?_) | refine tk4 ?_ | refine tk5 ?_ | refine tk6 ?_ | refine tk7 ?_ | refine tk8 ?_ | refine tk9 ?_ | refine tk10 (fun _ _ => ?_) | refine tk11 (fun _ => ?_) | refine tk13 ?_ | refine tk14 ?_); (conv => whnf))
      rw [hf]
    · (conv => whnf); repeat ((first | refine tk1 ?_ | refine tk2 ?_ | refine tk3 ?_ | refine tk12 (fun _ => ?_) | refine tk4 ?_ | refine tk5 ?_ | refine tk6 ?_ | refine tk7 ?_ | refine tk8 ?_ | refine tk9 ?_ | refine tk10 (fun _ _ => ?_) | refine tk11 (fun _ => ?_) | refine tk13 ?_ | refine tk14 ?_); (conv => whnf))
      refine ⟨i + 1, ⟨by omega, ?_⟩, rfl, (by repeat' (first | exact List.Sublist.refl _ | exact List.nil_sublist _ | apply List.Sublist.cons_cons | apply List.Sublist.cons)), by dsimp only; omega⟩
      rw [List.take_succ_eq_append_getElem hlt', hx]
      intro h
      rcases List.mem_append.1 h with h | h
      · exact hI h
      · simp only [List.mem_singleton] at h
        exact hq (by rw [← h]; rfl)
  · rw [List.take_of_length_le (by omega)] at hI
    have hm := made_63 s.length s (Nat.le_refl _) hI
    match s with
    | [] =>
      (conv => whnf); repeat ((first | refine tk1 ?_ | refine tk2 ?_ | refine tk3 ?_ | refine tk12 (fun _ => ?_) | refine tk4 ?_ | refine tk5 ?_ | refine tk6 ?_ | refine tk7 ?_ | refine tk8 ?_ | refine tk9 ?_ | refine tk10 (fun _ _ => ?_) | refine tk11 (fun _ => ?_) | refine tk13 ?_ | refine tk14 ?_); (conv => whnf))
      rfl
    | y :: r =>
      simp only [List.length_cons] at hi hlt
      (conv => whnf); repeat ((first | refine tk1 ?_ | refine tk2 ?_ | refine tk3 ?_ | refine tk12 (fun _ => ?_) | refine tk4 ?_ | refine tk5 ?_ | refine tk6 ?_ | refine tk7 ?_ | refine tk8 ?_ | refine tk9 ?_ | refine tk10 (fun _ _ => ?_) | refine tk11 (fun _ => ?_) | refine tk13 ?_ | refine tk14 ?_); (conv => whnf))
      refine IdxS.at y rfl (by omega) ?_
      (conv => whnf); repeat ((first | refine tk1 ?_ | refine tk2 ?_ | refine tk3 ?_ | refine tk12 (fun _ => ?_) | refine tk4 ?_ | refine tk5 ?_ | refine tk6 ?_ | refine tk7 ?_ | refine tk8 ?_ | refine tk9 ?_ | refine tk10 (fun _ _ => ?_) | refine tk11 (fun _ => ?_) | refine tk13 ?_ | refine tk14 ?_); (conv => whnf))
      refine Cmp.cases (fun h => ?_) (fun h => ?_)
      · have hy : y = 47 := b8 (n := 47) (by decide) (by omega)
        subst hy
        (conv => whnf); repeat ((first | refine tk1 ?_ | refine tk2 ?_ | refine tk3 ?_ | refine tk12 (fun _ => ?_) | refine tk4 ?_ | refine tk5 ?_ | refine tk6 ?_ | refine tk7 ?_ | refine tk8 ?_ | refine tk9 ?_ | refine tk10 (fun _ _ => ?_) | refine tk11 (fun _ => ?_) | refine tk13 ?_ | refine tk14 ?_); (conv => whnf))
        refine CallK.fn (Query_r _ hs) ?_
        (conv => whnf); repeat ((first | refine tk1 ?_ | refine tk2 ?_ | refine tk3 ?_ | refine tk12 (fun _ => ?_) | refine tk4 ?_ | refine tk5 ?_ | refine tk6 ?_ | refine tk7 ?_ | refine tk8 ?_ | refine tk9 ?_ | refine tk10 (fun _ _ => ?_) | refine tk11 (fun _ => ?_) | refine tk13 ?_ | refine tk14 ?_); (conv => whnf))
        unfold queryOf
        rw [hm]
        rfl
      · have hy : ¬ y = 47 := fun e => h (by rw [e]; rfl)
        (conv => whnf); repeat ((first | refine tk1 ?_ | refine tk2 ?_ | refine tk3 ?_ | refine tk12 (fun _ => ?_) | refine tk4 ?_ | refine tk5 ?_ | refine tk6 ?_ | refine tk7 ?_ | refine tk8 ?_ | refine tk9 ?_ | refine tk10 (fun _ _ => ?_) | refine tk11 (fun _ => ?_) | refine tk13 ?_ | refine tk14 ?_); (conv => whnf))
        simp [pathOf, hy]
theorem Method_r (s : List UInt8) : Fn Tryz.prog gI 91 [str s] (.bool (methodOf s)) := by
  refine Fn.of tys_ok Tryz.func91 rfl (by kernel_rfl) rfl rfl ?_; intro w hG
  (repeat' ((conv => whnf); first | (first | refine tk1 ?_ | refine tk2 ?_ | refine tk3 ?_ | refine tk12 (fun _ => ?_) | refine tk4 ?_ | refine tk5 ?_ | refine tk6 ?_ | refine tk7 ?_ | refine tk8 ?_ | refine tk9 ?_ | refine tk10 (fun _ _ => ?_) | refine tk11 (fun _ => ?_) | refine tk13 ?_ | refine tk14 ?_) | refine Cmp.cases (fun _ => ?_) (fun _ => ?_) | refine IdxS.nat (by omega) ?_ | refine IdxS.go (by omega) (by omega) (fun _ _ _ => ?_) | refine SlcS.at (by omega) (by omega) (by omega) ?_ | refine CatS.at (by simp only [List.length_append, List.length_cons, List.length_nil]; omega) ?_ | fail)); all_goals (conv => whnf)
  all_goals (refine congrArg Value.bool ?_; simp_all [methodOf, methodsL])
end Go.Proofs.YtmdmmncoigeijaaGreatDoor.Vex
/- ref19.Parse, reckoned. -/
namespace Go.Proofs.YtmdmmncoigeijaaGreatDoor.Vex
open Go Go.RowKit
set_option maxRecDepth 100000
set_option linter.unusedSectionVars false
variable {gI : GI} [HasMax gI] [HasErr gI]

theorem cut_find {c : UInt8} {s a b : List UInt8} {f : Bool} (h : cutB c s = (a, b, f)) : (f = true ∧ a.length < s.length ∧ s.take a.length = a ∧ s.drop (a.length + 1) = b) ∨ (f = false ∧ a = s ∧ b = []) := by
  cases f with
  | true =>
    have h1 := (cutB_yes c s (by rw [h])).1
    rw [h] at h1
    dsimp only at h1
    left
    refine ⟨rfl, ?_, ?_, ?_⟩
    · rw [h1]; simp
    · rw [h1]; simp
    · rw [h1]; simp
  | false =>
    have h1 := cutB_nope c s (by rw [h])
    rw [h] at h1
    exact .inr ⟨rfl, h1⟩
theorem line_steps {s a b t e p q : List UInt8} {f g k : Bool} (h1 : cutB 32 s = (a, b, f)) (h2 : cutB 32 b = (t, e, g)) (h3 : cutB 63 t = (p, q, k)) :
    lineOK s = (decide (s.length ≤ 4096) && f && g && (versionOf e).isSome && tokenOf a && pathOf p && queryOf q) ∧ lineRq s = ⟨a, p, q, (versionOf e).getD 0⟩ := by
  simp [lineOK, lineRq, lineTarget, h1, h2, h3]
theorem version_no {u : List UInt8} {d : UInt8} (h : u ≠ httpL) : versionOf (u ++ [d]) = none := by
  unfold versionOf
  split
  · rename_i d' heq
    have h2 : u ++ [d] = httpL ++ [d'] := heq
    exact absurd (List.append_inj_left' h2 rfl) h
  · rfl
theorem version_len {e : List UInt8} (h : e.length ≠ 8) : versionOf e = none := by
  unfold versionOf
  split
  · exact absurd rfl h
  · rfl
end Go.Proofs.YtmdmmncoigeijaaGreatDoor.Vex
/- ref19.Write, ref19.Quote, reckoned. -/
namespace Go.Proofs.YtmdmmncoigeijaaGreatDoor.Vex
open Go Go.RowKit
set_option maxRecDepth 100000
set_option linter.unusedSectionVars false
variable {gI : GI} [HasMax gI] [HasErr gI]

theorem Write_r (r : Rq) (c4 c5 : Value) (hm : r.m.length ≤ 1000000) (hp : r.p.length ≤ 1000000) (hq : r.q.length ≤ 1000000) :
    Fn Tryz.prog gI 52 [.agg ⟨[str r.m, str r.p, str r.q, .int .i64 r.v, c4, c5]⟩] (.tuple #[str (writeS r), .int .i64 (writeE r)]) := by
  have bad : writeOK r = false → Value.tuple #[str (writeS r), Value.int .i64 (writeE r)] = Value.tuple #[str [], .int .i64 3] := fun h => by unfold writeS writeE; rw [h]; rfl
  refine Fn.of tys_ok Tryz.func52 rfl (by kernel_rfl) rfl rfl ?_; intro w hG
  (conv => whnf); repeat ((first | refine tk1 ?_ | refine tk2 ?_ | refine tk3 ?_ | refine tk12 (fun _ => ?_) | refine tk4 ?_ | refine tk5 ?_ | refine tk6 ?_ | refine tk7 ?_ | refine tk8 ?_ | refine tk9 ?_ | refine tk10 (fun _ _ => ?_) | refine tk11 (fun _ => ?_) | refine tk13 ?_ | refine tk14 ?_); (conv => whnf))
  refine CatS.at (by simp; omega) ?_
  (conv => whnf); repeat ((first | refine tk1 ?_ | refine tk2 ?_ | refine tk3 ?_ | refine tk12 (fun _ => ?_) | refine tk4 ?_ | refine tk5 ?_ | refine tk6 ?_ | refine tk7 ?_ | refine tk8 ?_ | refine tk9 ?_ | refine tk10 (fun _ _ => ?_) | refine tk11 (fun _ => ?_) | refine tk13 ?_ | refine tk14 ?_); (conv => whnf))
  refine CatS.at (by simp; omega) ?_
  (conv => whnf); repeat ((first | refine tk1 ?_ | refine tk2 ?_ | refine tk3 ?_ | refine tk12 (fun _ => ?_) | refine tk4 ?_ | refine tk5 ?_ | refine tk6 ?_ | refine tk7 ?_ | refine tk8 ?_ | refine tk9 ?_ | refine tk10 (fun _ _ => ?_) | refine tk11 (fun _ => ?_) | refine tk13 ?_ | refine tk14 ?_); (conv => whnf))
  by_cases hq0 : r.q = []
  · refine Cmp.f (fun h => h hq0) ?_
    (conv => whnf); repeat ((first | refine tk1 ?_ | refine tk2 ?_ | refine tk3 ?_ | refine tk12 (fun _ => ?_) | refine tk4 ?_ | refine tk5 ?_ | refine tk6 ?_ | refine tk7 ?_ | refine tk8 ?_ | refine tk9 ?_ | refine tk10 (fun _ _ => ?_) | refine tk11 (fun _ => ?_) | refine tk13 ?_ | refine tk14 ?_); (conv => whnf))
    refine Cmp.cases (fun hv0 => ?_) (fun hv0 => ?_)
    · (conv => whnf); repeat ((first | refine tk1 ?_ | refine tk2 ?_ | refine tk3 ?_ | refine tk12 (fun _ => ?_) | refine tk4 ?_ | refine tk5 ?_ | refine tk6 ?_ | refine tk7 ?_ | refine tk8 ?_ | refine tk9 ?_ | refine tk10 (fun _ _ => ?_) | refine tk11 (fun _ => ?_) | refine tk13 ?_ | refine tk14 ?_); (conv => whnf))
      refine CatS.at (by simp; omega) ?_
      rw [show r.m ++ [32] ++ r.p ++ [32, 72, 84, 84, 80, 47, 49, 46, 48] = writeL r by unfold writeL targetOf; simp [hq0, hv0]]
      (conv => whnf); repeat ((first | refine tk1 ?_ | refine tk2 ?_ | refine tk3 ?_ | refine tk12 (fun _ => ?_) | refine tk4 ?_ | refine tk5 ?_ | refine tk6 ?_ | refine tk7 ?_ | refine tk8 ?_ | refine tk9 ?_ | refine tk10 (fun _ _ => ?_) | refine tk11 (fun _ => ?_) | refine tk13 ?_ | refine tk14 ?_); (conv => whnf))
      refine CallK.fn (Method_r r.m) ?_
      cases c1 : methodOf r.m
      · rw [bad (by unfold writeOK; rw [c1]; rfl)]
        (conv => whnf); repeat ((first | refine tk1 ?_ | refine tk2 ?_ | refine tk3 ?_ | refine tk12 (fun _ => ?_) | refine tk4 ?_ | refine tk5 ?_ | refine tk6 ?_ | refine tk7 ?_ | refine tk8 ?_ | refine tk9 ?_ | refine tk10 (fun _ _ => ?_) | refine tk11 (fun _ => ?_) | refine tk13 ?_ | refine tk14 ?_); (conv => whnf))
      (conv => whnf); repeat ((first | refine tk1 ?_ | refine tk2 ?_ | refine tk3 ?_ | refine tk12 (fun _ => ?_) | refine tk4 ?_ | refine tk5 ?_ | refine tk6 ?_ | refine tk7 ?_ | refine tk8 ?_ | refine tk9 ?_ | refine tk10 (fun _ _ => ?_) | refine tk11 (fun _ => ?_) | refine tk13 ?_ | refine tk14 ?_); (conv => whnf))
      refine CallK.fn (Path_r r.p (by omega)) ?_
      cases c2 : pathOf r.p
      · rw [bad (by unfold writeOK; rw [c2]; simp)]
        (conv => whnf); repeat ((first | refine tk1 ?_ | refine tk2 ?_ | refine tk3 ?_ | refine tk12 (fun _ => ?_) | refine tk4 ?_ | refine tk5 ?_ | refine tk6 ?_ | refine tk7 ?_ | refine tk8 ?_ | refine tk9 ?_ | refine tk10 (fun _ _ => ?_) | refine tk11 (fun _ => ?_) | refine tk13 ?_ | refine tk14 ?_); (conv => whnf))
      (conv => whnf); repeat ((first | refine tk1 ?_ | refine tk2 ?_ | refine tk3 ?_ | refine tk12 (fun _ => ?_) | refine tk4 ?_ | refine tk5 ?_ | refine tk6 ?_ | refine tk7 ?_ | refine tk8 ?_ | refine tk9 ?_ | refine tk10 (fun _ _ => ?_) | refine tk11 (fun _ => ?_) | refine tk13 ?_ | refine tk14 ?_); (conv => whnf))
      refine CallK.fn (Query_r r.q (by omega)) ?_
      cases c3 : queryOf r.q
      · rw [bad (by unfold writeOK; rw [c3]; simp)]
        (conv => whnf); repeat ((first | refine tk1 ?_ | refine tk2 ?_ | refine tk3 ?_ | refine tk12 (fun _ => ?_) | refine tk4 ?_ | refine tk5 ?_ | refine tk6 ?_ | refine tk7 ?_ | refine tk8 ?_ | refine tk9 ?_ | refine tk10 (fun _ _ => ?_) | refine tk11 (fun _ => ?_) | refine tk13 ?_ | refine tk14 ?_); (conv => whnf))
      (conv => whnf); repeat ((first | refine tk1 ?_ | refine tk2 ?_ | refine tk3 ?_ | refine tk12 (fun _ => ?_) | refine tk4 ?_ | refine tk5 ?_ | refine tk6 ?_ | refine tk7 ?_ | refine tk8 ?_ | refine tk9 ?_ | refine tk10 (fun _ _ => ?_) | refine tk11 (fun _ => ?_) | refine tk13 ?_ | refine tk14 ?_); (conv => whnf))
      refine Cmp.cases (fun c6 => ?_) (fun c6 => ?_)
      · rw [bad (by unfold writeOK; rw [decide_eq_false (show ¬ (writeL r).length ≤ 4096 by omega)]; simp)]
        (conv => whnf); repeat ((first | refine tk1 ?_ | refine tk2 ?_ | refine tk3 ?_ | refine tk12 (fun _ => ?_) | refine tk4 ?_ | refine tk5 ?_ | refine tk6 ?_ | refine tk7 ?_ | refine tk8 ?_ | refine tk9 ?_ | refine tk10 (fun _ _ => ?_) | refine tk11 (fun _ => ?_) | refine tk13 ?_ | refine tk14 ?_); (conv => whnf))
      · have hok : writeOK r = true := by
          unfold writeOK
          rw [c1, c2, c3, decide_eq_true (show 0 ≤ r.v by omega), decide_eq_true (show r.v ≤ 1 by omega), decide_eq_true (show (writeL r).length ≤ 4096 by omega)]
          rfl
        (conv => whnf); repeat ((first | refine tk1 ?_ | refine tk2 ?_ | refine tk3 ?_ | refine tk12 (fun _ => ?_) | refine tk4 ?_ | refine tk5 ?_ | refine tk6 ?_ | refine tk7 ?_ | refine tk8 ?_ | refine tk9 ?_ | refine tk10 (fun _ _ => ?_) | refine tk11 (fun _ => ?_) | refine tk13 ?_ | refine tk14 ?_); (conv => whnf))
        simp [writeS, writeE, hok]
    · (conv => whnf); repeat ((first | refine tk1 ?_ | refine tk2 ?_ | refine tk3 ?_ | refine tk12 (fun _ => ?_) | refine tk4 ?_ | refine tk5 ?_ | refine tk6 ?_ | refine tk7 ?_ | refine tk8 ?_ | refine tk9 ?_ | refine tk10 (fun _ _ => ?_) | refine tk11 (fun _ => ?_) | refine tk13 ?_ | refine tk14 ?_); (conv => whnf))
      refine CatS.at (by simp; omega) ?_
      rw [show r.m ++ [32] ++ r.p ++ [32, 72, 84, 84, 80, 47, 49, 46, 49] = writeL r by unfold writeL targetOf; simp [hq0, hv0]]
      (conv => whnf); repeat ((first | refine tk1 ?_ | refine tk2 ?_ | refine tk3 ?_ | refine tk12 (fun _ => ?_) | refine tk4 ?_ | refine tk5 ?_ | refine tk6 ?_ | refine tk7 ?_ | refine tk8 ?_ | refine tk9 ?_ | refine tk10 (fun _ _ => ?_) | refine tk11 (fun _ => ?_) | refine tk13 ?_ | refine tk14 ?_); (conv => whnf))
      refine CallK.fn (Method_r r.m) ?_
      cases c1 : methodOf r.m
      · rw [bad (by unfold writeOK; rw [c1]; rfl)]
        (conv => whnf); repeat ((first | refine tk1 ?_ | refine tk2 ?_ | refine tk3 ?_ | refine tk12 (fun _ => ?_) | refine tk4 ?_ | refine tk5 ?_ | refine tk6 ?_ | refine tk7 ?_ | refine tk8 ?_ | refine tk9 ?_ | refine tk10 (fun _ _ => ?_) | refine tk11 (fun _ => ?_) | refine tk13 ?_ | refine tk14 ?_); (conv => whnf))
      (conv => whnf); repeat ((first | refine tk1 ?_ | refine tk2 ?_ | refine tk3 ?_ | refine tk12 (fun _ => ?_) | refine tk4 ?_ | refine tk5 ?_ | refine tk6 ?_ | refine tk7 ?_ | refine tk8 ?_ | refine tk9 ?_ | refine tk10 (fun _ _ => ?_) | refine tk11 (fun _ => ?_) | refine tk13 ?_ | refine tk14 ?_); (conv => whnf))
      refine CallK.fn (Path_r r.p (by omega)) ?_
      cases c2 : pathOf r.p
      · rw [bad (by unfold writeOK; rw [c2]; simp)]
        (conv => whnf); repeat ((first | refine tk1 ?_ | refine tk2 ?_ | refine tk3 ?_ | refine tk12 (fun _ => ?_) | refine tk4 ?_ | refine tk5 ?_ | refine tk6 ?_ | refine tk7 ?_ | refine tk8 ?_ | refine tk9 ?_ | refine tk10 (fun _ _ => ?_) | refine tk11 (fun _ => ?_) | refine tk13 ?_ | refine tk14 ?_); (conv => whnf))
      (conv => whnf); repeat ((first | refine tk1 ?_ | refine tk2 ?_ | refine tk3 ?_ | refine tk12 (fun _ => ?_) | refine tk4 ?_ | refine tk5 ?_ | refine tk6 ?_ | refine tk7 ?_ | refine tk8 ?_ | refine tk9 ?_ | refine tk10 (fun _ _ => ?_) | refine tk11 (fun _ => ?_) | refine tk13 ?_ | refine tk14 ?_); (conv => whnf))
      refine CallK.fn (Query_r r.q (by omega)) ?_
      cases c3 : queryOf r.q
      · rw [bad (by unfold writeOK; rw [c3]; simp)]
        (conv => whnf); repeat ((first | refine tk1 ?_ | refine tk2 ?_ | refine tk3 ?_ | refine tk12 (fun _ => ?_) | refine tk4 ?_ | refine tk5 ?_ | refine tk6 ?_ | refine tk7 ?_ | refine tk8 ?_ | refine tk9 ?_ | refine tk10 (fun _ _ => ?_) | refine tk11 (fun _ => ?_) | refine tk13 ?_ | refine tk14 ?_); (conv => whnf))
      (conv => whnf); repeat ((first | refine tk1 ?_ | refine tk2 ?_ | refine tk3 ?_ | refine tk12 (fun _ => ?_) | refine tk4 ?_ | refine tk5 ?_ | refine tk6 ?_ | refine tk7 ?_ | refine tk8 ?_ | refine tk9 ?_ | refine tk10 (fun _ _ => ?_) | refine tk11 (fun _ => ?_) | refine tk13 ?_ | refine tk14 ?_); (conv => whnf))
      refine Cmp.cases (fun c4 => ?_) (fun c4 => ?_)
      · rw [bad (by unfold writeOK; rw [decide_eq_false (show ¬ 0 ≤ r.v by omega)]; simp)]
        (conv => whnf); repeat ((first | refine tk1 ?_ | refine tk2 ?_ | refine tk3 ?_ | refine tk12 (fun _ => ?_) | refine tk4 ?_ | refine tk5 ?_ | refine tk6 ?_ | refine tk7 ?_ | refine tk8 ?_ | refine tk9 ?_ | refine tk10 (fun _ _ => ?_) | refine tk11 (fun _ => ?_) | refine tk13 ?_ | refine tk14 ?_); (conv => whnf))
      (conv => whnf); repeat ((first | refine tk1 ?_ | refine tk2 ?_ | refine tk3 ?_ | refine tk12 (fun _ => ?_) | refine tk4 ?_ | refine tk5 ?_ | refine tk6 ?_ | refine tk7 ?_ | refine tk8 ?_ | refine tk9 ?_ | refine tk10 (fun _ _ => ?_) | refine tk11 (fun _ => ?_) | refine tk13 ?_ | refine tk14 ?_); (conv => whnf))
      refine Cmp.cases (fun c5 => ?_) (fun c5 => ?_)
      · rw [bad (by unfold writeOK; rw [decide_eq_false (show ¬ r.v ≤ 1 by omega)]; simp)]
        (conv => whnf); repeat ((first | refine tk1 ?_ | refine tk2 ?_ | refine tk3 ?_ | refine tk12 (fun _ => ?_) | refine tk4 ?_ | refine tk5 ?_ | refine tk6 ?_ | refine tk7 ?_ | refine tk8 ?_ | refine tk9 ?_ | refine tk10 (fun _ _ => ?_) | refine tk11 (fun _ => ?_) | refine tk13 ?_ | refine tk14 ?_); (conv => whnf))
      (conv => whnf); repeat ((first | refine tk1 ?_ | refine tk2 ?_ | refine tk3 ?_ | refine tk12 (fun _ => ?_) | refine tk4 ?_ | refine tk5 ?_ | refine tk6 ?_ | refine tk7 ?_ | refine tk8 ?_ | refine tk9 ?_ | refine tk10 (fun _ _ => ?_) | refine tk11 (fun _ => ?_) | refine tk13 ?_ | refine tk14 ?_); (conv => whnf))
      refine Cmp.cases (fun c6 => ?_) (fun c6 => ?_)
      · rw [bad (by unfold writeOK; rw [decide_eq_false (show ¬ (writeL r).length ≤ 4096 by omega)]; simp)]
        (conv => whnf); repeat ((first | refine tk1 ?_ | refine tk2 ?_ | refine tk3 ?_ | refine tk12 (fun _ => ?_) | refine tk4 ?_ | refine tk5 ?_ | refine tk6 ?_ | refine tk7 ?_ | refine tk8 ?_ | refine tk9 ?_ | refine tk10 (fun _ _ => ?_) | refine tk11 (fun _ => ?_) | refine tk13 ?_ | refine tk14 ?_); (conv => whnf))
      · have hok : writeOK r = true := by
          unfold writeOK
          rw [c1, c2, c3, decide_eq_true (show 0 ≤ r.v by omega), decide_eq_true (show r.v ≤ 1 by omega), decide_eq_true (show (writeL r).length ≤ 4096 by omega)]
          rfl
        (conv => whnf); repeat ((first | refine tk1 ?_ | refine tk2 ?_ | refine tk3 ?_ | refine tk12 (fun _ => ?_) | refine tk4 ?_ | refine tk5 ?_ | refine tk6 ?_ | refine tk7 ?_ | refine tk8 ?_ | refine tk9 ?_ | refine tk10 (fun _ _ => ?_) | refine tk11 (fun _ => ?_) | refine tk13 ?_ | refine tk14 ?_); (conv => whnf))
        simp [writeS, writeE, hok]
  · refine Cmp.t hq0 ?_
    (conv => whnf); repeat ((first | refine tk1 ?_ | refine tk2 ?_ | refine tk3 ?_ | refine tk12 (fun _ => ?_) | refine tk4 ?_ | refine tk5 ?_ | refine tk6 ?_ | refine tk7 ?_ | refine tk8 ?_ | refine tk9 ?_ | refine tk10 (fun _ _ => ?_) | refine tk11 (fun _ => ?_) | refine tk13 ?_ | refine tk14 ?_); (conv => whnf))
    refine CatS.at (by simp; omega) ?_
    (conv => whnf); repeat ((first | refine tk1 ?_ | refine tk2 ?_ | refine tk3 ?_ | refine tk12 (fun _ => ?_) | refine tk4 ?_ | refine tk5 ?_ | refine tk6 ?_ | refine tk7 ?_ | refine tk8 ?_ | refine tk9 ?_ | refine tk10 (fun _ _ => ?_) | refine tk11 (fun _ => ?_) | refine tk13 ?_ | refine tk14 ?_); (conv => whnf))
    refine CatS.at (by simp; omega) ?_
    (conv => whnf); repeat ((first | refine tk1 ?_ | refine tk2 ?_ | refine tk3 ?_ | refine tk12 (fun _ => ?_) | refine tk4 ?_ | refine tk5 ?_ | refine tk6 ?_ | refine tk7 ?_ | refine tk8 ?_ | refine tk9 ?_ | refine tk10 (fun _ _ => ?_) | refine tk11 (fun _ => ?_) | refine tk13 ?_ | refine tk14 ?_); (conv => whnf))
    refine Cmp.cases (fun hv0 => ?_) (fun hv0 => ?_)
    · (conv => whnf); repeat ((first | refine tk1 ?_ | refine tk2 ?_ | refine tk3 ?_ | refine tk12 (fun _ => ?_) | refine tk4 ?_ | refine tk5 ?_ | refine tk6 ?_ | refine tk7 ?_ | refine tk8 ?_ | refine tk9 ?_ | refine tk10 (fun _ _ => ?_) | refine tk11 (fun _ => ?_) | refine tk13 ?_ | refine tk14 ?_); (conv => whnf))
      refine CatS.at (by simp; omega) ?_
      rw [show r.m ++ [32] ++ r.p ++ [63] ++ r.q ++ [32, 72, 84, 84, 80, 47, 49, 46, 48] = writeL r by unfold writeL targetOf; simp [hq0, hv0]]
      (conv => whnf); repeat ((first | refine tk1 ?_ | refine tk2 ?_ | refine tk3 ?_ | refine tk12 (fun _ => ?_) | refine tk4 ?_ | refine tk5 ?_ | refine tk6 ?_ | refine tk7 ?_ | refine tk8 ?_ | refine tk9 ?_ | refine tk10 (fun _ _ => ?_) | refine tk11 (fun _ => ?_) | refine tk13 ?_ | refine tk14 ?_); (conv => whnf))
      refine CallK.fn (Method_r r.m) ?_
      cases c1 : methodOf r.m
      · rw [bad (by unfold writeOK; rw [c1]; rfl)]
        (conv => whnf); repeat ((first | refine tk1 ?_ | refine tk2 ?_ | refine tk3 ?_ | refine tk12 (fun _ => ?_) | refine tk4 ?_ | refine tk5 ?_ | refine tk6 ?_ | refine tk7 ?_ | refine tk8 ?_ | refine tk9 ?_ | refine tk10 (fun _ _ => ?_) | refine tk11 (fun _ => ?_) | refine tk13 ?_ | refine tk14 ?_); (conv => whnf))
      (conv => whnf); repeat ((first | refine tk1 ?_ | refine tk2 ?_ | refine tk3 ?_ | refine tk12 (fun _ => ?_) | refine tk4 ?_ | refine tk5 ?_ | refine tk6 ?_ | refine tk7 ?_ | refine tk8 ?_ | refine tk9 ?_ | refine tk10 (fun _ _ => ?_) | refine tk11 (fun _ => ?_) | refine tk13 ?_ | refine tk14 ?_); (conv => whnf))
      refine CallK.fn (Path_r r.p (by omega)) ?_
      cases c2 : pathOf r.p
      · rw [bad (by unfold writeOK; rw [c2]; simp)]
        (conv => whnf); repeat ((first | refine tk1 ?_ | refine tk2 ?_ | refine tk3 ?_ | refine tk12 (fun _ => ?_) | refine tk4 ?_ | refine tk5 ?_ | refine tk6 ?_ | refine tk7 ?_ | refine tk8 ?_ | refine tk9 ?_ | refine tk10 (fun _ _ => ?_) | refine tk11 (fun _ => ?_) | refine tk13 ?_ | refine tk14 ?_); (conv => whnf))
      (conv => whnf); repeat ((first | refine tk1 ?_ | refine tk2 ?_ | refine tk3 ?_ | refine tk12 (fun _ => ?_) | refine tk4 ?_ | refine tk5 ?_ | refine tk6 ?_ | refine tk7 ?_ | refine tk8 ?_ | refine tk9 ?_ | refine tk10 (fun _ _ => ?_) | refine tk11 (fun _ => ?_) | refine tk13 ?_ | refine tk14 ?_); (conv => whnf))
      refine CallK.fn (Query_r r.q (by omega)) ?_
      cases c3 : queryOf r.q
      · rw [bad (by unfold writeOK; rw [c3]; simp)]
        (conv => whnf); repeat ((first | refine tk1 ?_ | refine tk2 ?_ | refine tk3 ?_ | refine tk12 (fun _ => ?_) | refine tk4 ?_ | refine tk5 ?_ | refine tk6 ?_ | refine tk7 ?_ | refine tk8 ?_ | refine tk9 ?_ | refine tk10 (fun _ _ => ?_) | refine tk11 (fun _ => ?_) | refine tk13 ?_ | refine tk14 ?_); (conv => whnf))
      (conv => whnf); repeat ((first | refine tk1 ?_ | refine tk2 ?_ | refine tk3 ?_ | refine tk12 (fun _ => ?_) | refine tk4 ?_ | refine tk5 ?_ | refine tk6 ?_ | refine tk7 ?_ | refine tk8 ?_ | refine tk9 ?_ | refine tk10 (fun _ _ => ?_) | refine tk11 (fun _ => ?_) | refine tk13 ?_ | refine tk14 ?_); (conv => whnf))
      refine Cmp.cases (fun c6 => ?_) (fun c6 => ?_)
      · rw [bad (by unfold writeOK; rw [decide_eq_false (show ¬ (writeL r).length ≤ 4096 by omega)]; simp)]
        (conv => whnf); repeat ((first | refine tk1 ?_ | refine tk2 ?_ | refine tk3 ?_ | refine tk12 (fun _ => ?_) | refine tk4 ?_ | refine tk5 ?_ | refine tk6 ?_ | refine tk7 ?_ | refine tk8 ?_ | refine tk9 ?_ | refine tk10 (fun _ _ => ?_) | refine tk11 (fun _ => ?_) | refine tk13 ?_ | refine tk14 ?_); (conv => whnf))
      · have hok : writeOK r = true := by
          unfold writeOK
          rw [c1, c2, c3, decide_eq_true (show 0 ≤ r.v by omega), decide_eq_true (show r.v ≤ 1 by omega), decide_eq_true (show (writeL r).length ≤ 4096 by omega)]
          rfl
        (conv => whnf); repeat ((first | refine tk1 ?_ | refine tk2 ?_ | refine tk3 ?_ | refine tk12 (fun _ => ?_) | refine tk4 ?_ | refine tk5 ?_ | refine tk6 ?_ | refine tk7 ?_ | refine tk8 ?_ | refine tk9 ?_ | refine tk10 (fun _ _ => ?_) | refine tk11 (fun _ => ?_) | refine tk13 ?_ | refine tk14 ?_); (conv => whnf))
        simp [writeS, writeE, hok]
    · (conv => whnf); repeat ((first | refine tk1 ?_ | refine tk2 ?_ | refine tk3 ?_ | refine tk12 (fun _ => ?_) | refine tk4 ?_ | refine tk5 ?_ | refine tk6 ?_ | refine tk7 ?_ | refine tk8 ?_ | refine tk9 ?_ | refine tk10 (fun _ _ => ?_) | refine tk11 (fun _ => ?_) | refine tk13 ?_ | refine tk14 ?_); (conv => whnf))
      refine CatS.at (by simp; omega) ?_
      rw [show r.m ++ [32] ++ r.p ++ [63] ++ r.q ++ [32, 72, 84, 84, 80, 47, 49, 46, 49] = writeL r by unfold writeL targetOf; simp [hq0, hv0]]
      (conv => whnf); repeat ((first | refine tk1 ?_ | refine tk2 ?_ | refine tk3 ?_ | refine tk12 (fun _ => ?_) | refine tk4 ?_ | refine tk5 ?_ | refine tk6 ?_ | refine tk7 ?_ | refine tk8 ?_ | refine tk9 ?_ | refine tk10 (fun _ _ => ?_) | refine tk11 (fun _ => ?_) | refine tk13 ?_ | refine tk14 ?_); (conv => whnf))
      refine CallK.fn (Method_r r.m) ?_
      cases c1 : methodOf r.m
      · rw [bad (by unfold writeOK; rw [c1]; rfl)]
        (conv => whnf); repeat ((first | refine tk1 ?_ | refine tk2 ?_ | refine tk3 ?_ | refine tk12 (fun _ => ?_) | refine tk4 ?_ | refine tk5 ?_ | refine tk6 ?_ | refine tk7 ?_ | refine tk8 ?_ | refine tk9 ?_ | refine tk10 (fun _ _ => ?_) | refine tk11 (fun _ => ?_) | refine tk13 ?_ | refine tk14 ?_); (conv => whnf))
      (conv => whnf); repeat ((first | refine tk1 ?_ | refine tk2 ?_ | refine tk3 ?_ | refine tk12 (fun _ => ?_) | refine tk4 ?_ | refine tk5 ?_ | refine tk6 ?_ | refine tk7 ?_ | refine tk8 ?_ | refine tk9 ?_ | refine tk10 (fun _ _ => ?_) | refine tk11 (fun _ => ?_) | refine tk13 ?_ | refine tk14 ?_); (conv => whnf))
      refine CallK.fn (Path_r r.p (by omega)) ?_
      cases c2 : pathOf r.p
      · rw [bad (by unfold writeOK; rw [c2]; simp)]
        (conv => whnf); repeat ((first | refine tk1 ?_ | refine tk2 ?_ | refine tk3 ?_ | refine tk12 (fun _ => ?_) | refine tk4 ?_ | refine tk5 ?_ | refine tk6 ?_ | refine tk7 ?_ | refine tk8 ?_ | refine tk9 ?_ | refine tk10 (fun _ _ => ?_) | refine tk11 (fun _ => ?_) | refine tk13 ?_ | refine tk14 ?_); (conv => whnf))
      (conv => whnf); repeat ((first | refine tk1 ?_ | refine tk2 ?_ | refine tk3 ?_ | refine tk12 (fun _ => ?_) | refine tk4 ?_ | refine tk5 ?_ | refine tk6 ?_ | refine tk7 ?_ | refine tk8 ?_ | refine tk9 ?_ | refine tk10 (fun _ _ => ?_) | refine tk11 (fun _ => ?_) | refine tk13 ?_ | refine tk14 ?_); (conv => whnf))
      refine CallK.fn (Query_r r.q (by omega)) ?_
      cases c3 : queryOf r.q
      · rw [bad (by unfold writeOK; rw [c3]; simp)]
        (conv => whnf); repeat ((first | refine tk1 ?_ | refine tk2 ?_ | refine tk3 ?_ | refine tk12 (fun _ => ?_) | refine tk4 ?_ | refine tk5 ?_ | refine tk6 ?_ | refine tk7 ?_ | refine tk8 ?_ | refine tk9 ?_ | refine tk10 (fun _ _ => ?_) | refine tk11 (fun _ => ?_) | refine tk13 ?_ | refine tk14 ?_); (conv => whnf))
      (conv => whnf); repeat ((first | refine tk1 ?_ | refine tk2 ?_ | refine tk3 ?_ | refine tk12 (fun _ => ?_) | refine tk4 ?_ | refine tk5 ?_ | refine tk6 ?_ | refine tk7 ?_ | refine tk8 ?_ | refine tk9 ?_ | refine tk10 (fun _ _ => ?_) | refine tk11 (fun _ => ?_) | refine tk13 ?_ | refine tk14 ?_); (conv => whnf))
      refine Cmp.cases (fun c4 => ?_) (fun c4 => ?_)
      · rw [bad (by unfold writeOK; rw [decide_eq_false (show ¬ 0 ≤ r.v by omega)]; simp)]
        (conv => whnf); repeat ((first | refine tk1 ?_ | refine tk2 ?_ | refine tk3 ?_ | refine tk12 (fun _ => ?_) | refine tk4 ?_ | refine tk5 ?_ | refine tk6 ?_ | refine tk7 ?_ | refine tk8 ?_ | refine tk9 ?_ | refine tk10 (fun _ _ => ?_) | refine tk11 (fun _ => ?_) | refine tk13 ?_ | refine tk14 ?_); (conv => whnf))
      (conv => whnf); repeat ((first | refine tk1 ?_ | refine tk2 ?_ | refine tk3 ?_ | refine tk12 (fun _ => ?_) | refine tk4 ?_ | refine tk5 ?_ | refine tk6 ?_ | refine tk7 ?_ | refine tk8 ?_ | refine tk9 ?_ | refine tk10 (fun _ _ => ?_) | refine tk11 (fun _ => ?_) | refine tk13 ?_ | refine tk14 ?_); (conv => whnf))
      refine Cmp.cases (fun c5 => ?_) (fun c5 => ?_)
      · rw [bad (by unfold writeOK; rw [decide_eq_false (show ¬ r.v ≤ 1 by omega)]; simp)]
        (conv => whnf); repeat ((first | refine tk1 ?_ | refine tk2 ?_ | refine tk3 ?_ | refine tk12 (fun _ => ?_) | refine tk4 ?_ | refine tk5 ?_ | refine tk6 ?_ | refine tk7 ?_ | refine tk8 ?_ | refine tk9 ?_ | refine tk10 (fun _ _ => ?_) | refine tk11 (fun _ => ?_) | refine tk13 ?_ | refine tk14 ?_); (conv => whnf))
      (conv => whnf); repeat ((first | refine tk1 ?_ | refine tk2 ?_ | refine tk3 ?_ | refine tk12 (fun _ => ?_) | refine tk4 ?_ | refine tk5 ?_ | refine tk6 ?_ | refine tk7 ?_ | refine tk8 ?_ | refine tk9 ?_ | refine tk10 (fun _ _ => ?_) | refine tk11 (fun _ => ?_) | refine tk13 ?_ | refine tk14 ?_); (conv => whnf))
      refine Cmp.cases (fun c6 => ?_) (fun c6 => ?_)
      · rw [bad (by unfold writeOK; rw [decide_eq_false (show ¬ (writeL r).length ≤ 4096 by omega)]; simp)]
        (conv => whnf); repeat ((first | refine tk1 ?_ | refine tk2 ?_ | refine tk3 ?_ | refine tk12 (fun _ => ?_) | refine tk4 ?_ | refine tk5 ?_ | refine tk6 ?_ | refine tk7 ?_ | refine tk8 ?_ | refine tk9 ?_ | refine tk10 (fun _ _ => ?_) | refine tk11 (fun _ => ?_) | refine tk13 ?_ | refine tk14 ?_); (conv => whnf))
      · have hok : writeOK r = true := by
          unfold writeOK
          rw [c1, c2, c3, decide_eq_true (show 0 ≤ r.v by omega), decide_eq_true (show r.v ≤ 1 by omega), decide_eq_true (show (writeL r).length ≤ 4096 by omega)]
          rfl
        (conv => whnf); repeat ((first | refine tk1 ?_ | refine tk2 ?_ | refine tk3 ?_ | refine tk12 (fun _ => ?_) | refine tk4 ?_ | refine tk5 ?_ | refine tk6 ?_ | refine tk7 ?_ | refine tk8 ?_ | refine tk9 ?_ | refine tk10 (fun _ _ => ?_) | refine tk11 (fun _ => ?_) | refine tk13 ?_ | refine tk14 ?_); (conv => whnf))
        simp [writeS, writeE, hok]
theorem hexT_cut (n : Nat) (h : n < 16) : (hexT.take ((n : Int) + 1).toNat).drop (n : Int).toNat = [hexD n] := by
  have : ∀ n : Fin 16, (hexT.take (n.val + 1)).drop n.val = [hexD n.val] := by decide
  rw [Int.toNat_natCast, show ((n : Int) + 1).toNat = n + 1 by omega]
  exact this ⟨n, h⟩
theorem DivS.quo16 {x : Nat} {K : Value → Prop} (h : x < 256) (k : K (.int .i64 ((x / 16 : Nat) : Int))) : DivS .quo .i64 (x : Nat) 16 K := by
  have : ∀ n : Fin 256, ((n.val / 16 : Nat) : Int) = IntKind.i64.wrap ((n.val : Int).tdiv 16) := by decide +kernel
  exact ⟨by decide, .inl ⟨rfl, _, this ⟨x, h⟩, k⟩⟩
theorem DivS.rem16 {x : Nat} {K : Value → Prop} (h : x < 256) (k : K (.int .i64 ((x % 16 : Nat) : Int))) : DivS .rem .i64 (x : Nat) 16 K := by
  have : ∀ n : Fin 256, ((n.val % 16 : Nat) : Int) = (n.val : Int).tmod 16 := by decide +kernel
  exact ⟨by decide, .inr ⟨rfl, _, this ⟨x, h⟩, k⟩⟩
end Go.Proofs.YtmdmmncoigeijaaGreatDoor.Vex
/- Lists of fields: whether two are the same; whether one is great; reckoned. -/
namespace Go.Proofs.YtmdmmncoigeijaaGreatDoor.Vex
open Go Go.RowKit
set_option maxRecDepth 100000
set_option linter.unusedSectionVars false
variable {gI : GI} [HasMax gI]

theorem SameFields_r (A B : Option Addr) (cp cq : Nat) (a b : List Fld) (ha : a.length ≤ 1000000000) (hb : b.length ≤ 1000000000) :
    FnR Tryz.prog gI 42 [.slice A a.length cp, .slice B b.length cq] [(A, fcells a), (B, fcells b)] (.bool (decide (a = b))) := by
  refine FnE.of tys_ok Tryz.func42 rfl (by kernel_rfl) rfl rfl ?_; intro w hG hP
  have hA : ∀ H, RdA (mkC Tryz.prog gI w hG) H A (fcells a) := fun H => ⟨hP.1.now⟩
  have hB : ∀ H, RdA (mkC Tryz.prog gI w hG) H B (fcells b) := fun H => ⟨hP.2.1.now⟩
  (conv => whnf); repeat ((first | refine tk1 ?_ | refine tk2 ?_ | refine tk3 ?_ | refine tk12 (fun _ => ?_) | refine tk4 ?_ | refine tk5 ?_ | refine tk6 ?_ | refine tk7 ?_ | refine tk8 ?_ | refine tk9 ?_ | refine tk10 (fun _ _ => ?_) | refine tk11 (fun _ => ?_) | refine tk13 ?_ | refine tk14 ?_); (conv => whnf))
  refine Cmp.cases (fun hz => ?_) (fun hz => ?_)
  · (conv => whnf); repeat ((first | refine tk1 ?_ | refine tk2 ?_ | refine tk3 ?_ | refine tk12 (fun _ => ?_) | refine tk4 ?_ | refine tk5 ?_ | refine tk6 ?_ | refine tk7 ?_ | refine tk8 ?_ | refine tk9 ?_ | refine tk10 (fun _ _ => ?_) | refine tk11 (fun _ => ?_) | refine tk13 ?_ | refine tk14 ?_); (conv => whnf))
    intro w' _
    rw [decide_eq_false (fun h => hz (by rw [h]))]
  have hz' : a.length = b.length := by omega
  (conv => whnf); repeat ((first | refine tk1 ?_ | refine tk2 ?_ | refine tk3 ?_ | refine tk12 (fun _ => ?_) | refine tk4 ?_ | refine tk5 ?_ | refine tk6 ?_ | refine tk7 ?_ | refine tk8 ?_ | refine tk9 ?_ | refine tk10 (fun _ _ => ?_) | refine tk11 (fun _ => ?_) | refine tk13 ?_ | refine tk14 ?_); (conv => whnf))
  refine LoopS.lp tys_ok (fun (k : Nat) u => [.slice A a.length cp, .slice B b.length cq, u 2, u 3, u 4, .int .i64 (k : Nat), u 6, u 7, u 8, u 9, u 10, u 11, u 12, u 13, u 14, u 15, u 16, u 17, u 18, u 19, u 20, u 21, u 22, u 23, u 24, u 25]) (fun _ => [])
    (fun k => k ≤ a.length ∧ a.take k = b.take k) (fun k => a.length - k) 0 ⟨Nat.zero_le _, rfl⟩ rfl (by repeat' (first | exact List.Sublist.refl _ | exact List.nil_sublist _ | apply List.Sublist.cons_cons | apply List.Sublist.cons)) ?_
  intro k u ⟨hk, hI⟩
  (conv => whnf); repeat ((first | refine tk1 ?_ | refine tk2 ?_ | refine tk3 ?_ | refine tk12 (fun _ => ?_) | refine tk4 ?_ | refine tk5 ?_ | refine tk6 ?_ | refine tk7 ?_ | refine tk8 ?_ | refine tk9 ?_ | refine tk10 (fun _ _ => ?_) | refine tk11 (fun _ => ?_) | refine tk13 ?_ | refine tk14 ?_); (conv => whnf))
  refine Cmp.cases (fun hlt => ?_) (fun hlt => ?_)
  · have hka : k < a.length := by omega
    have hkb : k < b.length := by omega
    (conv => whnf); repeat ((first | refine tk1 ?_ | refine tk2 ?_ | refine tk3 ?_ | refine tk12 (fun _ => ?_) | refine tk4 ?_ | refine tk5 ?_ | refine tk6 ?_ | refine tk7 ?_ | refine tk8 ?_ | refine tk9 ?_ | refine tk10 (fun _ _ => ?_) | refine tk11 (fun _ => ?_) | refine tk13 ?_ | refine tk14 ?_); (conv => whnf))
    refine DrawS.go (qs 9) tys_ok mixed (by kernel_rfl) ?_
    (conv => whnf); repeat ((first | refine tk1 ?_ | refine tk2 ?_ | refine tk3 ?_ | refine tk12 (fun _ => ?_) | refine tk4 ?_ | refine tk5 ?_ | refine tk6 ?_ | refine tk7 ?_ | refine tk8 ?_ | refine tk9 ?_ | refine tk10 (fun _ _ => ?_) | refine tk11 (fun _ => ?_) | refine tk13 ?_ | refine tk14 ?_); (conv => whnf))
    refine IdxA.tc (by rw [fcells_length]; omega) (by omega) (by omega) ?_
    (conv => whnf); repeat ((first | refine tk1 ?_ | refine tk2 ?_ | refine tk3 ?_ | refine tk12 (fun _ => ?_) | refine tk4 ?_ | refine tk5 ?_ | refine tk6 ?_ | refine tk7 ?_ | refine tk8 ?_ | refine tk9 ?_ | refine tk10 (fun _ _ => ?_) | refine tk11 (fun _ => ?_) | refine tk13 ?_ | refine tk14 ?_); (conv => whnf))
    refine Ld.taN (fcells_two a k hka) rfl ?_
    (conv => whnf); repeat ((first | refine tk1 ?_ | refine tk2 ?_ | refine tk3 ?_ | refine tk12 (fun _ => ?_) | refine tk4 ?_ | refine tk5 ?_ | refine tk6 ?_ | refine tk7 ?_ | refine tk8 ?_ | refine tk9 ?_ | refine tk10 (fun _ _ => ?_) | refine tk11 (fun _ => ?_) | refine tk13 ?_ | refine tk14 ?_); (conv => whnf))
    refine IdxA.tc (by rw [fcells_length]; omega) (by omega) (by omega) ?_
    (conv => whnf); repeat ((first | refine tk1 ?_ | refine tk2 ?_ | refine tk3 ?_ | refine tk12 (fun _ => ?_) | refine tk4 ?_ | refine tk5 ?_ | refine tk6 ?_ | refine tk7 ?_ | refine tk8 ?_ | refine tk9 ?_ | refine tk10 (fun _ _ => ?_) | refine tk11 (fun _ => ?_) | refine tk13 ?_ | refine tk14 ?_); (conv => whnf))
    refine Ld.taN (fcells_two b k hkb) rfl ?_
    (conv => whnf); repeat ((first | refine tk1 ?_ | refine tk2 ?_ | refine tk3 ?_ | refine tk12 (fun _ => ?_) | refine tk4 ?_ | refine tk5 ?_ | refine tk6 ?_ | refine tk7 ?_ | refine tk8 ?_ | refine tk9 ?_ | refine tk10 (fun _ _ => ?_) | refine tk11 (fun _ => ?_) | refine tk13 ?_ | refine tk14 ?_); (conv => whnf))
    refine OthP.neF rfl rfl rfl ?_
    cases hq : (a[k].1 == b[k].1 && a[k].2 == b[k].2)
    · (conv => whnf); repeat ((first | refine tk1 ?_ | refine tk2 ?_ | refine tk3 ?_ | refine tk12 (fun _ => ?_) | refine tk4 ?_ | refine tk5 ?_ | refine tk6 ?_ | refine tk7 ?_ | refine tk8 ?_ | refine tk9 ?_ | refine tk10 (fun _ _ => ?_) | refine tk11 (fun _ => ?_) | refine tk13 ?_ | refine tk14 ?_); (conv => whnf))
      intro w' _
      rw [decide_eq_false (fun h => by subst h; simp at hq)]
    · have hq' : a[k] = b[k] := by simp at hq; exact Prod.ext hq.1 hq.2
      (conv => whnf); repeat ((first | refine tk1 ?_ | refine tk2 ?_ | refine tk3 ?_ | refine tk12 (fun _ => ?_) | refine tk4 ?_ | refine tk5 ?_ | refine tk6 ?_ | refine tk7 ?_ | refine tk8 ?_ | refine tk9 ?_ | refine tk10 (fun _ _ => ?_) | refine tk11 (fun _ => ?_) | refine tk13 ?_ | refine tk14 ?_); (conv => whnf))
      exact ⟨k + 1, ⟨by omega, by rw [List.take_succ_eq_append_getElem hka, List.take_succ_eq_append_getElem hkb, hI, hq']⟩, rfl, (by repeat' (first | exact List.Sublist.refl _ | exact List.nil_sublist _ | apply List.Sublist.cons_cons | apply List.Sublist.cons)), by dsimp only; omega⟩
  · (conv => whnf); repeat ((first | refine tk1 ?_ | refine tk2 ?_ | refine tk3 ?_ | refine tk12 (fun _ => ?_) | refine tk4 ?_ | refine tk5 ?_ | refine tk6 ?_ | refine tk7 ?_ | refine tk8 ?_ | refine tk9 ?_ | refine tk10 (fun _ _ => ?_) | refine tk11 (fun _ => ?_) | refine tk13 ?_ | refine tk14 ?_); (conv => whnf))
    intro w' _
    have : a = b := by rw [List.take_of_length_le (by omega), List.take_of_length_le (by omega)] at hI; exact hI
    rw [decide_eq_true this]
theorem Great18_b (A : Option Addr) (cp : Nat) (l : List Fld) : FnE Tryz.prog gI 32 [.slice A l.length cp] (fun w => Rdw w A (fcells l)) fun _ v _ => ∃ b, v = .bool b :=
  ⟨(Great_r (gI := gI) A cp l).can, fun w hG hp => ((Great_r A cp l).ok w hG ⟨hp, trivial⟩).mono fun _ _ ⟨v, he, hv, hr⟩ => ⟨v, he, ⟨_, hv⟩, hr⟩⟩
end Go.Proofs.YtmdmmncoigeijaaGreatDoor.Vex
/- A walk by reckoning, part sixteen: regions in which two acts may come up together: both orders are gone. No program in sight. -/
namespace Go.Proofs.YtmdmmncoigeijaaGreatDoor.Vex
open Go Go.RowKit

/-- The orders that may come: q: an operation that is quiet; a: an act that comes up alone; ch: one of several that come up (stop ends their row). -/
inductive DT where
  | nil
  | q (i : Nat) (t : DT)
  | a (i : Nat) (t : DT)
  | ch (i : Nat) (t : DT) (r : DT)
  | stop
noncomputable def wtree (c : Ctx) (T : Ty) (ws : List Nat) (ops : List Oper) (t : DT) : (Fr → Hp → Prop) → Fr → Hp → Prop :=
  DT.rec (motive := fun _ => (Fr → Hp → Prop) → Fr → Hp → Prop) (fun K fr H => K fr H)
    (fun i _ ih K fr H => nthK ops i fun o => strOk T fr o.guard o.op (wstep c T .quiet ops o fr H (ih K)))
    (fun i _ ih K fr H => nthK ops i fun o => strOk T fr o.guard o.op (wstep c T (match ws.contains i with | true => .wact | false => .act) ops o fr H (ih K)))
    (fun i _ _ ih rh K fr H => (nthK ops i fun o => strOk T fr o.guard o.op (wstep c T (match ws.contains i with | true => .wact | false => .act) ops o fr H (ih K))) ∧ rh K fr H)
    (fun _ _ _ => True) t
def DT.heads : DT → List Nat
  | .ch i _ r => i :: r.heads
  | _ => []
noncomputable def treeB (T : Ty) (ws : List Nat) (ops : Array Oper) : DT → Bool → Array Bool → Bool
  | .nil, b, l => !b && (Region.ready .any ops l).isEmpty
  | .q i t, b, l => !b && (Region.ready .any ops l).contains i && Region.free .any ops l i && !isWr ws ops i && (((List.range ops.size).all fun j => !isWr ws ops j || l.getD j true || anc .any ops ops.size j i) || (match ops[i]? with | some o => blindOp T o.guard o.op | none => false)) && treeB T ws ops t false (l.setIfInBounds i true)
  | .a i t, b, l => !b && (Region.ready .any ops l == [i]) && treeB T ws ops t false (l.setIfInBounds i true)
  | .ch i t r, b, l => (b || ((Region.ready .any ops l).all fun k => k == i || r.heads.contains k)) && (Region.ready .any ops l).contains i && treeB T ws ops t false (l.setIfInBounds i true) && treeB T ws ops r true l
  | .stop, b, _ => b
def DT.len : DT → Nat
  | .nil => 0
  | .q _ t => t.len + 1
  | .a _ t => t.len + 1
  | .ch _ t r => max (t.len + 1) r.len
  | .stop => 0
section
variable {c : Ctx} {T : Ty}
theorem wact_ok (hT : TOk c.P T) (ws : List Nat) (ds : List Deferred) (ops : List Oper) (K : Fr → Hp → Prop) {ih : Fr → Hp → Prop} {i n : Nat} {l : Array Bool} {fr : Fr} {H : Hp} {w' : World}
    (h : nthK ops i fun o => strOk T fr o.guard o.op (wstep c T (match ws.contains i with | true => .wact | false => .act) ops o fr H ih)) (hw' : St c H w')
    (next : ∀ fr' H' w2, ih fr' H' → St c H' w2 → wpAnyR c.P .any ⟨ops⟩ (isWr ws ⟨ops⟩) (DrawQ c ds K) n (l.setIfInBounds i true) (actD ds fr') w2) :
    wpOp c.P ⟨ops⟩ (DrawQ c ds K) i (fun a2 w2 => (isWr ws ⟨ops⟩ i = false → R w' w2) ∧ wpAnyR c.P .any ⟨ops⟩ (isWr ws ⟨ops⟩) (DrawQ c ds K) n (l.setIfInBounds i true) a2 w2) (actD ds fr) w' := by
  obtain ⟨o, hoi, h⟩ := nthK_some h
  obtain ⟨h, hst⟩ := strOk_out h
  have hmd : ∃ m : Md, wstep c T m ops o fr H ih ∧ m ≠ .plain ∧ (ws.contains i = false → m = .act) ∧ (m = .act ∨ m = .wact) := by
    cases hw9 : ws.contains i
    · rw [hw9] at h
      exact ⟨Md.act, h, (fun h => by cases h), (fun _ => rfl), .inl rfl⟩
    · rw [hw9] at h
      exact ⟨Md.wact, h, (fun h => by cases h), (fun h => by cases h), .inr rfl⟩
  clear h
  obtain ⟨m, h, hm2, hm3, hm4⟩ := hmd
  have hoi' : (⟨ops⟩ : Array Oper)[i]? = some o := by simpa using hoi
  unfold wpOp
  simp only [hoi']
  rw [show (actD ds fr).tmps = (act fr).tmps from rfl]
  rcases wstep_cases hT h with ⟨hwd, hd | ⟨he, _⟩, _⟩ | ⟨hwd, hk⟩
  · rw [if_pos hwd]
    have hd : GoodD c m o fr H fun v H' => setO fr o.dst v fun fr' => ih fr' H' := by
      rcases hm4 with rfl | rfl
      · exact hd
      · exact hd
    refine .inl (Good.wp (hd w' hw') fun v H' w2 hs2 hk hrr => ?_)
    obtain ⟨fr', e, hk⟩ := setO_act (ds := ds) hk
    rw [e]
    refine ⟨fun hi => hrr ?_, next fr' H' w2 hk hs2⟩
    have h2 : isWr ws ⟨ops⟩ i = (wr o.op || ws.contains i) := by unfold isWr; rw [hoi']
    rw [h2, Bool.or_eq_false_iff] at hi
    rw [hm3 hi.2]
    simp [rOf, hi.1]
  · exact absurd he hm2
  · rw [if_neg (by rw [hwd]; exact Bool.false_ne_true)]
    obtain ⟨fr', e, hk⟩ := setO_act (ds := ds) hk
    rw [e]
    exact ⟨fun _ => R.refl _, next fr' H w' hk hw'⟩
abbrev TreeA (c : Ctx) (T : Ty) (ws : List Nat) (ds : List Deferred) (ops : List Oper) (K' K : Fr → Hp → Prop) (t : DT) : Prop := ∀ (n : Nat) (l : Array Bool) (fr : Fr) (H : Hp) (w : World),
  t.len ≤ n → closedL .any ⟨ops⟩ l → treeB T ws ⟨ops⟩ t false l = true → wtree c T ws ops t K' fr H → St c H w → wpAnyR c.P .any ⟨ops⟩ (isWr ws ⟨ops⟩) (DrawQ c ds K) n l (actD ds fr) w
abbrev TreeC (c : Ctx) (T : Ty) (ws : List Nat) (ds : List Deferred) (ops : List Oper) (K' K : Fr → Hp → Prop) (t : DT) : Prop := ∀ (n : Nat) (l : Array Bool) (fr : Fr) (H : Hp) (w' : World),
  t.len ≤ n + 1 → closedL .any ⟨ops⟩ l → treeB T ws ⟨ops⟩ t true l = true → wtree c T ws ops t K' fr H → St c H w' → ∀ k ∈ t.heads,
    wpOp c.P ⟨ops⟩ (DrawQ c ds K) k (fun a2 w2 => (isWr ws ⟨ops⟩ k = false → R w' w2) ∧ wpAnyR c.P .any ⟨ops⟩ (isWr ws ⟨ops⟩) (DrawQ c ds K) n (l.setIfInBounds k true) a2 w2) (actD ds fr) w'
theorem wtree_ok (hT : TOk c.P T) (ws : List Nat) (ds : List Deferred) (ops : List Oper) (hs : Region.noSelect ⟨ops⟩ = true) (K' K : Fr → Hp → Prop) (hK : ∀ fr H, K' fr H → ∃ H2, (∀ w, St c H w → St c H2 w) ∧ K fr H2) (t : DT) : TreeA c T ws ds ops K' K t ∧ TreeC c T ws ds ops K' K t := by
  induction t with
  | nil =>
    refine ⟨fun n l fr H w _ _ ho h hw => ?_, fun n l fr H w _ _ ho h hw k hk => by cases hk⟩
    simp only [treeB, Bool.and_eq_true, List.isEmpty_iff] at ho
    obtain ⟨H2, hs2, hk⟩ := hK fr H h
    exact wpAnyR_done ho.2 fun w' hR => ⟨fr, H2, rfl, hs2 _ (hw.below hR), rfl, hk⟩
  | q i t ih =>
    refine ⟨fun n l fr H w hn hc ho h hw => ?_, fun n l fr H w _ _ ho h hw k hk => by cases hk⟩
    obtain ⟨n, rfl⟩ : ∃ m, n = m + 1 := ⟨n - 1, by simp only [DT.len] at hn; omega⟩
    simp only [treeB, Bool.and_eq_true] at ho
    obtain ⟨⟨⟨⟨⟨_, hr⟩, hf⟩, hwi⟩, hall⟩, ho⟩ := ho
    rw [Bool.not_eq_true'] at hwi
    have hr : i ∈ Region.ready .any ⟨ops⟩ l := by simpa using hr
    obtain ⟨o, hoi, h⟩ := nthK_some h
    obtain ⟨h, hst⟩ := strOk_out h
    have hoi' : (⟨ops⟩ : Array Oper)[i]? = some o := by simpa using hoi
    have hQ : ∀ (v : Value) (ch : List PanicEntry) (a : Act) (w : World), DrawQ c ds K (.panic ch) (a.put o.dst v) w → DrawQ c ds K (.panic ch) a w := fun v ch a w ⟨_, _, _, _, he, _⟩ => by cases he
    have hn' : t.len ≤ n := by simpa [DT.len] using hn
    rw [hoi', Bool.or_eq_true] at hall
    dsimp only at hall
    rcases hall with hall | hbl
    rotate_left
    · rcases wstep_wop h with ⟨hwd, h⟩ | ⟨hwd, hk⟩
      · obtain ⟨v, hk, hq⟩ := blind_wop hT o hbl hst h
        obtain ⟨fr', e, hk⟩ := setO_act (ds := ds) hk
        refine wpAnyR_firstB (v := v) hoi' (Region.noSelect_spec hs) (hQ v) n l (actD ds fr) w hc (Region.free_spec hoi' hf) hr (fun w' => .inl ⟨hwd, ?_⟩) ?_
        · unfold Quiet1
          rw [show (actD ds fr).eval = (act fr).eval from rfl, hq w']
          exact ⟨rfl, rfl⟩
        · rw [e]
          exact ih.1 n _ fr' H w hn' (hc.set hr) ho hk hw
      · obtain ⟨fr', e, hk⟩ := setO_act (ds := ds) hk
        refine wpAnyR_firstB (v := undef) hoi' (Region.noSelect_spec hs) (hQ _) n l (actD ds fr) w hc (Region.free_spec hoi' hf) hr (fun w' => .inr ⟨hwd, rfl⟩) ?_
        rw [e]
        exact ih.1 n _ fr' H w hn' (hc.set hr) ho hk hw
    simp only [List.all_eq_true, List.mem_range, Bool.or_eq_true, Bool.not_eq_true'] at hall
    have hwr : ∀ j, isWr ws ⟨ops⟩ j = true → l.getD j true = false → anc .any ⟨ops⟩ (⟨ops⟩ : Array Oper).size j i = true := fun j hj hl => by
      have hlt : j < (⟨ops⟩ : Array Oper).size := by
        unfold isWr at hj
        rcases Nat.lt_or_ge j (⟨ops⟩ : Array Oper).size with h' | h'
        · exact h'
        · rw [Array.getElem?_eq_none h'] at hj; cases hj
      rcases hall j hlt with (h1 | h1) | h1
      · rw [hj] at h1; cases h1
      · rw [hl] at h1; cases h1
      · exact h1
    rcases wstep_cases hT h with ⟨hwd, ⟨v, hk, hq⟩ | ⟨he, _⟩, _⟩ | ⟨hwd, hk⟩
    · obtain ⟨fr', e, hk⟩ := setO_act (ds := ds) hk
      refine wpAnyR_first (v := v) hoi' (Region.noSelect_spec hs) (hQ v) hwi n l (actD ds fr) w hc hwr (Region.free_spec hoi' hf) hr (fun w' hR => .inl ⟨hwd, hq w' (hw.below hR)⟩) ?_
      rw [e]
      exact ih.1 n _ fr' H w hn' (hc.set hr) ho hk hw
    · cases he
    · obtain ⟨fr', e, hk⟩ := setO_act (ds := ds) hk
      refine wpAnyR_first (v := undef) hoi' (Region.noSelect_spec hs) (hQ _) hwi n l (actD ds fr) w hc hwr (Region.free_spec hoi' hf) hr (fun w' hR => .inr ⟨hwd, rfl⟩) ?_
      rw [e]
      exact ih.1 n _ fr' H w hn' (hc.set hr) ho hk hw
  | a i t ih =>
    refine ⟨fun n l fr H w hn hc ho h hw => ?_, fun n l fr H w _ _ ho h hw k hk => by cases hk⟩
    obtain ⟨n, rfl⟩ : ∃ m, n = m + 1 := ⟨n - 1, by simp only [DT.len] at hn; omega⟩
    simp only [treeB, Bool.and_eq_true, beq_iff_eq] at ho
    obtain ⟨⟨_, hr⟩, ho⟩ := ho
    have hri : i ∈ Region.ready .any ⟨ops⟩ l := by rw [hr]; simp
    refine wpAnyR_alone hr fun w' hR => ?_
    exact wact_ok hT ws ds ops K h (hw.below hR) fun fr' H' w2 hk hs2 => ih.1 n _ fr' H' w2 (by simpa [DT.len] using hn) (hc.set hri) ho hk hs2
  | ch i t r iht ihr =>
    have key : ∀ (n : Nat) (l : Array Bool) (fr : Fr) (H : Hp) (w' : World), (DT.ch i t r).len ≤ n + 1 → closedL .any ⟨ops⟩ l → ((Region.ready .any ⟨ops⟩ l).contains i = true) → treeB T ws ⟨ops⟩ t false (l.setIfInBounds i true) = true → treeB T ws ⟨ops⟩ r true l = true →
        wtree c T ws ops (.ch i t r) K' fr H → St c H w' → ∀ k ∈ (DT.ch i t r).heads,
        wpOp c.P ⟨ops⟩ (DrawQ c ds K) k (fun a2 w2 => (isWr ws ⟨ops⟩ k = false → R w' w2) ∧ wpAnyR c.P .any ⟨ops⟩ (isWr ws ⟨ops⟩) (DrawQ c ds K) n (l.setIfInBounds k true) a2 w2) (actD ds fr) w' := by
      intro n l fr H w' hn hc hri h1 h2 h hw k hk
      have hri : i ∈ Region.ready .any ⟨ops⟩ l := by simpa using hri
      have hn1 : t.len + 1 ≤ n + 1 ∧ r.len ≤ n + 1 := by simp only [DT.len] at hn; omega
      rcases List.mem_cons.1 hk with rfl | hk
      · exact wact_ok hT ws ds ops K h.1 hw fun fr' H' w2 hk hs2 => iht.1 n _ fr' H' w2 (by omega) (hc.set hri) h1 hk hs2
      · exact ihr.2 n l fr H w' hn1.2 hc h2 h.2 hw k hk
    refine ⟨fun n l fr H w hn hc ho h hw => ?_, fun n l fr H w' hn hc ho h hw k hk => ?_⟩
    · obtain ⟨n, rfl⟩ : ∃ m, n = m + 1 := ⟨n - 1, by simp only [DT.len] at hn; omega⟩
      simp only [treeB, Bool.and_eq_true, Bool.false_or] at ho
      obtain ⟨⟨⟨hall, hri⟩, h1⟩, h2⟩ := ho
      intro w' hR
      refine ⟨fun he => ?_, fun k hk => ?_⟩
      · rw [he] at hri; cases hri
      · refine key n l fr H w' hn hc hri h1 h2 h (hw.below hR) k ?_
        have := List.all_eq_true.1 hall k hk
        simp only [Bool.or_eq_true, beq_iff_eq] at this
        rcases this with rfl | h
        · exact List.mem_cons_self ..
        · exact List.mem_cons_of_mem _ (by simpa using h)
    · simp only [treeB, Bool.and_eq_true] at ho
      obtain ⟨⟨⟨_, hri⟩, h1⟩, h2⟩ := ho
      exact key n l fr H w' hn hc hri h1 h2 h hw k hk
  | stop =>
    refine ⟨fun n l fr H w _ _ ho h hw => ?_, fun n l fr H w _ _ ho h hw k hk => by cases hk⟩
    cases ho
noncomputable def forkB (T : Ty) (ws : List Nat) (ops : List Oper) (t : DT) : Bool := ops.all noDefer && Region.noSelect ⟨ops⟩ && (decide (t.len ≤ ops.length)) && treeB T ws ⟨ops⟩ t false (Array.replicate ops.length false)
/-- The entries of a heap, in another order, some left out. -/
inductive Cov : Hp → Hp → Prop
  | nil {H : Hp} : Cov H []
  | cons {H H2 G : Hp} {x : Ent} (h : Pick H x H2) (k : Cov H2 G) : Cov H (x :: G)
theorem Cov.perm {H G : Hp} (h : Cov H G) : ∃ R, H.Perm (G ++ R) := by
  induction h with
  | nil => exact ⟨_, List.Perm.refl _⟩
  | cons hp _ ih =>
    obtain ⟨R, hR⟩ := ih
    exact ⟨R, hp.perm.trans (hR.cons _)⟩
theorem Cov.st {H G : Hp} (h : Cov H G) {w : World} (hw : St c H w) : St c G w := by
  obtain ⟨R, hR⟩ := h.perm
  exact (hw.perm hR).sub (List.sublist_append_left _ _)
theorem DrawS.forkK {id : Nat} {ops : List Oper} {K' K : Fr → Hp → Prop} {fr : Fr} {H : Hp} (ws : List Nat) (t : DT) (hT : TOk c.P T) (hm : c.P.follows .mixedOrders = true) (hB : forkB T ws ops t = true) (hK : ∀ fr H, K' fr H → ∃ H2, (∀ w, St c H w → St c H2 w) ∧ K fr H2) (h : wtree c T ws ops t K' fr H) : DrawS c T id ops K fr H := by
  simp only [forkB, Bool.and_eq_true, decide_eq_true_eq] at hB
  refine ⟨hm, fun j o ca hj e => ?_, fun ds w hw => wpAny_of_R (Wr := isWr ws ⟨ops⟩) _ _ _ _ (((wtree_ok hT ws ds ops hB.1.1.2 K' K hK t).1 _ _ fr H w hB.1.2 (closedL_start _) hB.2 h hw).on (R.drew w))⟩
  have h1 := List.all_eq_true.1 hB.1.1.1 o (List.mem_of_getElem? (by simpa using hj))
  unfold noDefer at h1
  rw [e] at h1
  cases h1
/-- All orders that may come are told. -/
theorem DrawS.fork {id : Nat} {ops : List Oper} {K : Fr → Hp → Prop} {fr : Fr} {H : Hp} (ws : List Nat) (t : DT) (hT : TOk c.P T) (hm : c.P.follows .mixedOrders = true) (hB : forkB T ws ops t = true) (h : wtree c T ws ops t K fr H) : DrawS c T id ops K fr H :=
  DrawS.forkK ws t hT hm hB (fun _ H hk => ⟨H, fun _ h => h, hk⟩) h
/-- .. behind each of them one state: what is behind the region is gone once. -/
theorem DrawS.join {β : Type} {id : Nat} {ops : List Oper} {K : Fr → Hp → Prop} {fr : Fr} {H : Hp} (F : β → (Nat → Value) → Fr) (G : β → Hp) (ws : List Nat) (t : DT) (hT : TOk c.P T) (hm : c.P.follows .mixedOrders = true) (hB : forkB T ws ops t = true)
    (h : wtree c T ws ops t (fun fr H => ∃ x, fr = F x (jk fr) ∧ Cov H (G x)) fr H) (k : ∀ x u, K (F x u) (G x)) : DrawS c T id ops K fr H :=
  DrawS.forkK ws t hT hm hB (fun fr' H' ⟨x, hF, hc⟩ => ⟨G x, fun _ hw => hc.st hw, by rw [hF]; exact k x (jk fr')⟩) h
end
end Go.Proofs.YtmdmmncoigeijaaGreatDoor.Vex
/- A walk by reckoning, part seventeen: functions that give back new memory of any kind; maps that came in. No program in sight. -/
namespace Go.Proofs.YtmdmmncoigeijaaGreatDoor.Vex
open Go Go.RowKit Go.MapKept

/-- New entries, behind a call. -/
def newH (w w' : World) (H : Hp) : Prop := (∀ y ∈ H, y.holds w' ∧ ∀ b, y.blk = some b → w.heap.size ≤ b ∧ b < w'.heap.size) ∧ (H.filterMap Ent.blk).Nodup
abbrev FnH (P : Program) (g : GI) (f : FuncId) (args : List Value) (pre : World → Prop) (K : Value → Hp → Prop) : Prop := FnE P g f args pre fun w v w' => ∃ H, K v H ∧ newH w w' H
theorem newH.of {P : Program} {g : GI} {w w' : World} {hG : g.G w} {H : Hp} (h : St (mkC P g w hG) H w') : newH w w' H :=
  ⟨fun y hy => ⟨(h.own y hy).1, fun b hb => ⟨((h.own y hy).2 b hb).2.elim id (fun h => by cases h), ((h.own y hy).2 b hb).1⟩⟩, h.apart⟩
theorem newH.cov {P : Program} {g : GI} {w w' : World} {hG : g.G w} {H H2 : Hp} (h : St (mkC P g w hG) H w') (hc : Cov H H2) : newH w w' H2 := newH.of (hc.st h)
section
variable {c : Ctx} {H : Hp}
theorem CallK.fnH {m : Bool} {f : Nat} {args : List Value} {pre : World → Prop} {K : Value → Hp → Prop} {K2 : Value → Hp → Prop} (h : FnH c.P c.g f args pre K) (hp : ∀ w, St c H w → pre w) (k : ∀ v H', K v H' → K2 v (H' ++ H)) : CallK c m f args H K2 :=
  CallK.fnE h hp fun w v w' hw ⟨H', hk, hn, hd⟩ hR => by
    refine ⟨H' ++ H, ?_, k v H' hk⟩
    have hw2 := hw.below hR
    refine ⟨hw2.mod, fun y hy => ?_, ?_⟩
    · rcases List.mem_append.1 hy with hy | hy
      · exact ⟨(hn y hy).1, fun b hb => ⟨((hn y hy).2 b hb).2, .inl (Nat.le_trans hw.mod.size ((hn y hy).2 b hb).1)⟩⟩
      · exact hw2.own y hy
    · rw [List.filterMap_append, List.nodup_append]
      refine ⟨hd, hw2.apart, fun a ha b hb e => ?_⟩
      obtain ⟨y, hy, hya⟩ := List.mem_filterMap.1 ha
      obtain ⟨z, hz, hzb⟩ := List.mem_filterMap.1 hb
      have h1 := ((hn y hy).2 a hya).1
      have h2 := ((hw.own z hz).2 b hzb).1
      omega
/-- A call whose value is known. -/
theorem CallK.fnEV {m : Bool} {f : Nat} {args : List Value} {pre : World → Prop} {v : Value} {K : Value → Hp → Prop} (h : FnE c.P c.g f args pre fun _ u _ => u = v) (hp : ∀ w, St c H w → pre w) (k : K v H) : CallK c m f args H K :=
  CallK.fnE h hp fun _ _ _ hw he hR => ⟨H, hw.below hR, by rw [he]; exact k⟩
theorem OthP.max2 {d : Option Nat} {x y : Operand} {ats : Array TypeId} {ty : TypeId} {pos : String} {after : Array Edge} {gd : Option (Nat × Bool)} {fr : Fr} {kd : IntKind} {a b : Int} {K : Value → Prop} (z : Int)
    (hx : evK fr x fun v => v = .int kd a) (hy : evK fr y fun v => v = .int kd b) (hz : max a b = z) (k : K (.int kd z)) : OthP c ⟨d, .call ⟨.builtin .max, #[x, y], ats⟩, ty, pos, after, gd⟩ fr H K := ⟨⟨_, k, fun w _ => by
  rw [evK_eq] at hx hy
  have hz' : z = if b > a then b else a := by subst hz; split <;> omega
  subst hz'
  simp only [go_sem, Builtin.max_]
  simp [hx, hy, Builtin.max2, List.foldlM]⟩⟩
/-- What a map has at a key, wherever the map lies. -/
theorem OthP.lookA {α : Type} [DecidableEq α] {kv : α → Value} {d : TypeDesc} {T : Ty} {fr : Fr} {dst : Option Nat} {ty : TypeId} {pos : String} {after : Array Edge} {gd : Option (Nat × Bool)} {t kt et : TypeId} {x i : Operand} {ok : Bool} {b : Nat} {k : α} {l : List (α × Value)} {z r : Value} {K : Value → Prop} (hk : KeyK d kv) (hT : TOk c.P T) (hb : ∀ w, St c H w → w.heap[b]? = some (mobj kv l))
    (hx : evK fr x fun v => v = .map (some b)) (hi : evK fr i fun v => v = kv k) (ht : (lookT T t).d = .map kt et) (hkt : (lookT T kt).d = d) (hd : d ≠ .invalid) (het : (lookT T et).d ≠ .invalid) (hz : (lookT T et).zero = z)
    (hr : (match ok with | true => .tuple ⟨[(mget k l).getD z, .bool (mget k l).isSome]⟩ | false => (mget k l).getD z) = r) (kk : K r) : OthP c ⟨dst, .lookup t x i ok, ty, pos, after, gd⟩ fr H K := ⟨⟨r, kk, fun w hw => by
  rw [evK_eq] at hx hi
  have hu := (lookT_ok hT (t := t) (by rw [ht]; intro h; cases h)).1
  have hku := (lookT_ok hT (t := kt) (by rw [hkt]; exact hd)).1
  rw [ht] at hu
  rw [hkt] at hku
  have hzv := run_zeroValue (lookT_ok hT (t := et) het) (w := w)
  rw [hz] at hzv
  have hb : w.heap[b]? = some (.map ⟨mkEs kv 0 l⟩ l.length) := hb w hw
  have hf := run_findKey (w := w) hku (findNow_es hk k l 0 0)
  have hc := run_checkKey (w := w) hku (hk.key k) (⟨mkEs kv 0 l⟩ : Array MapEntry).isEmpty 9999
  have hl : (Instr.lookup t (.map (some b)) (kv k) ok).run c.P w = .ok r w := by
    unfold Instr.lookup
    simp only [Sem.run_bind, run_underlying hu, Result.andThen_ok, MapKept.run_getObj_map hb, Sem.run_pure, hc, hf]
    subst hr
    cases mget k l with
    | none => cases ok <;> simp [hzv]
    | some v => cases ok <;> simp
  generalize (act fr).eval = ρ at *
  simp only [execOp, hx, hi, Sem.run_bind, hl, Result.andThen_ok, Sem.run_pure]⟩⟩
/-- An object that came in stays. -/
theorem obj_now {P : Program} {g : GI} {w : World} {hG : g.G w} {H : Hp} {b : Nat} {o : Obj} (h : w.heap[b]? = some o) : ∀ w', St (mkC P g w hG) H w' → w'.heap[b]? = some o := fun w' hw => by
  have hlt : b < w.heap.size := by
    rcases Nat.lt_or_ge b w.heap.size with h' | h'
    · exact h'
    · simp [Array.getElem?_eq_none h'] at h
  exact (hw.mod.block b hlt (fun h => by cases h)).trans h
/-- A cell that came in. -/
theorem Ld.now {P : Program} {g : GI} {w : World} {hG : g.G w} {H : Hp} {p : Addr} {v : Value} {K : Value → Prop} (h : w.cell? p = some v) (k : K v) : Ld (mkC P g w hG) H (.pointer (some p)) none K := Ld.old (c := mkC P g w hG) h (fun h => by cases h) k
end
end Go.Proofs.YtmdmmncoigeijaaGreatDoor.Vex
/- A walk by reckoning, part eighteen: heaps with a tail of entries that are not told one by one. No program in sight. -/
namespace Go.Proofs.YtmdmmncoigeijaaGreatDoor.Vex
open Go Go.RowKit

/-- What meets one heap meets another one. -/
def Into (c : Ctx) (H G : Hp) : Prop := ∀ w, St c H w → St c G w
section
variable {c : Ctx} {H G H2 : Hp} {x : Ent} {w : World}
theorem Into.refl : Into c H H := fun _ h => h
theorem Into.trans {K : Hp} (h : Into c H G) (k : Into c G K) : Into c H K := fun w hw => k w (h w hw)
theorem Into.perm (h : H.Perm G) : Into c H G := fun _ hw => hw.perm h
theorem Into.sub (h : G.Sublist H) : Into c H G := fun _ hw => hw.sub h
theorem Into.nil : Into c H [] := Into.sub (List.nil_sublist _)
theorem Into.skip (h : Into c H G) : Into c (x :: H) G := (Into.sub (List.sublist_cons_self _ _)).trans h
theorem Into.left : Into c (H ++ G) H := Into.sub (List.sublist_append_left _ _)
theorem Into.right : Into c (H ++ G) G := Into.sub (List.sublist_append_right _ _)
theorem Into.nilRow {e sz : Nat} (h : Into c H G) : Into c H (.row (.slice none 0 0) e sz 0 [] :: G) := fun w hw => (h w hw).nilRow e sz
/-- An entry is kept beside what the others are turned into: the others' own memory alone is looked at. -/
def Cv (H G : Hp) : Prop := ∃ R, H.Perm (G ++ R)
theorem Cv.into (h : Cv H G) : Into c H G := fun _ hw => by
  obtain ⟨R, hR⟩ := h
  exact (hw.perm hR).sub (List.sublist_append_left _ _)
theorem Cv.cons (h : Pick H x H2) (k : Cv H2 G) : Cv H (x :: G) := by
  obtain ⟨R, hR⟩ := k
  exact ⟨R, h.perm.trans (hR.cons _)⟩
theorem Cv.refl : Cv H H := ⟨[], by rw [List.append_nil]⟩
theorem Cv.nil : Cv H [] := ⟨H, List.Perm.refl _⟩
theorem Cv.skip (h : Cv H G) : Cv (x :: H) G := by
  obtain ⟨R, hR⟩ := h
  exact ⟨x :: R, (hR.cons x).trans List.perm_middle.symm⟩
theorem Cv.trans {K : Hp} (h : Cv H G) (k : Cv G K) : Cv H K := by
  obtain ⟨R, hR⟩ := h
  obtain ⟨S, hS⟩ := k
  exact ⟨S ++ R, hR.trans ((hS.append_right R).trans (by rw [List.append_assoc]))⟩
theorem Cv.of (h : H.Perm G) : Cv H G := ⟨[], by rw [List.append_nil]; exact h⟩
theorem Cv.left : Cv (H ++ G) H := ⟨G, List.Perm.refl _⟩
theorem Cv.right : Cv (H ++ G) G := ⟨H, List.perm_append_comm⟩
/-- A loop whose heap may change its order. -/
noncomputable def lpTQ (c : Ctx) {β : Type} (F : β → (Nat → Value) → Fr) (G : β → Hp) (pre : β → Prop) (μ : β → Nat) (x : β) (Q : Exit → Fr → Hp → Prop) (e : Exit) (fr : Fr) (H : Hp) : Prop := match e with
  | .normal => ∃ x', pre x' ∧ fr = F x' (jk fr) ∧ Into c H (G x') ∧ μ x' < μ x
  | e => Q e fr H
theorem LoopS.lpT {T : Ty} {β : Type} {body : Code} {Q : Exit → Fr → Hp → Prop} {fr : Fr} (hT : TOk c.P T) (F : β → (Nat → Value) → Fr) (G : β → Hp) (pre : β → Prop) (μ : β → Nat) (x0 : β) (h0 : pre x0) (hF : fr = F x0 (jk fr)) (hG : Into c H (G x0))
    (round : ∀ x u, pre x → wc c T body (lpTQ c F G pre μ x Q) (F x u) (G x)) : LoopS c T body Q fr H := by
  refine ⟨fun ds w hw => wp_loop_ghost (fun n a w => ∃ x u, pre x ∧ a = actD ds (F x u) ∧ St c (G x) w ∧ μ x = n) (μ x0) ⟨x0, jk fr, h0, by rw [← hF], hG w hw, rfl⟩ ?_⟩
  rintro n a w ⟨x, u, hx, rfl, hs, rfl⟩
  refine Code.wp_mono (fun e a w ⟨fr, H, ha, hs, hq⟩ => ?_) (wc_ok hT ds body _ _ _ w (round x u hx) hs)
  cases e with
  | normal =>
    obtain ⟨x', hx', hF', hG', hlt⟩ := hq
    exact ⟨μ x', hlt, x', jk fr, hx', by rw [ha, ← hF'], hG' w hs, rfl⟩
  | _ => exact ⟨fr, H, ha, hs, hq⟩
theorem LoopS.into {T : Ty} {body : Code} {Q : Exit → Fr → Hp → Prop} {fr : Fr} (hc : Into c H G) (h : LoopS c T body Q fr G) : LoopS c T body Q fr H := ⟨fun ds w hw => h.ok ds w (hc w hw)⟩

/-- All orders of a region, one state behind them, in a heap whose entries may change their order. -/
theorem DrawS.joinI {T : Ty} {β : Type} {id : Nat} {ops : List Oper} {K : Fr → Hp → Prop} {fr : Fr} (F : β → (Nat → Value) → Fr) (G : β → Hp) (ws : List Nat) (t : DT) (hT : TOk c.P T) (hm : c.P.follows .mixedOrders = true) (hB : forkB T ws ops t = true)
    (h : wtree c T ws ops t (fun fr H => ∃ x, fr = F x (jk fr) ∧ Into c H (G x)) fr H) (k : ∀ x u, K (F x u) (G x)) : DrawS c T id ops K fr H :=
  DrawS.forkK ws t hT hm hB (fun fr' H' ⟨x, hF, hc⟩ => ⟨G x, hc, by rw [hF]; exact k x (jk fr')⟩) h

theorem tk13 {b o i j : Nat} {n : Option Nat} {K : Value → Prop} (h : Ld c H (.pointer (some ⟨b, o + (i + j), none⟩)) n K) : Ld c H (.pointer (some (((⟨b, o, none⟩ : Addr).add i).add j))) n K := by
  rw [add_add, Addr.add_lit]
  exact h
theorem tk14 {b o i j n : Nat} {v : Value} {K : Hp → Prop} (h : Sto c H (.pointer (some ⟨b, o + (i + j), none⟩)) v n K) : Sto c H (.pointer (some (((⟨b, o, none⟩ : Addr).add i).add j))) v n K := by
  rw [add_add, Addr.add_lit]
  exact h

theorem CallK.into {m : Bool} {f : Nat} {args : List Value} {K : Value → Hp → Prop} (hi : Into c H G) (h : CallK c m f args G K) : CallK c m f args H K := ⟨h.can, fun w hw => h.ok w (hi w hw)⟩

/-! ## Tails -/
instance RdA.appL {T : Hp} {A : Option Addr} {xs : List Value} [h : RdA c H A xs] : RdA c (H ++ T) A xs where
  ok := h.ok.sub (List.sublist_append_left _ _)
instance RdA.appR {T : Hp} {A : Option Addr} {xs : List Value} [h : RdA c T A xs] : RdA c (H ++ T) A xs where
  ok := h.ok.sub (List.sublist_append_right _ _)
/-- New memory with a tail. -/
abbrev FnT (P : Program) (g : GI) (f : FuncId) (args : List Value) (pre : World → Prop) {X : Type} (V : X → Value) (Q : X → Prop) (Hd T : X → Hp) : Prop := FnE P g f args pre fun w v w' => ∃ x, v = V x ∧ Q x ∧ newH w w' (Hd x ++ T x)
theorem CallK.fnT {m : Bool} {f : Nat} {args : List Value} {pre : World → Prop} {X : Type} {V : X → Value} {Q : X → Prop} {Hd T : X → Hp} {K : Value → Hp → Prop} (h : FnT c.P c.g f args pre V Q Hd T) (hp : ∀ w, St c H w → pre w)
    (k : ∀ x, Q x → K (V x) (Hd x ++ (H ++ T x))) : CallK c m f args H K :=
  CallK.post (CallK.fnH (K := fun v H' => ∃ x, v = V x ∧ Q x ∧ H' = Hd x ++ T x) (⟨h.can, fun w hG hP => (h.ok w hG hP).mono fun e w' ⟨v, he, ⟨x, h1, h2, h3⟩, hR⟩ => ⟨v, he, ⟨_, ⟨x, h1, h2, rfl⟩, h3⟩, hR⟩⟩) hp (fun v H' ⟨x, h1, h2, h3⟩ =>
    ⟨Hd x ++ (H ++ T x), fun w hw => by
      subst h3
      refine hw.perm ?_
      rw [List.append_assoc]
      exact List.Perm.append_left _ List.perm_append_comm, by rw [h1]; exact k x h2⟩))
theorem newH.into {P : Program} {g : GI} {w w' : World} {hG : g.G w} {H H2 : Hp} (h : St (mkC P g w hG) H w') (hc : Into (mkC P g w hG) H H2) : newH w w' H2 := newH.of (hc w' h)

/-- A key's value is laid, in a literal. -/
theorem OthU.ins {α : Type} [DecidableEq α] {kv : α → Value} {d : TypeDesc} {T : Ty} {fr : Fr} {dst : Option Nat} {ty : TypeId} {pos : String} {after : Array Edge} {gd : Option (Nat × Bool)} {t kt et : TypeId} {x i y : Operand} {b : Nat} {k : α} {l l' : List (α × Value)} {f : Obj → Hp} {v : Value} {K : Value → Hp → Prop} (hk : KeyK d kv) (hT : TOk c.P T) [ho : ObjAt b H (mobj kv l) f]
    (hx : evK fr x fun v => v = .map (some b)) (hi : evK fr i fun v => v = kv k) (hy : evK fr y fun u => u = v) (ht : (lookT T t).d = .map kt et) (hkt : (lookT T kt).d = d) (hd : d ≠ .invalid) (hl' : mput k v l = l')
    (kk : K undef (f (mobj kv l'))) : OthU c ⟨dst, .insert t x i y, ty, pos, after, gd⟩ fr H K := ⟨fun w hw => by
  rw [evK_eq] at hx hi hy
  have hu := (lookT_ok hT (t := t) (by rw [ht]; intro h; cases h)).1
  have hku := (lookT_ok hT (t := kt) (by rw [hkt]; exact hd)).1
  rw [ht] at hu
  rw [hkt] at hku
  have hb : w.heap[b]? = some (.map ⟨mkEs kv 0 l⟩ l.length) := ho.holds hw
  refine ⟨_, _, ?_, ho.put hw (o' := mobj kv l'), kk⟩
  have hr := run_mapUpd (k := k) (v := v) hk hu hku hb
  rw [hl'] at hr
  generalize (act fr).eval = ρ at *
  simp only [execOp, hx, hi, hy, Sem.run_bind, hr, Result.andThen_ok, Sem.run_pure]⟩

/-! ## Parts of a body: each has bytes of its own -/
structure Prt where
  A : Option Addr
  cp : Nat
  l : List UInt8
  f : Bool
def Prt.row (e : Nat) (q : Prt) : Ent := .row (.slice q.A q.l.length q.cp) e 1 q.l.length (q.l.map byteV)
def rowsP (e : Nat) (ps : List Prt) : Hp := ps.map (Prt.row e)
def pcells : List Prt → List Value
  | [] => []
  | q :: r => .slice q.A q.l.length q.cp :: .bool q.f :: pcells r
def pure1 (q : Prt) : List UInt8 × Bool := (q.l, q.f)
theorem pcells_length : ∀ ps : List Prt, (pcells ps).length = ps.length * 2
  | [] => rfl
  | q :: r => by simp only [pcells, List.length_cons, pcells_length r]; omega
theorem pcells_append : ∀ a b : List Prt, pcells (a ++ b) = pcells a ++ pcells b
  | [], _ => rfl
  | q :: a, b => by simp only [List.cons_append, pcells, pcells_append a b]
theorem pcells_at : ∀ (l : List Prt) (k : Nat) (h : k < l.length), (pcells l)[k * 2]? = some (.slice l[k].A l[k].l.length l[k].cp) ∧ (pcells l)[k * 2 + 1]? = some (.bool l[k].f) ∧ ((pcells l).drop (k * 2)).take 2 = [.slice l[k].A l[k].l.length l[k].cp, .bool l[k].f]
  | q :: r, 0, _ => ⟨rfl, rfl, rfl⟩
  | q :: r, k + 1, h => by
    have ih := pcells_at r k (by simpa using h)
    rw [show (k + 1) * 2 = k * 2 + 1 + 1 by omega]
    simp only [pcells, List.getElem?_cons_succ, List.drop_succ_cons, List.getElem_cons_succ]
    exact ih
theorem pcells_one {ps : List Prt} : ∀ u ∈ pcells ps, u.oneCell' = true := by
  induction ps with
  | nil => intro u h; cases h
  | cons q r ih =>
    intro u h
    simp only [pcells, List.mem_cons] at h
    rcases h with rfl | rfl | h
    · rfl
    · rfl
    · exact ih u h
theorem Prt.rd {e : Nat} {ps : List Prt} {q : Prt} (h : q ∈ ps) : RdS c (rowsP e ps) q.A (q.l.map byteV) :=
  RdS.sub (H := [q.row e]) RdS.here (List.singleton_sublist.2 (List.mem_map_of_mem h))
theorem rowsP_app {e : Nat} {a b : List Prt} : rowsP e (a ++ b) = rowsP e a ++ rowsP e b := List.map_append
theorem Cv.snoc {e : Nat} {ps : List Prt} {q : Prt} (h : Cv H (q.row e :: rowsP e ps)) : Cv H (rowsP e (ps ++ [q])) :=
  h.trans (.of (by rw [rowsP_app]; exact (List.perm_append_comm (l₁ := [q.row e]) (l₂ := rowsP e ps))))
theorem Cv.close {e : Nat} {ps : List Prt} {q : Prt} {X : Hp} : Cv (q.row e :: (X ++ rowsP e ps)) (X ++ rowsP e (ps ++ [q])) :=
  .of (by
    rw [rowsP_app, ← List.append_assoc]
    exact (List.perm_append_comm (l₁ := [q.row e]) (l₂ := X ++ rowsP e ps)))
end
end Go.Proofs.YtmdmmncoigeijaaGreatDoor.Vex
/- The text of a head, by the program and by the document, reckoned; HeadWrites. -/
namespace Go.Proofs.YtmdmmncoigeijaaGreatDoor.Vex
open Go Go.RowKit
set_option maxRecDepth 100000
set_option linter.unusedSectionVars false
variable {gI : GI} [HasMax gI] [HasErr gI] [HasPow gI]

theorem HText_f (r : Rq) (FA : Option Addr) (Fc : Nat) (F : List Fld) (bv : Value) (hm : r.m.length ≤ 1000000) (hp : r.p.length ≤ 1000000) (hq : r.q.length ≤ 1000000) (h0 : -9223372036854775808 ≤ r.v) (h1 : r.v ≤ 9223372036854775807) (hF : fsum F ≤ 1048576) :
    FnR Tryz.prog gI 19 [.agg ⟨[str r.m, str r.p, str r.q, .int .i64 r.v, .slice FA F.length Fc, bv]⟩] [(FA, fcells F)] (.tuple #[str (textS r F), .int .i64 (textE r F)]) := by
  have hFl := fsum_length F
  have bad : headOK r F = false → Value.tuple #[str (textS r F), .int .i64 (textE r F)] = .tuple #[str [], .int .i64 3] := fun h => by unfold textS textE; rw [h]; rfl
  refine FnE.of tys_ok Tryz.func19 rfl (by kernel_rfl) rfl rfl ?_; intro w hG hP
  have hRF : ∀ H, RdA (mkC Tryz.prog gI w hG) H FA (fcells F) := fun H => ⟨hP.1.now⟩
  (conv => whnf); repeat ((first | refine tk1 ?_ | refine tk2 ?_ | refine tk3 ?_ | refine tk12 (fun _ => ?_) | refine tk4 ?_ | refine tk5 ?_ | refine tk6 ?_ | refine tk7 ?_ | refine tk8 ?_ | refine tk9 ?_ | refine tk10 (fun _ _ => ?_) | refine tk11 (fun _ => ?_) | refine tk13 ?_ | refine tk14 ?_); (conv => whnf))
  rename_i b1
  refine CallK.fn (LWrite_f r _ _ hm hp hq h0 h1) ?_
  cases hw9 : writeOK r
  · rw [bad (by unfold headOK; rw [hw9]; rfl), show writeS r = [] by unfold writeS; rw [hw9]; rfl, show writeE r = 3 by unfold writeE; rw [hw9]; rfl]
    (conv => whnf); repeat ((first | refine tk1 ?_ | refine tk2 ?_ | refine tk3 ?_ | refine tk12 (fun _ => ?_) | refine tk4 ?_ | refine tk5 ?_ | refine tk6 ?_ | refine tk7 ?_ | refine tk8 ?_ | refine tk9 ?_ | refine tk10 (fun _ _ => ?_) | refine tk11 (fun _ => ?_) | refine tk13 ?_ | refine tk14 ?_); (conv => whnf))
    exact fun w' _ => rfl
  have hwl : (writeL r).length ≤ 4096 := by
    unfold writeOK at hw9
    simp only [Bool.and_eq_true, decide_eq_true_eq] at hw9
    exact hw9.2
  rw [show writeS r = writeL r by unfold writeS; rw [hw9]; rfl, show writeE r = 0 by unfold writeE; rw [hw9]; rfl]
  (conv => whnf); repeat ((first | refine tk1 ?_ | refine tk2 ?_ | refine tk3 ?_ | refine tk12 (fun _ => ?_) | refine tk4 ?_ | refine tk5 ?_ | refine tk6 ?_ | refine tk7 ?_ | refine tk8 ?_ | refine tk9 ?_ | refine tk10 (fun _ _ => ?_) | refine tk11 (fun _ => ?_) | refine tk13 ?_ | refine tk14 ?_); (conv => whnf))
  rename_i b20
  refine LoopS.lp tys_ok (fun (x : Nat × Option Addr × Nat) u => [u 0, u 1, u 2, u 3, u 4, u 5, .slice x.2.1 (writeL r :: linesOf (F.take x.1)).length x.2.2, u 7, u 8, u 9, u 10, u 11, u 12, u 13, u 14, u 15, u 16, u 17, u 18, u 19, u 20, u 21, .slice FA F.length Fc, .int .i64 F.length, .int .i64 (x.1 : Nat), u 25, u 26, u 27, u 28, u 29, u 30, u 31, u 32, u 33, u 34, u 35, u 36, u 37, u 38, u 39, u 40, u 41, u 42, u 43, u 44])
    (fun x => [.row (.slice x.2.1 (writeL r :: linesOf (F.take x.1)).length x.2.2) 9 1 (writeL r :: linesOf (F.take x.1)).length ((writeL r :: linesOf (F.take x.1)).map str)])
    (fun x => x.1 ≤ F.length ∧ ∀ f ∈ F.take x.1, fieldOK f.1 f.2 = true) (fun x => F.length - x.1) (0, some ⟨b20, 0, none⟩, 1) ⟨Nat.zero_le _, fun f h => by simp at h⟩ rfl (by repeat' (first | exact List.Sublist.refl _ | exact List.nil_sublist _ | apply List.Sublist.cons_cons | apply List.Sublist.cons)) ?_
  rintro ⟨k, A, cp⟩ u ⟨hk, hok⟩
  dsimp only at hk hok ⊢
  have hll : (linesOf (F.take k)).length ≤ k := by unfold linesOf; rw [List.length_map, List.length_take]; omega
  (conv => whnf); repeat ((first | refine tk1 ?_ | refine tk2 ?_ | refine tk3 ?_ | refine tk12 (fun _ => ?_) | refine tk4 ?_ | refine tk5 ?_ | refine tk6 ?_ | refine tk7 ?_ | refine tk8 ?_ | refine tk9 ?_ | refine tk10 (fun _ _ => ?_) | refine tk11 (fun _ => ?_) | refine tk13 ?_ | refine tk14 ?_); (conv => whnf))
  refine Cmp.cases (fun hlt => ?_) (fun hlt => ?_)
  · have hlt' : k < F.length := by omega
    have f2 := fcells_two F k hlt'
    have hmem := List.getElem_mem hlt'
    have htk := linesOf_take F k hlt'
    have hft : F.take (k + 1) = F.take k ++ [F[k]] := List.take_succ_eq_append_getElem hlt'
    obtain ⟨n, v, hf⟩ : ∃ n v, F[k] = (n, v) := ⟨_, _, rfl⟩
    rw [hf] at f2 hmem htk hft
    have hz := fsum_mem hmem
    dsimp only at hz htk f2
    (conv => whnf); repeat ((first | refine tk1 ?_ | refine tk2 ?_ | refine tk3 ?_ | refine tk12 (fun _ => ?_) | refine tk4 ?_ | refine tk5 ?_ | refine tk6 ?_ | refine tk7 ?_ | refine tk8 ?_ | refine tk9 ?_ | refine tk10 (fun _ _ => ?_) | refine tk11 (fun _ => ?_) | refine tk13 ?_ | refine tk14 ?_); (conv => whnf))
    refine IdxA.tc (by rw [fcells_length]; omega) (by omega) (by omega) ?_
    (conv => whnf); repeat ((first | refine tk1 ?_ | refine tk2 ?_ | refine tk3 ?_ | refine tk12 (fun _ => ?_) | refine tk4 ?_ | refine tk5 ?_ | refine tk6 ?_ | refine tk7 ?_ | refine tk8 ?_ | refine tk9 ?_ | refine tk10 (fun _ _ => ?_) | refine tk11 (fun _ => ?_) | refine tk13 ?_ | refine tk14 ?_); (conv => whnf))
    refine Ld.taN f2 rfl ?_
    (conv => whnf); repeat ((first | refine tk1 ?_ | refine tk2 ?_ | refine tk3 ?_ | refine tk12 (fun _ => ?_) | refine tk4 ?_ | refine tk5 ?_ | refine tk6 ?_ | refine tk7 ?_ | refine tk8 ?_ | refine tk9 ?_ | refine tk10 (fun _ _ => ?_) | refine tk11 (fun _ => ?_) | refine tk13 ?_ | refine tk14 ?_); (conv => whnf))
    refine CallK.fn (Line_f n v (by omega)) ?_
    cases hfo : fieldOK n v
    · rw [bad (by unfold headOK; rw [List.all_eq_false.2 ⟨(n, v), hmem, by rw [hfo]; exact Bool.false_ne_true⟩]; simp), show lineOf n v = [] by unfold lineOf; rw [hfo]; rfl, show fieldE n v = 3 by unfold fieldE; rw [hfo]; rfl]
      (conv => whnf); repeat ((first | refine tk1 ?_ | refine tk2 ?_ | refine tk3 ?_ | refine tk12 (fun _ => ?_) | refine tk4 ?_ | refine tk5 ?_ | refine tk6 ?_ | refine tk7 ?_ | refine tk8 ?_ | refine tk9 ?_ | refine tk10 (fun _ _ => ?_) | refine tk11 (fun _ => ?_) | refine tk13 ?_ | refine tk14 ?_); (conv => whnf))
      exact fun w' _ => rfl
    · rw [show fieldE n v = 0 by unfold fieldE; rw [hfo]; rfl]
      (conv => whnf); repeat ((first | refine tk1 ?_ | refine tk2 ?_ | refine tk3 ?_ | refine tk12 (fun _ => ?_) | refine tk4 ?_ | refine tk5 ?_ | refine tk6 ?_ | refine tk7 ?_ | refine tk8 ?_ | refine tk9 ?_ | refine tk10 (fun _ _ => ?_) | refine tk11 (fun _ => ?_) | refine tk13 ?_ | refine tk14 ?_); (conv => whnf))
      refine AppS.tc (m := 1) (news := [str (lineOf n v)]) SrcK.tc rfl (by simp [Value.oneCell']) (by decide) (by simp only [List.length_cons]; omega) (by simp only [List.length_cons]; omega) (zs := (writeL r :: linesOf (F.take (k + 1))).map str) (by rw [htk]; simp) (fun A' cp' => ?_)
      rw [show (writeL r :: linesOf (F.take k)).length + 1 = (writeL r :: linesOf (F.take (k + 1))).length by rw [htk]; simp]
      (conv => whnf); repeat ((first | refine tk1 ?_ | refine tk2 ?_ | refine tk3 ?_ | refine tk12 (fun _ => ?_) | refine tk4 ?_ | refine tk5 ?_ | refine tk6 ?_ | refine tk7 ?_ | refine tk8 ?_ | refine tk9 ?_ | refine tk10 (fun _ _ => ?_) | refine tk11 (fun _ => ?_) | refine tk13 ?_ | refine tk14 ?_); (conv => whnf))
      exact ⟨(k + 1, A', cp'), ⟨by dsimp only; omega, fun f hm => by
        dsimp only at hm
        rw [hft] at hm
        rcases List.mem_append.1 hm with h | h
        · exact hok f h
        · rw [List.mem_singleton.1 h]; exact hfo⟩, rfl, (by repeat' (first | exact List.Sublist.refl _ | exact List.nil_sublist _ | apply List.Sublist.cons_cons | apply List.Sublist.cons)), by dsimp only; omega⟩
  · have ht : F.take k = F := List.take_of_length_le (by omega)
    rw [ht] at hok hll ⊢
    have hho : headOK r F = true := by unfold headOK; rw [hw9, List.all_eq_true.2 hok]; rfl
    have hcl := catL_le F
    have hjc := join_cat (writeL r) (linesOf F)
    have hjl := congrArg List.length hjc
    have hc2 : crlf.length = 2 := rfl
    simp only [List.length_append, hc2] at hjl
    rw [show textS r F = (Lib.join (writeL r :: linesOf F) crlf ++ crlf) ++ crlf by unfold textS headL; rw [hho, hjc]; rfl, show textE r F = 0 by unfold textE; rw [hho]; rfl]
    (conv => whnf); repeat ((first | refine tk1 ?_ | refine tk2 ?_ | refine tk3 ?_ | refine tk12 (fun _ => ?_) | refine tk4 ?_ | refine tk5 ?_ | refine tk6 ?_ | refine tk7 ?_ | refine tk8 ?_ | refine tk9 ?_ | refine tk10 (fun _ _ => ?_) | refine tk11 (fun _ => ?_) | refine tk13 ?_ | refine tk14 ?_); (conv => whnf))
    refine CallK.fnEV (Join_f A cp (writeL r :: linesOf F) crlf (by simp only [List.length_cons]; omega) (by omega)) (fun w1 hw1 => ⟨RdA.ok w1 hw1, (RowAt.cap (A := A) RowAt.here hw1).2⟩) ?_
    (conv => whnf); repeat ((first | refine tk1 ?_ | refine tk2 ?_ | refine tk3 ?_ | refine tk12 (fun _ => ?_) | refine tk4 ?_ | refine tk5 ?_ | refine tk6 ?_ | refine tk7 ?_ | refine tk8 ?_ | refine tk9 ?_ | refine tk10 (fun _ _ => ?_) | refine tk11 (fun _ => ?_) | refine tk13 ?_ | refine tk14 ?_); (conv => whnf))
    refine CatS.at (by show _ + 2 ≤ _; omega) ?_
    (conv => whnf); repeat ((first | refine tk1 ?_ | refine tk2 ?_ | refine tk3 ?_ | refine tk12 (fun _ => ?_) | refine tk4 ?_ | refine tk5 ?_ | refine tk6 ?_ | refine tk7 ?_ | refine tk8 ?_ | refine tk9 ?_ | refine tk10 (fun _ _ => ?_) | refine tk11 (fun _ => ?_) | refine tk13 ?_ | refine tk14 ?_); (conv => whnf))
    refine CatS.at (by show (_ ++ crlf).length + 2 ≤ _; rw [List.length_append, hc2]; omega) ?_
    (conv => whnf); repeat ((first | refine tk1 ?_ | refine tk2 ?_ | refine tk3 ?_ | refine tk12 (fun _ => ?_) | refine tk4 ?_ | refine tk5 ?_ | refine tk6 ?_ | refine tk7 ?_ | refine tk8 ?_ | refine tk9 ?_ | refine tk10 (fun _ _ => ?_) | refine tk11 (fun _ => ?_) | refine tk13 ?_ | refine tk14 ?_); (conv => whnf))
    exact fun w' _ => rfl
theorem RText_r (r : Rq) (FA : Option Addr) (Fc : Nat) (F : List Fld) (bv : Value) (hm : r.m.length ≤ 1000000) (hp : r.p.length ≤ 1000000) (hq : r.q.length ≤ 1000000) (h0 : -9223372036854775808 ≤ r.v) (h1 : r.v ≤ 9223372036854775807) (hF : fsum F ≤ 1048576) :
    FnR Tryz.prog gI 20 [.agg ⟨[str r.m, str r.p, str r.q, .int .i64 r.v, .slice FA F.length Fc, bv]⟩] [(FA, fcells F)] (.tuple #[str (textS r F), .int .i64 (textE r F)]) := by
  have hFl := fsum_length F
  have hc2 : crlf.length = 2 := rfl
  have bad : headOK r F = false → Value.tuple #[str (textS r F), .int .i64 (textE r F)] = .tuple #[str [], .int .i64 3] := fun h => by unfold textS textE; rw [h]; rfl
  refine FnE.of tys_ok Tryz.func20 rfl (by kernel_rfl) rfl rfl ?_; intro w hG hP
  have hRF : ∀ H, RdA (mkC Tryz.prog gI w hG) H FA (fcells F) := fun H => ⟨hP.1.now⟩
  (conv => whnf); repeat ((first | refine tk1 ?_ | refine tk2 ?_ | refine tk3 ?_ | refine tk12 (fun _ => ?_) | refine tk4 ?_ | refine tk5 ?_ | refine tk6 ?_ | refine tk7 ?_ | refine tk8 ?_ | refine tk9 ?_ | refine tk10 (fun _ _ => ?_) | refine tk11 (fun _ => ?_) | refine tk13 ?_ | refine tk14 ?_); (conv => whnf))
  rename_i b1
  refine CallK.fn (Write_r r _ _ hm hp hq) ?_
  cases hw9 : writeOK r
  · rw [bad (by unfold headOK; rw [hw9]; rfl), show writeS r = [] by unfold writeS; rw [hw9]; rfl, show writeE r = 3 by unfold writeE; rw [hw9]; rfl]
    (conv => whnf); repeat ((first | refine tk1 ?_ | refine tk2 ?_ | refine tk3 ?_ | refine tk12 (fun _ => ?_) | refine tk4 ?_ | refine tk5 ?_ | refine tk6 ?_ | refine tk7 ?_ | refine tk8 ?_ | refine tk9 ?_ | refine tk10 (fun _ _ => ?_) | refine tk11 (fun _ => ?_) | refine tk13 ?_ | refine tk14 ?_); (conv => whnf))
    exact fun w' _ => rfl
  have hwl : (writeL r).length ≤ 4096 := by
    unfold writeOK at hw9
    simp only [Bool.and_eq_true, decide_eq_true_eq] at hw9
    exact hw9.2
  rw [show writeS r = writeL r by unfold writeS; rw [hw9]; rfl, show writeE r = 0 by unfold writeE; rw [hw9]; rfl]
  (conv => whnf); repeat ((first | refine tk1 ?_ | refine tk2 ?_ | refine tk3 ?_ | refine tk12 (fun _ => ?_) | refine tk4 ?_ | refine tk5 ?_ | refine tk6 ?_ | refine tk7 ?_ | refine tk8 ?_ | refine tk9 ?_ | refine tk10 (fun _ _ => ?_) | refine tk11 (fun _ => ?_) | refine tk13 ?_ | refine tk14 ?_); (conv => whnf))
  refine CatS.at (by show _ + 2 ≤ _; omega) ?_
  (conv => whnf); repeat ((first | refine tk1 ?_ | refine tk2 ?_ | refine tk3 ?_ | refine tk12 (fun _ => ?_) | refine tk4 ?_ | refine tk5 ?_ | refine tk6 ?_ | refine tk7 ?_ | refine tk8 ?_ | refine tk9 ?_ | refine tk10 (fun _ _ => ?_) | refine tk11 (fun _ => ?_) | refine tk13 ?_ | refine tk14 ?_); (conv => whnf))
  refine LoopS.lp tys_ok (fun (k : Nat) u => [u 0, .pointer (some ⟨b1, 0, none⟩), u 2, u 3, str (headL r (F.take k)), u 5, .int .i64 (k : Nat), u 7, u 8, u 9, u 10, u 11, u 12, u 13, u 14, u 15, u 16, u 17, u 18, u 19, u 20, u 21, u 22, u 23, u 24, u 25, u 26, u 27, u 28, u 29, u 30, u 31, u 32, u 33, u 34, u 35, u 36, u 37, u 38, u 39, u 40, u 41, u 42, u 43])
    (fun _ => [.box b1 [str r.m, str r.p, str r.q, .int .i64 r.v, .slice FA F.length Fc, bv] 28])
    (fun k => k ≤ F.length ∧ ∀ f ∈ F.take k, fieldOK f.1 f.2 = true) (fun k => F.length - k) 0 ⟨Nat.zero_le _, fun f h => by simp at h⟩ (by rw [show headL r (F.take 0) = writeL r ++ crlf by unfold headL; simp [linesOf, catL]]; rfl) (by repeat' (first | exact List.Sublist.refl _ | exact List.nil_sublist _ | apply List.Sublist.cons_cons | apply List.Sublist.cons)) ?_
  rintro k u ⟨hk, hok⟩
  have hcl := catL_le (F.take k)
  have hct := fsum_take F k
  have hhl : (headL r (F.take k)).length = (writeL r).length + 2 + (catL (linesOf (F.take k))).length := by unfold headL; simp only [List.length_append, hc2]
  (conv => whnf); repeat ((first | refine tk1 ?_ | refine tk2 ?_ | refine tk3 ?_ | refine tk12 (fun _ => ?_) | refine tk4 ?_ | refine tk5 ?_ | refine tk6 ?_ | refine tk7 ?_ | refine tk8 ?_ | refine tk9 ?_ | refine tk10 (fun _ _ => ?_) | refine tk11 (fun _ => ?_) | refine tk13 ?_ | refine tk14 ?_); (conv => whnf))
  refine Cmp.cases (fun hlt => ?_) (fun hlt => ?_)
  · have hlt' : k < F.length := by omega
    have f2 := fcells_two F k hlt'
    have hmem := List.getElem_mem hlt'
    have htk := linesOf_take F k hlt'
    have hft : F.take (k + 1) = F.take k ++ [F[k]] := List.take_succ_eq_append_getElem hlt'
    obtain ⟨n, v, hf⟩ : ∃ n v, F[k] = (n, v) := ⟨_, _, rfl⟩
    rw [hf] at f2 hmem htk hft
    have hz := fsum_mem hmem
    have hz2 := line_le n v
    dsimp only at hz htk f2
    (conv => whnf); repeat ((first | refine tk1 ?_ | refine tk2 ?_ | refine tk3 ?_ | refine tk12 (fun _ => ?_) | refine tk4 ?_ | refine tk5 ?_ | refine tk6 ?_ | refine tk7 ?_ | refine tk8 ?_ | refine tk9 ?_ | refine tk10 (fun _ _ => ?_) | refine tk11 (fun _ => ?_) | refine tk13 ?_ | refine tk14 ?_); (conv => whnf))
    refine IdxA.tc (by rw [fcells_length]; omega) (by omega) (by omega) ?_
    (conv => whnf); repeat ((first | refine tk1 ?_ | refine tk2 ?_ | refine tk3 ?_ | refine tk12 (fun _ => ?_) | refine tk4 ?_ | refine tk5 ?_ | refine tk6 ?_ | refine tk7 ?_ | refine tk8 ?_ | refine tk9 ?_ | refine tk10 (fun _ _ => ?_) | refine tk11 (fun _ => ?_) | refine tk13 ?_ | refine tk14 ?_); (conv => whnf))
    refine Ld.taN f2 rfl ?_
    (conv => whnf); repeat ((first | refine tk1 ?_ | refine tk2 ?_ | refine tk3 ?_ | refine tk12 (fun _ => ?_) | refine tk4 ?_ | refine tk5 ?_ | refine tk6 ?_ | refine tk7 ?_ | refine tk8 ?_ | refine tk9 ?_ | refine tk10 (fun _ _ => ?_) | refine tk11 (fun _ => ?_) | refine tk13 ?_ | refine tk14 ?_); (conv => whnf))
    refine CallK.fn (Line_r n v) ?_
    cases hfo : fieldOK n v
    · rw [bad (by unfold headOK; rw [List.all_eq_false.2 ⟨(n, v), hmem, by rw [hfo]; exact Bool.false_ne_true⟩]; simp), show lineOf n v = [] by unfold lineOf; rw [hfo]; rfl, show fieldE n v = 3 by unfold fieldE; rw [hfo]; rfl]
      (conv => whnf); repeat ((first | refine tk1 ?_ | refine tk2 ?_ | refine tk3 ?_ | refine tk12 (fun _ => ?_) | refine tk4 ?_ | refine tk5 ?_ | refine tk6 ?_ | refine tk7 ?_ | refine tk8 ?_ | refine tk9 ?_ | refine tk10 (fun _ _ => ?_) | refine tk11 (fun _ => ?_) | refine tk13 ?_ | refine tk14 ?_); (conv => whnf))
      exact fun w' _ => rfl
    · rw [show fieldE n v = 0 by unfold fieldE; rw [hfo]; rfl]
      have hnx : headL r (F.take (k + 1)) = (headL r (F.take k) ++ lineOf n v) ++ crlf := by unfold headL; rw [htk, catL_snoc]; simp only [List.append_assoc]
      (conv => whnf); repeat ((first | refine tk1 ?_ | refine tk2 ?_ | refine tk3 ?_ | refine tk12 (fun _ => ?_) | refine tk4 ?_ | refine tk5 ?_ | refine tk6 ?_ | refine tk7 ?_ | refine tk8 ?_ | refine tk9 ?_ | refine tk10 (fun _ _ => ?_) | refine tk11 (fun _ => ?_) | refine tk13 ?_ | refine tk14 ?_); (conv => whnf))
      refine CatS.at (by omega) ?_
      (conv => whnf); repeat ((first | refine tk1 ?_ | refine tk2 ?_ | refine tk3 ?_ | refine tk12 (fun _ => ?_) | refine tk4 ?_ | refine tk5 ?_ | refine tk6 ?_ | refine tk7 ?_ | refine tk8 ?_ | refine tk9 ?_ | refine tk10 (fun _ _ => ?_) | refine tk11 (fun _ => ?_) | refine tk13 ?_ | refine tk14 ?_); (conv => whnf))
      refine CatS.at (by rw [List.length_append]; show _ + 2 ≤ _; omega) ?_
      (conv => whnf); repeat ((first | refine tk1 ?_ | refine tk2 ?_ | refine tk3 ?_ | refine tk12 (fun _ => ?_) | refine tk4 ?_ | refine tk5 ?_ | refine tk6 ?_ | refine tk7 ?_ | refine tk8 ?_ | refine tk9 ?_ | refine tk10 (fun _ _ => ?_) | refine tk11 (fun _ => ?_) | refine tk13 ?_ | refine tk14 ?_); (conv => whnf))
      exact ⟨k + 1, ⟨by omega, fun f hm => by
        rw [hft] at hm
        rcases List.mem_append.1 hm with h | h
        · exact hok f h
        · rw [List.mem_singleton.1 h]; exact hfo⟩, by dsimp only; rw [hnx]; rfl, (by repeat' (first | exact List.Sublist.refl _ | exact List.nil_sublist _ | apply List.Sublist.cons_cons | apply List.Sublist.cons)), by dsimp only; omega⟩
  · have ht : F.take k = F := List.take_of_length_le (by omega)
    rw [ht] at hok hhl hcl ⊢
    have hho : headOK r F = true := by unfold headOK; rw [hw9, List.all_eq_true.2 hok]; rfl
    rw [show textS r F = headL r F ++ crlf by unfold textS; rw [hho]; rfl, show textE r F = 0 by unfold textE; rw [hho]; rfl]
    (conv => whnf); repeat ((first | refine tk1 ?_ | refine tk2 ?_ | refine tk3 ?_ | refine tk12 (fun _ => ?_) | refine tk4 ?_ | refine tk5 ?_ | refine tk6 ?_ | refine tk7 ?_ | refine tk8 ?_ | refine tk9 ?_ | refine tk10 (fun _ _ => ?_) | refine tk11 (fun _ => ?_) | refine tk13 ?_ | refine tk14 ?_); (conv => whnf))
    refine CatS.at (by show _ + 2 ≤ _; omega) ?_
    (conv => whnf); repeat ((first | refine tk1 ?_ | refine tk2 ?_ | refine tk3 ?_ | refine tk12 (fun _ => ?_) | refine tk4 ?_ | refine tk5 ?_ | refine tk6 ?_ | refine tk7 ?_ | refine tk8 ?_ | refine tk9 ?_ | refine tk10 (fun _ _ => ?_) | refine tk11 (fun _ => ?_) | refine tk13 ?_ | refine tk14 ?_); (conv => whnf))
    exact fun w' _ => rfl
theorem Great20_b (m p q : List UInt8) (v : Int) (FA : Option Addr) (Fc : Nat) (F : List Fld) (bv : Value) :
    FnE Tryz.prog gI 18 [.agg ⟨[str m, str p, str q, .int .i64 v, .slice FA F.length Fc, bv]⟩] (fun w => RdL w [(FA, fcells F)]) fun _ v _ => ∃ b, v = .bool b := by
  refine FnE.of tys_ok Tryz.func18 rfl (by kernel_rfl) rfl rfl ?_; intro w hG hP
  have hRF : ∀ H, RdA (mkC Tryz.prog gI w hG) H FA (fcells F) := fun H => ⟨hP.1.now⟩
  (conv => whnf); repeat ((first | refine tk1 ?_ | refine tk2 ?_ | refine tk3 ?_ | refine tk12 (fun _ => ?_) | refine tk4 ?_ | refine tk5 ?_ | refine tk6 ?_ | refine tk7 ?_ | refine tk8 ?_ | refine tk9 ?_ | refine tk10 (fun _ _ => ?_) | refine tk11 (fun _ => ?_) | refine tk13 ?_ | refine tk14 ?_); (conv => whnf))
  refine Cmp.cases (fun g1 => ?_) (fun g1 => ?_)
  · (conv => whnf); repeat ((first | refine tk1 ?_ | refine tk2 ?_ | refine tk3 ?_ | refine tk12 (fun _ => ?_) | refine tk4 ?_ | refine tk5 ?_ | refine tk6 ?_ | refine tk7 ?_ | refine tk8 ?_ | refine tk9 ?_ | refine tk10 (fun _ _ => ?_) | refine tk11 (fun _ => ?_) | refine tk13 ?_ | refine tk14 ?_); (conv => whnf))
    exact fun w' _ => ⟨_, rfl⟩
  (conv => whnf); repeat ((first | refine tk1 ?_ | refine tk2 ?_ | refine tk3 ?_ | refine tk12 (fun _ => ?_) | refine tk4 ?_ | refine tk5 ?_ | refine tk6 ?_ | refine tk7 ?_ | refine tk8 ?_ | refine tk9 ?_ | refine tk10 (fun _ _ => ?_) | refine tk11 (fun _ => ?_) | refine tk13 ?_ | refine tk14 ?_); (conv => whnf))
  refine Cmp.cases (fun g1 => ?_) (fun g1 => ?_)
  · (conv => whnf); repeat ((first | refine tk1 ?_ | refine tk2 ?_ | refine tk3 ?_ | refine tk12 (fun _ => ?_) | refine tk4 ?_ | refine tk5 ?_ | refine tk6 ?_ | refine tk7 ?_ | refine tk8 ?_ | refine tk9 ?_ | refine tk10 (fun _ _ => ?_) | refine tk11 (fun _ => ?_) | refine tk13 ?_ | refine tk14 ?_); (conv => whnf))
    exact fun w' _ => ⟨_, rfl⟩
  (conv => whnf); repeat ((first | refine tk1 ?_ | refine tk2 ?_ | refine tk3 ?_ | refine tk12 (fun _ => ?_) | refine tk4 ?_ | refine tk5 ?_ | refine tk6 ?_ | refine tk7 ?_ | refine tk8 ?_ | refine tk9 ?_ | refine tk10 (fun _ _ => ?_) | refine tk11 (fun _ => ?_) | refine tk13 ?_ | refine tk14 ?_); (conv => whnf))
  refine Cmp.cases (fun g1 => ?_) (fun g1 => ?_)
  · (conv => whnf); repeat ((first | refine tk1 ?_ | refine tk2 ?_ | refine tk3 ?_ | refine tk12 (fun _ => ?_) | refine tk4 ?_ | refine tk5 ?_ | refine tk6 ?_ | refine tk7 ?_ | refine tk8 ?_ | refine tk9 ?_ | refine tk10 (fun _ _ => ?_) | refine tk11 (fun _ => ?_) | refine tk13 ?_ | refine tk14 ?_); (conv => whnf))
    exact fun w' _ => ⟨_, rfl⟩
  (conv => whnf); repeat ((first | refine tk1 ?_ | refine tk2 ?_ | refine tk3 ?_ | refine tk12 (fun _ => ?_) | refine tk4 ?_ | refine tk5 ?_ | refine tk6 ?_ | refine tk7 ?_ | refine tk8 ?_ | refine tk9 ?_ | refine tk10 (fun _ _ => ?_) | refine tk11 (fun _ => ?_) | refine tk13 ?_ | refine tk14 ?_); (conv => whnf))
  refine CallK.fnAny (Great18_b FA Fc F) (fun w1 hw1 => (hRF _).ok w1 hw1) (fun b1 => ?_)
  (conv => whnf); repeat ((first | refine tk1 ?_ | refine tk2 ?_ | refine tk3 ?_ | refine tk12 (fun _ => ?_) | refine tk4 ?_ | refine tk5 ?_ | refine tk6 ?_ | refine tk7 ?_ | refine tk8 ?_ | refine tk9 ?_ | refine tk10 (fun _ _ => ?_) | refine tk11 (fun _ => ?_) | refine tk13 ?_ | refine tk14 ?_); (conv => whnf))
  exact fun w' _ => ⟨_, rfl⟩
theorem Great20_t (m p q : List UInt8) (v : Int) (FA : Option Addr) (Fc : Nat) (F : List Fld) (bv : Value) (h : ¬ (m.length ≤ 3000 ∧ p.length ≤ 3000 ∧ q.length ≤ 3000)) :
    Fn Tryz.prog gI 18 [.agg ⟨[str m, str p, str q, .int .i64 v, .slice FA F.length Fc, bv]⟩] (.bool true) := by
  refine Fn.of tys_ok Tryz.func18 rfl (by kernel_rfl) rfl rfl ?_; intro w hG
  (conv => whnf); repeat ((first | refine tk1 ?_ | refine tk2 ?_ | refine tk3 ?_ | refine tk12 (fun _ => ?_) | refine tk4 ?_ | refine tk5 ?_ | refine tk6 ?_ | refine tk7 ?_ | refine tk8 ?_ | refine tk9 ?_ | refine tk10 (fun _ _ => ?_) | refine tk11 (fun _ => ?_) | refine tk13 ?_ | refine tk14 ?_); (conv => whnf))
  refine Cmp.cases (fun g1 => ?_) (fun g1 => ?_)
  · (conv => whnf); repeat ((first | refine tk1 ?_ | refine tk2 ?_ | refine tk3 ?_ | refine tk12 (fun _ => ?_) | refine tk4 ?_ | refine tk5 ?_ | refine tk6 ?_ | refine tk7 ?_ | refine tk8 ?_ | refine tk9 ?_ | refine tk10 (fun _ _ => ?_) | refine tk11 (fun _ => ?_) | refine tk13 ?_ | refine tk14 ?_); (conv => whnf))
  (conv => whnf); repeat ((first | refine tk1 ?_ | refine tk2 ?_ | refine tk3 ?_ | refine tk12 (fun _ => ?_) | refine tk4 ?_ | refine tk5 ?_ | refine tk6 ?_ | refine tk7 ?_ | refine tk8 ?_ | refine tk9 ?_ | refine tk10 (fun _ _ => ?_) | refine tk11 (fun _ => ?_) | refine tk13 ?_ | refine tk14 ?_); (conv => whnf))
  refine Cmp.cases (fun g2 => ?_) (fun g2 => ?_)
  · (conv => whnf); repeat ((first | refine tk1 ?_ | refine tk2 ?_ | refine tk3 ?_ | refine tk12 (fun _ => ?_) | refine tk4 ?_ | refine tk5 ?_ | refine tk6 ?_ | refine tk7 ?_ | refine tk8 ?_ | refine tk9 ?_ | refine tk10 (fun _ _ => ?_) | refine tk11 (fun _ => ?_) | refine tk13 ?_ | refine tk14 ?_); (conv => whnf))
  (conv => whnf); repeat ((first | refine tk1 ?_ | refine tk2 ?_ | refine tk3 ?_ | refine tk12 (fun _ => ?_) | refine tk4 ?_ | refine tk5 ?_ | refine tk6 ?_ | refine tk7 ?_ | refine tk8 ?_ | refine tk9 ?_ | refine tk10 (fun _ _ => ?_) | refine tk11 (fun _ => ?_) | refine tk13 ?_ | refine tk14 ?_); (conv => whnf))
theorem HeadWrites_v (x : Req) (hv : -9223372036854775808 ≤ x.v ∧ x.v ≤ 9223372036854775807) (hF : fsum x.F.l ≤ 1048576) : FnR Tryz.prog gI 4 [.agg ⟨x.cells⟩] [(x.F.A, fcells x.F.l)] (.bool true) := by
  obtain ⟨m, p, q, v, ⟨FA, Fc, F⟩, ⟨BA, Bc, B⟩⟩ := x
  unfold Req.cells
  dsimp only at hv hF ⊢
  refine FnE.of tys_ok Tryz.func4 rfl (by kernel_rfl) rfl rfl ?_; intro w hG hP
  have hRF : ∀ H, RdA (mkC Tryz.prog gI w hG) H FA (fcells F) := fun H => ⟨hP.1.now⟩
  (conv => whnf); repeat ((first | refine tk1 ?_ | refine tk2 ?_ | refine tk3 ?_ | refine tk12 (fun _ => ?_) | refine tk4 ?_ | refine tk5 ?_ | refine tk6 ?_ | refine tk7 ?_ | refine tk8 ?_ | refine tk9 ?_ | refine tk10 (fun _ _ => ?_) | refine tk11 (fun _ => ?_) | refine tk13 ?_ | refine tk14 ?_); (conv => whnf))
  by_cases hg : m.length ≤ 3000 ∧ p.length ≤ 3000 ∧ q.length ≤ 3000
  rotate_left
  · refine CallK.fn (Great20_t m p q v FA Fc F _ hg) ?_
    (conv => whnf); repeat ((first | refine tk1 ?_ | refine tk2 ?_ | refine tk3 ?_ | refine tk12 (fun _ => ?_) | refine tk4 ?_ | refine tk5 ?_ | refine tk6 ?_ | refine tk7 ?_ | refine tk8 ?_ | refine tk9 ?_ | refine tk10 (fun _ _ => ?_) | refine tk11 (fun _ => ?_) | refine tk13 ?_ | refine tk14 ?_); (conv => whnf))
    exact fun w' _ => rfl
  obtain ⟨hm, hp, hq⟩ := hg
  refine CallK.fnAny (Great20_b m p q v FA Fc F _) (fun w1 hw1 => ⟨(hRF _).ok w1 hw1, trivial⟩) (fun b => ?_)
  cases b
  · (conv => whnf); repeat ((first | refine tk1 ?_ | refine tk2 ?_ | refine tk3 ?_ | refine tk12 (fun _ => ?_) | refine tk4 ?_ | refine tk5 ?_ | refine tk6 ?_ | refine tk7 ?_ | refine tk8 ?_ | refine tk9 ?_ | refine tk10 (fun _ _ => ?_) | refine tk11 (fun _ => ?_) | refine tk13 ?_ | refine tk14 ?_); (conv => whnf))
    refine CallK.fnR (HText_f ⟨m, p, q, v⟩ FA Fc F _ (by dsimp only; omega) (by dsimp only; omega) (by dsimp only; omega) hv.1 hv.2 hF) ⟨(hRF _).ok, trivial⟩ ?_
    (conv => whnf); repeat ((first | refine tk1 ?_ | refine tk2 ?_ | refine tk3 ?_ | refine tk12 (fun _ => ?_) | refine tk4 ?_ | refine tk5 ?_ | refine tk6 ?_ | refine tk7 ?_ | refine tk8 ?_ | refine tk9 ?_ | refine tk10 (fun _ _ => ?_) | refine tk11 (fun _ => ?_) | refine tk13 ?_ | refine tk14 ?_); (conv => whnf))
    refine CallK.fnR (RText_r ⟨m, p, q, v⟩ FA Fc F _ (by dsimp only; omega) (by dsimp only; omega) (by dsimp only; omega) hv.1 hv.2 hF) ⟨(hRF _).ok, trivial⟩ ?_
    (conv => whnf); repeat ((first | refine tk1 ?_ | refine tk2 ?_ | refine tk3 ?_ | refine tk12 (fun _ => ?_) | refine tk4 ?_ | refine tk5 ?_ | refine tk6 ?_ | refine tk7 ?_ | refine tk8 ?_ | refine tk9 ?_ | refine tk10 (fun _ _ => ?_) | refine tk11 (fun _ => ?_) | refine tk13 ?_ | refine tk14 ?_); (conv => whnf))
    refine Cmp.t rfl ?_
    (conv => whnf); repeat ((first | refine tk1 ?_ | refine tk2 ?_ | refine tk3 ?_ | refine tk12 (fun _ => ?_) | refine tk4 ?_ | refine tk5 ?_ | refine tk6 ?_ | refine tk7 ?_ | refine tk8 ?_ | refine tk9 ?_ | refine tk10 (fun _ _ => ?_) | refine tk11 (fun _ => ?_) | refine tk13 ?_ | refine tk14 ?_); (conv => whnf))
    exact fun w' _ => rfl
  · (conv => whnf); repeat ((first | refine tk1 ?_ | refine tk2 ?_ | refine tk3 ?_ | refine tk12 (fun _ => ?_) | refine tk4 ?_ | refine tk5 ?_ | refine tk6 ?_ | refine tk7 ?_ | refine tk8 ?_ | refine tk9 ?_ | refine tk10 (fun _ _ => ?_) | refine tk11 (fun _ => ?_) | refine tk13 ?_ | refine tk14 ?_); (conv => whnf))
    exact fun w' _ => rfl
end Go.Proofs.YtmdmmncoigeijaaGreatDoor.Vex
namespace Go.Proofs.YtmdmmncoigeijaaGreatDoor.headWrites
open Go.ChangeShapes Go.WideShapes Go.ChangeAt Go.RowKit

set_option maxRecDepth 100000 in
theorem contract (H : Type) (enc : TypeId × Value → H) (W : World) (base : Nat) (args : Array Value) (ds gs : List (DataW H)) (before : List MemPlace)
    (hval : ∀ (j : Nat) t v, Tryz.f4.params[j]? = some t → args[j]? = some v → Value.okWide Tryz.prog W .any base t v)
    (hW : DataW.Whole enc Tryz.prog Tryz.f4.params.toList Rows.headWritesSpec.vars false W args.toList ds gs before) (hL : laidMetH Tryz.prog Rows.headWritesUptoRow.laid W) (hS : W.ShapedOpen Tryz.prog) (hK : Rows.uptoSmall H (ds ++ gs) = true) :
    Calls Tryz.prog 4 args W fun e W' => ∃ v, e = .returned v ∧ Rows.headWritesSpec.post enc Tryz.prog Tryz.f4 false true false false W args v W' := by
  have hW' := hW
  obtain ⟨p, q, hA, hV, rfl, hfz, hnd⟩ := hW
  rw [Tryz.params4] at hA hval
  obtain ⟨v0, vs0, d0, ds0, p0, q0, hargs, rfl, rfl, h0, r0⟩ := trodAll_cons hA
  obtain ⟨rfl, rfl, rfl⟩ := trodAll_nil r0
  obtain rfl : args = #[v0] := by rw [← Array.toList_inj]; exact hargs
  obtain ⟨rfl, rfl⟩ := trodVars_none hV
  obtain ⟨x0, rfl, k0, z0⟩ := Vex.open_whole Vex.opens_request Tryz.underlying28 (hval 0 28 v0 rfl rfl) h0
  have hB := Vex.bulk_of2 hK
  simp only [List.append_nil, Rows.uptoBulkAll, Nat.add_zero] at hB
  have hG := Vex.gP_of hL hS (by kernel_rfl) (List.mem_of_getElem? (i := 5) rfl) (List.mem_of_getElem? (i := 4) rfl) (List.mem_of_getElem? (i := 2) rfl)
  refine (Vex.done_E (Vex.HeadWrites_v x0 k0.1 (by have := Vex.req_fsum x0; omega)) hG ⟨Vex.rd_fields k0.2.1, trivial⟩).mono fun e W' ⟨he, hb⟩ => ?_
  exact ⟨_, he, law_post laidOut rfl hW' (by kernel_rfl) (by kernel_rfl) Tryz.underlying4 (by kernel_rfl) hb⟩

abbrev start : Array Value := #[.agg #[.string ⟨#[]⟩, .string ⟨#[]⟩, .string ⟨#[]⟩, .int .i64 0, .slice none 0 0, .slice none 0 0]]
theorem laid_met (os : Os) : laidMet Tryz.prog Rows.headWritesUptoRow.laid ((laidWorld os start).forCall (fun _ _ => 0) ⟨#[], start, []⟩).memory :=
  laidMet_of_run' 8 (by kernel_rfl) (by kernel_rfl)
theorem reads (os : Os) {H : Type} (enc : TypeId × Value → H) : ∃ places, DataW.whole enc Tryz.prog ((laidWorld os start).forCall (fun _ _ => 0) ⟨#[], start, []⟩).memory Tryz.f4.params.toList Rows.headWritesSpec.vars false start.toList 8 = some ([.agg [.lit (.string []), .lit (.string []), .lit (.string []), .lit (.int .i64 0), .nil, .nil]], [], places) :=
  ⟨[], by kernel_rfl⟩

set_option maxRecDepth 100000 in
theorem lifted (os : Os) (started : os.Started) (H : Type) (enc : TypeId × Value → H) (F : Stop.Interp) :
    ReturnsInHanded {} Tryz.checked os 4 .any ((Rows.OpenSpec.upto Rows.headWritesSpec).preRow enc Tryz.prog Tryz.f4 Rows.headWritesUptoRow.domain false Rows.headWritesUptoRow.laid) (((Rows.OpenSpec.upto Rows.headWritesSpec).at F).post enc Tryz.prog Tryz.f4 false true false false) := by
  obtain ⟨places, hx⟩ := reads os enc
  refine returnsInHanded_of_row (C := Tryz.checked) (s := Rows.OpenSpec.upto Rows.headWritesSpec) own started (by kernel_rfl) Tryz.func4
    (witness_row_atRef (enc := enc) (C := Tryz.checked) false (laidWorld os start) start rfl (by kernel_rfl) (by kernel_rfl) (by kernel_rfl)
      (OpenSpec.preRow_of_cond 8 hx (by kernel_rfl) (fun k hk => by cases hk; kernel_rfl) (by kernel_rfl) (laid_met os))) ?_
  intro W base args ds gs before hval hW _ hB _ hL hS _
  exact contract H enc W base args ds gs before hval hW hL hS (hB _ rfl)

theorem said : Rows.HeadWritesUptoSaid :=
  OpenClaim.holds_of_cond 4 Tryz.f4 rfl rfl rfl rfl rfl rfl rfl ⟨rfl, rfl, rfl, rfl, rfl⟩ rfl rfl rfl rfl rfl (by kernel_rfl) Tryz.func4 (by kernel_rfl)
    (of_decide_eq_true (by kernel_rfl)) (by unfold Func.isWrapper; first | (rw [if_pos (by decide +kernel)]; kernel_rfl) | (rw [if_neg (by decide +kernel)]; exact ⟨rfl, rfl⟩))
    (fun os started H enc _ F => by rw [OpenClaim.pre_eq_preRow]; exact lifted os started H enc F)

/-- No parameter wants a stand-in; the program's own looks. -/
theorem plain (f : FuncId) (fn : Func) (hf : Tryz.pinned.checked.prog.funcNamed "bellows/bellowslaw20.HeadWrites" = some f) (hfn : Tryz.pinned.checked.prog.funcs[f]? = some fn) :
    true = Tryz.pinned.checked.prog.looks [] ∧ ∀ (j : Nat) t, fn.params[j]? = some t → Tryz.pinned.checked.prog.wantsStandIn t = false := by
  obtain rfl : f = 4 := Option.some.inj ((show Tryz.prog.funcNamed "bellows/bellowslaw20.HeadWrites" = some 4 by kernel_rfl).symm.trans hf) |>.symm
  obtain rfl : fn = Tryz.f4 := (Option.some.inj (Tryz.func4.symm.trans hfn)).symm
  refine ⟨by kernel_rfl, fun j t ht => ?_⟩
  have hall : (Tryz.f4.params.toList.all fun t => !Tryz.prog.wantsStandIn t) = true := by kernel_rfl
  have := List.all_eq_true.1 hall t (Array.mem_toList_iff.2 (Array.mem_of_getElem? ht))
  exact (show Tryz.prog.wantsStandIn t = false by simpa using this)

theorem proved : Rows.HeadWritesUptoCardSaid :=
  Claim7.holds_tied_plain_at .later [] _ _ _ _ said (fun _ h => by cases h) (by kernel_rfl) (fun _ h => by cases h) headWritesUpto_row_tie rfl ⟨rfl, rfl⟩ (by kernel_rfl) rfl plain (by kernel_rfl)
end Go.Proofs.YtmdmmncoigeijaaGreatDoor.headWrites
