/- The references of the first line, reckoned: single bytes, quoted ones, paths, places. -/
import Derived.Test.YtbgnogdlkmhnkaaGreatDoorMChunkFeeds3
import Derived.Shelf.Spec.DecodeRune
import Derived.Lib.LaidU8T
import Derived.Laws.Runes
import Derived.Shelf.Strings.SlTrimAscii
import Derived.Shelf.Strings.IndexAnyAll
namespace Go.Proofs.YtbgnogdlkmhnkaaGreatDoor.Vex
open Go Go.RowKit
set_option maxRecDepth 100000
set_option linter.unusedSectionVars false
variable {gI : GI} [HasMax gI] [HasErr gI]

theorem Digit_r (x : UInt8) : Fn Tryz.prog gI 106 [.int .u8 x.toNat] (.int .i64 (digI x.toNat)) := by
  have hxt := x.toNat_lt
  refine Fn.of tys_ok Tryz.func106 rfl (by kernel_rfl) rfl rfl ?_; intro w hG
  (repeat' ((conv => whnf); first | (first | refine tk1 ?_ | refine tk2 ?_ | refine tk3 ?_ | refine tk12 (fun _ => ?_) | refine tk4 ?_ | refine tk5 ?_ | refine tk6 ?_ | refine tk7 ?_ | refine tk8 ?_ | refine tk9 ?_ | refine tk10 (fun _ _ => ?_) | refine tk11 (fun _ => ?_) | refine tk13 ?_ | refine tk14 ?_) | refine Cmp.cases (fun _ => ?_) (fun _ => ?_) | refine IdxS.nat (by omega) ?_ | refine IdxS.go (by omega) (by omega) (fun _ _ _ => ?_) | refine SlcS.at (by omega) (by omega) (by omega) ?_ | refine CatS.at (by simp only [List.length_append, List.length_cons, List.length_nil]; omega) ?_ | refine Ar.in8 (by omega) (by omega) ?_)); all_goals (conv => whnf)
  all_goals first | rfl | (refine congrArg (Value.int IntKind.i64) ?_; unfold digI; repeat' split; all_goals omega)
def allL : List UInt8 := [33, 36, 38, 39, 40, 41, 42, 43, 44, 59, 61, 58, 64, 47]
theorem plain_all (x : UInt8) : plainB pathL x = (plainB freeL x || allL.contains x) := by
  unfold plainB
  rw [show pathL = freeL ++ allL from rfl, List.contains_append, ← Bool.or_assoc]
theorem plain_query (x : UInt8) : plainB queryL x = (plainB pathL x || x == 63) := by
  unfold plainB
  rw [show queryL = pathL ++ [63] from rfl, List.contains_append, ← Bool.or_assoc]
  simp only [List.contains_cons, List.contains_nil, Bool.or_false]
/-- Does a quoted byte stand there? -/
def qB : List UInt8 → Bool
  | x :: a :: b :: _ => x == 37 && (hexB a && hexB b)
  | _ => false
theorem made_q {r : List UInt8} (h : qB (37 :: r) = false) : madeOf queryL (37 :: r) = false := by
  rw [made_37 queryL query_37]
  match r with
  | [] => rfl
  | [_] => rfl
  | a :: b :: t =>
    have h' : (hexB a && hexB b) = false := h
    simp only [h', Bool.false_and]
theorem made_63 : ∀ (n : Nat) (s : List UInt8), s.length ≤ n → 63 ∉ s → madeOf queryL s = madeOf pathL s
  | _, [], _, _ => rfl
  | 0, x :: r, hl, _ => by simp at hl
  | n + 1, x :: r, hl, h => by
    have hx : x ≠ 63 := fun e => h (by simp [e])
    have hr : 63 ∉ r := fun e => h (by simp [e])
    by_cases h37 : x = 37
    · subst h37
      rw [made_37 queryL query_37, made_37 pathL path_37]
      match r with
      | [] => rfl
      | [_] => rfl
      | a :: b :: t =>
        simp only
        rw [made_63 n t (by simp at hl; omega) (fun e => hr (by simp [e]))]
    · have hb : (x == 63) = false := by rw [beq_eq_false_iff_ne]; exact hx
      rw [made_cons queryL x r h37, made_cons pathL x r h37, plain_query, hb, Bool.or_false, made_63 n r (by simpa using hl) hr]
theorem path_63 (s : List UInt8) (h : pathOf s = true) : 63 ∉ s := (path_no h).2
end Go.Proofs.YtbgnogdlkmhnkaaGreatDoor.Vex
/- The document's own answer for chunks, reckoned: plain, May, Check, Number, hex, Wrap, Last. -/
namespace Go.Proofs.YtbgnogdlkmhnkaaGreatDoor.Vex
open Go Go.RowKit
set_option maxRecDepth 100000
set_option linter.unusedSectionVars false
variable {gI : GI}

/-! ## A line -/
def plainG (l : List UInt8) : Int × Bool := if noEnd (bare l) then (((bare l).length : Nat), true) else (0, false)
theorem pl_bad (l : List UInt8) (k : Nat) (hk : k < l.length) (h : l[k] = 10 ∨ (l[k] = 13 ∧ k < l.length - 1)) : noEnd (bare l) = false := by
  have hm : l[k] ∈ bare l := by
    unfold bare
    split
    · rename_i hc
      have hk2 : k < l.length - 1 := by
        rcases h with h | h
        · by_cases hkl : k = l.length - 1
          · exfalso
            unfold crB at hc
            rw [List.getLast?_eq_getElem?] at hc
            subst hkl
            rw [List.getElem?_eq_getElem (by omega)] at hc
            rw [beq_iff_eq, Option.some.injEq, h] at hc
            exact absurd hc (by decide)
          · omega
        · exact h.2
      have : l.dropLast[k]'(by rw [List.length_dropLast]; exact hk2) = l[k] := List.getElem_dropLast _
      rw [← this]
      exact List.getElem_mem _
    · exact List.getElem_mem hk
  unfold noEnd
  cases ha : (bare l).all fun x => !(x == 10) && !(x == 13) with
  | false => rfl
  | true =>
    have := List.all_eq_true.1 ha _ hm
    rcases h with h | h
    · rw [h] at this; exact absurd this (by decide)
    · rw [h.1] at this; exact absurd this (by decide)
theorem pl_good (l : List UInt8) (h : ∀ k (hk : k < l.length), ¬ (l[k] = 10 ∨ (l[k] = 13 ∧ k < l.length - 1))) : noEnd (bare l) = true := by
  unfold noEnd
  rw [List.all_eq_true]
  intro x hx
  obtain ⟨k, hk, rfl⟩ := List.getElem_of_mem hx
  have key : ∃ hk2 : k < l.length, (bare l)[k] = l[k] ∧ (l[k] = 13 → k < l.length - 1) := by
    by_cases hc : crB l = true
    · have hb : bare l = l.dropLast := by unfold bare; rw [hc]; rfl
      have hkl : k < l.dropLast.length := by rw [← hb]; exact hk
      have hk2 : k < l.length := by rw [List.length_dropLast] at hkl; omega
      refine ⟨hk2, ?_, fun _ => by rw [List.length_dropLast] at hkl; exact hkl⟩
      have : l.dropLast[k]'hkl = l[k] := List.getElem_dropLast _
      rw [← this]
      congr 1
    · have hc : crB l = false := by simpa using hc
      have hb := bare_no hc
      have hk2 : k < l.length := by rw [← hb]; exact hk
      refine ⟨hk2, by congr 1, fun h13 => ?_⟩
      by_cases hkl : k = l.length - 1
      · exfalso
        unfold crB at hc
        rw [List.getLast?_eq_getElem?] at hc
        subst hkl
        rw [List.getElem?_eq_getElem (by omega), h13] at hc
        exact absurd hc (by decide)
      · omega
  obtain ⟨hk2, e, h13⟩ := key
  have := h k hk2
  rw [e]
  rw [not_or] at this
  have h2 : l[k] ≠ 13 := fun e => this.2 ⟨e, h13 e⟩
  simp [this.1, h2]
theorem pl_last (l : List UInt8) (h : 0 < l.length) : crB l = decide ((l[l.length - 1]'(by omega)).toNat = 13) := by
  unfold crB
  rw [List.getLast?_eq_getElem?, List.getElem?_eq_getElem (by omega)]
  rw [Bool.eq_iff_iff]
  simp only [beq_iff_eq, Option.some.injEq, decide_eq_true_eq, ← UInt8.toNat_inj]
  rfl
theorem plain_r (A : Option Addr) (cp : Nat) (l : List UInt8) (hl : l.length ≤ 1000000000) : FnR Tryz.prog gI 34 [.slice A l.length cp] [(A, l.map byteV)] (.tuple #[.int .i64 (plainG l).1, .bool (plainG l).2]) := by
  refine FnE.of tys_ok Tryz.func34 rfl (by kernel_rfl) rfl rfl ?_; intro w hG hP
  have hA : ∀ H, RdA (mkC Tryz.prog gI w hG) H A (l.map byteV) := fun H => ⟨hP.1.now⟩
  clear hP
  (conv => whnf); repeat ((first | refine tk1 ?_ | refine tk2 ?_ | refine tk3 ?_ | refine tk12 (fun _ => ?_) | refine tk4 ?_ | refine tk5 ?_ | refine tk6 ?_ | refine tk7 ?_ | refine tk8 ?_ | refine tk9 ?_ | refine tk10 (fun _ _ => ?_) | refine tk11 (fun _ => ?_) | refine tk13 ?_ | refine tk14 ?_); (conv => whnf))
  refine LoopS.lp tys_ok (fun (k : Nat) u => [.slice A l.length cp, u 1, u 2, u 3, .int .i64 (k : Nat), u 5, u 6, u 7, u 8, u 9, u 10, u 11, u 12, u 13, u 14, u 15, u 16, u 17, u 18, u 19, u 20, u 21, u 22, u 23, u 24, u 25, u 26, u 27, u 28, u 29, u 30, u 31, u 32, u 33, u 34, u 35, u 36, u 37, u 38, u 39, u 40, u 41, u 42, u 43, u 44, u 45, u 46]) (fun _ => [])
    (fun k => k ≤ l.length ∧ ∀ j (hj : j < l.length), j < k → ¬ (l[j] = 10 ∨ (l[j] = 13 ∧ j < l.length - 1))) (fun k => l.length - k) 0 ⟨Nat.zero_le _, fun j _ h => by omega⟩ rfl (by repeat' (first | exact List.Sublist.refl _ | exact List.nil_sublist _ | apply List.Sublist.cons_cons | apply List.Sublist.cons)) ?_
  rintro k u ⟨hk, hI⟩
  by_cases hlt : k < l.length
  · have hx : (l.map byteV)[((k : Nat) : Int).toNat * 1]? = some (byteV l[k]) := by rw [Int.toNat_natCast, Nat.mul_one, List.getElem?_map, List.getElem?_eq_getElem hlt]; rfl
    have bad : (l[k] = 10 ∨ (l[k] = 13 ∧ k < l.length - 1)) → plainG l = (0, false) := fun h => by unfold plainG; rw [pl_bad l k hlt h]; rfl
    have good : ¬ (l[k] = 10 ∨ (l[k] = 13 ∧ k < l.length - 1)) → ∀ j (hj : j < l.length), j < k + 1 → ¬ (l[j] = 10 ∨ (l[j] = 13 ∧ j < l.length - 1)) := fun h j hj hjk => by
      by_cases e : j = k
      · subst e; exact h
      · exact hI j hj (by omega)
    have hb := l[k].toNat_lt
    have e10 : l[k] = 10 ↔ l[k].toNat = 10 := by rw [← UInt8.toNat_inj]; rfl
    have e13 : l[k] = 13 ↔ l[k].toNat = 13 := by rw [← UInt8.toNat_inj]; rfl
    rw [e10, e13] at bad good
    generalize l[k] = x at hx bad good hb e10 e13
    unfold byteV at hx
    have hIdx : ∀ {K : Value → Prop}, K (.pointer (some ((A.getD at0).add (((k : Nat) : Int).toNat * 1)))) → IdxA (mkC Tryz.prog gI w hG) [] A l.length (k : Int) 1 K := fun h => IdxA.tc (xs := l.map byteV) (by rw [List.length_map]; omega) (by omega) (by omega) h
    (conv => whnf); repeat ((first | refine tk1 ?_ | refine tk2 ?_ | refine tk3 ?_ | refine tk12 (fun _ => ?_) | refine tk4 ?_ | refine tk5 ?_ | refine tk6 ?_ | refine tk7 ?_ | refine tk8 ?_ | refine tk9 ?_ | refine tk10 (fun _ _ => ?_) | refine tk11 (fun _ => ?_) | refine tk13 ?_ | refine tk14 ?_); (conv => whnf))
    refine hIdx ?_
    (conv => whnf); repeat ((first | refine tk1 ?_ | refine tk2 ?_ | refine tk3 ?_ | refine tk12 (fun _ => ?_) | refine tk4 ?_ | refine tk5 ?_ | refine tk6 ?_ | refine tk7 ?_ | refine tk8 ?_ | refine tk9 ?_ | refine tk10 (fun _ _ => ?_) | refine tk11 (fun _ => ?_) | refine tk13 ?_ | refine tk14 ?_); (conv => whnf))
    refine Ld.ta (xs := l.map byteV) hx ?_
    (conv => whnf); repeat ((first | refine tk1 ?_ | refine tk2 ?_ | refine tk3 ?_ | refine tk12 (fun _ => ?_) | refine tk4 ?_ | refine tk5 ?_ | refine tk6 ?_ | refine tk7 ?_ | refine tk8 ?_ | refine tk9 ?_ | refine tk10 (fun _ _ => ?_) | refine tk11 (fun _ => ?_) | refine tk13 ?_ | refine tk14 ?_); (conv => whnf))
    refine Cmp.cases (fun c1 => ?_) (fun c1 => ?_)
    · rw [bad (.inl (by omega))]
      (conv => whnf); repeat ((first | refine tk1 ?_ | refine tk2 ?_ | refine tk3 ?_ | refine tk12 (fun _ => ?_) | refine tk4 ?_ | refine tk5 ?_ | refine tk6 ?_ | refine tk7 ?_ | refine tk8 ?_ | refine tk9 ?_ | refine tk10 (fun _ _ => ?_) | refine tk11 (fun _ => ?_) | refine tk13 ?_ | refine tk14 ?_); (conv => whnf))
      exact fun w' _ => rfl
    (conv => whnf); repeat ((first | refine tk1 ?_ | refine tk2 ?_ | refine tk3 ?_ | refine tk12 (fun _ => ?_) | refine tk4 ?_ | refine tk5 ?_ | refine tk6 ?_ | refine tk7 ?_ | refine tk8 ?_ | refine tk9 ?_ | refine tk10 (fun _ _ => ?_) | refine tk11 (fun _ => ?_) | refine tk13 ?_ | refine tk14 ?_); (conv => whnf))
    refine hIdx ?_
    (conv => whnf); repeat ((first | refine tk1 ?_ | refine tk2 ?_ | refine tk3 ?_ | refine tk12 (fun _ => ?_) | refine tk4 ?_ | refine tk5 ?_ | refine tk6 ?_ | refine tk7 ?_ | refine tk8 ?_ | refine tk9 ?_ | refine tk10 (fun _ _ => ?_) | refine tk11 (fun _ => ?_) | refine tk13 ?_ | refine tk14 ?_); (conv => whnf))
    refine Ld.ta (xs := l.map byteV) hx ?_
    (conv => whnf); repeat ((first | refine tk1 ?_ | refine tk2 ?_ | refine tk3 ?_ | refine tk12 (fun _ => ?_) | refine tk4 ?_ | refine tk5 ?_ | refine tk6 ?_ | refine tk7 ?_ | refine tk8 ?_ | refine tk9 ?_ | refine tk10 (fun _ _ => ?_) | refine tk11 (fun _ => ?_) | refine tk13 ?_ | refine tk14 ?_); (conv => whnf))
    refine Cmp.cases (fun c2 => ?_) (fun c2 => ?_)
    · (conv => whnf); repeat ((first | refine tk1 ?_ | refine tk2 ?_ | refine tk3 ?_ | refine tk12 (fun _ => ?_) | refine tk4 ?_ | refine tk5 ?_ | refine tk6 ?_ | refine tk7 ?_ | refine tk8 ?_ | refine tk9 ?_ | refine tk10 (fun _ _ => ?_) | refine tk11 (fun _ => ?_) | refine tk13 ?_ | refine tk14 ?_); (conv => whnf))
      refine Cmp.cases (fun c3 => ?_) (fun c3 => ?_)
      · rw [bad (.inr ⟨by omega, by omega⟩)]
        (conv => whnf); repeat ((first | refine tk1 ?_ | refine tk2 ?_ | refine tk3 ?_ | refine tk12 (fun _ => ?_) | refine tk4 ?_ | refine tk5 ?_ | refine tk6 ?_ | refine tk7 ?_ | refine tk8 ?_ | refine tk9 ?_ | refine tk10 (fun _ _ => ?_) | refine tk11 (fun _ => ?_) | refine tk13 ?_ | refine tk14 ?_); (conv => whnf))
        exact fun w' _ => rfl
      · (conv => whnf); repeat ((first | refine tk1 ?_ | refine tk2 ?_ | refine tk3 ?_ | refine tk12 (fun _ => ?_) | refine tk4 ?_ | refine tk5 ?_ | refine tk6 ?_ | refine tk7 ?_ | refine tk8 ?_ | refine tk9 ?_ | refine tk10 (fun _ _ => ?_) | refine tk11 (fun _ => ?_) | refine tk13 ?_ | refine tk14 ?_); (conv => whnf))
        exact ⟨k + 1, ⟨by omega, good (by omega)⟩, rfl, (by repeat' (first | exact List.Sublist.refl _ | exact List.nil_sublist _ | apply List.Sublist.cons_cons | apply List.Sublist.cons)), by dsimp only; omega⟩
    · (conv => whnf); repeat ((first | refine tk1 ?_ | refine tk2 ?_ | refine tk3 ?_ | refine tk12 (fun _ => ?_) | refine tk4 ?_ | refine tk5 ?_ | refine tk6 ?_ | refine tk7 ?_ | refine tk8 ?_ | refine tk9 ?_ | refine tk10 (fun _ _ => ?_) | refine tk11 (fun _ => ?_) | refine tk13 ?_ | refine tk14 ?_); (conv => whnf))
      exact ⟨k + 1, ⟨by omega, good (by omega)⟩, rfl, (by repeat' (first | exact List.Sublist.refl _ | exact List.nil_sublist _ | apply List.Sublist.cons_cons | apply List.Sublist.cons)), by dsimp only; omega⟩
  · have hn : noEnd (bare l) = true := pl_good l fun j hj => hI j hj (by omega)
    have hp : plainG l = ((((bare l).length : Nat) : Int), true) := by unfold plainG; rw [hn]; rfl
    rw [hp]
    dsimp only
    (conv => whnf); repeat ((first | refine tk1 ?_ | refine tk2 ?_ | refine tk3 ?_ | refine tk12 (fun _ => ?_) | refine tk4 ?_ | refine tk5 ?_ | refine tk6 ?_ | refine tk7 ?_ | refine tk8 ?_ | refine tk9 ?_ | refine tk10 (fun _ _ => ?_) | refine tk11 (fun _ => ?_) | refine tk13 ?_ | refine tk14 ?_); (conv => whnf))
    refine Cmp.cases (fun c1 => ?_) (fun c1 => ?_)
    · have hpos : 0 < l.length := by omega
      have hcr := pl_last l hpos
      have hx : (l.map byteV)[((l.length : Int) - 1).toNat * 1]? = some (byteV (l[l.length - 1]'(by omega))) := by
        rw [show ((l.length : Int) - 1).toNat * 1 = l.length - 1 by omega, List.getElem?_map, List.getElem?_eq_getElem (by omega)]; rfl
      have hbl : crB l = true → (bare l).length = l.length - 1 := fun h => by unfold bare; rw [if_pos h, List.length_dropLast]
      have hbn : crB l = false → bare l = l := bare_no
      have hb := (l[l.length - 1]'(by omega)).toNat_lt
      generalize l[l.length - 1]'(by omega) = x at hcr hx hb
      unfold byteV at hx
      (conv => whnf); repeat ((first | refine tk1 ?_ | refine tk2 ?_ | refine tk3 ?_ | refine tk12 (fun _ => ?_) | refine tk4 ?_ | refine tk5 ?_ | refine tk6 ?_ | refine tk7 ?_ | refine tk8 ?_ | refine tk9 ?_ | refine tk10 (fun _ _ => ?_) | refine tk11 (fun _ => ?_) | refine tk13 ?_ | refine tk14 ?_); (conv => whnf))
      refine IdxA.tc (xs := l.map byteV) (by rw [List.length_map]; omega) (by omega) (by omega) ?_
      (conv => whnf); repeat ((first | refine tk1 ?_ | refine tk2 ?_ | refine tk3 ?_ | refine tk12 (fun _ => ?_) | refine tk4 ?_ | refine tk5 ?_ | refine tk6 ?_ | refine tk7 ?_ | refine tk8 ?_ | refine tk9 ?_ | refine tk10 (fun _ _ => ?_) | refine tk11 (fun _ => ?_) | refine tk13 ?_ | refine tk14 ?_); (conv => whnf))
      refine Ld.ta (xs := l.map byteV) hx ?_
      (conv => whnf); repeat ((first | refine tk1 ?_ | refine tk2 ?_ | refine tk3 ?_ | refine tk12 (fun _ => ?_) | refine tk4 ?_ | refine tk5 ?_ | refine tk6 ?_ | refine tk7 ?_ | refine tk8 ?_ | refine tk9 ?_ | refine tk10 (fun _ _ => ?_) | refine tk11 (fun _ => ?_) | refine tk13 ?_ | refine tk14 ?_); (conv => whnf))
      refine Cmp.cases (fun c2 => ?_) (fun c2 => ?_)
      · rw [decide_eq_true (by omega)] at hcr
        rw [hbl hcr, show ((l.length - 1 : Nat) : Int) = (l.length : Int) - 1 by omega]
        (conv => whnf); repeat ((first | refine tk1 ?_ | refine tk2 ?_ | refine tk3 ?_ | refine tk12 (fun _ => ?_) | refine tk4 ?_ | refine tk5 ?_ | refine tk6 ?_ | refine tk7 ?_ | refine tk8 ?_ | refine tk9 ?_ | refine tk10 (fun _ _ => ?_) | refine tk11 (fun _ => ?_) | refine tk13 ?_ | refine tk14 ?_); (conv => whnf))
        exact fun w' _ => rfl
      · rw [decide_eq_false (by omega)] at hcr
        rw [hbn hcr]
        (conv => whnf); repeat ((first | refine tk1 ?_ | refine tk2 ?_ | refine tk3 ?_ | refine tk12 (fun _ => ?_) | refine tk4 ?_ | refine tk5 ?_ | refine tk6 ?_ | refine tk7 ?_ | refine tk8 ?_ | refine tk9 ?_ | refine tk10 (fun _ _ => ?_) | refine tk11 (fun _ => ?_) | refine tk13 ?_ | refine tk14 ?_); (conv => whnf))
        exact fun w' _ => rfl
    · obtain rfl : l = [] := List.eq_nil_of_length_eq_zero (by omega)
      (conv => whnf); repeat ((first | refine tk1 ?_ | refine tk2 ?_ | refine tk3 ?_ | refine tk12 (fun _ => ?_) | refine tk4 ?_ | refine tk5 ?_ | refine tk6 ?_ | refine tk7 ?_ | refine tk8 ?_ | refine tk9 ?_ | refine tk10 (fun _ _ => ?_) | refine tk11 (fun _ => ?_) | refine tk13 ?_ | refine tk14 ?_); (conv => whnf))
      exact fun w' _ => rfl
theorem chMay_n (s : CSt) : chMay s = ((if s.ph = 0 then noEnd (bare s.line) && decide ((bare s.line).length ≤ 64) else if s.ph = 1 ∨ s.ph = 4 then decide (s.line.length = 0) else if s.ph = 2 then noEnd (bare s.line) && decide ((bare s.line).length = 0) else if s.ph = 3 then noEnd (bare s.line) && decide (s.line.length ≤ 256) else false) &&
    ((if s.ph = 1 then decide (1 ≤ s.left) && decide (s.left < 16777216) else decide (s.left = 0)) && (if s.ph = 3 then decide ((s.line.length : Int) ≤ s.trail) && decide (s.trail ≤ 256) else decide (s.trail = 0)))) := by
  unfold chMay lineMay leftMay trailMay
  simp only [List.length_eq_zero_iff]
set_option maxHeartbeats 2000000 in
theorem CMay_r (s : CSt) (A : Option Addr) (cp : Nat) (hs : s.line.length ≤ 1000000000) :
    FnR Tryz.prog gI 24 [.agg ⟨[.int .u8 (s.ph : Nat), .int .i64 s.left, .slice A s.line.length cp, .int .i64 s.trail]⟩] [(A, s.line.map byteV)] (.bool (chMay s)) := by
  have hp := plain_r (gI := gI) A cp s.line hs
  have hbl : (bare s.line).length ≤ s.line.length ∧ s.line.length ≤ (bare s.line).length + 1 := by
    unfold bare
    split
    · rw [List.length_dropLast]; omega
    · omega
  have hpl : plainG s.line = if noEnd (bare s.line) then ((((bare s.line).length : Nat) : Int), true) else (0, false) := rfl
  have hemp : s.line.length = 0 → noEnd (bare s.line) = true := fun h => by rw [List.eq_nil_of_length_eq_zero h]; rfl
  have hm := chMay_n s
  refine FnE.of tys_ok Tryz.func24 rfl (by kernel_rfl) rfl rfl ?_; intro w hG hP
  have hA : ∀ H, RdA (mkC Tryz.prog gI w hG) H A (s.line.map byteV) := fun H => ⟨hP.1.now⟩
  clear hP
  obtain ⟨ph, left, line, trail⟩ := s
  dsimp only at *
  generalize (bare line).length = bn at *
  (conv => whnf); repeat ((first | refine tk1 ?_ | refine tk2 ?_ | refine tk3 ?_ | refine tk12 (fun _ => ?_) | refine tk4 ?_ | refine tk5 ?_ | refine tk6 ?_ | refine tk7 ?_ | refine tk8 ?_ | refine tk9 ?_ | refine tk10 (fun _ _ => ?_) | refine tk11 (fun _ => ?_) | refine tk13 ?_ | refine tk14 ?_); (conv => whnf))
  refine CallK.fnR hp ⟨(hA _).ok, trivial⟩ ?_
  rw [hpl]
  cases hne : noEnd (bare line)
  · have : chMay ⟨ph, left, line, trail⟩ = false := by
      rw [hm, hne]
      by_cases h : line.length = 0
      · rw [hemp h] at hne; cases hne
      · simp [h]
    rw [this]
    (conv => whnf); repeat ((first | refine tk1 ?_ | refine tk2 ?_ | refine tk3 ?_ | refine tk12 (fun _ => ?_) | refine tk4 ?_ | refine tk5 ?_ | refine tk6 ?_ | refine tk7 ?_ | refine tk8 ?_ | refine tk9 ?_ | refine tk10 (fun _ _ => ?_) | refine tk11 (fun _ => ?_) | refine tk13 ?_ | refine tk14 ?_); (conv => whnf))
    exact fun w' _ => rfl
  rw [hne] at hm
  simp only [if_true, Bool.true_and] at hm ⊢
  (repeat' ((conv => whnf); first | (first | refine tk1 ?_ | refine tk2 ?_ | refine tk3 ?_ | refine tk12 (fun _ => ?_) | refine tk4 ?_ | refine tk5 ?_ | refine tk6 ?_ | refine tk7 ?_ | refine tk8 ?_ | refine tk9 ?_ | refine tk10 (fun _ _ => ?_) | refine tk11 (fun _ => ?_) | refine tk13 ?_ | refine tk14 ?_) | refine Cmp.cases (fun _ => ?_) (fun _ => ?_) | refine IdxS.nat (by omega) ?_ | refine IdxS.go (by omega) (by omega) (fun _ _ _ => ?_) | refine SlcS.at (by omega) (by omega) (by omega) ?_ | refine CatS.at (by simp only [List.length_append, List.length_cons, List.length_nil]; omega) ?_ | fail)); all_goals (conv => whnf)
  all_goals (refine fun w' _ => congrArg Value.bool ?_; rw [hm, Bool.eq_iff_iff]; (repeat' split) <;> simp only [Bool.and_eq_true, decide_eq_true_eq, Bool.false_eq_true, eq_self, true_iff, false_iff, iff_true, iff_false, and_false, false_and, not_false_eq_true] <;> omega)
end Go.Proofs.YtbgnogdlkmhnkaaGreatDoor.Vex
/- The document's own answer for chunks, reckoned: Check, Number, hex, Wrapped, Last. -/
namespace Go.Proofs.YtbgnogdlkmhnkaaGreatDoor.Vex
open Go Go.RowKit
set_option maxRecDepth 100000
set_option linter.unusedSectionVars false
variable {gI : GI} [HasMax gI] [HasErr gI]

theorem RCheck_r (s : CSt) (A : Option Addr) (cp : Nat) (hs : s.line.length ≤ 1000000000) :
    FnR Tryz.prog gI 15 [.agg ⟨[.int .u8 (s.ph : Nat), .int .i64 s.left, .slice A s.line.length cp, .int .i64 s.trail]⟩] [(A, s.line.map byteV)] (.int .i64 (chE s)) := by
  have hm := CMay_r (gI := gI) s A cp hs
  refine FnE.of tys_ok Tryz.func15 rfl (by kernel_rfl) rfl rfl ?_; intro w hG hP
  have hA : ∀ H, RdA (mkC Tryz.prog gI w hG) H A (s.line.map byteV) := fun H => ⟨hP.1.now⟩
  clear hP
  unfold chE
  (conv => whnf); repeat ((first | refine tk1 ?_ | refine tk2 ?_ | refine tk3 ?_ | refine tk12 (fun _ => ?_) | refine tk4 ?_ | refine tk5 ?_ | refine tk6 ?_ | refine tk7 ?_ | refine tk8 ?_ | refine tk9 ?_ | refine tk10 (fun _ _ => ?_) | refine tk11 (fun _ => ?_) | refine tk13 ?_ | refine tk14 ?_); (conv => whnf))
  refine CallK.fnR hm ⟨(hA _).ok, trivial⟩ ?_
  cases chMay s
  · (conv => whnf); repeat ((first | refine tk1 ?_ | refine tk2 ?_ | refine tk3 ?_ | refine tk12 (fun _ => ?_) | refine tk4 ?_ | refine tk5 ?_ | refine tk6 ?_ | refine tk7 ?_ | refine tk8 ?_ | refine tk9 ?_ | refine tk10 (fun _ _ => ?_) | refine tk11 (fun _ => ?_) | refine tk13 ?_ | refine tk14 ?_); (conv => whnf))
    exact fun w' _ => rfl
  · (conv => whnf); repeat ((first | refine tk1 ?_ | refine tk2 ?_ | refine tk3 ?_ | refine tk12 (fun _ => ?_) | refine tk4 ?_ | refine tk5 ?_ | refine tk6 ?_ | refine tk7 ?_ | refine tk8 ?_ | refine tk9 ?_ | refine tk10 (fun _ _ => ?_) | refine tk11 (fun _ => ?_) | refine tk13 ?_ | refine tk14 ?_); (conv => whnf))
    exact fun w' _ => rfl
theorem while_at {p : UInt8 → Bool} : ∀ (s : List UInt8) (k : Nat), k ≤ s.length → (s.take k).all p = true → (∀ x, s[k]? = some x → p x = false) → s.takeWhile p = s.take k ∧ s.dropWhile p = s.drop k
  | [], k, hk, _, _ => by
    obtain rfl : k = 0 := by simpa using hk
    exact ⟨rfl, rfl⟩
  | x :: r, 0, _, _, h => by
    have := h x rfl
    rw [List.takeWhile_cons, List.dropWhile_cons, this]
    exact ⟨rfl, rfl⟩
  | x :: r, k + 1, hk, ha, h => by
    rw [List.take_succ_cons, List.all_cons, Bool.and_eq_true] at ha
    have ih := while_at r k (by simpa using hk) ha.2 (fun y hy => h y (by simpa using hy))
    rw [List.takeWhile_cons, List.dropWhile_cons, ha.1]
    simp only [if_true, List.take_succ_cons, List.drop_succ_cons]
    exact ⟨by rw [ih.1], ih.2⟩
theorem while_long {p : UInt8 → Bool} : ∀ (s : List UInt8) (k : Nat), k ≤ s.length → (s.take k).all p = true → k ≤ (s.takeWhile p).length
  | _, 0, _, _ => Nat.zero_le _
  | [], k + 1, h, _ => by simp at h
  | x :: r, k + 1, h, ha => by
    rw [List.take_succ_cons, List.all_cons, Bool.and_eq_true] at ha
    have ih := while_long r k (by simpa using h) ha.2
    rw [List.takeWhile_cons, ha.1]
    simpa using ih
theorem hexN_bound (l : List UInt8) (h : l.all hexB = true) (h7 : l.length ≤ 7) : 0 ≤ hexN l ∧ hexN l < 268435456 := by
  have hb := hexN_lt l 0 h (Int.le_refl _)
  have hp : (16 : Int) ^ l.length ≤ 268435456 := by
    rcases (show l.length = 0 ∨ l.length = 1 ∨ l.length = 2 ∨ l.length = 3 ∨ l.length = 4 ∨ l.length = 5 ∨ l.length = 6 ∨ l.length = 7 by omega) with e | e | e | e | e | e | e | e <;> rw [e] <;> decide
  unfold hexN
  omega
theorem bl_is (x : UInt8) : (((x.toNat : Nat) : Int) == 32 || ((x.toNat : Nat) : Int) == 9) = blC x := by
  have : ∀ n : Fin 256, (((n.val : Nat) : Int) == 32 || ((n.val : Nat) : Int) == 9) = blC (UInt8.ofNat n.val) := by decide +kernel
  have h := this ⟨x.toNat, x.toNat_lt⟩
  rw [h]
  simp
set_option maxHeartbeats 4000000 in
theorem Number_r (s : List UInt8) (hs : s.length ≤ 1000000000) : Fn Tryz.prog gI 84 [str s] (.int .i64 (numC s)) := by
  have hn0 : numR s = if 1 ≤ (s.takeWhile hexB).length ∧ (s.takeWhile hexB).length ≤ 6 ∧ (restC s = [] ∨ (restC s).head? = some 59 ∧ (restC s).all valB = true) then hexN (s.takeWhile hexB) else -1 := rfl
  rw [numC_is]
  refine Fn.of tys_ok Tryz.func84 rfl (by kernel_rfl) rfl rfl ?_; intro w hG
  (conv => whnf); repeat ((first | refine tk1 ?_ | refine tk2 ?_ | refine tk3 ?_ | refine tk12 (fun _ => ?_) | refine tk4 ?_ | refine tk5 ?_ | refine tk6 ?_ | refine tk7 ?_ | refine tk8 ?_ | refine tk9 ?_ | refine tk10 (fun _ _ => ?_) | refine tk11 (fun _ => ?_) | refine tk13 ?_ | refine tk14 ?_); (conv => whnf))
  refine LoopS.lp tys_ok (fun (k : Nat) u => [str s, u 1, u 2, .int .i64 (hexN (s.take k)), .int .i64 (k : Nat), u 5, u 6, u 7, u 8, u 9, u 10, u 11, u 12, u 13, u 14, u 15, u 16, u 17, u 18, u 19, u 20, u 21, u 22, u 23, u 24, u 25, u 26, u 27, u 28, u 29, u 30, u 31, u 32, u 33, u 34, u 35, u 36, u 37, u 38, u 39, u 40, u 41, u 42, u 43, u 44, u 45, u 46, u 47, u 48, u 49, u 50, u 51, u 52, u 53, u 54, u 55, u 56, u 57, u 58, u 59, u 60, u 61, u 62, u 63, u 64, u 65, u 66, u 67, u 68, u 69, u 70, u 71, u 72, u 73, u 74, u 75, u 76, u 77, u 78]) (fun _ => []) (fun k => k ≤ 7 ∧ k ≤ s.length ∧ (s.take k).all hexB = true) (fun k => s.length - k) 0 ⟨by decide, Nat.zero_le _, rfl⟩ rfl (by repeat' (first | exact List.Sublist.refl _ | exact List.nil_sublist _ | apply List.Sublist.cons_cons | apply List.Sublist.cons)) ?_
  rintro k u ⟨hk7, hk, hall⟩
  have hbd := hexN_bound (s.take k) hall (by rw [List.length_take]; omega)
  have htk : (s.take k).length = k := by rw [List.length_take]; omega
  by_cases hgo : k < s.length ∧ k < 7 ∧ (∀ x, s[k]? = some x → hexB x = true)
  · obtain ⟨hlt, hl7, hx⟩ := hgo
    obtain ⟨x, hxe⟩ : ∃ x, s[k]? = some x := ⟨_, List.getElem?_eq_getElem hlt⟩
    have hxx := (hexB_iff x).1 (hx x hxe)
    have hdr := dig_range x
    have htk1 : s.take (k + 1) = s.take k ++ [x] := by
      rw [List.take_succ_eq_append_getElem hlt]
      rw [List.getElem?_eq_getElem hlt] at hxe
      rw [Option.some.inj hxe]
    (conv => whnf); repeat ((first | refine tk1 ?_ | refine tk2 ?_ | refine tk3 ?_ | refine tk12 (fun _ => ?_) | refine tk4 ?_ | refine tk5 ?_ | refine tk6 ?_ | refine tk7 ?_ | refine tk8 ?_ | refine tk9 ?_ | refine tk10 (fun _ _ => ?_) | refine tk11 (fun _ => ?_) | refine tk13 ?_ | refine tk14 ?_); (conv => whnf))
    refine IdxS.at x (by simpa using hxe) (by omega) ?_
    (conv => whnf); repeat ((first | refine tk1 ?_ | refine tk2 ?_ | refine tk3 ?_ | refine tk12 (fun _ => ?_) | refine tk4 ?_ | refine tk5 ?_ | refine tk6 ?_ | refine tk7 ?_ | refine tk8 ?_ | refine tk9 ?_ | refine tk10 (fun _ _ => ?_) | refine tk11 (fun _ => ?_) | refine tk13 ?_ | refine tk14 ?_); (conv => whnf))
    refine CallK.fn (Digit_r x) ?_
    (conv => whnf); repeat ((first | refine tk1 ?_ | refine tk2 ?_ | refine tk3 ?_ | refine tk12 (fun _ => ?_) | refine tk4 ?_ | refine tk5 ?_ | refine tk6 ?_ | refine tk7 ?_ | refine tk8 ?_ | refine tk9 ?_ | refine tk10 (fun _ _ => ?_) | refine tk11 (fun _ => ?_) | refine tk13 ?_ | refine tk14 ?_); (conv => whnf))
    refine IdxS.at x (by simpa using hxe) (by omega) ?_
    (conv => whnf); repeat ((first | refine tk1 ?_ | refine tk2 ?_ | refine tk3 ?_ | refine tk12 (fun _ => ?_) | refine tk4 ?_ | refine tk5 ?_ | refine tk6 ?_ | refine tk7 ?_ | refine tk8 ?_ | refine tk9 ?_ | refine tk10 (fun _ _ => ?_) | refine tk11 (fun _ => ?_) | refine tk13 ?_ | refine tk14 ?_); (conv => whnf))
    refine CallK.fn (Digit_r x) ?_
    (conv => whnf); repeat ((first | refine tk1 ?_ | refine tk2 ?_ | refine tk3 ?_ | refine tk12 (fun _ => ?_) | refine tk4 ?_ | refine tk5 ?_ | refine tk6 ?_ | refine tk7 ?_ | refine tk8 ?_ | refine tk9 ?_ | refine tk10 (fun _ _ => ?_) | refine tk11 (fun _ => ?_) | refine tk13 ?_ | refine tk14 ?_); (conv => whnf))
    refine ⟨k + 1, ⟨by omega, by omega, by rw [htk1, List.all_append, hall]; simp [hx x hxe]⟩, ?_, (by repeat' (first | exact List.Sublist.refl _ | exact List.nil_sublist _ | apply List.Sublist.cons_cons | apply List.Sublist.cons)), by dsimp only; omega⟩
    dsimp only
    rw [htk1, hexN_snoc]
    rfl
  · have hend : k < 7 → (s.takeWhile hexB = s.take k ∧ s.dropWhile hexB = s.drop k) := fun h7 => while_at s k hk hall fun x hx => by
      cases hb : hexB x with
      | false => rfl
      | true =>
        exfalso
        refine hgo ⟨(List.getElem?_eq_some_iff.1 hx).1, h7, fun y hy => ?_⟩
        rw [hx] at hy
        rw [← Option.some.inj hy]; exact hb
    have hbig : ¬ k < 7 → 7 ≤ (s.takeWhile hexB).length := fun h => while_long s 7 (by omega) (by rw [show k = 7 by omega] at hall; exact hall)
    have hways : (¬ k < s.length) ∨ (k < s.length ∧ ¬ k < 7) ∨ (k < s.length ∧ k < 7 ∧ ∃ x, s[k]? = some x ∧ digI x.toNat < 0) := by
      by_cases h1 : k < s.length
      · by_cases h2 : k < 7
        · refine .inr (.inr ⟨h1, h2, s[k], List.getElem?_eq_getElem h1, ?_⟩)
          have h3 : ¬ 0 ≤ digI s[k].toNat := fun h => hgo ⟨h1, h2, fun y hy => by
            rw [List.getElem?_eq_getElem h1] at hy
            rw [← Option.some.inj hy]; exact (hexB_iff _).2 h⟩
          omega
        · exact .inr (.inl ⟨h1, h2⟩)
      · exact .inl h1
    by_cases h6 : 1 ≤ k ∧ k ≤ 6
    rotate_left
    · have hres : numR s = -1 := by
        rw [hn0, if_neg]
        rintro ⟨a1, a2, _⟩
        by_cases h7 : k < 7
        · rw [(hend h7).1, htk] at a1 a2
          omega
        · have := hbig h7
          omega
      rw [hres]
      have h6' : k < 1 ∨ 6 < k := by omega
      rcases h6' with h6' | h6' <;> rcases hways with hc | ⟨hc1, hc2⟩ | ⟨hc1, hc2, x, hx, hxb⟩
      all_goals (try (exfalso; omega))
      all_goals
        try ((conv => whnf); repeat ((first | refine tk1 ?_ | refine tk2 ?_ | refine tk3 ?_ | refine tk12 (fun _ => ?_) | refine tk4 ?_ | refine tk5 ?_ | refine tk6 ?_ | refine tk7 ?_ | refine tk8 ?_ | refine tk9 ?_ | refine tk10 (fun _ _ => ?_) | refine tk11 (fun _ => ?_) | refine tk13 ?_ | refine tk14 ?_); (conv => whnf)))
        try (refine IdxS.at x (by simpa using hx) (by omega) ?_)
        try ((conv => whnf); repeat ((first | refine tk1 ?_ | refine tk2 ?_ | refine tk3 ?_ | refine tk12 (fun _ => ?_) | refine tk4 ?_ | refine tk5 ?_ | refine tk6 ?_ | refine tk7 ?_ | refine tk8 ?_ | refine tk9 ?_ | refine tk10 (fun _ _ => ?_) | refine tk11 (fun _ => ?_) | refine tk13 ?_ | refine tk14 ?_); (conv => whnf)))
        try (refine CallK.fn (Digit_r x) ?_)
        try ((conv => whnf); repeat ((first | refine tk1 ?_ | refine tk2 ?_ | refine tk3 ?_ | refine tk12 (fun _ => ?_) | refine tk4 ?_ | refine tk5 ?_ | refine tk6 ?_ | refine tk7 ?_ | refine tk8 ?_ | refine tk9 ?_ | refine tk10 (fun _ _ => ?_) | refine tk11 (fun _ => ?_) | refine tk13 ?_ | refine tk14 ?_); (conv => whnf)))
        try rfl
    obtain ⟨e1, e2⟩ := hend (by omega)
    have hn1 : numR s = if restC s = [] ∨ (restC s).head? = some 59 ∧ (restC s).all valB = true then hexN (s.take k) else -1 := by
      rw [hn0, e1, htk]
      by_cases hr : restC s = [] ∨ (restC s).head? = some 59 ∧ (restC s).all valB = true
      · rw [if_pos ⟨h6.1, h6.2, hr⟩, if_pos hr]
      · rw [if_neg (fun h => hr h.2.2), if_neg hr]
    have hrc : restC s = (s.drop k).dropWhile blC := by unfold restC; rw [e2]
    rw [hrc] at hn1
    clear hn0 hend hbig hgo e1 e2 hrc
    generalize hN : hexN (s.take k) = N at *
    rcases hways with hc | ⟨hc1, hc2⟩ | ⟨hc1, hc2, x, hx, hxb⟩
    all_goals (try (exfalso; omega))
    all_goals
      (conv => whnf); repeat ((first | refine tk1 ?_ | refine tk2 ?_ | refine tk3 ?_ | refine tk12 (fun _ => ?_) | refine tk4 ?_ | refine tk5 ?_ | refine tk6 ?_ | refine tk7 ?_ | refine tk8 ?_ | refine tk9 ?_ | refine tk10 (fun _ _ => ?_) | refine tk11 (fun _ => ?_) | refine tk13 ?_ | refine tk14 ?_); (conv => whnf))
      try (refine IdxS.at x (by simpa using hx) (by omega) ?_)
      (conv => whnf); repeat ((first | refine tk1 ?_ | refine tk2 ?_ | refine tk3 ?_ | refine tk12 (fun _ => ?_) | refine tk4 ?_ | refine tk5 ?_ | refine tk6 ?_ | refine tk7 ?_ | refine tk8 ?_ | refine tk9 ?_ | refine tk10 (fun _ _ => ?_) | refine tk11 (fun _ => ?_) | refine tk13 ?_ | refine tk14 ?_); (conv => whnf))
      try (refine CallK.fn (Digit_r x) ?_)
      (conv => whnf); repeat ((first | refine tk1 ?_ | refine tk2 ?_ | refine tk3 ?_ | refine tk12 (fun _ => ?_) | refine tk4 ?_ | refine tk5 ?_ | refine tk6 ?_ | refine tk7 ?_ | refine tk8 ?_ | refine tk9 ?_ | refine tk10 (fun _ _ => ?_) | refine tk11 (fun _ => ?_) | refine tk13 ?_ | refine tk14 ?_); (conv => whnf))
      refine LoopS.lp tys_ok (fun (j : Nat) u => [str s, u 1, u 2, .int .i64 N, .int .i64 (j : Nat), u 5, u 6, u 7, u 8, u 9, u 10, u 11, u 12, u 13, u 14, u 15, u 16, u 17, u 18, u 19, u 20, u 21, u 22, u 23, u 24, u 25, u 26, u 27, u 28, u 29, u 30, u 31, u 32, u 33, u 34, u 35, u 36, u 37, u 38, u 39, u 40, u 41, u 42, u 43, u 44, u 45, u 46, u 47, u 48, u 49, u 50, u 51, u 52, u 53, u 54, u 55, u 56, u 57, u 58, u 59, u 60, u 61, u 62, u 63, u 64, u 65, u 66, u 67, u 68, u 69, u 70, u 71, u 72, u 73, u 74, u 75, u 76, u 77, u 78]) (fun _ => []) (fun j => j ≤ s.length ∧ (s.drop k).dropWhile blC = (s.drop j).dropWhile blC) (fun j => s.length - j) k ⟨hk, rfl⟩ rfl (by repeat' (first | exact List.Sublist.refl _ | exact List.nil_sublist _ | apply List.Sublist.cons_cons | apply List.Sublist.cons)) ?_
      rintro j u ⟨hj, hJ⟩
      rw [hJ] at hn1
      by_cases hlj : j < s.length
      · obtain ⟨y, hy⟩ : ∃ y, s[j]? = some y := ⟨_, List.getElem?_eq_getElem hlj⟩
        have hdj : s.drop j = y :: s.drop (j + 1) := by
          rw [List.drop_eq_getElem_cons hlj]
          rw [List.getElem?_eq_getElem hlj] at hy
          rw [Option.some.inj hy]
        cases hb : blC y
        · rw [hdj, List.dropWhile_cons, hb] at hn1
          simp only [Bool.false_eq_true, if_false, List.cons_ne_nil, false_or, List.head?_cons, Option.some.injEq] at hn1
          rw [← hdj] at hn1
          clear hJ hdj
          have hyb := y.toNat_lt
          have h59 : y = 59 ↔ y.toNat = 59 := by rw [← UInt8.toNat_inj]; rfl
          (conv => whnf); repeat ((first | refine tk1 ?_ | refine tk2 ?_ | refine tk3 ?_ | refine tk12 (fun _ => ?_) | refine tk4 ?_ | refine tk5 ?_ | refine tk6 ?_ | refine tk7 ?_ | refine tk8 ?_ | refine tk9 ?_ | refine tk10 (fun _ _ => ?_) | refine tk11 (fun _ => ?_) | refine tk13 ?_ | refine tk14 ?_); (conv => whnf))
          refine IdxS.at y (by simpa using hy) (by omega) ?_
          (conv => whnf); repeat ((first | refine tk1 ?_ | refine tk2 ?_ | refine tk3 ?_ | refine tk12 (fun _ => ?_) | refine tk4 ?_ | refine tk5 ?_ | refine tk6 ?_ | refine tk7 ?_ | refine tk8 ?_ | refine tk9 ?_ | refine tk10 (fun _ _ => ?_) | refine tk11 (fun _ => ?_) | refine tk13 ?_ | refine tk14 ?_); (conv => whnf))
          refine CallK.fn (Blank_r _) ?_
          rw [bl_is, hb]
          (conv => whnf); repeat ((first | refine tk1 ?_ | refine tk2 ?_ | refine tk3 ?_ | refine tk12 (fun _ => ?_) | refine tk4 ?_ | refine tk5 ?_ | refine tk6 ?_ | refine tk7 ?_ | refine tk8 ?_ | refine tk9 ?_ | refine tk10 (fun _ _ => ?_) | refine tk11 (fun _ => ?_) | refine tk13 ?_ | refine tk14 ?_); (conv => whnf))
          refine IdxS.at y (by simpa using hy) (by omega) ?_
          (conv => whnf); repeat ((first | refine tk1 ?_ | refine tk2 ?_ | refine tk3 ?_ | refine tk12 (fun _ => ?_) | refine tk4 ?_ | refine tk5 ?_ | refine tk6 ?_ | refine tk7 ?_ | refine tk8 ?_ | refine tk9 ?_ | refine tk10 (fun _ _ => ?_) | refine tk11 (fun _ => ?_) | refine tk13 ?_ | refine tk14 ?_); (conv => whnf))
          by_cases h5 : y.toNat = 59
          rotate_left
          · rw [if_neg (fun h => h5 (h59.1 h.1))] at hn1
            rw [hn1]
            (conv => whnf); repeat ((first | refine tk1 ?_ | refine tk2 ?_ | refine tk3 ?_ | refine tk12 (fun _ => ?_) | refine tk4 ?_ | refine tk5 ?_ | refine tk6 ?_ | refine tk7 ?_ | refine tk8 ?_ | refine tk9 ?_ | refine tk10 (fun _ _ => ?_) | refine tk11 (fun _ => ?_) | refine tk13 ?_ | refine tk14 ?_); (conv => whnf))
            try rfl
          have hn2 : numR s = if (s.drop j).all valB = true then N else -1 := by
            rw [hn1]
            by_cases hv : (s.drop j).all valB = true
            · rw [if_pos ⟨h59.2 h5, hv⟩, if_pos hv]
            · rw [if_neg (fun h => hv h.2), if_neg hv]
          clear hn1
          (conv => whnf); repeat ((first | refine tk1 ?_ | refine tk2 ?_ | refine tk3 ?_ | refine tk12 (fun _ => ?_) | refine tk4 ?_ | refine tk5 ?_ | refine tk6 ?_ | refine tk7 ?_ | refine tk8 ?_ | refine tk9 ?_ | refine tk10 (fun _ _ => ?_) | refine tk11 (fun _ => ?_) | refine tk13 ?_ | refine tk14 ?_); (conv => whnf))
          refine LoopS.lp tys_ok (fun (m : Nat) u => [str s, u 1, u 2, .int .i64 N, .int .i64 (m : Nat), u 5, u 6, u 7, u 8, u 9, u 10, u 11, u 12, u 13, u 14, u 15, u 16, u 17, u 18, u 19, u 20, u 21, u 22, u 23, u 24, u 25, u 26, u 27, u 28, u 29, u 30, u 31, u 32, u 33, u 34, u 35, u 36, u 37, u 38, u 39, u 40, u 41, u 42, u 43, u 44, u 45, u 46, u 47, u 48, u 49, u 50, u 51, u 52, u 53, u 54, u 55, u 56, u 57, u 58, u 59, u 60, u 61, u 62, u 63, u 64, u 65, u 66, u 67, u 68, u 69, u 70, u 71, u 72, u 73, u 74, u 75, u 76, u 77, u 78]) (fun _ => []) (fun m => m ≤ s.length ∧ (s.drop j).all valB = (s.drop m).all valB) (fun m => s.length - m) j ⟨hj, rfl⟩ rfl (by repeat' (first | exact List.Sublist.refl _ | exact List.nil_sublist _ | apply List.Sublist.cons_cons | apply List.Sublist.cons)) ?_
          rintro m u ⟨hm, hM⟩
          by_cases hlm : m < s.length
          · obtain ⟨z, hz⟩ : ∃ z, s[m]? = some z := ⟨_, List.getElem?_eq_getElem hlm⟩
            have hdm : s.drop m = z :: s.drop (m + 1) := by
              rw [List.drop_eq_getElem_cons hlm]
              rw [List.getElem?_eq_getElem hlm] at hz
              rw [Option.some.inj hz]
            rw [hdm, List.all_cons] at hM
            have hzb := z.toNat_lt
            have ht := valB_is z
            have bad : valB z = false → numR s = -1 := fun h => by rw [hn2, hM, h]; rfl
            have on : valB z = true → (s.drop j).all valB = (s.drop (m + 1)).all valB := fun h => by rw [hM, h]; rfl
            (conv => whnf); repeat ((first | refine tk1 ?_ | refine tk2 ?_ | refine tk3 ?_ | refine tk12 (fun _ => ?_) | refine tk4 ?_ | refine tk5 ?_ | refine tk6 ?_ | refine tk7 ?_ | refine tk8 ?_ | refine tk9 ?_ | refine tk10 (fun _ _ => ?_) | refine tk11 (fun _ => ?_) | refine tk13 ?_ | refine tk14 ?_); (conv => whnf))
            refine IdxS.at z (by simpa using hz) (by omega) ?_
            (conv => whnf); repeat ((first | refine tk1 ?_ | refine tk2 ?_ | refine tk3 ?_ | refine tk12 (fun _ => ?_) | refine tk4 ?_ | refine tk5 ?_ | refine tk6 ?_ | refine tk7 ?_ | refine tk8 ?_ | refine tk9 ?_ | refine tk10 (fun _ _ => ?_) | refine tk11 (fun _ => ?_) | refine tk13 ?_ | refine tk14 ?_); (conv => whnf))
            refine Cmp.cases (fun c1 => ?_) (fun c1 => ?_)
            · (conv => whnf); repeat ((first | refine tk1 ?_ | refine tk2 ?_ | refine tk3 ?_ | refine tk12 (fun _ => ?_) | refine tk4 ?_ | refine tk5 ?_ | refine tk6 ?_ | refine tk7 ?_ | refine tk8 ?_ | refine tk9 ?_ | refine tk10 (fun _ _ => ?_) | refine tk11 (fun _ => ?_) | refine tk13 ?_ | refine tk14 ?_); (conv => whnf))
              refine IdxS.at z (by simpa using hz) (by omega) ?_
              (conv => whnf); repeat ((first | refine tk1 ?_ | refine tk2 ?_ | refine tk3 ?_ | refine tk12 (fun _ => ?_) | refine tk4 ?_ | refine tk5 ?_ | refine tk6 ?_ | refine tk7 ?_ | refine tk8 ?_ | refine tk9 ?_ | refine tk10 (fun _ _ => ?_) | refine tk11 (fun _ => ?_) | refine tk13 ?_ | refine tk14 ?_); (conv => whnf))
              refine Cmp.cases (fun c2 => ?_) (fun c2 => ?_)
              · rw [bad (by rw [ht]; simp; omega)]
                (conv => whnf); repeat ((first | refine tk1 ?_ | refine tk2 ?_ | refine tk3 ?_ | refine tk12 (fun _ => ?_) | refine tk4 ?_ | refine tk5 ?_ | refine tk6 ?_ | refine tk7 ?_ | refine tk8 ?_ | refine tk9 ?_ | refine tk10 (fun _ _ => ?_) | refine tk11 (fun _ => ?_) | refine tk13 ?_ | refine tk14 ?_); (conv => whnf))
                try rfl
              · (conv => whnf); repeat ((first | refine tk1 ?_ | refine tk2 ?_ | refine tk3 ?_ | refine tk12 (fun _ => ?_) | refine tk4 ?_ | refine tk5 ?_ | refine tk6 ?_ | refine tk7 ?_ | refine tk8 ?_ | refine tk9 ?_ | refine tk10 (fun _ _ => ?_) | refine tk11 (fun _ => ?_) | refine tk13 ?_ | refine tk14 ?_); (conv => whnf))
                refine IdxS.at z (by simpa using hz) (by omega) ?_
                (conv => whnf); repeat ((first | refine tk1 ?_ | refine tk2 ?_ | refine tk3 ?_ | refine tk12 (fun _ => ?_) | refine tk4 ?_ | refine tk5 ?_ | refine tk6 ?_ | refine tk7 ?_ | refine tk8 ?_ | refine tk9 ?_ | refine tk10 (fun _ _ => ?_) | refine tk11 (fun _ => ?_) | refine tk13 ?_ | refine tk14 ?_); (conv => whnf))
                exact ⟨m + 1, ⟨by omega, on (by rw [ht]; simp; omega)⟩, rfl, (by repeat' (first | exact List.Sublist.refl _ | exact List.nil_sublist _ | apply List.Sublist.cons_cons | apply List.Sublist.cons)), by dsimp only; omega⟩
            · (conv => whnf); repeat ((first | refine tk1 ?_ | refine tk2 ?_ | refine tk3 ?_ | refine tk12 (fun _ => ?_) | refine tk4 ?_ | refine tk5 ?_ | refine tk6 ?_ | refine tk7 ?_ | refine tk8 ?_ | refine tk9 ?_ | refine tk10 (fun _ _ => ?_) | refine tk11 (fun _ => ?_) | refine tk13 ?_ | refine tk14 ?_); (conv => whnf))
              refine IdxS.at z (by simpa using hz) (by omega) ?_
              (conv => whnf); repeat ((first | refine tk1 ?_ | refine tk2 ?_ | refine tk3 ?_ | refine tk12 (fun _ => ?_) | refine tk4 ?_ | refine tk5 ?_ | refine tk6 ?_ | refine tk7 ?_ | refine tk8 ?_ | refine tk9 ?_ | refine tk10 (fun _ _ => ?_) | refine tk11 (fun _ => ?_) | refine tk13 ?_ | refine tk14 ?_); (conv => whnf))
              refine Cmp.cases (fun c2 => ?_) (fun c2 => ?_)
              · rw [bad (by rw [ht]; simp [c2])]
                (conv => whnf); repeat ((first | refine tk1 ?_ | refine tk2 ?_ | refine tk3 ?_ | refine tk12 (fun _ => ?_) | refine tk4 ?_ | refine tk5 ?_ | refine tk6 ?_ | refine tk7 ?_ | refine tk8 ?_ | refine tk9 ?_ | refine tk10 (fun _ _ => ?_) | refine tk11 (fun _ => ?_) | refine tk13 ?_ | refine tk14 ?_); (conv => whnf))
                try rfl
              · (conv => whnf); repeat ((first | refine tk1 ?_ | refine tk2 ?_ | refine tk3 ?_ | refine tk12 (fun _ => ?_) | refine tk4 ?_ | refine tk5 ?_ | refine tk6 ?_ | refine tk7 ?_ | refine tk8 ?_ | refine tk9 ?_ | refine tk10 (fun _ _ => ?_) | refine tk11 (fun _ => ?_) | refine tk13 ?_ | refine tk14 ?_); (conv => whnf))
                exact ⟨m + 1, ⟨by omega, on (by rw [ht]; simp; omega)⟩, rfl, (by repeat' (first | exact List.Sublist.refl _ | exact List.nil_sublist _ | apply List.Sublist.cons_cons | apply List.Sublist.cons)), by dsimp only; omega⟩
          · rw [List.drop_eq_nil_of_le (show s.length ≤ m by omega)] at hM
            rw [hn2, hM]
            simp only [List.all_nil, if_true]
            (conv => whnf); repeat ((first | refine tk1 ?_ | refine tk2 ?_ | refine tk3 ?_ | refine tk12 (fun _ => ?_) | refine tk4 ?_ | refine tk5 ?_ | refine tk6 ?_ | refine tk7 ?_ | refine tk8 ?_ | refine tk9 ?_ | refine tk10 (fun _ _ => ?_) | refine tk11 (fun _ => ?_) | refine tk13 ?_ | refine tk14 ?_); (conv => whnf))
            try rfl
        · (conv => whnf); repeat ((first | refine tk1 ?_ | refine tk2 ?_ | refine tk3 ?_ | refine tk12 (fun _ => ?_) | refine tk4 ?_ | refine tk5 ?_ | refine tk6 ?_ | refine tk7 ?_ | refine tk8 ?_ | refine tk9 ?_ | refine tk10 (fun _ _ => ?_) | refine tk11 (fun _ => ?_) | refine tk13 ?_ | refine tk14 ?_); (conv => whnf))
          refine IdxS.at y (by simpa using hy) (by omega) ?_
          (conv => whnf); repeat ((first | refine tk1 ?_ | refine tk2 ?_ | refine tk3 ?_ | refine tk12 (fun _ => ?_) | refine tk4 ?_ | refine tk5 ?_ | refine tk6 ?_ | refine tk7 ?_ | refine tk8 ?_ | refine tk9 ?_ | refine tk10 (fun _ _ => ?_) | refine tk11 (fun _ => ?_) | refine tk13 ?_ | refine tk14 ?_); (conv => whnf))
          refine CallK.fn (Blank_r _) ?_
          rw [bl_is, hb]
          (conv => whnf); repeat ((first | refine tk1 ?_ | refine tk2 ?_ | refine tk3 ?_ | refine tk12 (fun _ => ?_) | refine tk4 ?_ | refine tk5 ?_ | refine tk6 ?_ | refine tk7 ?_ | refine tk8 ?_ | refine tk9 ?_ | refine tk10 (fun _ _ => ?_) | refine tk11 (fun _ => ?_) | refine tk13 ?_ | refine tk14 ?_); (conv => whnf))
          exact ⟨j + 1, ⟨by omega, by rw [hJ, hdj, List.dropWhile_cons, hb]; rfl⟩, rfl, (by repeat' (first | exact List.Sublist.refl _ | exact List.nil_sublist _ | apply List.Sublist.cons_cons | apply List.Sublist.cons)), by dsimp only; omega⟩
      · rw [List.drop_eq_nil_of_le (show s.length ≤ j by omega)] at hn1
        rw [hn1, if_pos (.inl rfl)]
        (conv => whnf); repeat ((first | refine tk1 ?_ | refine tk2 ?_ | refine tk3 ?_ | refine tk12 (fun _ => ?_) | refine tk4 ?_ | refine tk5 ?_ | refine tk6 ?_ | refine tk7 ?_ | refine tk8 ?_ | refine tk9 ?_ | refine tk10 (fun _ _ => ?_) | refine tk11 (fun _ => ?_) | refine tk13 ?_ | refine tk14 ?_); (conv => whnf))
        try rfl
def hexL : List UInt8 := [48, 49, 50, 51, 52, 53, 54, 55, 56, 57, 97, 98, 99, 100, 101, 102]
theorem hexL_at : ∀ k : Nat, k < 16 → (hexL.take (k + 1)).drop k = [hxD k] := by decide +kernel
theorem DivS.rem64 {x m : Nat} {K : Value → Prop} (hm : 0 < m) (k : K (.int .i64 ((x % m : Nat) : Int))) : DivS .rem .i64 (x : Nat) (m : Nat) K := ⟨by omega, .inr ⟨rfl, _, (Int.ofNat_tmod x m), k⟩⟩
theorem DivS.quo64 {x m : Nat} {K : Value → Prop} (hm : 0 < m) (h : x < 1000000000000) (k : K (.int .i64 ((x / m : Nat) : Int))) : DivS .quo .i64 (x : Nat) (m : Nat) K := ⟨by omega, .inl ⟨rfl, _, by
  have e : ((x : Int).tdiv (m : Int)) = ((x / m : Nat) : Int) := (Int.ofNat_tdiv x m).symm
  have h2 : x / m ≤ x := Nat.div_le_self _ _
  rw [e]
  generalize x / m = q at *
  rw [IntKind.wrap]
  simp [IntKind.bits, IntKind.signed]
  omega, k⟩⟩
theorem hexL_cut (n : Nat) (K : Value → Prop) (k : K (str [hxD (n % 16)])) : SlcS hexL ((n % 16 : Nat) : Int) (((n % 16 : Nat) : Int) + 1) K :=
  SlcS.at (by omega) (by omega) (by show ((n % 16 : Nat) : Int) + 1 ≤ 16; omega) (by
    rw [show (((n % 16 : Nat) : Int) + 1).toNat = n % 16 + 1 by omega, Int.toNat_natCast, hexL_at _ (Nat.mod_lt _ (by decide))]
    exact k)
theorem hex_r : ∀ (f n : Nat), n < 16 ^ (f + 1) → n < 1000000000000 → f ≤ 1000 → Fn Tryz.prog gI 36 [.int .i64 n] (str (hxF f n))
  | 0, n, hf, hn, _ => by
    have h16 : n < 16 := by simpa using hf
    have e : hxF 0 n = [hxD (n % 16)] := rfl
    rw [e]
    refine Fn.of tys_ok Tryz.func36 rfl (by kernel_rfl) rfl rfl ?_; intro w hG
    (conv => whnf); repeat ((first | refine tk1 ?_ | refine tk2 ?_ | refine tk3 ?_ | refine tk12 (fun _ => ?_) | refine tk4 ?_ | refine tk5 ?_ | refine tk6 ?_ | refine tk7 ?_ | refine tk8 ?_ | refine tk9 ?_ | refine tk10 (fun _ _ => ?_) | refine tk11 (fun _ => ?_) | refine tk13 ?_ | refine tk14 ?_); (conv => whnf))
    refine DivS.rem64 (m := 16) (by decide) ?_
    (conv => whnf); repeat ((first | refine tk1 ?_ | refine tk2 ?_ | refine tk3 ?_ | refine tk12 (fun _ => ?_) | refine tk4 ?_ | refine tk5 ?_ | refine tk6 ?_ | refine tk7 ?_ | refine tk8 ?_ | refine tk9 ?_ | refine tk10 (fun _ _ => ?_) | refine tk11 (fun _ => ?_) | refine tk13 ?_ | refine tk14 ?_); (conv => whnf))
    refine DivS.rem64 (m := 16) (by decide) ?_
    (conv => whnf); repeat ((first | refine tk1 ?_ | refine tk2 ?_ | refine tk3 ?_ | refine tk12 (fun _ => ?_) | refine tk4 ?_ | refine tk5 ?_ | refine tk6 ?_ | refine tk7 ?_ | refine tk8 ?_ | refine tk9 ?_ | refine tk10 (fun _ _ => ?_) | refine tk11 (fun _ => ?_) | refine tk13 ?_ | refine tk14 ?_); (conv => whnf))
    refine hexL_cut n _ ?_
    (conv => whnf); repeat ((first | refine tk1 ?_ | refine tk2 ?_ | refine tk3 ?_ | refine tk12 (fun _ => ?_) | refine tk4 ?_ | refine tk5 ?_ | refine tk6 ?_ | refine tk7 ?_ | refine tk8 ?_ | refine tk9 ?_ | refine tk10 (fun _ _ => ?_) | refine tk11 (fun _ => ?_) | refine tk13 ?_ | refine tk14 ?_); (conv => whnf))
    try rfl
  | f + 1, n, hf, hn, hf1 => by
    have ih := hex_r f (n / 16) (by rw [Nat.pow_succ] at hf; omega) (by omega) (by omega)
    have hlong := hxF_long f f (n / 16) (by rw [Nat.pow_succ] at hf; omega)
    have e : hxF (f + 1) n = if n < 16 then [hxD n] else hxF f (n / 16) ++ [hxD (n % 16)] := rfl
    rw [e]
    refine Fn.of tys_ok Tryz.func36 rfl (by kernel_rfl) rfl rfl ?_; intro w hG
    by_cases h16 : n < 16
    · rw [if_pos h16, show hxD n = hxD (n % 16) by rw [Nat.mod_eq_of_lt h16]]
      (conv => whnf); repeat ((first | refine tk1 ?_ | refine tk2 ?_ | refine tk3 ?_ | refine tk12 (fun _ => ?_) | refine tk4 ?_ | refine tk5 ?_ | refine tk6 ?_ | refine tk7 ?_ | refine tk8 ?_ | refine tk9 ?_ | refine tk10 (fun _ _ => ?_) | refine tk11 (fun _ => ?_) | refine tk13 ?_ | refine tk14 ?_); (conv => whnf))
      refine DivS.rem64 (m := 16) (by decide) ?_
      (conv => whnf); repeat ((first | refine tk1 ?_ | refine tk2 ?_ | refine tk3 ?_ | refine tk12 (fun _ => ?_) | refine tk4 ?_ | refine tk5 ?_ | refine tk6 ?_ | refine tk7 ?_ | refine tk8 ?_ | refine tk9 ?_ | refine tk10 (fun _ _ => ?_) | refine tk11 (fun _ => ?_) | refine tk13 ?_ | refine tk14 ?_); (conv => whnf))
      refine DivS.rem64 (m := 16) (by decide) ?_
      (conv => whnf); repeat ((first | refine tk1 ?_ | refine tk2 ?_ | refine tk3 ?_ | refine tk12 (fun _ => ?_) | refine tk4 ?_ | refine tk5 ?_ | refine tk6 ?_ | refine tk7 ?_ | refine tk8 ?_ | refine tk9 ?_ | refine tk10 (fun _ _ => ?_) | refine tk11 (fun _ => ?_) | refine tk13 ?_ | refine tk14 ?_); (conv => whnf))
      refine hexL_cut n _ ?_
      (conv => whnf); repeat ((first | refine tk1 ?_ | refine tk2 ?_ | refine tk3 ?_ | refine tk12 (fun _ => ?_) | refine tk4 ?_ | refine tk5 ?_ | refine tk6 ?_ | refine tk7 ?_ | refine tk8 ?_ | refine tk9 ?_ | refine tk10 (fun _ _ => ?_) | refine tk11 (fun _ => ?_) | refine tk13 ?_ | refine tk14 ?_); (conv => whnf))
      try rfl
    · rw [if_neg h16]
      (conv => whnf); repeat ((first | refine tk1 ?_ | refine tk2 ?_ | refine tk3 ?_ | refine tk12 (fun _ => ?_) | refine tk4 ?_ | refine tk5 ?_ | refine tk6 ?_ | refine tk7 ?_ | refine tk8 ?_ | refine tk9 ?_ | refine tk10 (fun _ _ => ?_) | refine tk11 (fun _ => ?_) | refine tk13 ?_ | refine tk14 ?_); (conv => whnf))
      refine DivS.rem64 (m := 16) (by decide) ?_
      (conv => whnf); repeat ((first | refine tk1 ?_ | refine tk2 ?_ | refine tk3 ?_ | refine tk12 (fun _ => ?_) | refine tk4 ?_ | refine tk5 ?_ | refine tk6 ?_ | refine tk7 ?_ | refine tk8 ?_ | refine tk9 ?_ | refine tk10 (fun _ _ => ?_) | refine tk11 (fun _ => ?_) | refine tk13 ?_ | refine tk14 ?_); (conv => whnf))
      refine DivS.rem64 (m := 16) (by decide) ?_
      (conv => whnf); repeat ((first | refine tk1 ?_ | refine tk2 ?_ | refine tk3 ?_ | refine tk12 (fun _ => ?_) | refine tk4 ?_ | refine tk5 ?_ | refine tk6 ?_ | refine tk7 ?_ | refine tk8 ?_ | refine tk9 ?_ | refine tk10 (fun _ _ => ?_) | refine tk11 (fun _ => ?_) | refine tk13 ?_ | refine tk14 ?_); (conv => whnf))
      refine hexL_cut n _ ?_
      (conv => whnf); repeat ((first | refine tk1 ?_ | refine tk2 ?_ | refine tk3 ?_ | refine tk12 (fun _ => ?_) | refine tk4 ?_ | refine tk5 ?_ | refine tk6 ?_ | refine tk7 ?_ | refine tk8 ?_ | refine tk9 ?_ | refine tk10 (fun _ _ => ?_) | refine tk11 (fun _ => ?_) | refine tk13 ?_ | refine tk14 ?_); (conv => whnf))
      refine DivS.quo64 (m := 16) (by decide) hn ?_
      (conv => whnf); repeat ((first | refine tk1 ?_ | refine tk2 ?_ | refine tk3 ?_ | refine tk12 (fun _ => ?_) | refine tk4 ?_ | refine tk5 ?_ | refine tk6 ?_ | refine tk7 ?_ | refine tk8 ?_ | refine tk9 ?_ | refine tk10 (fun _ _ => ?_) | refine tk11 (fun _ => ?_) | refine tk13 ?_ | refine tk14 ?_); (conv => whnf))
      refine CallK.fn ih ?_
      (conv => whnf); repeat ((first | refine tk1 ?_ | refine tk2 ?_ | refine tk3 ?_ | refine tk12 (fun _ => ?_) | refine tk4 ?_ | refine tk5 ?_ | refine tk6 ?_ | refine tk7 ?_ | refine tk8 ?_ | refine tk9 ?_ | refine tk10 (fun _ _ => ?_) | refine tk11 (fun _ => ?_) | refine tk13 ?_ | refine tk14 ?_); (conv => whnf))
      refine CatS.at (by simp; omega) ?_
      (conv => whnf); repeat ((first | refine tk1 ?_ | refine tk2 ?_ | refine tk3 ?_ | refine tk12 (fun _ => ?_) | refine tk4 ?_ | refine tk5 ?_ | refine tk6 ?_ | refine tk7 ?_ | refine tk8 ?_ | refine tk9 ?_ | refine tk10 (fun _ _ => ?_) | refine tk11 (fun _ => ?_) | refine tk13 ?_ | refine tk14 ?_); (conv => whnf))
      try rfl
theorem RLast_f : FnS Tryz.prog gI 14 [] [] 5 1 5 (lastC.map byteV) := by
  refine FnE.of tys_ok Tryz.func14 rfl (by kernel_rfl) rfl rfl ?_; intro w hG hP
  (conv => whnf); repeat ((first | refine tk1 ?_ | refine tk2 ?_ | refine tk3 ?_ | refine tk12 (fun _ => ?_) | refine tk4 ?_ | refine tk5 ?_ | refine tk6 ?_ | refine tk7 ?_ | refine tk8 ?_ | refine tk9 ?_ | refine tk10 (fun _ _ => ?_) | refine tk11 (fun _ => ?_) | refine tk13 ?_ | refine tk14 ?_); (conv => whnf))
  exact rowPost.of (by simp [lastC, byteV])
theorem Wrapped_f (A : Option Addr) (cp : Nat) (b : List UInt8) (hb : b.length ≤ 1000000000) : FnS Tryz.prog gI 26 [.slice A b.length cp] [(A, b.map byteV)] 5 1 (wrapG b).length ((wrapG b).map byteV) := by
  have hh := hex_r (gI := gI) 16 b.length (by omega) (by omega) (by omega)
  have hl : (hxF 16 b.length).length ≤ 8 := hxF_long 16 7 b.length (by omega)
  refine FnE.of tys_ok Tryz.func26 rfl (by kernel_rfl) rfl rfl ?_; intro w hG hP
  have hA : ∀ H, RdA (mkC Tryz.prog gI w hG) H A (b.map byteV) := fun H => ⟨hP.1.now⟩
  clear hP
  by_cases h0 : b.length = 0
  · obtain rfl : b = [] := List.eq_nil_of_length_eq_zero h0
    (conv => whnf); repeat ((first | refine tk1 ?_ | refine tk2 ?_ | refine tk3 ?_ | refine tk12 (fun _ => ?_) | refine tk4 ?_ | refine tk5 ?_ | refine tk6 ?_ | refine tk7 ?_ | refine tk8 ?_ | refine tk9 ?_ | refine tk10 (fun _ _ => ?_) | refine tk11 (fun _ => ?_) | refine tk13 ?_ | refine tk14 ?_); (conv => whnf))
    exact rowPost.nil _ _
  have hw : wrapG b = (hxF 16 b.length ++ [13, 10]) ++ b ++ [13, 10] := by unfold wrapG hxS; rw [if_neg (fun e => h0 (by rw [e]; rfl))]
  rw [hw]
  generalize hxF 16 b.length = hx at *
  have hl2 : (hx ++ [13, 10]).length ≤ 10 := by rw [List.length_append]; simp only [List.length_cons, List.length_nil]; omega
  (conv => whnf); repeat ((first | refine tk1 ?_ | refine tk2 ?_ | refine tk3 ?_ | refine tk12 (fun _ => ?_) | refine tk4 ?_ | refine tk5 ?_ | refine tk6 ?_ | refine tk7 ?_ | refine tk8 ?_ | refine tk9 ?_ | refine tk10 (fun _ _ => ?_) | refine tk11 (fun _ => ?_) | refine tk13 ?_ | refine tk14 ?_); (conv => whnf))
  refine CallK.fn hh ?_
  (conv => whnf); repeat ((first | refine tk1 ?_ | refine tk2 ?_ | refine tk3 ?_ | refine tk12 (fun _ => ?_) | refine tk4 ?_ | refine tk5 ?_ | refine tk6 ?_ | refine tk7 ?_ | refine tk8 ?_ | refine tk9 ?_ | refine tk10 (fun _ _ => ?_) | refine tk11 (fun _ => ?_) | refine tk13 ?_ | refine tk14 ?_); (conv => whnf))
  refine CatS.at (by simp; omega) ?_
  (conv => whnf); repeat ((first | refine tk1 ?_ | refine tk2 ?_ | refine tk3 ?_ | refine tk12 (fun _ => ?_) | refine tk4 ?_ | refine tk5 ?_ | refine tk6 ?_ | refine tk7 ?_ | refine tk8 ?_ | refine tk9 ?_ | refine tk10 (fun _ _ => ?_) | refine tk11 (fun _ => ?_) | refine tk13 ?_ | refine tk14 ?_); (conv => whnf))
  refine AppS.tc (m := b.length) (news := b.map byteV) (SrcK.rd (hA _).ok) (by simp) (bytes_one _) (by decide) (by omega) (by omega) (zs := ((hx ++ [13, 10]) ++ b).map byteV) List.map_append.symm (fun B2 c2 => ?_)
  rw [← List.length_append]
  have h4 : (hx ++ [13, 10] ++ b).length + 2 = (hx ++ [13, 10] ++ b ++ [13, 10]).length := by simp; omega
  have hl3 : (hx ++ [13, 10] ++ b).length ≤ 10 + b.length := by rw [List.length_append]; omega
  (conv => whnf); repeat ((first | refine tk1 ?_ | refine tk2 ?_ | refine tk3 ?_ | refine tk12 (fun _ => ?_) | refine tk4 ?_ | refine tk5 ?_ | refine tk6 ?_ | refine tk7 ?_ | refine tk8 ?_ | refine tk9 ?_ | refine tk10 (fun _ _ => ?_) | refine tk11 (fun _ => ?_) | refine tk13 ?_ | refine tk14 ?_); (conv => whnf))
  refine AppS.tc (m := 2) (news := ([13, 10] : List UInt8).map byteV) SrcK.tc (by simp) (bytes_one _) (by decide) (by omega) (by omega) (zs := (hx ++ [13, 10] ++ b ++ [13, 10]).map byteV) List.map_append.symm (fun B3 c3 => ?_)
  rw [h4]
  (conv => whnf); repeat ((first | refine tk1 ?_ | refine tk2 ?_ | refine tk3 ?_ | refine tk12 (fun _ => ?_) | refine tk4 ?_ | refine tk5 ?_ | refine tk6 ?_ | refine tk7 ?_ | refine tk8 ?_ | refine tk9 ?_ | refine tk10 (fun _ _ => ?_) | refine tk11 (fun _ => ?_) | refine tk13 ?_ | refine tk14 ?_); (conv => whnf))
  exact rowPost.of (by simp)
end Go.Proofs.YtbgnogdlkmhnkaaGreatDoor.Vex
/- unicode/utf8.DecodeRune at every slice of bytes: the kit's contract over its own names, laid at this seat by hand; the two tables it reads. -/
namespace Go.Proofs.YtbgnogdlkmhnkaaGreatDoor.Vex
open Go Go.RowKit Go.ChangeShapes

def decRen : Go.Shelf.Ren := ⟨fun | 32 => 55 | 49 => 83 | n => n, fun | 0 => 0 | 3 => 3 | 4 => 4 | 5 => 5 | 21 => 21 | 25 => 104 | 30 => 22 | 33 => 95 | 66 => 132 | 68 => 134 | 69 => 135 | n => n, fun | 2 => 2 | 3 => 3 | n => n⟩
theorem decLays : Go.Proofs.Lays7.n32 Tryz.prog decRen := {
  mixed := by kernel_rfl
  f32 := Tryz.func55.trans (congrArg some (by kernel_rfl))
  f49 := Tryz.func83.trans (congrArg some (by kernel_rfl))
  t0 := Tryz.underlying0
  a0 := Tryz.isAgg0
  z0 := Tryz.sizeOf0
  v0 := Tryz.zeroValue0
  i0 := by kernel_rfl
  t3 := Tryz.underlying3
  a3 := Tryz.isAgg3
  z3 := Tryz.sizeOf3
  v3 := Tryz.zeroValue3
  i3 := by kernel_rfl
  t4 := Tryz.underlying4
  a4 := Tryz.isAgg4
  z4 := Tryz.sizeOf4
  v4 := Tryz.zeroValue4
  i4 := by kernel_rfl
  t5 := Tryz.underlying5
  a5 := Tryz.isAgg5
  z5 := Tryz.sizeOf5
  v5 := Tryz.zeroValue5
  i5 := by kernel_rfl
  t21 := Tryz.underlying21
  a21 := Tryz.isAgg21
  z21 := Tryz.sizeOf21
  v21 := Tryz.zeroValue21
  i21 := by kernel_rfl
  t25 := Tryz.underlying104
  a25 := Tryz.isAgg104
  z25 := Tryz.sizeOf104
  v25 := Tryz.zeroValue104
  i25 := by kernel_rfl
  t30 := Tryz.underlying22
  a30 := Tryz.isAgg22
  z30 := Tryz.sizeOf22
  v30 := Tryz.zeroValue22
  i30 := by kernel_rfl
  t33 := Tryz.underlying95
  a33 := Tryz.isAgg95
  z33 := Tryz.sizeOf95
  v33 := Tryz.zeroValue95
  i33 := by kernel_rfl
  t66 := Tryz.underlying132
  a66 := Tryz.isAgg132
  z66 := Tryz.sizeOf132
  t68 := Tryz.underlying134
  a68 := Tryz.isAgg134
  z68 := Tryz.sizeOf134
  v68 := Tryz.zeroValue134
  i68 := by kernel_rfl
  t69 := Tryz.underlying135
  a69 := Tryz.isAgg135
  z69 := Tryz.sizeOf135
  v69 := Tryz.zeroValue135
  i69 := by kernel_rfl
  g2 := by kernel_rfl
  g3 := by kernel_rfl }
/-- The two tables. -/
class HasUtf (g : GI) : Prop where
  ok : ∀ w, g.G w → Lib.Utf8Tabs 2 3 w
def gU : GI where
  n := max gP.n (max (2 + 1) (3 + 1))
  G w := gP.G w ∧ Lib.Utf8Tabs 2 3 w
  keep w w' h := fun ⟨h1, h2⟩ => ⟨gP.keep w w' (fun k hk => h k (Nat.lt_of_lt_of_le hk (Nat.le_max_left _ _))) h1,
    fun c hc => (World.cell?_of_block (h 2 (by omega))).trans (h2.1 c hc),
    fun i hi => ⟨(World.cell?_of_block (h 3 (by omega))).trans (h2.2 i hi).1, (World.cell?_of_block (h 3 (by omega))).trans (h2.2 i hi).2⟩⟩
  size w := fun ⟨h1, h2⟩ => Nat.max_le.2 ⟨gP.size w h1, Nat.max_le.2 ⟨World.block_lt_of_cell? _ _ (h2.1 0 (by decide)), World.block_lt_of_cell? _ _ (h2.2 0 (by decide)).1⟩⟩
instance : HasMax gU := ⟨fun _ h => h.1.1.1⟩
instance : HasErr gU := ⟨fun _ h => h.1.1.2⟩
instance : HasPow gU := ⟨fun _ h => h.1.2⟩
instance : HasUtf gU := ⟨fun _ h => h.2⟩
def u8Ren : Go.Shelf.Ren := ⟨fun n => n, fun | 5 => 5 | 119 => 132 | 138 => 134 | 139 => 135 | n => n, fun | 3 => 2 | 4 => 3 | n => n⟩
theorem u8Types : U8Types Tryz.prog u8Ren := ⟨Tryz.underlying5, Tryz.underlying132, Tryz.underlying134, Tryz.underlying135⟩
theorem u8Extra : U8Extra Tryz.prog u8Ren := ⟨by kernel_rfl, by kernel_rfl, by kernel_rfl, by kernel_rfl, by kernel_rfl, by kernel_rfl, by kernel_rfl⟩
theorem gU_of {l : List (String × DataW Unit)} {W : World} (hL : laidMetH Tryz.prog l W) (hS : W.ShapedOpen Tryz.prog) (hp : (l.all fun x => x.2.handleName?.isNone) = true)
    (h1 : ("strconv.ErrSyntax", Rows.laid_strconv_ErrSyntax) ∈ l) (h2 : ("strconv.ErrRange", Rows.laid_strconv_ErrRange) ∈ l) (h3 : ("internal/strconv.uint64pow10", Rows.laid_internal_strconv_uint64pow10) ∈ l)
    (h4 : ("unicode/utf8.first", Rows.laid_unicode_utf8_first) ∈ l) (h5 : ("unicode/utf8.acceptRanges", Rows.laid_unicode_utf8_acceptRanges) ∈ l) : gU.G W := by
  have e4 : (Rows.laid_unicode_utf8_first : DataW Unit) = Lib.firstData := by kernel_rfl
  have e5 : (Rows.laid_unicode_utf8_acceptRanges : DataW Unit) = Lib.acceptData := by kernel_rfl
  rw [e4] at h4
  rw [e5] at h5
  exact ⟨gP_of hL hS hp h1 h2 h3, utf8Tabs_of_readsT u8Types u8Extra (reads_of hL hp h4) (reads_of hL hp h5)⟩
set_option linter.unusedSectionVars false
variable {gI : GI} [HasUtf gI]
theorem DecodeRune_f (A : Option Addr) (cp : Nat) (l : List UInt8) (h0 : 0 < l.length) : FnR Tryz.prog gI 55 [.slice A l.length cp] [(A, l.map byteV)] (.tuple #[.int .i32 (Lib.decodeGo ⟨⟨l⟩⟩).1, .int .i64 (Lib.decodeGo ⟨⟨l⟩⟩).2]) :=
  ⟨callable Tryz.func55 rfl (by kernel_rfl), fun w hG ⟨hr, _⟩ => by
    obtain ⟨x, r, rfl⟩ : ∃ x r, l = x :: r := by
      cases l with
      | nil => cases h0
      | cons x r => exact ⟨x, r, rfl⟩
    obtain ⟨b, o, rfl, hb⟩ := rdw_addr (show Rdw w A (byteV x :: r.map byteV) from hr)
    refine (Any7.utf8_DecodeRune decLays ⟨⟨x :: r⟩⟩ b o cp w (HasUtf.ok w hG) (fun j hj => ?_)).mono fun _ w' ⟨he, hw⟩ => ⟨_, he, rfl, hw⟩
    have hj' : j < (x :: r).length := hj
    obtain ⟨a, ha, hc⟩ := hr j (byteV (x :: r)[j]) (by rw [List.getElem?_map, List.getElem?_eq_getElem hj']; rfl)
    cases ha
    rw [Addr.add_lit] at hc
    rw [hc]
    have e : ((⟨⟨x :: r⟩⟩ : ByteArray).get! j) = (x :: r)[j] := by
      show (⟨x :: r⟩ : Array UInt8)[j]! = _
      rw [getElem!_pos _ _ (by exact hj')]
      rfl
    rw [e]
    rfl⟩
end Go.Proofs.YtbgnogdlkmhnkaaGreatDoor.Vex
/- A rune beyond ASCII, decoded: plain facts. No program in sight. -/
namespace Go.Proofs.YtbgnogdlkmhnkaaGreatDoor.Vex
open Go

theorem enc_size (r : Nat) (h : 128 ≤ r) : (r < 2048 → (Utf8.encode (r : Int)).size = 2) ∧ (2048 ≤ r → r < 65536 → (r < 55296 ∨ 57344 ≤ r) → (Utf8.encode (r : Int)).size = 3) ∧ (65536 ≤ r → r ≤ 1114111 → (Utf8.encode (r : Int)).size = 4) := by
  refine ⟨fun h1 => ?_, fun h1 h2 h3 => ?_, fun h1 h2 => ?_⟩
  · have hv : Utf8.valid (r : Int) = true := by unfold Utf8.valid; simp; omega
    unfold Utf8.encode
    simp only [hv, if_true, Int.toNat_natCast]
    rw [if_neg (by omega), if_pos (by omega)]
    rfl
  · have hv : Utf8.valid (r : Int) = true := by unfold Utf8.valid; simp; omega
    unfold Utf8.encode
    simp only [hv, if_true, Int.toNat_natCast]
    rw [if_neg (by omega), if_neg (by omega), if_pos (by omega)]
    rfl
  · have hv : Utf8.valid (r : Int) = true := by unfold Utf8.valid; simp; omega
    unfold Utf8.encode
    simp only [hv, if_true, Int.toNat_natCast]
    rw [if_neg (by omega), if_neg (by omega), if_neg (by omega)]
    rfl
/-- What a text's first rune is, where its first byte is no ASCII: all its bytes are none. -/
theorem dec_high (l : List UInt8) (h0 : 0 < l.length) (hx : 128 ≤ l[0].toNat) : ∃ r w, Lib.decodeGo ⟨⟨l⟩⟩ = (r, w) ∧ 1 ≤ w ∧ w ≤ l.length ∧ (∀ j (hj : j < l.length), j < w → 128 ≤ l[j].toNat) ∧
    r ≤ 1114111 ∧ (r = 65533 ∨ (r ≠ 65533 ∧ 128 ≤ r ∧ 2 ≤ w ∧ (Utf8.encode (r : Int)).size = w ∧ (w = 2 → r < 2048))) := by
  have g : ∀ j (hj : j < l.length), ((⟨⟨l⟩⟩ : ByteArray).get! j).toNat = l[j].toNat := fun j hj => by
    show ((⟨l⟩ : Array UInt8)[j]!).toNat = _
    rw [getElem!_pos _ _ (by exact hj)]
    rfl
  have hs : (⟨⟨l⟩⟩ : ByteArray).size = l.length := rfl
  unfold Lib.decodeGo
  rw [hs, if_neg (by omega), Lib.decode_at, hs]
  have g0 := g 0 h0
  rw [← g0] at hx
  generalize hb0 : ((⟨⟨l⟩⟩ : ByteArray).get! 0).toNat = b0 at *
  have g1 := fun h => g 1 h
  have g2 := fun h => g 2 h
  have g3 := fun h => g 3 h
  rw [show 0 + 1 = 1 from rfl, show 0 + 2 = 2 from rfl, show 0 + 3 = 3 from rfl]
  generalize hb1 : ((⟨⟨l⟩⟩ : ByteArray).get! 1).toNat = b1 at *
  generalize hb2 : ((⟨⟨l⟩⟩ : ByteArray).get! 2).toNat = b2 at *
  generalize hb3 : ((⟨⟨l⟩⟩ : ByteArray).get! 3).toNat = b3 at *
  have one : ∃ r w, ((65533 : Nat), (1 : Nat)) = (r, w) ∧ 1 ≤ w ∧ w ≤ l.length ∧ (∀ j (hj : j < l.length), j < w → 128 ≤ l[j].toNat) ∧ r ≤ 1114111 ∧ (r = 65533 ∨ (r ≠ 65533 ∧ 128 ≤ r ∧ 2 ≤ w ∧ (Utf8.encode (r : Int)).size = w ∧ (w = 2 → r < 2048))) :=
    ⟨_, _, rfl, Nat.le_refl _, h0, fun j hj h => by
      obtain rfl : j = 0 := by omega
      rw [← g0]; exact hx, by omega, .inl rfl⟩
  unfold Lib.decodeN
  rw [if_neg (by omega)]
  split
  · rename_i h
    split
    · rename_i hc
      have e := enc_size (b0 % 32 * 64 + b1 % 64) hc
      refine ⟨_, _, rfl, by omega, by omega, fun j hj hw => ?_, by omega, ?_⟩
      · have : j = 0 ∨ j = 1 := by omega
        rcases this with rfl | rfl
        · rw [← g0]; exact hx
        · rw [← g1 hj]; omega
      · exact .inr ⟨by omega, hc, by omega, e.1 (by omega), fun _ => by omega⟩
    · exact one
  split
  · rename_i h
    split
    · rename_i hc
      have e := enc_size (b0 % 16 * 4096 + b1 % 64 * 64 + b2 % 64) (by omega)
      refine ⟨_, _, rfl, by omega, by omega, fun j hj hw => ?_, by omega, ?_⟩
      · have : j = 0 ∨ j = 1 ∨ j = 2 := by omega
        rcases this with rfl | rfl | rfl
        · rw [← g0]; exact hx
        · rw [← g1 hj]; omega
        · rw [← g2 hj]; omega
      · by_cases h5 : b0 % 16 * 4096 + b1 % 64 * 64 + b2 % 64 = 65533
        · exact .inl h5
        · exact .inr ⟨h5, by omega, by omega, e.2.1 (by omega) (by omega) (by omega), fun h => by omega⟩
    · exact one
  split
  · rename_i h
    split
    · rename_i hc
      have e := enc_size (b0 % 8 * 262144 + b1 % 64 * 4096 + b2 % 64 * 64 + b3 % 64) (by omega)
      refine ⟨_, _, rfl, by omega, by omega, fun j hj hw => ?_, by omega, ?_⟩
      · have : j = 0 ∨ j = 1 ∨ j = 2 ∨ j = 3 := by omega
        rcases this with rfl | rfl | rfl | rfl
        · rw [← g0]; exact hx
        · rw [← g1 hj]; omega
        · rw [← g2 hj]; omega
        · rw [← g3 hj]; omega
      · exact .inr ⟨by omega, by omega, by omega, e.2.2 (by omega) (by omega), fun h => by omega⟩
    · exact one
  exact one
/-- No rune beyond ASCII begins as 13, 10 does. -/
theorem enc_ne (r : Nat) (h : 128 ≤ r) (hr : r < 2048) : ¬ ([13, 10] : List UInt8) = (Utf8.encode (r : Int)).data.toList := by
  have hv : Utf8.valid (r : Int) = true := by unfold Utf8.valid; simp; omega
  unfold Utf8.encode
  simp only [hv, if_true, Int.toNat_natCast]
  rw [if_neg (by omega), if_pos (by omega)]
  intro e
  have e1 := (List.cons.inj e).1
  have := congrArg UInt8.toNat e1
  rw [show (13 : UInt8).toNat = 13 from rfl, UInt8.toNat_ofNat'] at this
  omega
end Go.Proofs.YtbgnogdlkmhnkaaGreatDoor.Vex
/- bytes.IndexAny with 13 and 10, at any bytes, reckoned. -/
namespace Go.Proofs.YtbgnogdlkmhnkaaGreatDoor.Vex
open Go Go.RowKit
set_option maxRecDepth 100000
set_option linter.unusedSectionVars false
variable {gI : GI} [HasMax gI] [HasUtf gI]

theorem noEnd_iff (l : List UInt8) : noEnd l = true ↔ ∀ j (hj : j < l.length), l[j].toNat ≠ 10 ∧ l[j].toNat ≠ 13 := by
  have e : ∀ x : UInt8, (!(x == 10) && !(x == 13)) = true ↔ x.toNat ≠ 10 ∧ x.toNat ≠ 13 := fun x => by
    rw [Bool.and_eq_true, Bool.not_eq_true', Bool.not_eq_true', beq_eq_false_iff_ne, beq_eq_false_iff_ne, ne_eq, ne_eq, ne_eq, ne_eq, ← UInt8.toNat_inj, ← UInt8.toNat_inj]
    rfl
  unfold noEnd
  rw [List.all_eq_true]
  constructor
  · intro h j hj
    exact (e _).1 (h _ (List.getElem_mem hj))
  · intro h x hx
    obtain ⟨j, hj, rfl⟩ := List.mem_iff_getElem.1 hx
    exact (e _).2 (h j hj)
theorem noEnd_no {l : List UInt8} {k : Nat} (hk : k < l.length) (h : l[k].toNat = 10 ∨ l[k].toNat = 13) : noEnd l = false := by
  cases hn : noEnd l with
  | false => rfl
  | true => have := (noEnd_iff l).1 hn k hk; omega
theorem noEnd_one (x : UInt8) (h : x.toNat ≠ 10) (h' : x.toNat ≠ 13) : noEnd [x] = true := (noEnd_iff [x]).2 fun j hj => by
  obtain rfl : j = 0 := by simpa using hj
  exact ⟨h, h'⟩
theorem idx_crlf (x : UInt8) : 0 ≤ Lib.indexByte [13, 10] x ↔ x.toNat = 10 ∨ x.toNat = 13 := by
  rw [idx_in, List.mem_cons, List.mem_singleton, ← UInt8.toNat_inj, ← UInt8.toNat_inj]
  exact Or.comm
theorem ibs_k {c : Ctx} {m : Bool} {H : Hp} {K : Value → Hp → Prop} (hc : c.P = Tryz.prog) (l : List UInt8) (x : UInt8) (k : K (.int .i64 (Lib.indexByte l x)) H) : CallK c m 50 [str l, .int .u8 x.toNat] H K :=
  CallK.ext (fun w _ => by
    rw [hc]
    refine run_ext Tryz.func50 (by kernel_rfl) (by kernel_rfl) (by kernel_rfl) (e := Extern.BytealgIndexByte.indexByte) (by kernel_rfl) ?_
    have := Lib.run_indexByteString (P := Tryz.prog) ⟨⟨l⟩⟩ x.toNat w
    have hx : (((x.toNat : Nat) : Int).toNat.toUInt8) = x := by simp
    rw [hx] at this
    exact this) k
theorem index_long : ∀ (a b : List UInt8), a.length < b.length → Lib.index a b = -1
  | [], b, h => by
    cases b with
    | nil => cases h
    | cons y r => rfl
  | x :: a, b, h => by
    have ih := index_long a b (by simp at h; omega)
    unfold Lib.index
    rw [ih]
    have : b.isPrefixOf (x :: a) = false := by
      cases hp : b.isPrefixOf (x :: a) with
      | false => rfl
      | true =>
        have := (List.isPrefixOf_iff_prefix.1 hp).length_le
        omega
    rw [this]
    rfl
theorem is_k {c : Ctx} {m : Bool} {H : Hp} {K : Value → Hp → Prop} (hc : c.P = Tryz.prog) {mx : Int} (hm : c.w0.cell? ⟨0, 0, none⟩ = some (.int .i64 mx)) (hM : c.M = []) (a b : List UInt8) (h2 : 2 ≤ b.length) (hb : (b.length : Int) ≤ mx) (ha : a.length < 4294967281)
    (k : K (.int .i64 (Lib.index a b)) H) : CallK c m 56 [str a, str b] H K :=
  CallK.ext' (fun w hw => by
    rw [hc]
    refine run_ext Tryz.func56 (by kernel_rfl) (by kernel_rfl) (by kernel_rfl) (e := Extern.BytealgIndex.index) (by kernel_rfl) ?_
    exact Lib.run_indexString (P := Tryz.prog) ⟨⟨a⟩⟩ ⟨⟨b⟩⟩ w 0 mx (by kernel_rfl) (hw.old hm (by rw [hM]; simp)) h2 hb ha) k
theorem useSet_f (n : Int) : Fn Tryz.prog gI 52 [.int .i64 n] (.bool (decide (8 < n))) := by
  refine Fn.of tys_ok Tryz.func52 rfl (by kernel_rfl) rfl rfl ?_; intro w hG
  (conv => whnf); repeat ((first | refine tk1 ?_ | refine tk2 ?_ | refine tk3 ?_ | refine tk12 (fun _ => ?_) | refine tk4 ?_ | refine tk5 ?_ | refine tk6 ?_ | refine tk7 ?_ | refine tk8 ?_ | refine tk9 ?_ | refine tk10 (fun _ _ => ?_) | refine tk11 (fun _ => ?_) | refine tk13 ?_ | refine tk14 ?_); (conv => whnf))
  refine Cmp.of (decide (8 < n)) (by simp) ?_
  (conv => whnf); repeat ((first | refine tk1 ?_ | refine tk2 ?_ | refine tk3 ?_ | refine tk12 (fun _ => ?_) | refine tk4 ?_ | refine tk5 ?_ | refine tk6 ?_ | refine tk7 ?_ | refine tk8 ?_ | refine tk9 ?_ | refine tk10 (fun _ _ => ?_) | refine tk11 (fun _ => ?_) | refine tk13 ?_ | refine tk14 ?_); (conv => whnf))
def asc0 : List Value := List.replicate 256 (.bool false)
def asc1 : List Value := asc0.set 13 (.bool true)
def asc2 : List Value := asc1.set 10 (.bool true)
def ascP (p : Nat) : List Value := match p with | 0 => asc0 | 1 => asc1 | _ => asc2
theorem asc_one : ∀ x ∈ asc2, x.oneCell' = true := by decide
theorem asc_get (x : UInt8) : asc2[((x.toNat : Nat) : Int).toNat]? = some (.bool (decide (x.toNat = 10 ∨ x.toNat = 13))) := by
  have : ∀ n : Fin 256, asc2[n.val]? = some (.bool (decide (n.val = 10 ∨ n.val = 13))) := by
    intro n
    unfold asc2 asc1 asc0
    simp only [List.getElem?_set, List.getElem?_replicate, List.length_set, List.length_replicate]
    by_cases h1 : n.val = 10
    · simp [h1]
    · by_cases h2 : n.val = 13
      · simp [h2]
      · rw [if_neg (by omega), if_neg (by omega), if_pos n.isLt, decide_eq_false (by omega)]
  exact this ⟨x.toNat, x.toNat_lt⟩
theorem mkSet_f : Fn Tryz.prog gI 53 [str [13, 10]] (.tuple #[.agg ⟨asc2⟩, .bool true]) := by
  refine Fn.of tys_ok Tryz.func53 rfl (by kernel_rfl) rfl rfl ?_; intro w hG
  (conv => whnf); repeat ((first | refine tk1 ?_ | refine tk2 ?_ | refine tk3 ?_ | refine tk12 (fun _ => ?_) | refine tk4 ?_ | refine tk5 ?_ | refine tk6 ?_ | refine tk7 ?_ | refine tk8 ?_ | refine tk9 ?_ | refine tk10 (fun _ _ => ?_) | refine tk11 (fun _ => ?_) | refine tk13 ?_ | refine tk14 ?_); (conv => whnf))
  rename_i b
  refine LoopS.lp tys_ok (fun (p : Nat) u => [str [13, 10], u 1, .pointer (some ⟨b, 0, none⟩), u 3, .int .i64 (p : Nat), u 5, u 6, u 7, u 8, u 9, u 10, u 11, u 12, u 13, u 14, u 15, u 16, u 17, u 18, u 19, u 20]) (fun p => [.box b (ascP p) 91]) (fun p => p ≤ 2) (fun p => 2 - p) 0 (by decide) rfl (by repeat' (first | exact List.Sublist.refl _ | exact List.nil_sublist _ | apply List.Sublist.cons_cons | apply List.Sublist.cons)) ?_
  intro p u hp
  have hp3 : p = 0 ∨ p = 1 ∨ p = 2 := by omega
  rcases hp3 with rfl | rfl | rfl
  · (conv => whnf); repeat ((first | refine tk1 ?_ | refine tk2 ?_ | refine tk3 ?_ | refine tk12 (fun _ => ?_) | refine tk4 ?_ | refine tk5 ?_ | refine tk6 ?_ | refine tk7 ?_ | refine tk8 ?_ | refine tk9 ?_ | refine tk10 (fun _ _ => ?_) | refine tk11 (fun _ => ?_) | refine tk13 ?_ | refine tk14 ?_); (conv => whnf))
    refine IdxS.at 13 rfl (by decide) ?_
    rw [show (((13 : UInt8).toNat : Nat) : Int) = 13 from rfl]
    (conv => whnf); repeat ((first | refine tk1 ?_ | refine tk2 ?_ | refine tk3 ?_ | refine tk12 (fun _ => ?_) | refine tk4 ?_ | refine tk5 ?_ | refine tk6 ?_ | refine tk7 ?_ | refine tk8 ?_ | refine tk9 ?_ | refine tk10 (fun _ _ => ?_) | refine tk11 (fun _ => ?_) | refine tk13 ?_ | refine tk14 ?_); (conv => whnf))
    refine OthP.idxArr (b := b) (k := .u8) (z := 13) tys_ok rfl (fun h => nomatch h) rfl rfl rfl (by decide) (by decide) ?_
    (conv => whnf); repeat ((first | refine tk1 ?_ | refine tk2 ?_ | refine tk3 ?_ | refine tk12 (fun _ => ?_) | refine tk4 ?_ | refine tk5 ?_ | refine tk6 ?_ | refine tk8 ?_); (conv => whnf))
    exact ⟨1, by decide, rfl, (by repeat' (first | exact List.Sublist.refl _ | exact List.nil_sublist _ | apply List.Sublist.cons_cons | apply List.Sublist.cons)), by dsimp only; omega⟩
  · (conv => whnf); repeat ((first | refine tk1 ?_ | refine tk2 ?_ | refine tk3 ?_ | refine tk12 (fun _ => ?_) | refine tk4 ?_ | refine tk5 ?_ | refine tk6 ?_ | refine tk7 ?_ | refine tk8 ?_ | refine tk9 ?_ | refine tk10 (fun _ _ => ?_) | refine tk11 (fun _ => ?_) | refine tk13 ?_ | refine tk14 ?_); (conv => whnf))
    refine IdxS.at 10 rfl (by decide) ?_
    rw [show (((10 : UInt8).toNat : Nat) : Int) = 10 from rfl]
    (conv => whnf); repeat ((first | refine tk1 ?_ | refine tk2 ?_ | refine tk3 ?_ | refine tk12 (fun _ => ?_) | refine tk4 ?_ | refine tk5 ?_ | refine tk6 ?_ | refine tk7 ?_ | refine tk8 ?_ | refine tk9 ?_ | refine tk10 (fun _ _ => ?_) | refine tk11 (fun _ => ?_) | refine tk13 ?_ | refine tk14 ?_); (conv => whnf))
    refine OthP.idxArr (b := b) (k := .u8) (z := 10) tys_ok rfl (fun h => nomatch h) rfl rfl rfl (by decide) (by decide) ?_
    (conv => whnf); repeat ((first | refine tk1 ?_ | refine tk2 ?_ | refine tk3 ?_ | refine tk12 (fun _ => ?_) | refine tk4 ?_ | refine tk5 ?_ | refine tk6 ?_ | refine tk8 ?_); (conv => whnf))
    exact ⟨2, by decide, rfl, (by repeat' (first | exact List.Sublist.refl _ | exact List.nil_sublist _ | apply List.Sublist.cons_cons | apply List.Sublist.cons)), by dsimp only; omega⟩
  · (conv => whnf); repeat ((first | refine tk1 ?_ | refine tk2 ?_ | refine tk3 ?_ | refine tk12 (fun _ => ?_) | refine tk4 ?_ | refine tk5 ?_ | refine tk6 ?_ | refine tk8 ?_); (conv => whnf))
    refine Sto.tv rfl rfl asc_one ?_
    (conv => whnf); repeat ((first | refine tk1 ?_ | refine tk2 ?_ | refine tk3 ?_ | refine tk12 (fun _ => ?_) | refine tk4 ?_ | refine tk5 ?_ | refine tk6 ?_ | refine tk8 ?_); (conv => whnf))
    rfl
theorem size_len (z : ByteArray) : z.data.toList.length = z.size := by rw [Array.length_toList]; rfl
set_option maxHeartbeats 4000000 in
theorem IndexAny_f (A : Option Addr) (cp : Nat) (l : List UInt8) (hl : l.length ≤ 1000000000) :
    FnE Tryz.prog gI 33 [.slice A l.length cp, str [13, 10]] (fun w => RdL w [(A, l.map byteV)] ∧ l.length ≤ cp) fun _ v _ => ∃ k : Int, v = .int .i64 k ∧ (0 ≤ k ↔ noEnd l = false) := by
  refine FnE.of tys_ok Tryz.func33 rfl (by kernel_rfl) rfl rfl ?_; intro w hG hP
  have hR : ∀ H, RdA (mkC Tryz.prog gI w hG) H A (l.map byteV) := fun H => ⟨hP.1.1.now⟩
  have hcp := hP.2
  obtain ⟨mx, hmx⟩ := HasMax.ok w hG
  (conv => whnf); repeat ((first | refine tk1 ?_ | refine tk2 ?_ | refine tk3 ?_ | refine tk12 (fun _ => ?_) | refine tk4 ?_ | refine tk5 ?_ | refine tk6 ?_ | refine tk7 ?_ | refine tk8 ?_ | refine tk9 ?_ | refine tk10 (fun _ _ => ?_) | refine tk11 (fun _ => ?_) | refine tk13 ?_ | refine tk14 ?_); (conv => whnf))
  refine Cmp.cases (fun h1 => ?_) (fun h1 => ?_)
  · obtain ⟨x, rfl⟩ : ∃ x, l = [x] := List.length_eq_one_iff.1 (by omega)
    have hx := x.toNat_lt
    (conv => whnf); repeat ((first | refine tk1 ?_ | refine tk2 ?_ | refine tk3 ?_ | refine tk12 (fun _ => ?_) | refine tk4 ?_ | refine tk5 ?_ | refine tk6 ?_ | refine tk7 ?_ | refine tk8 ?_ | refine tk9 ?_ | refine tk10 (fun _ _ => ?_) | refine tk11 (fun _ => ?_) | refine tk13 ?_ | refine tk14 ?_); (conv => whnf))
    refine IdxA.tc (xs := [x].map byteV) (by simp) (by omega) (by simp) ?_
    (conv => whnf); repeat ((first | refine tk1 ?_ | refine tk2 ?_ | refine tk3 ?_ | refine tk12 (fun _ => ?_) | refine tk4 ?_ | refine tk5 ?_ | refine tk6 ?_ | refine tk7 ?_ | refine tk8 ?_ | refine tk9 ?_ | refine tk10 (fun _ _ => ?_) | refine tk11 (fun _ => ?_) | refine tk13 ?_ | refine tk14 ?_); (conv => whnf))
    refine Ld.ta (xs := [x].map byteV) (v := byteV x) rfl ?_
    unfold byteV
    (conv => whnf); repeat ((first | refine tk1 ?_ | refine tk2 ?_ | refine tk3 ?_ | refine tk12 (fun _ => ?_) | refine tk4 ?_ | refine tk5 ?_ | refine tk6 ?_ | refine tk7 ?_ | refine tk8 ?_ | refine tk9 ?_ | refine tk10 (fun _ _ => ?_) | refine tk11 (fun _ => ?_) | refine tk13 ?_ | refine tk14 ?_); (conv => whnf))
    refine Ar.in32 (by omega) (by omega) ?_
    (conv => whnf); repeat ((first | refine tk1 ?_ | refine tk2 ?_ | refine tk3 ?_ | refine tk12 (fun _ => ?_) | refine tk4 ?_ | refine tk5 ?_ | refine tk6 ?_ | refine tk7 ?_ | refine tk8 ?_ | refine tk9 ?_ | refine tk10 (fun _ _ => ?_) | refine tk11 (fun _ => ?_) | refine tk13 ?_ | refine tk14 ?_); (conv => whnf))
    refine Cmp.cases (fun h2 => ?_) (fun h2 => ?_)
    · (conv => whnf); repeat ((first | refine tk1 ?_ | refine tk2 ?_ | refine tk3 ?_ | refine tk12 (fun _ => ?_) | refine tk4 ?_ | refine tk5 ?_ | refine tk6 ?_ | refine tk7 ?_ | refine tk8 ?_ | refine tk9 ?_ | refine tk10 (fun _ _ => ?_) | refine tk11 (fun _ => ?_) | refine tk13 ?_ | refine tk14 ?_); (conv => whnf))
      refine Oth.rangeS tys_ok rfl rfl (fun it => ?_)
      (conv => whnf); repeat ((first | refine tk1 ?_ | refine tk2 ?_ | refine tk3 ?_ | refine tk12 (fun _ => ?_) | refine tk4 ?_ | refine tk5 ?_ | refine tk6 ?_ | refine tk7 ?_ | refine tk8 ?_ | refine tk9 ?_ | refine tk10 (fun _ _ => ?_) | refine tk11 (fun _ => ?_) | refine tk13 ?_ | refine tk14 ?_); (conv => whnf))
      refine LoopS.lp tys_ok (fun (p : Nat) u => [u 0, u 1, u 2, u 3, u 4, u 5, u 6, u 7, u 8, u 9, u 10, u 11, u 12, u 13, u 14, u 15, u 16, u 17, u 18, u 19, u 20, u 21, u 22, u 23, u 24, u 25, u 26, u 27, .pointer (some ⟨it, 0, none⟩), u 29, u 30, u 31, u 32, u 33, u 34, u 35, u 36, u 37, u 38, u 39, u 40, u 41, u 42, u 43, u 44, u 45, u 46, u 47, u 48, u 49, u 50, u 51, u 52, u 53, u 54, u 55, u 56, u 57, u 58, u 59, u 60, u 61, u 62, u 63, u 64, u 65, u 66, u 67, u 68, u 69, u 70, u 71, u 72, u 73, u 74, u 75, u 76, u 77, u 78, u 79, u 80, u 81, u 82, u 83, u 84, u 85, u 86, u 87, u 88, u 89, u 90, u 91, u 92, u 93, u 94, u 95, u 96, u 97, u 98, u 99, u 100, u 101, u 102, u 103, u 104, u 105, u 106, u 107, u 108, u 109, u 110, u 111, u 112, u 113, u 114, u 115, u 116, u 117, u 118, u 119, u 120, u 121, u 122, u 123, u 124, u 125, u 126, u 127, u 128]) (fun p => [.obj it (.stringIter ⟨⟨[13, 10]⟩⟩ p)]) (fun p => p ≤ 2) (fun p => 2 - p) 0 (by decide) rfl (by repeat' (first | exact List.Sublist.refl _ | exact List.nil_sublist _ | apply List.Sublist.cons_cons | apply List.Sublist.cons)) ?_
      intro p u hp
      (conv => whnf); repeat ((first | refine tk1 ?_ | refine tk2 ?_ | refine tk3 ?_ | refine tk12 (fun _ => ?_) | refine tk4 ?_ | refine tk5 ?_ | refine tk6 ?_ | refine tk7 ?_ | refine tk8 ?_ | refine tk9 ?_ | refine tk10 (fun _ _ => ?_) | refine tk11 (fun _ => ?_) | refine tk13 ?_ | refine tk14 ?_); (conv => whnf))
      have hp3 : p = 0 ∨ p = 1 ∨ p = 2 := by omega
      rcases hp3 with rfl | rfl | rfl
      · refine Oth.nextS (s := ⟨⟨[13, 10]⟩⟩) (p := 0) rfl (by decide) ?_
        rw [show Utf8.decode ⟨⟨[13, 10]⟩⟩ 0 = (13, 1) by rfl]
        (conv => whnf); repeat ((first | refine tk1 ?_ | refine tk2 ?_ | refine tk3 ?_ | refine tk12 (fun _ => ?_) | refine tk4 ?_ | refine tk5 ?_ | refine tk6 ?_ | refine tk7 ?_ | refine tk8 ?_ | refine tk9 ?_ | refine tk10 (fun _ _ => ?_) | refine tk11 (fun _ => ?_) | refine tk13 ?_ | refine tk14 ?_); (conv => whnf))
        exact ⟨1, by decide, rfl, (by repeat' (first | exact List.Sublist.refl _ | exact List.nil_sublist _ | apply List.Sublist.cons_cons | apply List.Sublist.cons)), by dsimp only; omega⟩
      · refine Oth.nextS (s := ⟨⟨[13, 10]⟩⟩) (p := 1) rfl (by decide) ?_
        rw [show Utf8.decode ⟨⟨[13, 10]⟩⟩ 1 = (10, 1) by rfl]
        (conv => whnf); repeat ((first | refine tk1 ?_ | refine tk2 ?_ | refine tk3 ?_ | refine tk12 (fun _ => ?_) | refine tk4 ?_ | refine tk5 ?_ | refine tk6 ?_ | refine tk7 ?_ | refine tk8 ?_ | refine tk9 ?_ | refine tk10 (fun _ _ => ?_) | refine tk11 (fun _ => ?_) | refine tk13 ?_ | refine tk14 ?_); (conv => whnf))
        exact ⟨2, by decide, rfl, (by repeat' (first | exact List.Sublist.refl _ | exact List.nil_sublist _ | apply List.Sublist.cons_cons | apply List.Sublist.cons)), by dsimp only; omega⟩
      · refine Oth.nextE (s := ⟨⟨[13, 10]⟩⟩) (p := 2) rfl (by decide) ?_
        (conv => whnf); repeat ((first | refine tk1 ?_ | refine tk2 ?_ | refine tk3 ?_ | refine tk12 (fun _ => ?_) | refine tk4 ?_ | refine tk5 ?_ | refine tk6 ?_ | refine tk7 ?_ | refine tk8 ?_ | refine tk9 ?_ | refine tk10 (fun _ _ => ?_) | refine tk11 (fun _ => ?_) | refine tk13 ?_ | refine tk14 ?_); (conv => whnf))
        exact fun w' _ => ⟨-1, rfl, by omega, fun h => absurd h (by rw [noEnd_one x (by omega) (by omega)]; decide)⟩
    · (conv => whnf); repeat ((first | refine tk1 ?_ | refine tk2 ?_ | refine tk3 ?_ | refine tk12 (fun _ => ?_) | refine tk4 ?_ | refine tk5 ?_ | refine tk6 ?_ | refine tk7 ?_ | refine tk8 ?_ | refine tk9 ?_ | refine tk10 (fun _ _ => ?_) | refine tk11 (fun _ => ?_) | refine tk13 ?_ | refine tk14 ?_); (conv => whnf))
      refine IdxA.tc (xs := [x].map byteV) (by simp) (by omega) (by simp) ?_
      (conv => whnf); repeat ((first | refine tk1 ?_ | refine tk2 ?_ | refine tk3 ?_ | refine tk12 (fun _ => ?_) | refine tk4 ?_ | refine tk5 ?_ | refine tk6 ?_ | refine tk7 ?_ | refine tk8 ?_ | refine tk9 ?_ | refine tk10 (fun _ _ => ?_) | refine tk11 (fun _ => ?_) | refine tk13 ?_ | refine tk14 ?_); (conv => whnf))
      refine Ld.ta (xs := [x].map byteV) (v := byteV x) rfl ?_
      unfold byteV
      (conv => whnf); repeat ((first | refine tk1 ?_ | refine tk2 ?_ | refine tk3 ?_ | refine tk12 (fun _ => ?_) | refine tk4 ?_ | refine tk5 ?_ | refine tk6 ?_ | refine tk7 ?_ | refine tk8 ?_ | refine tk9 ?_ | refine tk10 (fun _ _ => ?_) | refine tk11 (fun _ => ?_) | refine tk13 ?_ | refine tk14 ?_); (conv => whnf))
      refine ibs_k rfl [13, 10] x ?_
      have hi := idx_crlf x
      generalize Lib.indexByte [13, 10] x = ix at hi
      (conv => whnf); repeat ((first | refine tk1 ?_ | refine tk2 ?_ | refine tk3 ?_ | refine tk12 (fun _ => ?_) | refine tk4 ?_ | refine tk5 ?_ | refine tk6 ?_ | refine tk7 ?_ | refine tk8 ?_ | refine tk9 ?_ | refine tk10 (fun _ _ => ?_) | refine tk11 (fun _ => ?_) | refine tk13 ?_ | refine tk14 ?_); (conv => whnf))
      refine Cmp.cases (fun h3 => ?_) (fun h3 => ?_)
      · (conv => whnf); repeat ((first | refine tk1 ?_ | refine tk2 ?_ | refine tk3 ?_ | refine tk12 (fun _ => ?_) | refine tk4 ?_ | refine tk5 ?_ | refine tk6 ?_ | refine tk7 ?_ | refine tk8 ?_ | refine tk9 ?_ | refine tk10 (fun _ _ => ?_) | refine tk11 (fun _ => ?_) | refine tk13 ?_ | refine tk14 ?_); (conv => whnf))
        exact fun w' _ => ⟨0, rfl, fun _ => noEnd_no (l := [x]) (k := 0) (by simp) (hi.1 h3), fun _ => Int.le_refl _⟩
      · (conv => whnf); repeat ((first | refine tk1 ?_ | refine tk2 ?_ | refine tk3 ?_ | refine tk12 (fun _ => ?_) | refine tk4 ?_ | refine tk5 ?_ | refine tk6 ?_ | refine tk7 ?_ | refine tk8 ?_ | refine tk9 ?_ | refine tk10 (fun _ _ => ?_) | refine tk11 (fun _ => ?_) | refine tk13 ?_ | refine tk14 ?_); (conv => whnf))
        exact fun w' _ => ⟨-1, rfl, by omega, fun h => absurd h (by rw [noEnd_one x (by omega) (by omega)]; decide)⟩
  have hit : ∀ k : Nat, k < l.length → (∀ j (hj : j < l.length), j = k → l[j].toNat = 10 ∨ l[j].toNat = 13) → ∀ w' : World, ∃ q : Int, Value.int .i64 ((k : Nat) : Int) = .int .i64 q ∧ (0 ≤ q ↔ noEnd l = false) := fun k hk h _ =>
    ⟨k, rfl, fun _ => noEnd_no hk (h k hk rfl), fun _ => Int.natCast_nonneg _⟩
  have mis : (∀ j (hj : j < l.length), l[j].toNat ≠ 10 ∧ l[j].toNat ≠ 13) → ∀ w' : World, ∃ q : Int, Value.int .i64 (-1) = .int .i64 q ∧ (0 ≤ q ↔ noEnd l = false) := fun h _ =>
    ⟨-1, rfl, by omega, fun e => by rw [(noEnd_iff l).2 h] at e; cases e⟩
  (conv => whnf); repeat ((first | refine tk1 ?_ | refine tk2 ?_ | refine tk3 ?_ | refine tk12 (fun _ => ?_) | refine tk4 ?_ | refine tk5 ?_ | refine tk6 ?_ | refine tk7 ?_ | refine tk8 ?_ | refine tk9 ?_ | refine tk10 (fun _ _ => ?_) | refine tk11 (fun _ => ?_) | refine tk13 ?_ | refine tk14 ?_); (conv => whnf))
  refine CallK.fn (useSet_f l.length) ?_
  cases h8 : decide (8 < (l.length : Int))
  rotate_left
  · (conv => whnf); repeat ((first | refine tk1 ?_ | refine tk2 ?_ | refine tk3 ?_ | refine tk12 (fun _ => ?_) | refine tk4 ?_ | refine tk5 ?_ | refine tk6 ?_ | refine tk7 ?_ | refine tk8 ?_ | refine tk9 ?_ | refine tk10 (fun _ _ => ?_) | refine tk11 (fun _ => ?_) | refine tk13 ?_ | refine tk14 ?_); (conv => whnf))
    refine CallK.fn mkSet_f ?_
    (conv => whnf); repeat ((first | refine tk1 ?_ | refine tk2 ?_ | refine tk3 ?_ | refine tk12 (fun _ => ?_) | refine tk4 ?_ | refine tk5 ?_ | refine tk6 ?_ | refine tk8 ?_); (conv => whnf))
    rename_i b7
    refine Sto.tv rfl rfl asc_one ?_
    (conv => whnf); repeat ((first | refine tk1 ?_ | refine tk2 ?_ | refine tk3 ?_ | refine tk12 (fun _ => ?_) | refine tk4 ?_ | refine tk5 ?_ | refine tk6 ?_ | refine tk8 ?_); (conv => whnf))
    refine LoopS.lp tys_ok (fun (k : Nat) u => [u 0, u 1, u 2, u 3, u 4, u 5, u 6, .pointer (some ⟨b7, 0, none⟩), u 8, u 9, u 10, u 11, u 12, u 13, u 14, u 15, u 16, u 17, u 18, u 19, u 20, u 21, u 22, u 23, u 24, u 25, u 26, u 27, u 28, u 29, u 30, u 31, u 32, u 33, u 34, u 35, u 36, u 37, u 38, u 39, u 40, u 41, u 42, u 43, u 44, u 45, u 46, u 47, u 48, u 49, u 50, u 51, u 52, u 53, u 54, u 55, u 56, u 57, u 58, u 59, .slice A l.length cp, .int .i64 l.length, .int .i64 (k : Nat), u 63, u 64, u 65, u 66, u 67, u 68, u 69, u 70, u 71, u 72, u 73, u 74, u 75, u 76, u 77, u 78, u 79, u 80, u 81, u 82, u 83, u 84, u 85, u 86, u 87, u 88, u 89, u 90, u 91, u 92, u 93, u 94, u 95, u 96, u 97, u 98, u 99, u 100, u 101, u 102, u 103, u 104, u 105, u 106, u 107, u 108, u 109, u 110, u 111, u 112, u 113, u 114, u 115, u 116, u 117, u 118, u 119, u 120, u 121, u 122, u 123, u 124, u 125, u 126, u 127, u 128]) (fun _ => [.box b7 asc2 91]) (fun k => k ≤ l.length ∧ ∀ j (hj : j < l.length), j < k → l[j].toNat ≠ 10 ∧ l[j].toNat ≠ 13) (fun k => l.length - k) 0 ⟨Nat.zero_le _, fun _ _ h => absurd h (by omega)⟩ rfl (by repeat' (first | exact List.Sublist.refl _ | exact List.nil_sublist _ | apply List.Sublist.cons_cons | apply List.Sublist.cons)) ?_
    rintro k u ⟨hk, hI⟩
    dsimp only
    (conv => whnf); repeat ((first | refine tk1 ?_ | refine tk2 ?_ | refine tk3 ?_ | refine tk12 (fun _ => ?_) | refine tk4 ?_ | refine tk5 ?_ | refine tk6 ?_ | refine tk7 ?_ | refine tk8 ?_ | refine tk9 ?_ | refine tk10 (fun _ _ => ?_) | refine tk11 (fun _ => ?_) | refine tk13 ?_ | refine tk14 ?_); (conv => whnf))
    refine Cmp.cases (fun hlt => ?_) (fun hlt => ?_)
    rotate_left
    · (conv => whnf); repeat ((first | refine tk1 ?_ | refine tk2 ?_ | refine tk3 ?_ | refine tk12 (fun _ => ?_) | refine tk4 ?_ | refine tk5 ?_ | refine tk6 ?_ | refine tk7 ?_ | refine tk8 ?_ | refine tk9 ?_ | refine tk10 (fun _ _ => ?_) | refine tk11 (fun _ => ?_) | refine tk13 ?_ | refine tk14 ?_); (conv => whnf))
      exact fun w' _ => mis (fun j hj => hI j hj (by omega)) w'
    have hlt' : k < l.length := by omega
    obtain ⟨x, hx⟩ : ∃ x, l[k] = x := ⟨_, rfl⟩
    have hxt := x.toNat_lt
    have hset := asc_get x
    (conv => whnf); repeat ((first | refine tk1 ?_ | refine tk2 ?_ | refine tk3 ?_ | refine tk12 (fun _ => ?_) | refine tk4 ?_ | refine tk5 ?_ | refine tk6 ?_ | refine tk7 ?_ | refine tk8 ?_ | refine tk9 ?_ | refine tk10 (fun _ _ => ?_) | refine tk11 (fun _ => ?_) | refine tk13 ?_ | refine tk14 ?_); (conv => whnf))
    refine IdxA.tc (xs := l.map byteV) (by simp; omega) (by omega) (by omega) ?_
    (conv => whnf); repeat ((first | refine tk1 ?_ | refine tk2 ?_ | refine tk3 ?_ | refine tk12 (fun _ => ?_) | refine tk4 ?_ | refine tk5 ?_ | refine tk6 ?_ | refine tk7 ?_ | refine tk8 ?_ | refine tk9 ?_ | refine tk10 (fun _ _ => ?_) | refine tk11 (fun _ => ?_) | refine tk13 ?_ | refine tk14 ?_); (conv => whnf))
    refine Ld.ta (xs := l.map byteV) (v := .int .u8 x.toNat) (by simp [hlt', hx, byteV]) ?_
    (conv => whnf); repeat ((first | refine tk1 ?_ | refine tk2 ?_ | refine tk3 ?_ | refine tk12 (fun _ => ?_) | refine tk4 ?_ | refine tk5 ?_ | refine tk6 ?_ | refine tk7 ?_ | refine tk8 ?_ | refine tk9 ?_ | refine tk10 (fun _ _ => ?_) | refine tk11 (fun _ => ?_) | refine tk13 ?_ | refine tk14 ?_); (conv => whnf))
    refine CallK.inl tys_ok Tryz.func54 rfl (by kernel_rfl) rfl rfl ?_
    (conv => whnf); repeat ((first | refine tk1 ?_ | refine tk2 ?_ | refine tk3 ?_ | refine tk12 (fun _ => ?_) | refine tk4 ?_ | refine tk5 ?_ | refine tk6 ?_ | refine tk7 ?_ | refine tk8 ?_ | refine tk9 ?_ | refine tk10 (fun _ _ => ?_) | refine tk11 (fun _ => ?_) | refine tk13 ?_ | refine tk14 ?_); (conv => whnf))
    refine OthP.idxArr (b := b7) (k := .u8) (z := x.toNat) tys_ok rfl (fun h => nomatch h) rfl rfl rfl (by omega) (by omega) ?_
    (conv => whnf); repeat ((first | refine tk1 ?_ | refine tk2 ?_ | refine tk3 ?_ | refine tk12 (fun _ => ?_) | refine tk4 ?_ | refine tk5 ?_ | refine tk6 ?_ | refine tk7 ?_ | refine tk8 ?_ | refine tk9 ?_ | refine tk10 (fun _ _ => ?_) | refine tk11 (fun _ => ?_) | refine tk13 ?_ | refine tk14 ?_); (conv => whnf))
    refine Ld.tc (vs := asc2) (v := .bool (decide (x.toNat = 10 ∨ x.toNat = 13))) hset ?_
    by_cases hh : x.toNat = 10 ∨ x.toNat = 13
    · rw [decide_eq_true hh]
      (conv => whnf); repeat ((first | refine tk1 ?_ | refine tk2 ?_ | refine tk3 ?_ | refine tk12 (fun _ => ?_) | refine tk4 ?_ | refine tk5 ?_ | refine tk6 ?_ | refine tk7 ?_ | refine tk8 ?_ | refine tk9 ?_ | refine tk10 (fun _ _ => ?_) | refine tk11 (fun _ => ?_) | refine tk13 ?_ | refine tk14 ?_); (conv => whnf))
      exact fun w' _ => hit k hlt' (fun j hj e => by subst e; rw [hx]; exact hh) w'
    · rw [decide_eq_false hh]
      (conv => whnf); repeat ((first | refine tk1 ?_ | refine tk2 ?_ | refine tk3 ?_ | refine tk12 (fun _ => ?_) | refine tk4 ?_ | refine tk5 ?_ | refine tk6 ?_ | refine tk7 ?_ | refine tk8 ?_ | refine tk9 ?_ | refine tk10 (fun _ _ => ?_) | refine tk11 (fun _ => ?_) | refine tk13 ?_ | refine tk14 ?_); (conv => whnf))
      exact ⟨k + 1, ⟨by omega, fun j hj hjk => by
        rcases (show j < k ∨ j = k by omega) with h | rfl
        · exact hI j hj h
        · rw [hx]; omega⟩, rfl, (by repeat' (first | exact List.Sublist.refl _ | exact List.nil_sublist _ | apply List.Sublist.cons_cons | apply List.Sublist.cons)), by dsimp only; omega⟩
  · (conv => whnf); repeat ((first | refine tk1 ?_ | refine tk2 ?_ | refine tk3 ?_ | refine tk12 (fun _ => ?_) | refine tk4 ?_ | refine tk5 ?_ | refine tk6 ?_ | refine tk7 ?_ | refine tk8 ?_ | refine tk9 ?_ | refine tk10 (fun _ _ => ?_) | refine tk11 (fun _ => ?_) | refine tk13 ?_ | refine tk14 ?_); (conv => whnf))
    refine LoopS.lp tys_ok (fun (k : Nat) u => [.slice A l.length cp, str [13, 10], u 2, u 3, u 4, u 5, u 6, u 7, u 8, u 9, u 10, u 11, .int .i64 (k : Nat), u 13, u 14, u 15, u 16, u 17, u 18, u 19, u 20, u 21, u 22, u 23, u 24, u 25, u 26, u 27, u 28, u 29, u 30, u 31, u 32, u 33, u 34, u 35, u 36, u 37, u 38, u 39, u 40, u 41, u 42, u 43, u 44, u 45, u 46, u 47, u 48, u 49, u 50, u 51, u 52, u 53, u 54, u 55, u 56, u 57, u 58, u 59, u 60, u 61, u 62, u 63, u 64, u 65, u 66, u 67, u 68, u 69, u 70, u 71, u 72, u 73, u 74, u 75, u 76, u 77, u 78, u 79, u 80, u 81, u 82, u 83, u 84, u 85, u 86, u 87, u 88, u 89, u 90, u 91, u 92, u 93, u 94, u 95, u 96, u 97, u 98, u 99, u 100, u 101, u 102, u 103, u 104, u 105, u 106, u 107, u 108, u 109, u 110, u 111, u 112, u 113, u 114, u 115, u 116, u 117, u 118, u 119, u 120, u 121, u 122, u 123, u 124, u 125, u 126, u 127, u 128]) (fun _ => []) (fun k => k ≤ l.length ∧ ∀ j (hj : j < l.length), j < k → l[j].toNat ≠ 10 ∧ l[j].toNat ≠ 13) (fun k => l.length - k) 0 ⟨Nat.zero_le _, fun _ _ h => absurd h (by omega)⟩ rfl (by repeat' (first | exact List.Sublist.refl _ | exact List.nil_sublist _ | apply List.Sublist.cons_cons | apply List.Sublist.cons)) ?_
    rintro k u ⟨hk, hI⟩
    dsimp only
    (conv => whnf); repeat ((first | refine tk1 ?_ | refine tk2 ?_ | refine tk3 ?_ | refine tk12 (fun _ => ?_) | refine tk4 ?_ | refine tk5 ?_ | refine tk6 ?_ | refine tk7 ?_ | refine tk8 ?_ | refine tk9 ?_ | refine tk10 (fun _ _ => ?_) | refine tk11 (fun _ => ?_) | refine tk13 ?_ | refine tk14 ?_); (conv => whnf))
    refine Cmp.cases (fun hlt => ?_) (fun hlt => ?_)
    rotate_left
    · (conv => whnf); repeat ((first | refine tk1 ?_ | refine tk2 ?_ | refine tk3 ?_ | refine tk12 (fun _ => ?_) | refine tk4 ?_ | refine tk5 ?_ | refine tk6 ?_ | refine tk7 ?_ | refine tk8 ?_ | refine tk9 ?_ | refine tk10 (fun _ _ => ?_) | refine tk11 (fun _ => ?_) | refine tk13 ?_ | refine tk14 ?_); (conv => whnf))
      exact fun w' _ => mis (fun j hj => hI j hj (by omega)) w'
    have hlt' : k < l.length := by omega
    obtain ⟨x, hx⟩ : ∃ x, l[k] = x := ⟨_, rfl⟩
    have hxt := x.toNat_lt
    (conv => whnf); repeat ((first | refine tk1 ?_ | refine tk2 ?_ | refine tk3 ?_ | refine tk12 (fun _ => ?_) | refine tk4 ?_ | refine tk5 ?_ | refine tk6 ?_ | refine tk7 ?_ | refine tk8 ?_ | refine tk9 ?_ | refine tk10 (fun _ _ => ?_) | refine tk11 (fun _ => ?_) | refine tk13 ?_ | refine tk14 ?_); (conv => whnf))
    refine IdxA.tc (xs := l.map byteV) (by simp; omega) (by omega) (by omega) ?_
    (conv => whnf); repeat ((first | refine tk1 ?_ | refine tk2 ?_ | refine tk3 ?_ | refine tk12 (fun _ => ?_) | refine tk4 ?_ | refine tk5 ?_ | refine tk6 ?_ | refine tk7 ?_ | refine tk8 ?_ | refine tk9 ?_ | refine tk10 (fun _ _ => ?_) | refine tk11 (fun _ => ?_) | refine tk13 ?_ | refine tk14 ?_); (conv => whnf))
    refine Ld.ta (xs := l.map byteV) (v := .int .u8 x.toNat) (by simp [hlt', hx, byteV]) ?_
    (conv => whnf); repeat ((first | refine tk1 ?_ | refine tk2 ?_ | refine tk3 ?_ | refine tk12 (fun _ => ?_) | refine tk4 ?_ | refine tk5 ?_ | refine tk6 ?_ | refine tk7 ?_ | refine tk8 ?_ | refine tk9 ?_ | refine tk10 (fun _ _ => ?_) | refine tk11 (fun _ => ?_) | refine tk13 ?_ | refine tk14 ?_); (conv => whnf))
    refine Ar.in32 (by omega) (by omega) ?_
    (conv => whnf); repeat ((first | refine tk1 ?_ | refine tk2 ?_ | refine tk3 ?_ | refine tk12 (fun _ => ?_) | refine tk4 ?_ | refine tk5 ?_ | refine tk6 ?_ | refine tk7 ?_ | refine tk8 ?_ | refine tk9 ?_ | refine tk10 (fun _ _ => ?_) | refine tk11 (fun _ => ?_) | refine tk13 ?_ | refine tk14 ?_); (conv => whnf))
    refine Cmp.cases (fun h128 => ?_) (fun h128 => ?_)
    · (conv => whnf); repeat ((first | refine tk1 ?_ | refine tk2 ?_ | refine tk3 ?_ | refine tk12 (fun _ => ?_) | refine tk4 ?_ | refine tk5 ?_ | refine tk6 ?_ | refine tk7 ?_ | refine tk8 ?_ | refine tk9 ?_ | refine tk10 (fun _ _ => ?_) | refine tk11 (fun _ => ?_) | refine tk13 ?_ | refine tk14 ?_); (conv => whnf))
      refine IdxA.tc (xs := l.map byteV) (by simp; omega) (by omega) (by omega) ?_
      (conv => whnf); repeat ((first | refine tk1 ?_ | refine tk2 ?_ | refine tk3 ?_ | refine tk12 (fun _ => ?_) | refine tk4 ?_ | refine tk5 ?_ | refine tk6 ?_ | refine tk7 ?_ | refine tk8 ?_ | refine tk9 ?_ | refine tk10 (fun _ _ => ?_) | refine tk11 (fun _ => ?_) | refine tk13 ?_ | refine tk14 ?_); (conv => whnf))
      refine Ld.ta (xs := l.map byteV) (v := .int .u8 x.toNat) (by simp [hlt', hx, byteV]) ?_
      (conv => whnf); repeat ((first | refine tk1 ?_ | refine tk2 ?_ | refine tk3 ?_ | refine tk12 (fun _ => ?_) | refine tk4 ?_ | refine tk5 ?_ | refine tk6 ?_ | refine tk7 ?_ | refine tk8 ?_ | refine tk9 ?_ | refine tk10 (fun _ _ => ?_) | refine tk11 (fun _ => ?_) | refine tk13 ?_ | refine tk14 ?_); (conv => whnf))
      refine ibs_k rfl [13, 10] x ?_
      have hi := idx_crlf x
      generalize Lib.indexByte [13, 10] x = ix at hi
      (conv => whnf); repeat ((first | refine tk1 ?_ | refine tk2 ?_ | refine tk3 ?_ | refine tk12 (fun _ => ?_) | refine tk4 ?_ | refine tk5 ?_ | refine tk6 ?_ | refine tk7 ?_ | refine tk8 ?_ | refine tk9 ?_ | refine tk10 (fun _ _ => ?_) | refine tk11 (fun _ => ?_) | refine tk13 ?_ | refine tk14 ?_); (conv => whnf))
      refine Cmp.cases (fun h3 => ?_) (fun h3 => ?_)
      · (conv => whnf); repeat ((first | refine tk1 ?_ | refine tk2 ?_ | refine tk3 ?_ | refine tk12 (fun _ => ?_) | refine tk4 ?_ | refine tk5 ?_ | refine tk6 ?_ | refine tk7 ?_ | refine tk8 ?_ | refine tk9 ?_ | refine tk10 (fun _ _ => ?_) | refine tk11 (fun _ => ?_) | refine tk13 ?_ | refine tk14 ?_); (conv => whnf))
        exact fun w' _ => hit k hlt' (fun j hj e => by subst e; rw [hx]; exact hi.1 h3) w'
      · (conv => whnf); repeat ((first | refine tk1 ?_ | refine tk2 ?_ | refine tk3 ?_ | refine tk12 (fun _ => ?_) | refine tk4 ?_ | refine tk5 ?_ | refine tk6 ?_ | refine tk7 ?_ | refine tk8 ?_ | refine tk9 ?_ | refine tk10 (fun _ _ => ?_) | refine tk11 (fun _ => ?_) | refine tk13 ?_ | refine tk14 ?_); (conv => whnf))
        exact ⟨k + 1, ⟨by omega, fun j hj hjk => by
          rcases (show j < k ∨ j = k by omega) with h | rfl
          · exact hI j hj h
          · rw [hx]; omega⟩, rfl, (by repeat' (first | exact List.Sublist.refl _ | exact List.nil_sublist _ | apply List.Sublist.cons_cons | apply List.Sublist.cons)), by dsimp only; omega⟩
    · have hdl : 0 < (l.drop k).length := by rw [List.length_drop]; omega
      have hd0 : (l.drop k)[0] = x := by simp [hx]
      obtain ⟨r, wd, hdec, hw1, hw2, hhi, hr0, hr⟩ := dec_high (l.drop k) hdl (by rw [hd0]; omega)
      have hstep : ∀ j (hj : j < l.length), j < k + wd → l[j].toNat ≠ 10 ∧ l[j].toNat ≠ 13 := fun j hj hjk => by
        rcases (show j < k ∨ k ≤ j by omega) with h | h
        · exact hI j hj h
        · have := hhi (j - k) (by rw [List.length_drop]; omega) (by omega)
          simp only [List.getElem_drop, show k + (j - k) = j by omega] at this
          omega
      rw [List.length_drop] at hw2
      (conv => whnf); repeat ((first | refine tk1 ?_ | refine tk2 ?_ | refine tk3 ?_ | refine tk12 (fun _ => ?_) | refine tk4 ?_ | refine tk5 ?_ | refine tk6 ?_ | refine tk7 ?_ | refine tk8 ?_ | refine tk9 ?_ | refine tk10 (fun _ _ => ?_) | refine tk11 (fun _ => ?_) | refine tk13 ?_ | refine tk14 ?_); (conv => whnf))
      refine SlcV.from (by omega) (by omega) ?_
      have hp := fun H => RdS.piece (cp := cp) (sz := 1) (lo := (k : Int)) (hR H).ok (by omega) (fun e => by omega)
      have hd : (l.map byteV).drop ((k : Int).toNat * 1) = (l.drop k).map byteV := by rw [Int.toNat_natCast, Nat.mul_one, List.map_drop]
      rw [hd] at hp
      rw [show l.length - (k : Int).toNat = (l.drop k).length by rw [List.length_drop]; omega]
      (conv => whnf); repeat ((first | refine tk1 ?_ | refine tk2 ?_ | refine tk3 ?_ | refine tk12 (fun _ => ?_) | refine tk4 ?_ | refine tk5 ?_ | refine tk6 ?_ | refine tk7 ?_ | refine tk8 ?_ | refine tk9 ?_ | refine tk10 (fun _ _ => ?_) | refine tk11 (fun _ => ?_) | refine tk13 ?_ | refine tk14 ?_); (conv => whnf))
      refine CallK.fnR (DecodeRune_f _ _ (l.drop k) hdl) ⟨hp _, trivial⟩ ?_
      rw [hdec]
      dsimp only
      have hw64 : wd ≤ 1000000000 := by omega
      (conv => whnf); repeat ((first | refine tk1 ?_ | refine tk2 ?_ | refine tk3 ?_ | refine tk12 (fun _ => ?_) | refine tk4 ?_ | refine tk5 ?_ | refine tk6 ?_ | refine tk7 ?_ | refine tk8 ?_ | refine tk9 ?_ | refine tk10 (fun _ _ => ?_) | refine tk11 (fun _ => ?_) | refine tk13 ?_ | refine tk14 ?_); (conv => whnf))
      rcases hr with hr | ⟨hr, hr2, hr3, hr4, hr5⟩
      rotate_left
      · refine Cmp.t (by omega) ?_
        (conv => whnf); repeat ((first | refine tk1 ?_ | refine tk2 ?_ | refine tk3 ?_ | refine tk12 (fun _ => ?_) | refine tk4 ?_ | refine tk5 ?_ | refine tk6 ?_ | refine tk7 ?_ | refine tk8 ?_ | refine tk9 ?_ | refine tk10 (fun _ _ => ?_) | refine tk11 (fun _ => ?_) | refine tk13 ?_ | refine tk14 ?_); (conv => whnf))
        have hnx : ∀ j (hj : j < l.length), j < k + wd → l[j].toNat ≠ 10 ∧ l[j].toNat ≠ 13 := hstep
        by_cases hw : wd = 2
        · refine Cmp.t (by show (2 : Int) = wd; omega) ?_
          (conv => whnf); repeat ((first | refine tk1 ?_ | refine tk2 ?_ | refine tk3 ?_ | refine tk12 (fun _ => ?_) | refine tk4 ?_ | refine tk5 ?_ | refine tk6 ?_ | refine tk7 ?_ | refine tk8 ?_ | refine tk9 ?_ | refine tk10 (fun _ _ => ?_) | refine tk11 (fun _ => ?_) | refine tk13 ?_ | refine tk14 ?_); (conv => whnf))
          refine OthP.rune tys_ok (fun h => nomatch h) rfl rfl ?_
          (conv => whnf); repeat ((first | refine tk1 ?_ | refine tk2 ?_ | refine tk3 ?_ | refine tk12 (fun _ => ?_) | refine tk4 ?_ | refine tk5 ?_ | refine tk6 ?_ | refine tk7 ?_ | refine tk8 ?_ | refine tk9 ?_ | refine tk10 (fun _ _ => ?_) | refine tk11 (fun _ => ?_) | refine tk13 ?_ | refine tk14 ?_); (conv => whnf))
          refine Cmp.f (enc_ne r hr2 (hr5 hw)) ?_
          (conv => whnf); repeat ((first | refine tk1 ?_ | refine tk2 ?_ | refine tk3 ?_ | refine tk12 (fun _ => ?_) | refine tk4 ?_ | refine tk5 ?_ | refine tk6 ?_ | refine tk7 ?_ | refine tk8 ?_ | refine tk9 ?_ | refine tk10 (fun _ _ => ?_) | refine tk11 (fun _ => ?_) | refine tk13 ?_ | refine tk14 ?_); (conv => whnf))
          exact ⟨k + wd, ⟨by omega, hnx⟩, rfl, (by repeat' (first | exact List.Sublist.refl _ | exact List.nil_sublist _ | apply List.Sublist.cons_cons | apply List.Sublist.cons)), by dsimp only; omega⟩
        · refine Cmp.f (by show ¬ (2 : Int) = wd; omega) ?_
          (conv => whnf); repeat ((first | refine tk1 ?_ | refine tk2 ?_ | refine tk3 ?_ | refine tk12 (fun _ => ?_) | refine tk4 ?_ | refine tk5 ?_ | refine tk6 ?_ | refine tk7 ?_ | refine tk8 ?_ | refine tk9 ?_ | refine tk10 (fun _ _ => ?_) | refine tk11 (fun _ => ?_) | refine tk13 ?_ | refine tk14 ?_); (conv => whnf))
          refine Ld.old hmx (by simp) ?_
          (conv => whnf); repeat ((first | refine tk1 ?_ | refine tk2 ?_ | refine tk3 ?_ | refine tk12 (fun _ => ?_) | refine tk4 ?_ | refine tk5 ?_ | refine tk6 ?_ | refine tk7 ?_ | refine tk8 ?_ | refine tk9 ?_ | refine tk10 (fun _ _ => ?_) | refine tk11 (fun _ => ?_) | refine tk13 ?_ | refine tk14 ?_); (conv => whnf))
          refine Cmp.cases (fun hm => ?_) (fun hm => ?_)
          · (conv => whnf); repeat ((first | refine tk1 ?_ | refine tk2 ?_ | refine tk3 ?_ | refine tk12 (fun _ => ?_) | refine tk4 ?_ | refine tk5 ?_ | refine tk6 ?_ | refine tk7 ?_ | refine tk8 ?_ | refine tk9 ?_ | refine tk10 (fun _ _ => ?_) | refine tk11 (fun _ => ?_) | refine tk13 ?_ | refine tk14 ?_); (conv => whnf))
            refine OthP.rune tys_ok (fun h => nomatch h) rfl rfl ?_
            have hsz : (Utf8.encode (r : Int)).data.toList.length = wd := by rw [size_len, hr4]
            (conv => whnf); repeat ((first | refine tk1 ?_ | refine tk2 ?_ | refine tk3 ?_ | refine tk12 (fun _ => ?_) | refine tk4 ?_ | refine tk5 ?_ | refine tk6 ?_ | refine tk7 ?_ | refine tk8 ?_ | refine tk9 ?_ | refine tk10 (fun _ _ => ?_) | refine tk11 (fun _ => ?_) | refine tk13 ?_ | refine tk14 ?_); (conv => whnf))
            refine is_k rfl hmx rfl [13, 10] _ (by rw [hsz]; omega) (by rw [hsz]; omega) (by decide) ?_
            rw [index_long [13, 10] _ (by rw [hsz]; show 2 < wd; omega)]
            (conv => whnf); repeat ((first | refine tk1 ?_ | refine tk2 ?_ | refine tk3 ?_ | refine tk12 (fun _ => ?_) | refine tk4 ?_ | refine tk5 ?_ | refine tk6 ?_ | refine tk7 ?_ | refine tk8 ?_ | refine tk9 ?_ | refine tk10 (fun _ _ => ?_) | refine tk11 (fun _ => ?_) | refine tk13 ?_ | refine tk14 ?_); (conv => whnf))
            exact ⟨k + wd, ⟨by omega, hnx⟩, rfl, (by repeat' (first | exact List.Sublist.refl _ | exact List.nil_sublist _ | apply List.Sublist.cons_cons | apply List.Sublist.cons)), by dsimp only; omega⟩
          · (conv => whnf); repeat ((first | refine tk1 ?_ | refine tk2 ?_ | refine tk3 ?_ | refine tk12 (fun _ => ?_) | refine tk4 ?_ | refine tk5 ?_ | refine tk6 ?_ | refine tk7 ?_ | refine tk8 ?_ | refine tk9 ?_ | refine tk10 (fun _ _ => ?_) | refine tk11 (fun _ => ?_) | refine tk13 ?_ | refine tk14 ?_); (conv => whnf))
            refine Oth.rangeS tys_ok rfl rfl (fun it => ?_)
            have hne : (r : Int) ≠ 13 ∧ (r : Int) ≠ 10 := by omega
            (conv => whnf); repeat ((first | refine tk1 ?_ | refine tk2 ?_ | refine tk3 ?_ | refine tk12 (fun _ => ?_) | refine tk4 ?_ | refine tk5 ?_ | refine tk6 ?_ | refine tk7 ?_ | refine tk8 ?_ | refine tk9 ?_ | refine tk10 (fun _ _ => ?_) | refine tk11 (fun _ => ?_) | refine tk13 ?_ | refine tk14 ?_); (conv => whnf))
            refine LoopS.lp tys_ok (fun (p : Nat) u => [.slice A l.length cp, str [13, 10], u 2, u 3, u 4, u 5, u 6, u 7, u 8, u 9, u 10, .int .i64 (wd : Nat), .int .i64 (k : Nat), .int .i32 (r : Nat), u 14, u 15, u 16, u 17, u 18, u 19, u 20, u 21, u 22, u 23, u 24, u 25, u 26, u 27, u 28, u 29, u 30, u 31, u 32, u 33, u 34, u 35, u 36, u 37, u 38, u 39, u 40, u 41, u 42, u 43, u 44, u 45, u 46, u 47, u 48, u 49, u 50, u 51, u 52, u 53, u 54, u 55, u 56, u 57, u 58, u 59, u 60, u 61, u 62, u 63, u 64, u 65, u 66, u 67, u 68, u 69, u 70, u 71, u 72, u 73, u 74, u 75, u 76, u 77, u 78, u 79, u 80, u 81, u 82, u 83, u 84, u 85, u 86, u 87, u 88, u 89, u 90, u 91, u 92, u 93, u 94, u 95, u 96, u 97, u 98, u 99, u 100, u 101, u 102, u 103, u 104, u 105, u 106, u 107, u 108, u 109, u 110, u 111, u 112, u 113, u 114, u 115, u 116, u 117, u 118, u 119, u 120, .pointer (some ⟨it, 0, none⟩), u 122, u 123, u 124, u 125, u 126, u 127, u 128]) (fun p => [.obj it (.stringIter ⟨⟨[13, 10]⟩⟩ p)]) (fun p => p ≤ 2) (fun p => 2 - p) 0 (by decide) rfl (by repeat' (first | exact List.Sublist.refl _ | exact List.nil_sublist _ | apply List.Sublist.cons_cons | apply List.Sublist.cons)) ?_
            intro p u hp
            (conv => whnf); repeat ((first | refine tk1 ?_ | refine tk2 ?_ | refine tk3 ?_ | refine tk12 (fun _ => ?_) | refine tk4 ?_ | refine tk5 ?_ | refine tk6 ?_ | refine tk7 ?_ | refine tk8 ?_ | refine tk9 ?_ | refine tk10 (fun _ _ => ?_) | refine tk11 (fun _ => ?_) | refine tk13 ?_ | refine tk14 ?_); (conv => whnf))
            have hp3 : p = 0 ∨ p = 1 ∨ p = 2 := by omega
            rcases hp3 with rfl | rfl | rfl
            · refine Oth.nextS (s := ⟨⟨[13, 10]⟩⟩) (p := 0) rfl (by decide) ?_
              rw [show Utf8.decode ⟨⟨[13, 10]⟩⟩ 0 = (13, 1) by rfl]
              (conv => whnf); repeat ((first | refine tk1 ?_ | refine tk2 ?_ | refine tk3 ?_ | refine tk12 (fun _ => ?_) | refine tk4 ?_ | refine tk5 ?_ | refine tk6 ?_ | refine tk7 ?_ | refine tk8 ?_ | refine tk9 ?_ | refine tk10 (fun _ _ => ?_) | refine tk11 (fun _ => ?_) | refine tk13 ?_ | refine tk14 ?_); (conv => whnf))
              exact ⟨1, by decide, rfl, (by repeat' (first | exact List.Sublist.refl _ | exact List.nil_sublist _ | apply List.Sublist.cons_cons | apply List.Sublist.cons)), by dsimp only; omega⟩
            · refine Oth.nextS (s := ⟨⟨[13, 10]⟩⟩) (p := 1) rfl (by decide) ?_
              rw [show Utf8.decode ⟨⟨[13, 10]⟩⟩ 1 = (10, 1) by rfl]
              (conv => whnf); repeat ((first | refine tk1 ?_ | refine tk2 ?_ | refine tk3 ?_ | refine tk12 (fun _ => ?_) | refine tk4 ?_ | refine tk5 ?_ | refine tk6 ?_ | refine tk7 ?_ | refine tk8 ?_ | refine tk9 ?_ | refine tk10 (fun _ _ => ?_) | refine tk11 (fun _ => ?_) | refine tk13 ?_ | refine tk14 ?_); (conv => whnf))
              exact ⟨2, by decide, rfl, (by repeat' (first | exact List.Sublist.refl _ | exact List.nil_sublist _ | apply List.Sublist.cons_cons | apply List.Sublist.cons)), by dsimp only; omega⟩
            · refine Oth.nextE (s := ⟨⟨[13, 10]⟩⟩) (p := 2) rfl (by decide) ?_
              (conv => whnf); repeat ((first | refine tk1 ?_ | refine tk2 ?_ | refine tk3 ?_ | refine tk12 (fun _ => ?_) | refine tk4 ?_ | refine tk5 ?_ | refine tk6 ?_ | refine tk7 ?_ | refine tk8 ?_ | refine tk9 ?_ | refine tk10 (fun _ _ => ?_) | refine tk11 (fun _ => ?_) | refine tk13 ?_ | refine tk14 ?_); (conv => whnf))
              exact ⟨k + wd, ⟨by omega, hnx⟩, rfl, (by repeat' (first | exact List.Sublist.refl _ | exact List.nil_sublist _ | apply List.Sublist.cons_cons | apply List.Sublist.cons)), by dsimp only; omega⟩
      · refine Cmp.f (by omega) ?_
        (conv => whnf); repeat ((first | refine tk1 ?_ | refine tk2 ?_ | refine tk3 ?_ | refine tk12 (fun _ => ?_) | refine tk4 ?_ | refine tk5 ?_ | refine tk6 ?_ | refine tk7 ?_ | refine tk8 ?_ | refine tk9 ?_ | refine tk10 (fun _ _ => ?_) | refine tk11 (fun _ => ?_) | refine tk13 ?_ | refine tk14 ?_); (conv => whnf))
        refine Oth.rangeS tys_ok rfl rfl (fun it => ?_)
        have hne : (r : Int) ≠ 13 ∧ (r : Int) ≠ 10 := by omega
        have hnx : ∀ j (hj : j < l.length), j < k + wd → l[j].toNat ≠ 10 ∧ l[j].toNat ≠ 13 := hstep
        (conv => whnf); repeat ((first | refine tk1 ?_ | refine tk2 ?_ | refine tk3 ?_ | refine tk12 (fun _ => ?_) | refine tk4 ?_ | refine tk5 ?_ | refine tk6 ?_ | refine tk7 ?_ | refine tk8 ?_ | refine tk9 ?_ | refine tk10 (fun _ _ => ?_) | refine tk11 (fun _ => ?_) | refine tk13 ?_ | refine tk14 ?_); (conv => whnf))
        refine LoopS.lp tys_ok (fun (p : Nat) u => [.slice A l.length cp, str [13, 10], u 2, u 3, u 4, u 5, u 6, u 7, u 8, u 9, u 10, .int .i64 (wd : Nat), .int .i64 (k : Nat), .int .i32 (r : Nat), u 14, u 15, u 16, u 17, u 18, u 19, u 20, u 21, u 22, u 23, u 24, u 25, u 26, u 27, u 28, u 29, u 30, u 31, u 32, u 33, u 34, u 35, u 36, u 37, u 38, u 39, u 40, u 41, u 42, u 43, u 44, u 45, u 46, u 47, u 48, u 49, u 50, u 51, u 52, u 53, u 54, u 55, u 56, u 57, u 58, u 59, u 60, u 61, u 62, u 63, u 64, u 65, u 66, u 67, u 68, u 69, u 70, u 71, u 72, u 73, u 74, u 75, u 76, u 77, u 78, u 79, u 80, u 81, u 82, u 83, u 84, u 85, u 86, u 87, u 88, u 89, u 90, u 91, u 92, u 93, u 94, u 95, u 96, u 97, u 98, u 99, u 100, u 101, u 102, u 103, u 104, u 105, u 106, u 107, u 108, u 109, u 110, u 111, u 112, u 113, u 114, u 115, u 116, u 117, u 118, u 119, u 120, .pointer (some ⟨it, 0, none⟩), u 122, u 123, u 124, u 125, u 126, u 127, u 128]) (fun p => [.obj it (.stringIter ⟨⟨[13, 10]⟩⟩ p)]) (fun p => p ≤ 2) (fun p => 2 - p) 0 (by decide) rfl (by repeat' (first | exact List.Sublist.refl _ | exact List.nil_sublist _ | apply List.Sublist.cons_cons | apply List.Sublist.cons)) ?_
        intro p u hp
        (conv => whnf); repeat ((first | refine tk1 ?_ | refine tk2 ?_ | refine tk3 ?_ | refine tk12 (fun _ => ?_) | refine tk4 ?_ | refine tk5 ?_ | refine tk6 ?_ | refine tk7 ?_ | refine tk8 ?_ | refine tk9 ?_ | refine tk10 (fun _ _ => ?_) | refine tk11 (fun _ => ?_) | refine tk13 ?_ | refine tk14 ?_); (conv => whnf))
        have hp3 : p = 0 ∨ p = 1 ∨ p = 2 := by omega
        rcases hp3 with rfl | rfl | rfl
        · refine Oth.nextS (s := ⟨⟨[13, 10]⟩⟩) (p := 0) rfl (by decide) ?_
          rw [show Utf8.decode ⟨⟨[13, 10]⟩⟩ 0 = (13, 1) by rfl]
          (conv => whnf); repeat ((first | refine tk1 ?_ | refine tk2 ?_ | refine tk3 ?_ | refine tk12 (fun _ => ?_) | refine tk4 ?_ | refine tk5 ?_ | refine tk6 ?_ | refine tk7 ?_ | refine tk8 ?_ | refine tk9 ?_ | refine tk10 (fun _ _ => ?_) | refine tk11 (fun _ => ?_) | refine tk13 ?_ | refine tk14 ?_); (conv => whnf))
          exact ⟨1, by decide, rfl, (by repeat' (first | exact List.Sublist.refl _ | exact List.nil_sublist _ | apply List.Sublist.cons_cons | apply List.Sublist.cons)), by dsimp only; omega⟩
        · refine Oth.nextS (s := ⟨⟨[13, 10]⟩⟩) (p := 1) rfl (by decide) ?_
          rw [show Utf8.decode ⟨⟨[13, 10]⟩⟩ 1 = (10, 1) by rfl]
          (conv => whnf); repeat ((first | refine tk1 ?_ | refine tk2 ?_ | refine tk3 ?_ | refine tk12 (fun _ => ?_) | refine tk4 ?_ | refine tk5 ?_ | refine tk6 ?_ | refine tk7 ?_ | refine tk8 ?_ | refine tk9 ?_ | refine tk10 (fun _ _ => ?_) | refine tk11 (fun _ => ?_) | refine tk13 ?_ | refine tk14 ?_); (conv => whnf))
          exact ⟨2, by decide, rfl, (by repeat' (first | exact List.Sublist.refl _ | exact List.nil_sublist _ | apply List.Sublist.cons_cons | apply List.Sublist.cons)), by dsimp only; omega⟩
        · refine Oth.nextE (s := ⟨⟨[13, 10]⟩⟩) (p := 2) rfl (by decide) ?_
          (conv => whnf); repeat ((first | refine tk1 ?_ | refine tk2 ?_ | refine tk3 ?_ | refine tk12 (fun _ => ?_) | refine tk4 ?_ | refine tk5 ?_ | refine tk6 ?_ | refine tk7 ?_ | refine tk8 ?_ | refine tk9 ?_ | refine tk10 (fun _ _ => ?_) | refine tk11 (fun _ => ?_) | refine tk13 ?_ | refine tk14 ?_); (conv => whnf))
          exact ⟨k + wd, ⟨by omega, hnx⟩, rfl, (by repeat' (first | exact List.Sublist.refl _ | exact List.nil_sublist _ | apply List.Sublist.cons_cons | apply List.Sublist.cons)), by dsimp only; omega⟩
end Go.Proofs.YtbgnogdlkmhnkaaGreatDoor.Vex
/- chunk.Check, reckoned. -/
namespace Go.Proofs.YtbgnogdlkmhnkaaGreatDoor.Vex
open Go Go.RowKit
set_option maxRecDepth 100000
set_option linter.unusedSectionVars false
variable {gI : GI} [HasMax gI] [HasUtf gI]

/-- Where what is left of a line lies. -/
def sufA (cp : Nat) (A : Option Addr) (l : List UInt8) : Option Addr := if crB l then (if (cp : Int) = 0 then A else A.map (·.add (0 * 1))) else A
theorem bare_take (l : List UInt8) (h : crB l = true) : bare l = l.take (l.length - 1) ∧ 0 < l.length := by
  refine ⟨?_, ?_⟩
  · unfold bare
    rw [if_pos h, List.dropLast_eq_take]
  · cases l with
    | nil => exact absurd h (by decide)
    | cons x r => simp
theorem sufA_rd {c : Ctx} {H : Hp} {A : Option Addr} {cp : Nat} {l : List UInt8} (h : RdS c H A (l.map byteV)) (hl : l.length ≤ cp) : RdS c H (sufA cp A l) ((bare l).map byteV) := by
  unfold sufA
  cases hc : crB l with
  | false =>
    rw [bare_no hc]
    exact h
  | true =>
    have hb := bare_take l hc
    rw [hb.1, List.map_take]
    have hp := RdS.piece (cp := cp) (sz := 1) (lo := 0) h (by omega) (fun e => by omega)
    simp only [Int.toNat_zero, Nat.zero_mul, List.drop_zero] at hp
    exact hp.take _
theorem bare_le (l : List UInt8) : (bare l).length ≤ l.length := by
  unfold bare
  split
  · rw [List.length_dropLast]; omega
  · exact Nat.le_refl _
theorem CutSuf_f (A B : Option Addr) (cp cq : Nat) (l : List UInt8) (hl : l.length ≤ 1000000000) :
    FnE Tryz.prog gI 22 [.slice A l.length cp, .slice B 1 cq] (fun w => RdL w [(A, l.map byteV), (B, [byteV 13])] ∧ l.length ≤ cp) fun _ v _ => v = .tuple #[.slice (sufA cp A l) (bare l).length cp, .bool (crB l)] := by
  refine FnE.of tys_ok Tryz.func22 rfl (by kernel_rfl) rfl rfl ?_; intro w hG hP
  have hA : ∀ H, RdS (mkC Tryz.prog gI w hG) H A (l.map byteV) := fun H => hP.1.1.now
  have hB : ∀ H, RdS (mkC Tryz.prog gI w hG) H B [byteV 13] := fun H => hP.1.2.1.now
  have hcp := hP.2
  (conv => whnf); repeat ((first | refine tk1 ?_ | refine tk2 ?_ | refine tk3 ?_ | refine tk12 (fun _ => ?_) | refine tk4 ?_ | refine tk5 ?_ | refine tk6 ?_ | refine tk7 ?_ | refine tk8 ?_ | refine tk9 ?_ | refine tk10 (fun _ _ => ?_) | refine tk11 (fun _ => ?_) | refine tk13 ?_ | refine tk14 ?_); (conv => whnf))
  refine CallK.fnEV (HasSuffix_f A B cp cq l hl) (fun w1 hw1 => ⟨⟨hA _ w1 hw1, hB _ w1 hw1, trivial⟩, hcp⟩) ?_
  unfold sufA
  cases hc : crB l with
  | false =>
    rw [bare_no hc]
    (conv => whnf); repeat ((first | refine tk1 ?_ | refine tk2 ?_ | refine tk3 ?_ | refine tk12 (fun _ => ?_) | refine tk4 ?_ | refine tk5 ?_ | refine tk6 ?_ | refine tk7 ?_ | refine tk8 ?_ | refine tk9 ?_ | refine tk10 (fun _ _ => ?_) | refine tk11 (fun _ => ?_) | refine tk13 ?_ | refine tk14 ?_); (conv => whnf))
    exact fun w' _ => rfl
  | true =>
    have hb := bare_take l hc
    rw [hb.1]
    (conv => whnf); repeat ((first | refine tk1 ?_ | refine tk2 ?_ | refine tk3 ?_ | refine tk12 (fun _ => ?_) | refine tk4 ?_ | refine tk5 ?_ | refine tk6 ?_ | refine tk7 ?_ | refine tk8 ?_ | refine tk9 ?_ | refine tk10 (fun _ _ => ?_) | refine tk11 (fun _ => ?_) | refine tk13 ?_ | refine tk14 ?_); (conv => whnf))
    refine SlcV.cut (by omega) (by omega) (by omega) ?_
    rw [show ((l.length : Int) - ((1 : Nat) : Int)).toNat = (l.take (l.length - 1)).length by rw [List.length_take]; omega]
    (conv => whnf); repeat ((first | refine tk1 ?_ | refine tk2 ?_ | refine tk3 ?_ | refine tk12 (fun _ => ?_) | refine tk4 ?_ | refine tk5 ?_ | refine tk6 ?_ | refine tk7 ?_ | refine tk8 ?_ | refine tk9 ?_ | refine tk10 (fun _ _ => ?_) | refine tk11 (fun _ => ?_) | refine tk13 ?_ | refine tk14 ?_); (conv => whnf))
    exact fun w' _ => rfl
theorem ContainsAny_f (A : Option Addr) (cp : Nat) (l : List UInt8) (hl : l.length ≤ 1000000000) :
    FnE Tryz.prog gI 23 [.slice A l.length cp, str [13, 10]] (fun w => RdL w [(A, l.map byteV)] ∧ l.length ≤ cp) fun _ v _ => v = .bool (!noEnd l) := by
  refine FnE.of tys_ok Tryz.func23 rfl (by kernel_rfl) rfl rfl ?_; intro w hG hP
  have hA : ∀ H, RdS (mkC Tryz.prog gI w hG) H A (l.map byteV) := fun H => hP.1.1.now
  have hcp := hP.2
  (conv => whnf); repeat ((first | refine tk1 ?_ | refine tk2 ?_ | refine tk3 ?_ | refine tk12 (fun _ => ?_) | refine tk4 ?_ | refine tk5 ?_ | refine tk6 ?_ | refine tk7 ?_ | refine tk8 ?_ | refine tk9 ?_ | refine tk10 (fun _ _ => ?_) | refine tk11 (fun _ => ?_) | refine tk13 ?_ | refine tk14 ?_); (conv => whnf))
  refine CallK.fnE (IndexAny_f A cp l hl) (fun w1 hw1 => ⟨⟨hA _ w1 hw1, trivial⟩, hcp⟩) (fun w1 v w2 hs hv hr => ⟨_, hs.below hr, ?_⟩)
  obtain ⟨k, rfl, hk⟩ := hv
  (conv => whnf); repeat ((first | refine tk1 ?_ | refine tk2 ?_ | refine tk3 ?_ | refine tk12 (fun _ => ?_) | refine tk4 ?_ | refine tk5 ?_ | refine tk6 ?_ | refine tk7 ?_ | refine tk8 ?_ | refine tk9 ?_ | refine tk10 (fun _ _ => ?_) | refine tk11 (fun _ => ?_) | refine tk13 ?_ | refine tk14 ?_); (conv => whnf))
  refine Cmp.of (!noEnd l) (by rw [Bool.not_eq_true', hk]) ?_
  (conv => whnf); repeat ((first | refine tk1 ?_ | refine tk2 ?_ | refine tk3 ?_ | refine tk12 (fun _ => ?_) | refine tk4 ?_ | refine tk5 ?_ | refine tk6 ?_ | refine tk7 ?_ | refine tk8 ?_ | refine tk9 ?_ | refine tk10 (fun _ _ => ?_) | refine tk11 (fun _ => ?_) | refine tk13 ?_ | refine tk14 ?_); (conv => whnf))
  exact fun w' _ => rfl
/-- A body under way, as a value. -/
def cV (c : CSt) (A : Option Addr) (cp : Nat) : Value := .agg ⟨[.int .u8 (c.ph : Nat), .int .i64 c.left, .slice A c.line.length cp, .int .i64 c.trail]⟩
set_option maxHeartbeats 4000000 in
theorem CCheck_f (c : CSt) (A : Option Addr) (cp : Nat) (hl : c.line.length ≤ 1000000000) :
    FnE Tryz.prog gI 10 [cV c A cp] (fun w => RdL w [(A, c.line.map byteV)] ∧ c.line.length ≤ cp) fun _ v _ => v = .int .i64 (chE c) := by
  obtain ⟨ph, left, line, trail⟩ := c
  unfold cV
  dsimp only at hl ⊢
  refine FnE.of tys_ok Tryz.func10 rfl (by kernel_rfl) rfl rfl ?_; intro w hG hP
  have hA : ∀ H, RdS (mkC Tryz.prog gI w hG) H A (line.map byteV) := fun H => hP.1.1.now
  have hcp := hP.2
  have hbl := bare_le line
  have hB : ∀ H, RdS (mkC Tryz.prog gI w hG) H (sufA cp A line) ((bare line).map byteV) := fun H => sufA_rd (hA H) hcp
  (conv => whnf); repeat ((first | refine tk1 ?_ | refine tk2 ?_ | refine tk3 ?_ | refine tk12 (fun _ => ?_) | refine tk4 ?_ | refine tk5 ?_ | refine tk6 ?_ | refine tk7 ?_ | refine tk8 ?_ | refine tk9 ?_ | refine tk10 (fun _ _ => ?_) | refine tk11 (fun _ => ?_) | refine tk13 ?_ | refine tk14 ?_); (conv => whnf))
  rename_i b2
  refine Oth.same tys_ok rfl rfl rfl (fun o2 ho2 => ?_)
  have hR2 : ∀ H, RdA (mkC Tryz.prog gI w hG) (.obj b2 o2 :: H) (some ⟨b2, 0, none⟩) _ := ho2.rd
  (conv => whnf); repeat ((first | refine tk1 ?_ | refine tk2 ?_ | refine tk3 ?_ | refine tk12 (fun _ => ?_) | refine tk4 ?_ | refine tk5 ?_ | refine tk6 ?_ | refine tk7 ?_ | refine tk8 ?_ | refine tk9 ?_ | refine tk10 (fun _ _ => ?_) | refine tk11 (fun _ => ?_) | refine tk13 ?_ | refine tk14 ?_); (conv => whnf))
  refine CallK.fnEV (CutSuf_f A (some ⟨b2, 0, none⟩) cp _ line hl) (fun w1 hw1 => ⟨⟨hA _ w1 hw1, RdA.ok (xs := [byteV 13]) w1 hw1, trivial⟩, hcp⟩) ?_
  (conv => whnf); repeat ((first | refine tk1 ?_ | refine tk2 ?_ | refine tk3 ?_ | refine tk12 (fun _ => ?_) | refine tk4 ?_ | refine tk5 ?_ | refine tk6 ?_ | refine tk7 ?_ | refine tk8 ?_ | refine tk9 ?_ | refine tk10 (fun _ _ => ?_) | refine tk11 (fun _ => ?_) | refine tk13 ?_ | refine tk14 ?_); (conv => whnf))
  refine CallK.fnEV (ContainsAny_f (sufA cp A line) cp (bare line) (by omega)) (fun w1 hw1 => ⟨⟨hB _ w1 hw1, trivial⟩, by omega⟩) ?_
  (conv => whnf); repeat ((first | refine tk1 ?_ | refine tk2 ?_ | refine tk3 ?_ | refine tk12 (fun _ => ?_) | refine tk4 ?_ | refine tk5 ?_ | refine tk6 ?_ | refine tk7 ?_ | refine tk8 ?_ | refine tk9 ?_ | refine tk10 (fun _ _ => ?_) | refine tk11 (fun _ => ?_) | refine tk13 ?_ | refine tk14 ?_); (conv => whnf))
  have hbz : bare line = [] ↔ (bare line).length = 0 := List.length_eq_zero_iff.symm
  have hlz : line = [] ↔ line.length = 0 := List.length_eq_zero_iff.symm
  clear hB hR2 hA
  rcases (show ph = 0 ∨ ph = 1 ∨ ph = 2 ∨ ph = 3 ∨ ph = 4 ∨ 5 ≤ ph by omega) with rfl | rfl | rfl | rfl | rfl | hp
  · by_cases a0 : (bare line).length ≤ 64 <;> by_cases a1 : left = 0 <;> by_cases a2 : trail = 0 <;> cases a3 : noEnd (bare line)
    all_goals
      (conv => whnf); repeat ((first | refine tk1 ?_ | refine tk2 ?_ | refine tk3 ?_ | refine tk12 (fun _ => ?_) | refine tk4 ?_ | refine tk5 ?_ | refine tk6 ?_ | refine tk7 ?_ | refine tk8 ?_ | refine tk9 ?_ | refine tk10 (fun _ _ => ?_) | refine tk11 (fun _ => ?_) | refine tk13 ?_ | refine tk14 ?_); (conv => whnf))
      exact fun w' _ => by simp [chE, chMay, lineMay, leftMay, trailMay, *] <;> omega
  · by_cases a0 : line.length = 0 <;> by_cases a1 : 1 ≤ left <;> by_cases a2 : left < 16777216 <;> by_cases a3 : trail = 0 <;> cases a4 : noEnd (bare line)
    all_goals
      (conv => whnf); repeat ((first | refine tk1 ?_ | refine tk2 ?_ | refine tk3 ?_ | refine tk12 (fun _ => ?_) | refine tk4 ?_ | refine tk5 ?_ | refine tk6 ?_ | refine tk7 ?_ | refine tk8 ?_ | refine tk9 ?_ | refine tk10 (fun _ _ => ?_) | refine tk11 (fun _ => ?_) | refine tk13 ?_ | refine tk14 ?_); (conv => whnf))
      exact fun w' _ => by simp [chE, chMay, lineMay, leftMay, trailMay, *] <;> omega
  · by_cases a0 : (bare line).length = 0 <;> by_cases a1 : left = 0 <;> by_cases a2 : trail = 0 <;> cases a3 : noEnd (bare line)
    all_goals
      (conv => whnf); repeat ((first | refine tk1 ?_ | refine tk2 ?_ | refine tk3 ?_ | refine tk12 (fun _ => ?_) | refine tk4 ?_ | refine tk5 ?_ | refine tk6 ?_ | refine tk7 ?_ | refine tk8 ?_ | refine tk9 ?_ | refine tk10 (fun _ _ => ?_) | refine tk11 (fun _ => ?_) | refine tk13 ?_ | refine tk14 ?_); (conv => whnf))
      exact fun w' _ => by simp [chE, chMay, lineMay, leftMay, trailMay, *] <;> omega
  · by_cases a0 : line.length ≤ 256 <;> by_cases a1 : left = 0 <;> by_cases a2 : (line.length : Int) ≤ trail <;> by_cases a3 : trail ≤ 256 <;> cases a4 : noEnd (bare line)
    all_goals
      (conv => whnf); repeat ((first | refine tk1 ?_ | refine tk2 ?_ | refine tk3 ?_ | refine tk12 (fun _ => ?_) | refine tk4 ?_ | refine tk5 ?_ | refine tk6 ?_ | refine tk7 ?_ | refine tk8 ?_ | refine tk9 ?_ | refine tk10 (fun _ _ => ?_) | refine tk11 (fun _ => ?_) | refine tk13 ?_ | refine tk14 ?_); (conv => whnf))
      exact fun w' _ => by simp [chE, chMay, lineMay, leftMay, trailMay, *] <;> omega
  · by_cases a0 : line.length = 0 <;> by_cases a1 : left = 0 <;> by_cases a2 : trail = 0 <;> cases a3 : noEnd (bare line)
    all_goals
      (conv => whnf); repeat ((first | refine tk1 ?_ | refine tk2 ?_ | refine tk3 ?_ | refine tk12 (fun _ => ?_) | refine tk4 ?_ | refine tk5 ?_ | refine tk6 ?_ | refine tk7 ?_ | refine tk8 ?_ | refine tk9 ?_ | refine tk10 (fun _ _ => ?_) | refine tk11 (fun _ => ?_) | refine tk13 ?_ | refine tk14 ?_); (conv => whnf))
      exact fun w' _ => by simp [chE, chMay, lineMay, leftMay, trailMay, *] <;> omega
  · have q0 : ¬ ph = 0 := by omega
    have q1 : ¬ ph = 1 := by omega
    have q2 : ¬ ph = 2 := by omega
    have q3 : ¬ ph = 3 := by omega
    have q4 : ¬ ph = 4 := by omega
    by_cases a0 : left = 0 <;> by_cases a1 : trail = 0 <;> cases a2 : noEnd (bare line)
    all_goals
      (conv => whnf); repeat ((first | refine tk1 ?_ | refine tk2 ?_ | refine tk3 ?_ | refine tk12 (fun _ => ?_) | refine tk4 ?_ | refine tk5 ?_ | refine tk6 ?_ | refine tk7 ?_ | refine tk8 ?_ | refine tk9 ?_ | refine tk10 (fun _ _ => ?_) | refine tk11 (fun _ => ?_) | refine tk13 ?_ | refine tk14 ?_); (conv => whnf))
      exact fun w' _ => by simp [chE, chMay, lineMay, leftMay, trailMay, *] <;> omega
end Go.Proofs.YtbgnogdlkmhnkaaGreatDoor.Vex
/- strings.Cut at one byte; strings.TrimRight of blanks; strings.ContainsAny of ASCII: reckoned. -/
namespace Go.Proofs.YtbgnogdlkmhnkaaGreatDoor.Vex
open Go Go.RowKit
set_option maxRecDepth 100000
set_option linter.unusedSectionVars false
variable {gI : GI} [HasMax gI]

theorem SLIndex1_f (l : List UInt8) (x : UInt8) : Fn Tryz.prog gI 88 [str l, str [x]] (.int .i64 (Lib.index l [x])) :=
  ⟨callable Tryz.func88 rfl (by kernel_rfl), fun w _ => (Tryz.stringslite_Index_one ⟨⟨l⟩⟩ x w).mono fun _ _ ⟨he, hw⟩ => ⟨by rw [he, Lib.index_one], by rw [hw]; exact R.refl _⟩⟩
theorem SLCut1_f (l : List UInt8) (x : UInt8) (hl : l.length ≤ 9223372036854775807) : Fn Tryz.prog gI 63 [str l, str [x]] (.tuple #[str (cutB x l).1, str (cutB x l).2.1, .bool (cutB x l).2.2]) := by
  rw [← cut_one]
  have hr := index_one x l
  refine Fn.of tys_ok Tryz.func63 rfl (by kernel_rfl) rfl rfl ?_; intro w hG
  (conv => whnf); repeat ((first | refine tk1 ?_ | refine tk2 ?_ | refine tk3 ?_ | refine tk12 (fun _ => ?_) | refine tk4 ?_ | refine tk5 ?_ | refine tk6 ?_ | refine tk7 ?_ | refine tk8 ?_ | refine tk9 ?_ | refine tk10 (fun _ _ => ?_) | refine tk11 (fun _ => ?_) | refine tk13 ?_ | refine tk14 ?_); (conv => whnf))
  refine CallK.fn (SLIndex1_f l x) ?_
  unfold Lib.cut
  rcases hr with ⟨h1, h2⟩ | ⟨k, h1, h2, h3, h4⟩
  · rw [h1]
    (conv => whnf); repeat ((first | refine tk1 ?_ | refine tk2 ?_ | refine tk3 ?_ | refine tk12 (fun _ => ?_) | refine tk4 ?_ | refine tk5 ?_ | refine tk6 ?_ | refine tk7 ?_ | refine tk8 ?_ | refine tk9 ?_ | refine tk10 (fun _ _ => ?_) | refine tk11 (fun _ => ?_) | refine tk13 ?_ | refine tk14 ?_); (conv => whnf))
    rfl
  · rw [h1]
    rw [if_pos (by omega)]
    have hkl : k < l.length := (List.getElem?_eq_some_iff.1 h4).1
    have hx1 : ([x] : List UInt8).length = 1 := rfl
    (conv => whnf); repeat ((first | refine tk1 ?_ | refine tk2 ?_ | refine tk3 ?_ | refine tk12 (fun _ => ?_) | refine tk4 ?_ | refine tk5 ?_ | refine tk6 ?_ | refine tk7 ?_ | refine tk8 ?_ | refine tk9 ?_ | refine tk10 (fun _ _ => ?_) | refine tk11 (fun _ => ?_) | refine tk13 ?_ | refine tk14 ?_); (conv => whnf))
    refine DrawS.go (qs 12) tys_ok mixed (by kernel_rfl) ?_
    (conv => whnf); repeat ((first | refine tk1 ?_ | refine tk2 ?_ | refine tk3 ?_ | refine tk12 (fun _ => ?_) | refine tk4 ?_ | refine tk5 ?_ | refine tk6 ?_ | refine tk7 ?_ | refine tk8 ?_ | refine tk9 ?_ | refine tk10 (fun _ _ => ?_) | refine tk11 (fun _ => ?_) | refine tk13 ?_ | refine tk14 ?_); (conv => whnf))
    refine SlcS.at (by omega) (by omega) (by omega) ?_
    (conv => whnf); repeat ((first | refine tk1 ?_ | refine tk2 ?_ | refine tk3 ?_ | refine tk12 (fun _ => ?_) | refine tk4 ?_ | refine tk5 ?_ | refine tk6 ?_ | refine tk7 ?_ | refine tk8 ?_ | refine tk9 ?_ | refine tk10 (fun _ _ => ?_) | refine tk11 (fun _ => ?_) | refine tk13 ?_ | refine tk14 ?_); (conv => whnf))
    refine SlcS.at (by omega) (by omega) (by omega) ?_
    (conv => whnf); repeat ((first | refine tk1 ?_ | refine tk2 ?_ | refine tk3 ?_ | refine tk12 (fun _ => ?_) | refine tk4 ?_ | refine tk5 ?_ | refine tk6 ?_ | refine tk7 ?_ | refine tk8 ?_ | refine tk9 ?_ | refine tk10 (fun _ _ => ?_) | refine tk11 (fun _ => ?_) | refine tk13 ?_ | refine tk14 ?_); (conv => whnf))
    simp
theorem Cut1_f (l : List UInt8) (x : UInt8) (hl : l.length ≤ 9223372036854775807) : Fn Tryz.prog gI 42 [str l, str [x]] (.tuple #[str (cutB x l).1, str (cutB x l).2.1, .bool (cutB x l).2.2]) := by
  refine Fn.of tys_ok Tryz.func42 rfl (by kernel_rfl) rfl rfl ?_; intro w hG
  (conv => whnf); repeat ((first | refine tk1 ?_ | refine tk2 ?_ | refine tk3 ?_ | refine tk12 (fun _ => ?_) | refine tk4 ?_ | refine tk5 ?_ | refine tk6 ?_ | refine tk7 ?_ | refine tk8 ?_ | refine tk9 ?_ | refine tk10 (fun _ _ => ?_) | refine tk11 (fun _ => ?_) | refine tk13 ?_ | refine tk14 ?_); (conv => whnf))
  refine CallK.fn (SLCut1_f l x hl) ?_
  (conv => whnf); repeat ((first | refine tk1 ?_ | refine tk2 ?_ | refine tk3 ?_ | refine tk12 (fun _ => ?_) | refine tk4 ?_ | refine tk5 ?_ | refine tk6 ?_ | refine tk7 ?_ | refine tk8 ?_ | refine tk9 ?_ | refine tk10 (fun _ _ => ?_) | refine tk11 (fun _ => ?_) | refine tk13 ?_ | refine tk14 ?_); (conv => whnf))
theorem trimR_eq (l : List UInt8) : Lib.trimRightS l [32, 9] = (l.reverse.dropWhile (fun x => x == 32 || x == 9)).reverse := by
  unfold Lib.trimRightS
  congr 2
  funext b
  simp
  rfl
theorem TrimR_f (l : List UInt8) (hl : l.length ≤ 1000000000) : Fn Tryz.prog gI 43 [str l, str [32, 9]] (str (l.reverse.dropWhile (fun x => x == 32 || x == 9)).reverse) :=
  ⟨callable Tryz.func43 rfl (by kernel_rfl), fun w _ => (Any.strings_TrimRight_laid Tryz.lays162 (by kernel_rfl) ⟨⟨l⟩⟩ ⟨#[32, 9]⟩ w (by show l.length ≤ _; omega) (by decide) (ascii_of_all (by decide))).mono fun _ _ ⟨he, hw⟩ => ⟨by rw [← trimR_eq]; exact he, hw⟩⟩
theorem SContainsAny_f (l p : List UInt8) (hl : l.length ≤ 1000000000) (hp : p.length ≤ 1000) (ha : ∀ x ∈ l, x.toNat < 128) (hb : ∀ x ∈ p, x.toNat < 128) : Fn Tryz.prog gI 45 [str l, str p] (.bool (Lib.containsAny l p)) :=
  ⟨callable Tryz.func45 rfl (by kernel_rfl), fun w _ => (Any.strings_ContainsAny_laid Tryz.lays150 (by kernel_rfl) ⟨⟨l⟩⟩ ⟨⟨p⟩⟩ w (by show l.length < _; omega) (by show p.length < _; omega) (fun j b h => ha b (List.mem_of_getElem? h)) (fun j b h => hb b (List.mem_of_getElem? h))).mono fun _ _ ⟨he, hw⟩ => ⟨he, hw⟩⟩
end Go.Proofs.YtbgnogdlkmhnkaaGreatDoor.Vex
/- The program's functions on bodies in chunks, reckoned: line, number, size, end, trailer. -/
namespace Go.Proofs.YtbgnogdlkmhnkaaGreatDoor.Vex
open Go Go.RowKit
set_option maxRecDepth 100000
set_option linter.unusedSectionVars false
variable {gI : GI} [HasMax gI] [HasUtf gI] [HasErr gI]

/-- The memory of a body under way. -/
structure CMem where
  lA : Option Addr
  lc : Nat
  dA : Option Addr
  dc : Nat
def cHeap (b : Nat) (s : CSt) (d : List UInt8) (y : CMem) (X : Hp) : Hp :=
  .box b [.int .u8 (s.ph : Nat), .int .i64 s.left, .slice y.lA s.line.length y.lc, .int .i64 s.trail, .slice y.dA d.length y.dc] 45 ::
  .row (.slice y.lA s.line.length y.lc) 5 1 s.line.length (s.line.map byteV) :: .row (.slice y.dA d.length y.dc) 5 1 d.length (d.map byteV) :: X
theorem may_le {s : CSt} (h : chMay s = true) : s.ph ≤ 4 ∧ 0 ≤ s.left ∧ s.left < 16777216 ∧ 0 ≤ s.trail ∧ s.trail ≤ 256 ∧ s.line.length ≤ 300 := by
  obtain ⟨ph, left, line, trail⟩ := s
  have hb : line.length ≤ (bare line).length + 1 := by
    unfold bare
    split
    · rw [List.length_dropLast]; omega
    · omega
  unfold chMay lineMay leftMay trailMay at h
  dsimp only at h ⊢
  rcases (show ph = 0 ∨ ph = 1 ∨ ph = 2 ∨ ph = 3 ∨ ph = 4 ∨ 5 ≤ ph by omega) with rfl | rfl | rfl | rfl | rfl | hp
  · simp at h; omega
  · simp at h; rw [h.1] at *; simp; omega
  · simp at h; rw [h.1.2] at hb; simp at hb; omega
  · simp at h; omega
  · simp at h; rw [h.1] at *; simp; omega
  · rw [if_neg (by omega), if_neg (by omega), if_neg (by omega), if_neg (by omega)] at h
    simp at h
def lineT (l : List UInt8) (x : UInt8) : Value := .tuple #[str ((lineG l x).2.1.getD []), .bool (lineG l x).2.1.isSome, .int .i64 (lineG l x).2.2]
theorem line_k {c : Ctx} (hc : Ours Tryz.prog gI c) {b : Nat} {ph : Nat} {left trail : Int} {l d : List UInt8} {y : CMem} {x : UInt8} {X : Hp} {K : Value → Hp → Prop} (hl : l.length ≤ 200000)
    (k : ∀ y', K (lineT l x) (cHeap b ⟨ph, left, (lineG l x).1, trail⟩ d y' X)) : CallK c false 30 [.pointer (some ⟨b, 0, none⟩), .int .u8 x.toNat] (cHeap b ⟨ph, left, l, trail⟩ d y X) K := by
  obtain ⟨P, g, w0, M, hM, hG⟩ := c
  have hc' := hc
  obtain ⟨rfl, rfl⟩ := hc
  obtain ⟨lA, lc, dA, dc⟩ := y
  have hx := x.toNat_lt
  have hx10 : x = 10 ↔ x.toNat = 10 := by rw [← UInt8.toNat_inj]; rfl
  unfold cHeap
  dsimp only
  refine CallK.post ?_
  refine CallK.inl tys_ok Tryz.func30 rfl (by kernel_rfl) rfl rfl ?_
  (conv => whnf); repeat ((first | refine tk1 ?_ | refine tk2 ?_ | refine tk3 ?_ | refine tk12 (fun _ => ?_) | refine tk4 ?_ | refine tk5 ?_ | refine tk6 ?_ | refine tk7 ?_ | refine tk8 ?_ | refine tk9 ?_ | refine tk10 (fun _ _ => ?_) | refine tk11 (fun _ => ?_) | refine tk13 ?_ | refine tk14 ?_); (conv => whnf))
  rename_i b2
  refine Oth.same tys_ok rfl rfl rfl (fun o2 ho2 => ?_)
  have hR2 : ∀ H, RdA (⟨Tryz.prog, g, w0, M, hM, hG⟩) (.obj b2 o2 :: H) (some ⟨b2, 0, none⟩) _ := ho2.rd
  (conv => whnf); repeat ((first | refine tk1 ?_ | refine tk2 ?_ | refine tk3 ?_ | refine tk12 (fun _ => ?_) | refine tk4 ?_ | refine tk5 ?_ | refine tk6 ?_ | refine tk7 ?_ | refine tk8 ?_ | refine tk9 ?_ | refine tk10 (fun _ _ => ?_) | refine tk11 (fun _ => ?_) | refine tk13 ?_ | refine tk14 ?_); (conv => whnf))
  refine CallK.fnEV (HasSuffix_f lA (some ⟨b2, 0, none⟩) lc _ l (by omega)) (fun w1 hw1 => ⟨⟨RdA.ok (xs := l.map byteV) w1 hw1, RdA.ok (xs := [byteV 13]) w1 hw1, trivial⟩, row_cap (A := lA) (e := 5) (sz := 1) (n' := l.length) (xs := l.map byteV) hw1⟩) ?_
  cases hcr : crB l
  · by_cases h10 : x.toNat = 10
    · have e : lineG l x = (l, none, 3) := by simp [lineG, hcr, hx10.2 h10]
      rw [lineT, e] at k
      (conv => whnf); repeat ((first | refine tk1 ?_ | refine tk2 ?_ | refine tk3 ?_ | refine tk12 (fun _ => ?_) | refine tk4 ?_ | refine tk5 ?_ | refine tk6 ?_ | refine tk7 ?_ | refine tk8 ?_ | refine tk9 ?_ | refine tk10 (fun _ _ => ?_) | refine tk11 (fun _ => ?_) | refine tk13 ?_ | refine tk14 ?_); (conv => whnf))
      exact ⟨_, Cv.into (by (try dsimp only); repeat' (first | with_reducible exact Cv.refl | with_reducible exact Cv.left | with_reducible exact Cv.right | with_reducible exact Cv.nil | (with_reducible apply Cv.cons; focus ((repeat (first | with_reducible exact Pick.here | with_reducible apply Pick.skip)); done)) | (apply Cv.cons; focus ((repeat (first | exact Pick.here | apply Pick.skip)); done)) | exact Cv.nil | exact Cv.refl | exact Cv.left | exact Cv.right | refine Cv.skip ?_)), k ⟨lA, lc, dA, dc⟩⟩
    · have e : lineG l x = (l ++ [x], none, 0) := by simp [lineG, hcr, mt hx10.1 h10]
      rw [lineT, e] at k
      (conv => whnf); repeat ((first | refine tk1 ?_ | refine tk2 ?_ | refine tk3 ?_ | refine tk12 (fun _ => ?_) | refine tk4 ?_ | refine tk5 ?_ | refine tk6 ?_ | refine tk7 ?_ | refine tk8 ?_ | refine tk9 ?_ | refine tk10 (fun _ _ => ?_) | refine tk11 (fun _ => ?_) | refine tk13 ?_ | refine tk14 ?_); (conv => whnf))
      refine AppS.tc (m := 1) (news := [byteV x]) SrcK.tc rfl (by simp [Value.oneCell', byteV]) (by decide) (by omega) (by omega) (zs := (l ++ [x]).map byteV) (by rw [List.map_append]; rfl) (fun lA' lc' => ?_)
      rw [show l.length + 1 = (l ++ [x]).length by simp]
      (conv => whnf); repeat ((first | refine tk1 ?_ | refine tk2 ?_ | refine tk3 ?_ | refine tk12 (fun _ => ?_) | refine tk4 ?_ | refine tk5 ?_ | refine tk6 ?_ | refine tk7 ?_ | refine tk8 ?_ | refine tk9 ?_ | refine tk10 (fun _ _ => ?_) | refine tk11 (fun _ => ?_) | refine tk13 ?_ | refine tk14 ?_); (conv => whnf))
      refine ⟨_, ?_, k ⟨lA', lc', dA, dc⟩⟩
      exact Cv.into (by (try dsimp only); repeat' (first | with_reducible exact Cv.refl | with_reducible exact Cv.left | with_reducible exact Cv.right | with_reducible exact Cv.nil | (with_reducible apply Cv.cons; focus ((repeat (first | with_reducible exact Pick.here | with_reducible apply Pick.skip)); done)) | (apply Cv.cons; focus ((repeat (first | exact Pick.here | apply Pick.skip)); done)) | exact Cv.nil | exact Cv.refl | exact Cv.left | exact Cv.right | refine Cv.skip ?_))
  · have hb := bare_take l hcr
    by_cases h10 : x.toNat = 10
    · have e : lineG l x = ([], some (l.take (l.length - 1)), 0) := by simp [lineG, hcr, hx10.2 h10, List.dropLast_eq_take]
      rw [lineT, e] at k
      (conv => whnf); repeat ((first | refine tk1 ?_ | refine tk2 ?_ | refine tk3 ?_ | refine tk12 (fun _ => ?_) | refine tk4 ?_ | refine tk5 ?_ | refine tk6 ?_ | refine tk7 ?_ | refine tk8 ?_ | refine tk9 ?_ | refine tk10 (fun _ _ => ?_) | refine tk11 (fun _ => ?_) | refine tk13 ?_ | refine tk14 ?_); (conv => whnf))
      refine DrawS.go (qs 15) tys_ok mixed (by kernel_rfl) ?_
      (conv => whnf); repeat ((first | refine tk1 ?_ | refine tk2 ?_ | refine tk3 ?_ | refine tk12 (fun _ => ?_) | refine tk4 ?_ | refine tk5 ?_ | refine tk6 ?_ | refine tk7 ?_ | refine tk8 ?_ | refine tk9 ?_ | refine tk10 (fun _ _ => ?_) | refine tk11 (fun _ => ?_) | refine tk13 ?_ | refine tk14 ?_); (conv => whnf))
      refine SlcV.to (by omega) (by omega) ?_
      (conv => whnf); repeat ((first | refine tk1 ?_ | refine tk2 ?_ | refine tk3 ?_ | refine tk12 (fun _ => ?_) | refine tk4 ?_ | refine tk5 ?_ | refine tk6 ?_ | refine tk7 ?_ | refine tk8 ?_ | refine tk9 ?_ | refine tk10 (fun _ _ => ?_) | refine tk11 (fun _ => ?_) | refine tk13 ?_ | refine tk14 ?_); (conv => whnf))
      refine B2S.rd (l := l.take (l.length - 1)) (by rw [List.map_take]; exact RdS.take (RdA.ok (xs := l.map byteV)) _) (by rw [List.length_take]; omega) ?_
      (conv => whnf); repeat ((first | refine tk1 ?_ | refine tk2 ?_ | refine tk3 ?_ | refine tk12 (fun _ => ?_) | refine tk4 ?_ | refine tk5 ?_ | refine tk6 ?_ | refine tk7 ?_ | refine tk8 ?_ | refine tk9 ?_ | refine tk10 (fun _ _ => ?_) | refine tk11 (fun _ => ?_) | refine tk13 ?_ | refine tk14 ?_); (conv => whnf))
      exact ⟨_, Into.trans (Into.nilRow (e := 5) (sz := 1) Into.refl) (Cv.into (by (try dsimp only); repeat' (first | with_reducible exact Cv.refl | with_reducible exact Cv.left | with_reducible exact Cv.right | with_reducible exact Cv.nil | (with_reducible apply Cv.cons; focus ((repeat (first | with_reducible exact Pick.here | with_reducible apply Pick.skip)); done)) | (apply Cv.cons; focus ((repeat (first | exact Pick.here | apply Pick.skip)); done)) | exact Cv.nil | exact Cv.refl | exact Cv.left | exact Cv.right | refine Cv.skip ?_))), k ⟨none, 0, dA, dc⟩⟩
    · have e : lineG l x = (l, none, 3) := by simp [lineG, hcr]; intro h; exact absurd (hx10.1 h) h10
      rw [lineT, e] at k
      (conv => whnf); repeat ((first | refine tk1 ?_ | refine tk2 ?_ | refine tk3 ?_ | refine tk12 (fun _ => ?_) | refine tk4 ?_ | refine tk5 ?_ | refine tk6 ?_ | refine tk7 ?_ | refine tk8 ?_ | refine tk9 ?_ | refine tk10 (fun _ _ => ?_) | refine tk11 (fun _ => ?_) | refine tk13 ?_ | refine tk14 ?_); (conv => whnf))
      exact ⟨_, Cv.into (by (try dsimp only); repeat' (first | with_reducible exact Cv.refl | with_reducible exact Cv.left | with_reducible exact Cv.right | with_reducible exact Cv.nil | (with_reducible apply Cv.cons; focus ((repeat (first | with_reducible exact Pick.here | with_reducible apply Pick.skip)); done)) | (apply Cv.cons; focus ((repeat (first | exact Pick.here | apply Pick.skip)); done)) | exact Cv.nil | exact Cv.refl | exact Cv.left | exact Cv.right | refine Cv.skip ?_)), k ⟨lA, lc, dA, dc⟩⟩
end Go.Proofs.YtbgnogdlkmhnkaaGreatDoor.Vex
/- The program's functions on bodies in chunks, reckoned: number, size, end, trailer. -/
namespace Go.Proofs.YtbgnogdlkmhnkaaGreatDoor.Vex
open Go Go.RowKit
set_option maxRecDepth 100000
set_option linter.unusedSectionVars false
variable {gI : GI} [HasMax gI] [HasUtf gI] [HasErr gI]

theorem number_f (s : List UInt8) (hs : s.length ≤ 1000000) : Fn Tryz.prog gI 31 [str s] (.tuple #[.int .i64 (if numC s < 0 then 0 else numC s), .int .i64 (if numC s < 0 then 3 else 0)]) := by
  refine Fn.of tys_ok Tryz.func31 rfl (by kernel_rfl) rfl rfl ?_; intro w hG
  have hct := cutB_length 59 s
  have htr : Fn Tryz.prog gI 43 [str (cutB 59 s).1, str [32, 9]] (str (digsOf s)) := TrimR_f (gI := gI) (cutB 59 s).1 (by omega)
  have hdl := digsOf_le s
  have hpu := PU_f (gI := gI) (digsOf s) 64 mx64 (.inr ⟨rfl, rfl⟩) (by omega)
  have hval := Value_f (gI := gI) ([46] ++ (cutB 59 s).2.1 ++ [46]) (by simp; omega)
  have hnum : numC s = if decide (1 ≤ (digsOf s).length) && (decide ((digsOf s).length ≤ 6) && ((digsOf s).all hexB && (!(cutB 59 s).2.2 || valueOf ([46] ++ (cutB 59 s).2.1 ++ [46])))) then hexN (digsOf s) else -1 := rfl
  have hpd := fun h => pu_digs (digsOf s) h
  have hasc : (digsOf s).all hexB = true → Fn Tryz.prog gI 45 [str (digsOf s), str [43, 45, 95]] (.bool false) := fun h => by
    have := SContainsAny_f (gI := gI) (digsOf s) [43, 45, 95] (by omega) (by decide) (hex_ascii h) (by decide)
    rw [hex_noAny _ h] at this
    exact this
  have hex0 : (digsOf s).all hexB = true → 0 ≤ hexN (digsOf s) := fun h => (hexN_lt (digsOf s) 0 h (Int.le_refl _)).1
  have hlt := numC_range s
  (conv => whnf); repeat ((first | refine tk1 ?_ | refine tk2 ?_ | refine tk3 ?_ | refine tk12 (fun _ => ?_) | refine tk4 ?_ | refine tk5 ?_ | refine tk6 ?_ | refine tk7 ?_ | refine tk8 ?_ | refine tk9 ?_ | refine tk10 (fun _ _ => ?_) | refine tk11 (fun _ => ?_) | refine tk13 ?_ | refine tk14 ?_); (conv => whnf))
  refine CallK.fn (Cut1_f s 59 (by omega)) ?_
  generalize digsOf s = dg at *
  generalize hmore : (cutB 59 s).2.1 = more at *
  generalize his : (cutB 59 s).2.2 = is at *
  (conv => whnf); repeat ((first | refine tk1 ?_ | refine tk2 ?_ | refine tk3 ?_ | refine tk12 (fun _ => ?_) | refine tk4 ?_ | refine tk5 ?_ | refine tk6 ?_ | refine tk7 ?_ | refine tk8 ?_ | refine tk9 ?_ | refine tk10 (fun _ _ => ?_) | refine tk11 (fun _ => ?_) | refine tk13 ?_ | refine tk14 ?_); (conv => whnf))
  refine CallK.fn htr ?_
  (conv => whnf); repeat ((first | refine tk1 ?_ | refine tk2 ?_ | refine tk3 ?_ | refine tk12 (fun _ => ?_) | refine tk4 ?_ | refine tk5 ?_ | refine tk6 ?_ | refine tk7 ?_ | refine tk8 ?_ | refine tk9 ?_ | refine tk10 (fun _ _ => ?_) | refine tk11 (fun _ => ?_) | refine tk13 ?_ | refine tk14 ?_); (conv => whnf))
  refine CallK.fnE hpu (fun _ _ => trivial) (fun w1 v w2 hs hv hr => ⟨_, hs.below hr, ?_⟩)
  by_cases h6 : dg.length ≤ 6
  · have hp := hpd h6
    rcases hv with ⟨h0, rfl⟩ | ⟨h0, te, p, rfl⟩
    · have hh := hp.1.1 h0
      rw [hp.2 h0]
      rw [decide_eq_true hh.1, decide_eq_true h6, hh.2] at hnum
      simp only [Bool.true_and] at hnum
      have hx0 := hex0 hh.2
      (conv => whnf); repeat ((first | refine tk1 ?_ | refine tk2 ?_ | refine tk3 ?_ | refine tk12 (fun _ => ?_) | refine tk4 ?_ | refine tk5 ?_ | refine tk6 ?_ | refine tk7 ?_ | refine tk8 ?_ | refine tk9 ?_ | refine tk10 (fun _ _ => ?_) | refine tk11 (fun _ => ?_) | refine tk13 ?_ | refine tk14 ?_); (conv => whnf))
      refine OthP.ifNe tys_ok rfl rfl (v := .nilIface) rfl ?_
      (conv => whnf); repeat ((first | refine tk1 ?_ | refine tk2 ?_ | refine tk3 ?_ | refine tk12 (fun _ => ?_) | refine tk4 ?_ | refine tk5 ?_ | refine tk6 ?_ | refine tk7 ?_ | refine tk8 ?_ | refine tk9 ?_ | refine tk10 (fun _ _ => ?_) | refine tk11 (fun _ => ?_) | refine tk13 ?_ | refine tk14 ?_); (conv => whnf))
      refine CallK.fn (hasc hh.2) ?_
      cases is
      · simp only [Bool.not_false, Bool.true_or, if_true] at hnum
        rw [hnum] at hlt ⊢
        rw [if_neg (by omega), if_neg (by omega)]
        (conv => whnf); repeat ((first | refine tk1 ?_ | refine tk2 ?_ | refine tk3 ?_ | refine tk12 (fun _ => ?_) | refine tk4 ?_ | refine tk5 ?_ | refine tk6 ?_ | refine tk7 ?_ | refine tk8 ?_ | refine tk9 ?_ | refine tk10 (fun _ _ => ?_) | refine tk11 (fun _ => ?_) | refine tk13 ?_ | refine tk14 ?_); (conv => whnf))
      · simp only [Bool.not_true, Bool.false_or] at hnum
        (conv => whnf); repeat ((first | refine tk1 ?_ | refine tk2 ?_ | refine tk3 ?_ | refine tk12 (fun _ => ?_) | refine tk4 ?_ | refine tk5 ?_ | refine tk6 ?_ | refine tk7 ?_ | refine tk8 ?_ | refine tk9 ?_ | refine tk10 (fun _ _ => ?_) | refine tk11 (fun _ => ?_) | refine tk13 ?_ | refine tk14 ?_); (conv => whnf))
        refine CatS.at (by simp; omega) ?_
        (conv => whnf); repeat ((first | refine tk1 ?_ | refine tk2 ?_ | refine tk3 ?_ | refine tk12 (fun _ => ?_) | refine tk4 ?_ | refine tk5 ?_ | refine tk6 ?_ | refine tk7 ?_ | refine tk8 ?_ | refine tk9 ?_ | refine tk10 (fun _ _ => ?_) | refine tk11 (fun _ => ?_) | refine tk13 ?_ | refine tk14 ?_); (conv => whnf))
        refine CatS.at (by simp; omega) ?_
        (conv => whnf); repeat ((first | refine tk1 ?_ | refine tk2 ?_ | refine tk3 ?_ | refine tk12 (fun _ => ?_) | refine tk4 ?_ | refine tk5 ?_ | refine tk6 ?_ | refine tk7 ?_ | refine tk8 ?_ | refine tk9 ?_ | refine tk10 (fun _ _ => ?_) | refine tk11 (fun _ => ?_) | refine tk13 ?_ | refine tk14 ?_); (conv => whnf))
        refine CallK.fn hval ?_
        cases hvo : valueOf ([46] ++ more ++ [46])
        · rw [hvo] at hnum
          simp only [Bool.false_eq_true, if_false] at hnum
          rw [hnum]
          (conv => whnf); repeat ((first | refine tk1 ?_ | refine tk2 ?_ | refine tk3 ?_ | refine tk12 (fun _ => ?_) | refine tk4 ?_ | refine tk5 ?_ | refine tk6 ?_ | refine tk7 ?_ | refine tk8 ?_ | refine tk9 ?_ | refine tk10 (fun _ _ => ?_) | refine tk11 (fun _ => ?_) | refine tk13 ?_ | refine tk14 ?_); (conv => whnf))
          rfl
        · rw [hvo] at hnum
          simp only [if_true] at hnum
          rw [hnum] at hlt ⊢
          rw [if_neg (by omega), if_neg (by omega)]
          (conv => whnf); repeat ((first | refine tk1 ?_ | refine tk2 ?_ | refine tk3 ?_ | refine tk12 (fun _ => ?_) | refine tk4 ?_ | refine tk5 ?_ | refine tk6 ?_ | refine tk7 ?_ | refine tk8 ?_ | refine tk9 ?_ | refine tk10 (fun _ _ => ?_) | refine tk11 (fun _ => ?_) | refine tk13 ?_ | refine tk14 ?_); (conv => whnf))
    · have hn : numC s = -1 := by
        rw [hnum, if_neg]
        intro h
        simp only [Bool.and_eq_true, decide_eq_true_eq] at h
        exact h0 (hp.1.2 ⟨h.1, h.2.2.1⟩)
      rw [hn]
      (conv => whnf); repeat ((first | refine tk1 ?_ | refine tk2 ?_ | refine tk3 ?_ | refine tk12 (fun _ => ?_) | refine tk4 ?_ | refine tk5 ?_ | refine tk6 ?_ | refine tk7 ?_ | refine tk8 ?_ | refine tk9 ?_ | refine tk10 (fun _ _ => ?_) | refine tk11 (fun _ => ?_) | refine tk13 ?_ | refine tk14 ?_); (conv => whnf))
      refine OthP.ifNe tys_ok rfl rfl (v := .iface te p) rfl ?_
      (conv => whnf); repeat ((first | refine tk1 ?_ | refine tk2 ?_ | refine tk3 ?_ | refine tk12 (fun _ => ?_) | refine tk4 ?_ | refine tk5 ?_ | refine tk6 ?_ | refine tk7 ?_ | refine tk8 ?_ | refine tk9 ?_ | refine tk10 (fun _ _ => ?_) | refine tk11 (fun _ => ?_) | refine tk13 ?_ | refine tk14 ?_); (conv => whnf))
      rfl
  · rw [decide_eq_false h6] at hnum
    simp only [Bool.false_and, Bool.and_false, Bool.false_eq_true, if_false] at hnum
    rw [hnum]
    rcases hv with ⟨h0, rfl⟩ | ⟨h0, te, p, rfl⟩
    · (conv => whnf); repeat ((first | refine tk1 ?_ | refine tk2 ?_ | refine tk3 ?_ | refine tk12 (fun _ => ?_) | refine tk4 ?_ | refine tk5 ?_ | refine tk6 ?_ | refine tk7 ?_ | refine tk8 ?_ | refine tk9 ?_ | refine tk10 (fun _ _ => ?_) | refine tk11 (fun _ => ?_) | refine tk13 ?_ | refine tk14 ?_); (conv => whnf))
      refine OthP.ifNe tys_ok rfl rfl (v := .nilIface) rfl ?_
      (conv => whnf); repeat ((first | refine tk1 ?_ | refine tk2 ?_ | refine tk3 ?_ | refine tk12 (fun _ => ?_) | refine tk4 ?_ | refine tk5 ?_ | refine tk6 ?_ | refine tk7 ?_ | refine tk8 ?_ | refine tk9 ?_ | refine tk10 (fun _ _ => ?_) | refine tk11 (fun _ => ?_) | refine tk13 ?_ | refine tk14 ?_); (conv => whnf))
      rfl
    · (conv => whnf); repeat ((first | refine tk1 ?_ | refine tk2 ?_ | refine tk3 ?_ | refine tk12 (fun _ => ?_) | refine tk4 ?_ | refine tk5 ?_ | refine tk6 ?_ | refine tk7 ?_ | refine tk8 ?_ | refine tk9 ?_ | refine tk10 (fun _ _ => ?_) | refine tk11 (fun _ => ?_) | refine tk13 ?_ | refine tk14 ?_); (conv => whnf))
      refine OthP.ifNe tys_ok rfl rfl (v := .iface te p) rfl ?_
      (conv => whnf); repeat ((first | refine tk1 ?_ | refine tk2 ?_ | refine tk3 ?_ | refine tk12 (fun _ => ?_) | refine tk4 ?_ | refine tk5 ?_ | refine tk6 ?_ | refine tk7 ?_ | refine tk8 ?_ | refine tk9 ?_ | refine tk10 (fun _ _ => ?_) | refine tk11 (fun _ => ?_) | refine tk13 ?_ | refine tk14 ?_); (conv => whnf))
      rfl
theorem size_k {c : Ctx} (hc : Ours Tryz.prog gI c) {b : Nat} {s : CSt} {d : List UInt8} {y : CMem} {x : UInt8} {X : Hp} {K : Value → Hp → Prop} (hm : chMay s = true) (hp : s.ph = 0)
    (k : ∀ y', K (.int .i64 (oneG s x).2) (cHeap b (oneG s x).1 d y' X)) : CallK c false 19 [.pointer (some ⟨b, 0, none⟩), .int .u8 x.toNat] (cHeap b s d y X) K := by
  obtain ⟨P, g, w0, M, hM, hG⟩ := c
  have hc' := hc
  obtain ⟨rfl, rfl⟩ := hc
  obtain ⟨lA, lc, dA, dc⟩ := y
  have hml := may_le hm
  obtain ⟨ph, left, line, trail⟩ := s
  dsimp only at hp hml
  subst hp
  have hx := x.toNat_lt
  have hx10 : x = 10 ↔ x.toNat = 10 := by rw [← UInt8.toNat_inj]; rfl
  have hx13 : x = 13 ↔ x.toNat = 13 := by rw [← UInt8.toNat_inj]; rfl
  unfold oneG at k
  simp only [if_true] at k
  unfold cHeap
  dsimp only
  refine CallK.post ?_
  refine CallK.inl tys_ok Tryz.func19 rfl (by kernel_rfl) rfl rfl ?_
  by_cases h64 : line.length = 64
  rotate_left
  · rw [if_neg (fun h => h64 h.1)] at k
    (conv => whnf); repeat ((first | refine tk1 ?_ | refine tk2 ?_ | refine tk3 ?_ | refine tk12 (fun _ => ?_) | refine tk4 ?_ | refine tk5 ?_ | refine tk6 ?_ | refine tk7 ?_ | refine tk8 ?_ | refine tk9 ?_ | refine tk10 (fun _ _ => ?_) | refine tk11 (fun _ => ?_) | refine tk13 ?_ | refine tk14 ?_); (conv => whnf))
    refine line_k hc' (ph := 0) (left := left) (trail := trail) (l := line) (d := d) (y := ⟨lA, lc, dA, dc⟩) (x := x) (by omega) (fun y' => ?_)
    rcases lineG_cases line x with ⟨h1, h2, e⟩ | e | ⟨h1, h2, e⟩ <;> rw [e] at k <;> rw [lineT, e] <;> unfold cHeap <;> dsimp only at k ⊢
    · have hdl : line.dropLast.length ≤ line.length := by rw [List.length_dropLast]; omega
      (conv => whnf); repeat ((first | refine tk1 ?_ | refine tk2 ?_ | refine tk3 ?_ | refine tk12 (fun _ => ?_) | refine tk4 ?_ | refine tk5 ?_ | refine tk6 ?_ | refine tk7 ?_ | refine tk8 ?_ | refine tk9 ?_ | refine tk10 (fun _ _ => ?_) | refine tk11 (fun _ => ?_) | refine tk13 ?_ | refine tk14 ?_); (conv => whnf))
      refine CallK.fn (number_f line.dropLast (by omega)) ?_
      by_cases n1 : numC line.dropLast < 0
      · rw [if_pos n1] at k
        rw [if_pos n1, if_pos n1]
        (conv => whnf); repeat ((first | refine tk1 ?_ | refine tk2 ?_ | refine tk3 ?_ | refine tk12 (fun _ => ?_) | refine tk4 ?_ | refine tk5 ?_ | refine tk6 ?_ | refine tk7 ?_ | refine tk8 ?_ | refine tk9 ?_ | refine tk10 (fun _ _ => ?_) | refine tk11 (fun _ => ?_) | refine tk13 ?_ | refine tk14 ?_); (conv => whnf))
        exact ⟨_, Cv.into (by (try dsimp only); repeat' (first | with_reducible exact Cv.refl | with_reducible exact Cv.left | with_reducible exact Cv.right | with_reducible exact Cv.nil | (with_reducible apply Cv.cons; focus ((repeat (first | with_reducible exact Pick.here | with_reducible apply Pick.skip)); done)) | (apply Cv.cons; focus ((repeat (first | exact Pick.here | apply Pick.skip)); done)) | exact Cv.nil | exact Cv.refl | exact Cv.left | exact Cv.right | refine Cv.skip ?_)), k y'⟩
      rw [if_neg n1] at k
      rw [if_neg n1, if_neg n1]
      have hnr := numC_range line.dropLast
      by_cases n2 : numC line.dropLast = 0
      · rw [if_pos n2] at k
        rw [n2]
        (conv => whnf); repeat ((first | refine tk1 ?_ | refine tk2 ?_ | refine tk3 ?_ | refine tk12 (fun _ => ?_) | refine tk4 ?_ | refine tk5 ?_ | refine tk6 ?_ | refine tk7 ?_ | refine tk8 ?_ | refine tk9 ?_ | refine tk10 (fun _ _ => ?_) | refine tk11 (fun _ => ?_) | refine tk13 ?_ | refine tk14 ?_); (conv => whnf))
        exact ⟨_, Cv.into (by (try dsimp only); repeat' (first | with_reducible exact Cv.refl | with_reducible exact Cv.left | with_reducible exact Cv.right | with_reducible exact Cv.nil | (with_reducible apply Cv.cons; focus ((repeat (first | with_reducible exact Pick.here | with_reducible apply Pick.skip)); done)) | (apply Cv.cons; focus ((repeat (first | exact Pick.here | apply Pick.skip)); done)) | exact Cv.nil | exact Cv.refl | exact Cv.left | exact Cv.right | refine Cv.skip ?_)), k y'⟩
      · rw [if_neg n2] at k
        (conv => whnf); repeat ((first | refine tk1 ?_ | refine tk2 ?_ | refine tk3 ?_ | refine tk12 (fun _ => ?_) | refine tk4 ?_ | refine tk5 ?_ | refine tk6 ?_ | refine tk7 ?_ | refine tk8 ?_ | refine tk9 ?_ | refine tk10 (fun _ _ => ?_) | refine tk11 (fun _ => ?_) | refine tk13 ?_ | refine tk14 ?_); (conv => whnf))
        exact ⟨_, Cv.into (by (try dsimp only); repeat' (first | with_reducible exact Cv.refl | with_reducible exact Cv.left | with_reducible exact Cv.right | with_reducible exact Cv.nil | (with_reducible apply Cv.cons; focus ((repeat (first | with_reducible exact Pick.here | with_reducible apply Pick.skip)); done)) | (apply Cv.cons; focus ((repeat (first | exact Pick.here | apply Pick.skip)); done)) | exact Cv.nil | exact Cv.refl | exact Cv.left | exact Cv.right | refine Cv.skip ?_)), k y'⟩
    · (conv => whnf); repeat ((first | refine tk1 ?_ | refine tk2 ?_ | refine tk3 ?_ | refine tk12 (fun _ => ?_) | refine tk4 ?_ | refine tk5 ?_ | refine tk6 ?_ | refine tk7 ?_ | refine tk8 ?_ | refine tk9 ?_ | refine tk10 (fun _ _ => ?_) | refine tk11 (fun _ => ?_) | refine tk13 ?_ | refine tk14 ?_); (conv => whnf))
      exact ⟨_, Cv.into (by (try dsimp only); repeat' (first | with_reducible exact Cv.refl | with_reducible exact Cv.left | with_reducible exact Cv.right | with_reducible exact Cv.nil | (with_reducible apply Cv.cons; focus ((repeat (first | with_reducible exact Pick.here | with_reducible apply Pick.skip)); done)) | (apply Cv.cons; focus ((repeat (first | exact Pick.here | apply Pick.skip)); done)) | exact Cv.nil | exact Cv.refl | exact Cv.left | exact Cv.right | refine Cv.skip ?_)), k y'⟩
    · (conv => whnf); repeat ((first | refine tk1 ?_ | refine tk2 ?_ | refine tk3 ?_ | refine tk12 (fun _ => ?_) | refine tk4 ?_ | refine tk5 ?_ | refine tk6 ?_ | refine tk7 ?_ | refine tk8 ?_ | refine tk9 ?_ | refine tk10 (fun _ _ => ?_) | refine tk11 (fun _ => ?_) | refine tk13 ?_ | refine tk14 ?_); (conv => whnf))
      exact ⟨_, Cv.into (by (try dsimp only); repeat' (first | with_reducible exact Cv.refl | with_reducible exact Cv.left | with_reducible exact Cv.right | with_reducible exact Cv.nil | (with_reducible apply Cv.cons; focus ((repeat (first | with_reducible exact Pick.here | with_reducible apply Pick.skip)); done)) | (apply Cv.cons; focus ((repeat (first | exact Pick.here | apply Pick.skip)); done)) | exact Cv.nil | exact Cv.refl | exact Cv.left | exact Cv.right | refine Cv.skip ?_)), k y'⟩
  by_cases h13 : x.toNat = 13
  · rw [if_neg (fun h => h.2.1 (hx13.2 h13))] at k
    (conv => whnf); repeat ((first | refine tk1 ?_ | refine tk2 ?_ | refine tk3 ?_ | refine tk12 (fun _ => ?_) | refine tk4 ?_ | refine tk5 ?_ | refine tk6 ?_ | refine tk7 ?_ | refine tk8 ?_ | refine tk9 ?_ | refine tk10 (fun _ _ => ?_) | refine tk11 (fun _ => ?_) | refine tk13 ?_ | refine tk14 ?_); (conv => whnf))
    refine line_k hc' (ph := 0) (left := left) (trail := trail) (l := line) (d := d) (y := ⟨lA, lc, dA, dc⟩) (x := x) (by omega) (fun y' => ?_)
    rcases lineG_cases line x with ⟨h1, h2, e⟩ | e | ⟨h1, h2, e⟩ <;> rw [e] at k <;> rw [lineT, e] <;> unfold cHeap <;> dsimp only at k ⊢
    · have hdl : line.dropLast.length ≤ line.length := by rw [List.length_dropLast]; omega
      (conv => whnf); repeat ((first | refine tk1 ?_ | refine tk2 ?_ | refine tk3 ?_ | refine tk12 (fun _ => ?_) | refine tk4 ?_ | refine tk5 ?_ | refine tk6 ?_ | refine tk7 ?_ | refine tk8 ?_ | refine tk9 ?_ | refine tk10 (fun _ _ => ?_) | refine tk11 (fun _ => ?_) | refine tk13 ?_ | refine tk14 ?_); (conv => whnf))
      refine CallK.fn (number_f line.dropLast (by omega)) ?_
      by_cases n1 : numC line.dropLast < 0
      · rw [if_pos n1] at k
        rw [if_pos n1, if_pos n1]
        (conv => whnf); repeat ((first | refine tk1 ?_ | refine tk2 ?_ | refine tk3 ?_ | refine tk12 (fun _ => ?_) | refine tk4 ?_ | refine tk5 ?_ | refine tk6 ?_ | refine tk7 ?_ | refine tk8 ?_ | refine tk9 ?_ | refine tk10 (fun _ _ => ?_) | refine tk11 (fun _ => ?_) | refine tk13 ?_ | refine tk14 ?_); (conv => whnf))
        exact ⟨_, Cv.into (by (try dsimp only); repeat' (first | with_reducible exact Cv.refl | with_reducible exact Cv.left | with_reducible exact Cv.right | with_reducible exact Cv.nil | (with_reducible apply Cv.cons; focus ((repeat (first | with_reducible exact Pick.here | with_reducible apply Pick.skip)); done)) | (apply Cv.cons; focus ((repeat (first | exact Pick.here | apply Pick.skip)); done)) | exact Cv.nil | exact Cv.refl | exact Cv.left | exact Cv.right | refine Cv.skip ?_)), k y'⟩
      rw [if_neg n1] at k
      rw [if_neg n1, if_neg n1]
      have hnr := numC_range line.dropLast
      by_cases n2 : numC line.dropLast = 0
      · rw [if_pos n2] at k
        rw [n2]
        (conv => whnf); repeat ((first | refine tk1 ?_ | refine tk2 ?_ | refine tk3 ?_ | refine tk12 (fun _ => ?_) | refine tk4 ?_ | refine tk5 ?_ | refine tk6 ?_ | refine tk7 ?_ | refine tk8 ?_ | refine tk9 ?_ | refine tk10 (fun _ _ => ?_) | refine tk11 (fun _ => ?_) | refine tk13 ?_ | refine tk14 ?_); (conv => whnf))
        exact ⟨_, Cv.into (by (try dsimp only); repeat' (first | with_reducible exact Cv.refl | with_reducible exact Cv.left | with_reducible exact Cv.right | with_reducible exact Cv.nil | (with_reducible apply Cv.cons; focus ((repeat (first | with_reducible exact Pick.here | with_reducible apply Pick.skip)); done)) | (apply Cv.cons; focus ((repeat (first | exact Pick.here | apply Pick.skip)); done)) | exact Cv.nil | exact Cv.refl | exact Cv.left | exact Cv.right | refine Cv.skip ?_)), k y'⟩
      · rw [if_neg n2] at k
        (conv => whnf); repeat ((first | refine tk1 ?_ | refine tk2 ?_ | refine tk3 ?_ | refine tk12 (fun _ => ?_) | refine tk4 ?_ | refine tk5 ?_ | refine tk6 ?_ | refine tk7 ?_ | refine tk8 ?_ | refine tk9 ?_ | refine tk10 (fun _ _ => ?_) | refine tk11 (fun _ => ?_) | refine tk13 ?_ | refine tk14 ?_); (conv => whnf))
        exact ⟨_, Cv.into (by (try dsimp only); repeat' (first | with_reducible exact Cv.refl | with_reducible exact Cv.left | with_reducible exact Cv.right | with_reducible exact Cv.nil | (with_reducible apply Cv.cons; focus ((repeat (first | with_reducible exact Pick.here | with_reducible apply Pick.skip)); done)) | (apply Cv.cons; focus ((repeat (first | exact Pick.here | apply Pick.skip)); done)) | exact Cv.nil | exact Cv.refl | exact Cv.left | exact Cv.right | refine Cv.skip ?_)), k y'⟩
    · (conv => whnf); repeat ((first | refine tk1 ?_ | refine tk2 ?_ | refine tk3 ?_ | refine tk12 (fun _ => ?_) | refine tk4 ?_ | refine tk5 ?_ | refine tk6 ?_ | refine tk7 ?_ | refine tk8 ?_ | refine tk9 ?_ | refine tk10 (fun _ _ => ?_) | refine tk11 (fun _ => ?_) | refine tk13 ?_ | refine tk14 ?_); (conv => whnf))
      exact ⟨_, Cv.into (by (try dsimp only); repeat' (first | with_reducible exact Cv.refl | with_reducible exact Cv.left | with_reducible exact Cv.right | with_reducible exact Cv.nil | (with_reducible apply Cv.cons; focus ((repeat (first | with_reducible exact Pick.here | with_reducible apply Pick.skip)); done)) | (apply Cv.cons; focus ((repeat (first | exact Pick.here | apply Pick.skip)); done)) | exact Cv.nil | exact Cv.refl | exact Cv.left | exact Cv.right | refine Cv.skip ?_)), k y'⟩
    · (conv => whnf); repeat ((first | refine tk1 ?_ | refine tk2 ?_ | refine tk3 ?_ | refine tk12 (fun _ => ?_) | refine tk4 ?_ | refine tk5 ?_ | refine tk6 ?_ | refine tk7 ?_ | refine tk8 ?_ | refine tk9 ?_ | refine tk10 (fun _ _ => ?_) | refine tk11 (fun _ => ?_) | refine tk13 ?_ | refine tk14 ?_); (conv => whnf))
      exact ⟨_, Cv.into (by (try dsimp only); repeat' (first | with_reducible exact Cv.refl | with_reducible exact Cv.left | with_reducible exact Cv.right | with_reducible exact Cv.nil | (with_reducible apply Cv.cons; focus ((repeat (first | with_reducible exact Pick.here | with_reducible apply Pick.skip)); done)) | (apply Cv.cons; focus ((repeat (first | exact Pick.here | apply Pick.skip)); done)) | exact Cv.nil | exact Cv.refl | exact Cv.left | exact Cv.right | refine Cv.skip ?_)), k y'⟩
  by_cases h10 : x.toNat = 10
  · rw [if_neg (fun h => h.2.2.1 (hx10.2 h10))] at k
    (conv => whnf); repeat ((first | refine tk1 ?_ | refine tk2 ?_ | refine tk3 ?_ | refine tk12 (fun _ => ?_) | refine tk4 ?_ | refine tk5 ?_ | refine tk6 ?_ | refine tk7 ?_ | refine tk8 ?_ | refine tk9 ?_ | refine tk10 (fun _ _ => ?_) | refine tk11 (fun _ => ?_) | refine tk13 ?_ | refine tk14 ?_); (conv => whnf))
    refine line_k hc' (ph := 0) (left := left) (trail := trail) (l := line) (d := d) (y := ⟨lA, lc, dA, dc⟩) (x := x) (by omega) (fun y' => ?_)
    rcases lineG_cases line x with ⟨h1, h2, e⟩ | e | ⟨h1, h2, e⟩ <;> rw [e] at k <;> rw [lineT, e] <;> unfold cHeap <;> dsimp only at k ⊢
    · have hdl : line.dropLast.length ≤ line.length := by rw [List.length_dropLast]; omega
      (conv => whnf); repeat ((first | refine tk1 ?_ | refine tk2 ?_ | refine tk3 ?_ | refine tk12 (fun _ => ?_) | refine tk4 ?_ | refine tk5 ?_ | refine tk6 ?_ | refine tk7 ?_ | refine tk8 ?_ | refine tk9 ?_ | refine tk10 (fun _ _ => ?_) | refine tk11 (fun _ => ?_) | refine tk13 ?_ | refine tk14 ?_); (conv => whnf))
      refine CallK.fn (number_f line.dropLast (by omega)) ?_
      by_cases n1 : numC line.dropLast < 0
      · rw [if_pos n1] at k
        rw [if_pos n1, if_pos n1]
        (conv => whnf); repeat ((first | refine tk1 ?_ | refine tk2 ?_ | refine tk3 ?_ | refine tk12 (fun _ => ?_) | refine tk4 ?_ | refine tk5 ?_ | refine tk6 ?_ | refine tk7 ?_ | refine tk8 ?_ | refine tk9 ?_ | refine tk10 (fun _ _ => ?_) | refine tk11 (fun _ => ?_) | refine tk13 ?_ | refine tk14 ?_); (conv => whnf))
        exact ⟨_, Cv.into (by (try dsimp only); repeat' (first | with_reducible exact Cv.refl | with_reducible exact Cv.left | with_reducible exact Cv.right | with_reducible exact Cv.nil | (with_reducible apply Cv.cons; focus ((repeat (first | with_reducible exact Pick.here | with_reducible apply Pick.skip)); done)) | (apply Cv.cons; focus ((repeat (first | exact Pick.here | apply Pick.skip)); done)) | exact Cv.nil | exact Cv.refl | exact Cv.left | exact Cv.right | refine Cv.skip ?_)), k y'⟩
      rw [if_neg n1] at k
      rw [if_neg n1, if_neg n1]
      have hnr := numC_range line.dropLast
      by_cases n2 : numC line.dropLast = 0
      · rw [if_pos n2] at k
        rw [n2]
        (conv => whnf); repeat ((first | refine tk1 ?_ | refine tk2 ?_ | refine tk3 ?_ | refine tk12 (fun _ => ?_) | refine tk4 ?_ | refine tk5 ?_ | refine tk6 ?_ | refine tk7 ?_ | refine tk8 ?_ | refine tk9 ?_ | refine tk10 (fun _ _ => ?_) | refine tk11 (fun _ => ?_) | refine tk13 ?_ | refine tk14 ?_); (conv => whnf))
        exact ⟨_, Cv.into (by (try dsimp only); repeat' (first | with_reducible exact Cv.refl | with_reducible exact Cv.left | with_reducible exact Cv.right | with_reducible exact Cv.nil | (with_reducible apply Cv.cons; focus ((repeat (first | with_reducible exact Pick.here | with_reducible apply Pick.skip)); done)) | (apply Cv.cons; focus ((repeat (first | exact Pick.here | apply Pick.skip)); done)) | exact Cv.nil | exact Cv.refl | exact Cv.left | exact Cv.right | refine Cv.skip ?_)), k y'⟩
      · rw [if_neg n2] at k
        (conv => whnf); repeat ((first | refine tk1 ?_ | refine tk2 ?_ | refine tk3 ?_ | refine tk12 (fun _ => ?_) | refine tk4 ?_ | refine tk5 ?_ | refine tk6 ?_ | refine tk7 ?_ | refine tk8 ?_ | refine tk9 ?_ | refine tk10 (fun _ _ => ?_) | refine tk11 (fun _ => ?_) | refine tk13 ?_ | refine tk14 ?_); (conv => whnf))
        exact ⟨_, Cv.into (by (try dsimp only); repeat' (first | with_reducible exact Cv.refl | with_reducible exact Cv.left | with_reducible exact Cv.right | with_reducible exact Cv.nil | (with_reducible apply Cv.cons; focus ((repeat (first | with_reducible exact Pick.here | with_reducible apply Pick.skip)); done)) | (apply Cv.cons; focus ((repeat (first | exact Pick.here | apply Pick.skip)); done)) | exact Cv.nil | exact Cv.refl | exact Cv.left | exact Cv.right | refine Cv.skip ?_)), k y'⟩
    · (conv => whnf); repeat ((first | refine tk1 ?_ | refine tk2 ?_ | refine tk3 ?_ | refine tk12 (fun _ => ?_) | refine tk4 ?_ | refine tk5 ?_ | refine tk6 ?_ | refine tk7 ?_ | refine tk8 ?_ | refine tk9 ?_ | refine tk10 (fun _ _ => ?_) | refine tk11 (fun _ => ?_) | refine tk13 ?_ | refine tk14 ?_); (conv => whnf))
      exact ⟨_, Cv.into (by (try dsimp only); repeat' (first | with_reducible exact Cv.refl | with_reducible exact Cv.left | with_reducible exact Cv.right | with_reducible exact Cv.nil | (with_reducible apply Cv.cons; focus ((repeat (first | with_reducible exact Pick.here | with_reducible apply Pick.skip)); done)) | (apply Cv.cons; focus ((repeat (first | exact Pick.here | apply Pick.skip)); done)) | exact Cv.nil | exact Cv.refl | exact Cv.left | exact Cv.right | refine Cv.skip ?_)), k y'⟩
    · (conv => whnf); repeat ((first | refine tk1 ?_ | refine tk2 ?_ | refine tk3 ?_ | refine tk12 (fun _ => ?_) | refine tk4 ?_ | refine tk5 ?_ | refine tk6 ?_ | refine tk7 ?_ | refine tk8 ?_ | refine tk9 ?_ | refine tk10 (fun _ _ => ?_) | refine tk11 (fun _ => ?_) | refine tk13 ?_ | refine tk14 ?_); (conv => whnf))
      exact ⟨_, Cv.into (by (try dsimp only); repeat' (first | with_reducible exact Cv.refl | with_reducible exact Cv.left | with_reducible exact Cv.right | with_reducible exact Cv.nil | (with_reducible apply Cv.cons; focus ((repeat (first | with_reducible exact Pick.here | with_reducible apply Pick.skip)); done)) | (apply Cv.cons; focus ((repeat (first | exact Pick.here | apply Pick.skip)); done)) | exact Cv.nil | exact Cv.refl | exact Cv.left | exact Cv.right | refine Cv.skip ?_)), k y'⟩
  (conv => whnf); repeat ((first | refine tk1 ?_ | refine tk2 ?_ | refine tk3 ?_ | refine tk12 (fun _ => ?_) | refine tk4 ?_ | refine tk5 ?_ | refine tk6 ?_ | refine tk7 ?_ | refine tk8 ?_ | refine tk9 ?_ | refine tk10 (fun _ _ => ?_) | refine tk11 (fun _ => ?_) | refine tk13 ?_ | refine tk14 ?_); (conv => whnf))
  rename_i b2
  refine Oth.same tys_ok rfl rfl rfl (fun o2 ho2 => ?_)
  have hR2 : ∀ H, RdA (⟨Tryz.prog, g, w0, M, hM, hG⟩ : Ctx) (.obj b2 o2 :: H) (some ⟨b2, 0, none⟩) _ := ho2.rd
  (conv => whnf); repeat ((first | refine tk1 ?_ | refine tk2 ?_ | refine tk3 ?_ | refine tk12 (fun _ => ?_) | refine tk4 ?_ | refine tk5 ?_ | refine tk6 ?_ | refine tk7 ?_ | refine tk8 ?_ | refine tk9 ?_ | refine tk10 (fun _ _ => ?_) | refine tk11 (fun _ => ?_) | refine tk13 ?_ | refine tk14 ?_); (conv => whnf))
  refine CallK.fnEV (HasSuffix_f lA (some ⟨b2, 0, none⟩) lc _ line (by omega)) (fun w1 hw1 => ⟨⟨RdA.ok (xs := line.map byteV) w1 hw1, RdA.ok (xs := [byteV 13]) w1 hw1, trivial⟩, row_cap (A := lA) (e := 5) (sz := 1) (n' := line.length) (xs := line.map byteV) hw1⟩) ?_
  cases hcr : crB line
  · rw [if_pos ⟨h64, mt hx13.1 h13, mt hx10.1 h10, hcr⟩] at k
    (conv => whnf); repeat ((first | refine tk1 ?_ | refine tk2 ?_ | refine tk3 ?_ | refine tk12 (fun _ => ?_) | refine tk4 ?_ | refine tk5 ?_ | refine tk6 ?_ | refine tk7 ?_ | refine tk8 ?_ | refine tk9 ?_ | refine tk10 (fun _ _ => ?_) | refine tk11 (fun _ => ?_) | refine tk13 ?_ | refine tk14 ?_); (conv => whnf))
    exact ⟨_, Cv.into (by (try dsimp only); repeat' (first | with_reducible exact Cv.refl | with_reducible exact Cv.left | with_reducible exact Cv.right | with_reducible exact Cv.nil | (with_reducible apply Cv.cons; focus ((repeat (first | with_reducible exact Pick.here | with_reducible apply Pick.skip)); done)) | (apply Cv.cons; focus ((repeat (first | exact Pick.here | apply Pick.skip)); done)) | exact Cv.nil | exact Cv.refl | exact Cv.left | exact Cv.right | refine Cv.skip ?_)), k ⟨lA, lc, dA, dc⟩⟩
  · rw [if_neg (fun h => by have := h.2.2.2; rw [hcr] at this; cases this)] at k
    (conv => whnf); repeat ((first | refine tk1 ?_ | refine tk2 ?_ | refine tk3 ?_ | refine tk12 (fun _ => ?_) | refine tk4 ?_ | refine tk5 ?_ | refine tk6 ?_ | refine tk7 ?_ | refine tk8 ?_ | refine tk9 ?_ | refine tk10 (fun _ _ => ?_) | refine tk11 (fun _ => ?_) | refine tk13 ?_ | refine tk14 ?_); (conv => whnf))
    refine CallK.into (G := cHeap b ⟨0, left, line, trail⟩ d ⟨lA, lc, dA, dc⟩ X) (Cv.into (by (try dsimp only); repeat' (first | with_reducible exact Cv.refl | with_reducible exact Cv.left | with_reducible exact Cv.right | with_reducible exact Cv.nil | (with_reducible apply Cv.cons; focus ((repeat (first | with_reducible exact Pick.here | with_reducible apply Pick.skip)); done)) | (apply Cv.cons; focus ((repeat (first | exact Pick.here | apply Pick.skip)); done)) | exact Cv.nil | exact Cv.refl | exact Cv.left | exact Cv.right | refine Cv.skip ?_))) ?_
    refine line_k hc' (ph := 0) (left := left) (trail := trail) (l := line) (d := d) (y := ⟨lA, lc, dA, dc⟩) (x := x) (by omega) (fun y' => ?_)
    rcases lineG_cases line x with ⟨h1, h2, e⟩ | e | ⟨h1, h2, e⟩ <;> rw [e] at k <;> rw [lineT, e] <;> unfold cHeap <;> dsimp only at k ⊢
    · have hdl : line.dropLast.length ≤ line.length := by rw [List.length_dropLast]; omega
      (conv => whnf); repeat ((first | refine tk1 ?_ | refine tk2 ?_ | refine tk3 ?_ | refine tk12 (fun _ => ?_) | refine tk4 ?_ | refine tk5 ?_ | refine tk6 ?_ | refine tk7 ?_ | refine tk8 ?_ | refine tk9 ?_ | refine tk10 (fun _ _ => ?_) | refine tk11 (fun _ => ?_) | refine tk13 ?_ | refine tk14 ?_); (conv => whnf))
      refine CallK.fn (number_f line.dropLast (by omega)) ?_
      by_cases n1 : numC line.dropLast < 0
      · rw [if_pos n1] at k
        rw [if_pos n1, if_pos n1]
        (conv => whnf); repeat ((first | refine tk1 ?_ | refine tk2 ?_ | refine tk3 ?_ | refine tk12 (fun _ => ?_) | refine tk4 ?_ | refine tk5 ?_ | refine tk6 ?_ | refine tk7 ?_ | refine tk8 ?_ | refine tk9 ?_ | refine tk10 (fun _ _ => ?_) | refine tk11 (fun _ => ?_) | refine tk13 ?_ | refine tk14 ?_); (conv => whnf))
        exact ⟨_, Cv.into (by (try dsimp only); repeat' (first | with_reducible exact Cv.refl | with_reducible exact Cv.left | with_reducible exact Cv.right | with_reducible exact Cv.nil | (with_reducible apply Cv.cons; focus ((repeat (first | with_reducible exact Pick.here | with_reducible apply Pick.skip)); done)) | (apply Cv.cons; focus ((repeat (first | exact Pick.here | apply Pick.skip)); done)) | exact Cv.nil | exact Cv.refl | exact Cv.left | exact Cv.right | refine Cv.skip ?_)), k y'⟩
      rw [if_neg n1] at k
      rw [if_neg n1, if_neg n1]
      have hnr := numC_range line.dropLast
      by_cases n2 : numC line.dropLast = 0
      · rw [if_pos n2] at k
        rw [n2]
        (conv => whnf); repeat ((first | refine tk1 ?_ | refine tk2 ?_ | refine tk3 ?_ | refine tk12 (fun _ => ?_) | refine tk4 ?_ | refine tk5 ?_ | refine tk6 ?_ | refine tk7 ?_ | refine tk8 ?_ | refine tk9 ?_ | refine tk10 (fun _ _ => ?_) | refine tk11 (fun _ => ?_) | refine tk13 ?_ | refine tk14 ?_); (conv => whnf))
        exact ⟨_, Cv.into (by (try dsimp only); repeat' (first | with_reducible exact Cv.refl | with_reducible exact Cv.left | with_reducible exact Cv.right | with_reducible exact Cv.nil | (with_reducible apply Cv.cons; focus ((repeat (first | with_reducible exact Pick.here | with_reducible apply Pick.skip)); done)) | (apply Cv.cons; focus ((repeat (first | exact Pick.here | apply Pick.skip)); done)) | exact Cv.nil | exact Cv.refl | exact Cv.left | exact Cv.right | refine Cv.skip ?_)), k y'⟩
      · rw [if_neg n2] at k
        (conv => whnf); repeat ((first | refine tk1 ?_ | refine tk2 ?_ | refine tk3 ?_ | refine tk12 (fun _ => ?_) | refine tk4 ?_ | refine tk5 ?_ | refine tk6 ?_ | refine tk7 ?_ | refine tk8 ?_ | refine tk9 ?_ | refine tk10 (fun _ _ => ?_) | refine tk11 (fun _ => ?_) | refine tk13 ?_ | refine tk14 ?_); (conv => whnf))
        exact ⟨_, Cv.into (by (try dsimp only); repeat' (first | with_reducible exact Cv.refl | with_reducible exact Cv.left | with_reducible exact Cv.right | with_reducible exact Cv.nil | (with_reducible apply Cv.cons; focus ((repeat (first | with_reducible exact Pick.here | with_reducible apply Pick.skip)); done)) | (apply Cv.cons; focus ((repeat (first | exact Pick.here | apply Pick.skip)); done)) | exact Cv.nil | exact Cv.refl | exact Cv.left | exact Cv.right | refine Cv.skip ?_)), k y'⟩
    · (conv => whnf); repeat ((first | refine tk1 ?_ | refine tk2 ?_ | refine tk3 ?_ | refine tk12 (fun _ => ?_) | refine tk4 ?_ | refine tk5 ?_ | refine tk6 ?_ | refine tk7 ?_ | refine tk8 ?_ | refine tk9 ?_ | refine tk10 (fun _ _ => ?_) | refine tk11 (fun _ => ?_) | refine tk13 ?_ | refine tk14 ?_); (conv => whnf))
      exact ⟨_, Cv.into (by (try dsimp only); repeat' (first | with_reducible exact Cv.refl | with_reducible exact Cv.left | with_reducible exact Cv.right | with_reducible exact Cv.nil | (with_reducible apply Cv.cons; focus ((repeat (first | with_reducible exact Pick.here | with_reducible apply Pick.skip)); done)) | (apply Cv.cons; focus ((repeat (first | exact Pick.here | apply Pick.skip)); done)) | exact Cv.nil | exact Cv.refl | exact Cv.left | exact Cv.right | refine Cv.skip ?_)), k y'⟩
    · (conv => whnf); repeat ((first | refine tk1 ?_ | refine tk2 ?_ | refine tk3 ?_ | refine tk12 (fun _ => ?_) | refine tk4 ?_ | refine tk5 ?_ | refine tk6 ?_ | refine tk7 ?_ | refine tk8 ?_ | refine tk9 ?_ | refine tk10 (fun _ _ => ?_) | refine tk11 (fun _ => ?_) | refine tk13 ?_ | refine tk14 ?_); (conv => whnf))
      exact ⟨_, Cv.into (by (try dsimp only); repeat' (first | with_reducible exact Cv.refl | with_reducible exact Cv.left | with_reducible exact Cv.right | with_reducible exact Cv.nil | (with_reducible apply Cv.cons; focus ((repeat (first | with_reducible exact Pick.here | with_reducible apply Pick.skip)); done)) | (apply Cv.cons; focus ((repeat (first | exact Pick.here | apply Pick.skip)); done)) | exact Cv.nil | exact Cv.refl | exact Cv.left | exact Cv.right | refine Cv.skip ?_)), k y'⟩
end Go.Proofs.YtbgnogdlkmhnkaaGreatDoor.Vex
/- The program's functions on bodies in chunks, reckoned: end, trailer, one byte. -/
namespace Go.Proofs.YtbgnogdlkmhnkaaGreatDoor.Vex
open Go Go.RowKit
set_option maxRecDepth 100000
set_option linter.unusedSectionVars false
variable {gI : GI} [HasMax gI] [HasUtf gI] [HasErr gI]

theorem end_k {c : Ctx} (hc : Ours Tryz.prog gI c) {b : Nat} {s : CSt} {d : List UInt8} {y : CMem} {x : UInt8} {X : Hp} {K : Value → Hp → Prop} (hm : chMay s = true) (hp : s.ph = 2)
    (k : ∀ y', K (.int .i64 (oneG s x).2) (cHeap b (oneG s x).1 d y' X)) : CallK c false 20 [.pointer (some ⟨b, 0, none⟩), .int .u8 x.toNat] (cHeap b s d y X) K := by
  obtain ⟨P, g, w0, M, hM, hG⟩ := c
  have hc' := hc
  obtain ⟨rfl, rfl⟩ := hc
  obtain ⟨lA, lc, dA, dc⟩ := y
  have hml := may_le hm
  obtain ⟨ph, left, line, trail⟩ := s
  dsimp only at hp hml
  subst hp
  have hx := x.toNat_lt
  have hx13 : x = 13 ↔ x.toNat = 13 := by rw [← UInt8.toNat_inj]; rfl
  unfold oneG at k
  simp only [if_true, show ¬ (2 = 0) by decide, show ¬ (3 = 0) by decide, show ¬ (3 = 2) by decide, if_false] at k
  unfold cHeap
  dsimp only
  refine CallK.post ?_
  refine CallK.inl tys_ok Tryz.func20 rfl (by kernel_rfl) rfl rfl ?_
  by_cases h0 : line.length = 0
  · have hl0 := List.eq_nil_of_length_eq_zero h0
    by_cases h13 : x.toNat = 13
    · rw [if_neg (fun h => h.2 (hx13.2 h13))] at k
      (conv => whnf); repeat ((first | refine tk1 ?_ | refine tk2 ?_ | refine tk3 ?_ | refine tk12 (fun _ => ?_) | refine tk4 ?_ | refine tk5 ?_ | refine tk6 ?_ | refine tk7 ?_ | refine tk8 ?_ | refine tk9 ?_ | refine tk10 (fun _ _ => ?_) | refine tk11 (fun _ => ?_) | refine tk13 ?_ | refine tk14 ?_); (conv => whnf))
      refine line_k hc' (ph := 2) (left := left) (trail := trail) (l := line) (d := d) (y := ⟨lA, lc, dA, dc⟩) (x := x) (by omega) (fun y' => ?_)
      rcases lineG_cases line x with ⟨h1, h2, e⟩ | e | ⟨h1, h2, e⟩ <;> rw [e] at k <;> rw [lineT, e] <;> unfold cHeap <;> dsimp only at k ⊢
      · (conv => whnf); repeat ((first | refine tk1 ?_ | refine tk2 ?_ | refine tk3 ?_ | refine tk12 (fun _ => ?_) | refine tk4 ?_ | refine tk5 ?_ | refine tk6 ?_ | refine tk7 ?_ | refine tk8 ?_ | refine tk9 ?_ | refine tk10 (fun _ _ => ?_) | refine tk11 (fun _ => ?_) | refine tk13 ?_ | refine tk14 ?_); (conv => whnf))
        exact ⟨_, Cv.into (by (try dsimp only); repeat' (first | with_reducible exact Cv.refl | with_reducible exact Cv.left | with_reducible exact Cv.right | with_reducible exact Cv.nil | (with_reducible apply Cv.cons; focus ((repeat (first | with_reducible exact Pick.here | with_reducible apply Pick.skip)); done)) | (apply Cv.cons; focus ((repeat (first | exact Pick.here | apply Pick.skip)); done)) | exact Cv.nil | exact Cv.refl | exact Cv.left | exact Cv.right | refine Cv.skip ?_)), k y'⟩
      · (conv => whnf); repeat ((first | refine tk1 ?_ | refine tk2 ?_ | refine tk3 ?_ | refine tk12 (fun _ => ?_) | refine tk4 ?_ | refine tk5 ?_ | refine tk6 ?_ | refine tk7 ?_ | refine tk8 ?_ | refine tk9 ?_ | refine tk10 (fun _ _ => ?_) | refine tk11 (fun _ => ?_) | refine tk13 ?_ | refine tk14 ?_); (conv => whnf))
        exact ⟨_, Cv.into (by (try dsimp only); repeat' (first | with_reducible exact Cv.refl | with_reducible exact Cv.left | with_reducible exact Cv.right | with_reducible exact Cv.nil | (with_reducible apply Cv.cons; focus ((repeat (first | with_reducible exact Pick.here | with_reducible apply Pick.skip)); done)) | (apply Cv.cons; focus ((repeat (first | exact Pick.here | apply Pick.skip)); done)) | exact Cv.nil | exact Cv.refl | exact Cv.left | exact Cv.right | refine Cv.skip ?_)), k y'⟩
      · (conv => whnf); repeat ((first | refine tk1 ?_ | refine tk2 ?_ | refine tk3 ?_ | refine tk12 (fun _ => ?_) | refine tk4 ?_ | refine tk5 ?_ | refine tk6 ?_ | refine tk7 ?_ | refine tk8 ?_ | refine tk9 ?_ | refine tk10 (fun _ _ => ?_) | refine tk11 (fun _ => ?_) | refine tk13 ?_ | refine tk14 ?_); (conv => whnf))
        exact ⟨_, Cv.into (by (try dsimp only); repeat' (first | with_reducible exact Cv.refl | with_reducible exact Cv.left | with_reducible exact Cv.right | with_reducible exact Cv.nil | (with_reducible apply Cv.cons; focus ((repeat (first | with_reducible exact Pick.here | with_reducible apply Pick.skip)); done)) | (apply Cv.cons; focus ((repeat (first | exact Pick.here | apply Pick.skip)); done)) | exact Cv.nil | exact Cv.refl | exact Cv.left | exact Cv.right | refine Cv.skip ?_)), k y'⟩
    · rw [if_pos ⟨hl0, mt hx13.1 h13⟩] at k
      (conv => whnf); repeat ((first | refine tk1 ?_ | refine tk2 ?_ | refine tk3 ?_ | refine tk12 (fun _ => ?_) | refine tk4 ?_ | refine tk5 ?_ | refine tk6 ?_ | refine tk7 ?_ | refine tk8 ?_ | refine tk9 ?_ | refine tk10 (fun _ _ => ?_) | refine tk11 (fun _ => ?_) | refine tk13 ?_ | refine tk14 ?_); (conv => whnf))
      exact ⟨_, Cv.into (by (try dsimp only); repeat' (first | with_reducible exact Cv.refl | with_reducible exact Cv.left | with_reducible exact Cv.right | with_reducible exact Cv.nil | (with_reducible apply Cv.cons; focus ((repeat (first | with_reducible exact Pick.here | with_reducible apply Pick.skip)); done)) | (apply Cv.cons; focus ((repeat (first | exact Pick.here | apply Pick.skip)); done)) | exact Cv.nil | exact Cv.refl | exact Cv.left | exact Cv.right | refine Cv.skip ?_)), k ⟨lA, lc, dA, dc⟩⟩
  · rw [if_neg (fun h => h0 (by rw [h.1]; rfl))] at k
    (conv => whnf); repeat ((first | refine tk1 ?_ | refine tk2 ?_ | refine tk3 ?_ | refine tk12 (fun _ => ?_) | refine tk4 ?_ | refine tk5 ?_ | refine tk6 ?_ | refine tk7 ?_ | refine tk8 ?_ | refine tk9 ?_ | refine tk10 (fun _ _ => ?_) | refine tk11 (fun _ => ?_) | refine tk13 ?_ | refine tk14 ?_); (conv => whnf))
    refine line_k hc' (ph := 2) (left := left) (trail := trail) (l := line) (d := d) (y := ⟨lA, lc, dA, dc⟩) (x := x) (by omega) (fun y' => ?_)
    rcases lineG_cases line x with ⟨h1, h2, e⟩ | e | ⟨h1, h2, e⟩ <;> rw [e] at k <;> rw [lineT, e] <;> unfold cHeap <;> dsimp only at k ⊢
    · (conv => whnf); repeat ((first | refine tk1 ?_ | refine tk2 ?_ | refine tk3 ?_ | refine tk12 (fun _ => ?_) | refine tk4 ?_ | refine tk5 ?_ | refine tk6 ?_ | refine tk7 ?_ | refine tk8 ?_ | refine tk9 ?_ | refine tk10 (fun _ _ => ?_) | refine tk11 (fun _ => ?_) | refine tk13 ?_ | refine tk14 ?_); (conv => whnf))
      exact ⟨_, Cv.into (by (try dsimp only); repeat' (first | with_reducible exact Cv.refl | with_reducible exact Cv.left | with_reducible exact Cv.right | with_reducible exact Cv.nil | (with_reducible apply Cv.cons; focus ((repeat (first | with_reducible exact Pick.here | with_reducible apply Pick.skip)); done)) | (apply Cv.cons; focus ((repeat (first | exact Pick.here | apply Pick.skip)); done)) | exact Cv.nil | exact Cv.refl | exact Cv.left | exact Cv.right | refine Cv.skip ?_)), k y'⟩
    · (conv => whnf); repeat ((first | refine tk1 ?_ | refine tk2 ?_ | refine tk3 ?_ | refine tk12 (fun _ => ?_) | refine tk4 ?_ | refine tk5 ?_ | refine tk6 ?_ | refine tk7 ?_ | refine tk8 ?_ | refine tk9 ?_ | refine tk10 (fun _ _ => ?_) | refine tk11 (fun _ => ?_) | refine tk13 ?_ | refine tk14 ?_); (conv => whnf))
      exact ⟨_, Cv.into (by (try dsimp only); repeat' (first | with_reducible exact Cv.refl | with_reducible exact Cv.left | with_reducible exact Cv.right | with_reducible exact Cv.nil | (with_reducible apply Cv.cons; focus ((repeat (first | with_reducible exact Pick.here | with_reducible apply Pick.skip)); done)) | (apply Cv.cons; focus ((repeat (first | exact Pick.here | apply Pick.skip)); done)) | exact Cv.nil | exact Cv.refl | exact Cv.left | exact Cv.right | refine Cv.skip ?_)), k y'⟩
    · (conv => whnf); repeat ((first | refine tk1 ?_ | refine tk2 ?_ | refine tk3 ?_ | refine tk12 (fun _ => ?_) | refine tk4 ?_ | refine tk5 ?_ | refine tk6 ?_ | refine tk7 ?_ | refine tk8 ?_ | refine tk9 ?_ | refine tk10 (fun _ _ => ?_) | refine tk11 (fun _ => ?_) | refine tk13 ?_ | refine tk14 ?_); (conv => whnf))
      exact ⟨_, Cv.into (by (try dsimp only); repeat' (first | with_reducible exact Cv.refl | with_reducible exact Cv.left | with_reducible exact Cv.right | with_reducible exact Cv.nil | (with_reducible apply Cv.cons; focus ((repeat (first | with_reducible exact Pick.here | with_reducible apply Pick.skip)); done)) | (apply Cv.cons; focus ((repeat (first | exact Pick.here | apply Pick.skip)); done)) | exact Cv.nil | exact Cv.refl | exact Cv.left | exact Cv.right | refine Cv.skip ?_)), k y'⟩
theorem trailer_k {c : Ctx} (hc : Ours Tryz.prog gI c) {b : Nat} {s : CSt} {d : List UInt8} {y : CMem} {x : UInt8} {X : Hp} {K : Value → Hp → Prop} (hm : chMay s = true) (hp : s.ph = 3)
    (k : ∀ y', K (.int .i64 (oneG s x).2) (cHeap b (oneG s x).1 d y' X)) : CallK c false 21 [.pointer (some ⟨b, 0, none⟩), .int .u8 x.toNat] (cHeap b s d y X) K := by
  obtain ⟨P, g, w0, M, hM, hG⟩ := c
  have hc' := hc
  obtain ⟨rfl, rfl⟩ := hc
  obtain ⟨lA, lc, dA, dc⟩ := y
  have hml := may_le hm
  obtain ⟨ph, left, line, trail⟩ := s
  dsimp only at hp hml
  subst hp
  have hx := x.toNat_lt
  have hx13 : x = 13 ↔ x.toNat = 13 := by rw [← UInt8.toNat_inj]; rfl
  unfold oneG at k
  simp only [if_true, show ¬ (2 = 0) by decide, show ¬ (3 = 0) by decide, show ¬ (3 = 2) by decide, if_false] at k
  unfold cHeap
  dsimp only
  refine CallK.post ?_
  refine CallK.inl tys_ok Tryz.func21 rfl (by kernel_rfl) rfl rfl ?_
  by_cases h0 : trail = 256
  · rw [if_pos h0] at k
    (conv => whnf); repeat ((first | refine tk1 ?_ | refine tk2 ?_ | refine tk3 ?_ | refine tk12 (fun _ => ?_) | refine tk4 ?_ | refine tk5 ?_ | refine tk6 ?_ | refine tk7 ?_ | refine tk8 ?_ | refine tk9 ?_ | refine tk10 (fun _ _ => ?_) | refine tk11 (fun _ => ?_) | refine tk13 ?_ | refine tk14 ?_); (conv => whnf))
    exact ⟨_, Cv.into (by (try dsimp only); repeat' (first | with_reducible exact Cv.refl | with_reducible exact Cv.left | with_reducible exact Cv.right | with_reducible exact Cv.nil | (with_reducible apply Cv.cons; focus ((repeat (first | with_reducible exact Pick.here | with_reducible apply Pick.skip)); done)) | (apply Cv.cons; focus ((repeat (first | exact Pick.here | apply Pick.skip)); done)) | exact Cv.nil | exact Cv.refl | exact Cv.left | exact Cv.right | refine Cv.skip ?_)), k ⟨lA, lc, dA, dc⟩⟩
  rw [if_neg h0] at k
  (conv => whnf); repeat ((first | refine tk1 ?_ | refine tk2 ?_ | refine tk3 ?_ | refine tk12 (fun _ => ?_) | refine tk4 ?_ | refine tk5 ?_ | refine tk6 ?_ | refine tk7 ?_ | refine tk8 ?_ | refine tk9 ?_ | refine tk10 (fun _ _ => ?_) | refine tk11 (fun _ => ?_) | refine tk13 ?_ | refine tk14 ?_); (conv => whnf))
  refine line_k hc' (ph := 3) (left := left) (trail := trail + 1) (l := line) (d := d) (y := ⟨lA, lc, dA, dc⟩) (x := x) (by omega) (fun y' => ?_)
  rcases lineG_cases line x with ⟨h1, h2, e⟩ | e | ⟨h1, h2, e⟩ <;> rw [e] at k <;> rw [lineT, e] <;> unfold cHeap <;> dsimp only at k ⊢
  · have hdl : line.dropLast.length ≤ line.length := by rw [List.length_dropLast]; omega
    by_cases hz : line.dropLast = []
    · rw [if_pos hz] at k
      rw [hz]
      (conv => whnf); repeat ((first | refine tk1 ?_ | refine tk2 ?_ | refine tk3 ?_ | refine tk12 (fun _ => ?_) | refine tk4 ?_ | refine tk5 ?_ | refine tk6 ?_ | refine tk7 ?_ | refine tk8 ?_ | refine tk9 ?_ | refine tk10 (fun _ _ => ?_) | refine tk11 (fun _ => ?_) | refine tk13 ?_ | refine tk14 ?_); (conv => whnf))
      exact ⟨_, Cv.into (by (try dsimp only); repeat' (first | with_reducible exact Cv.refl | with_reducible exact Cv.left | with_reducible exact Cv.right | with_reducible exact Cv.nil | (with_reducible apply Cv.cons; focus ((repeat (first | with_reducible exact Pick.here | with_reducible apply Pick.skip)); done)) | (apply Cv.cons; focus ((repeat (first | exact Pick.here | apply Pick.skip)); done)) | exact Cv.nil | exact Cv.refl | exact Cv.left | exact Cv.right | refine Cv.skip ?_)), k y'⟩
    · rw [if_neg hz] at k
      have hz2 := List.length_pos_iff.2 hz
      (conv => whnf); repeat ((first | refine tk1 ?_ | refine tk2 ?_ | refine tk3 ?_ | refine tk12 (fun _ => ?_) | refine tk4 ?_ | refine tk5 ?_ | refine tk6 ?_ | refine tk7 ?_ | refine tk8 ?_ | refine tk9 ?_ | refine tk10 (fun _ _ => ?_) | refine tk11 (fun _ => ?_) | refine tk13 ?_ | refine tk14 ?_); (conv => whnf))
      refine Cmp.f hz ?_
      (conv => whnf); repeat ((first | refine tk1 ?_ | refine tk2 ?_ | refine tk3 ?_ | refine tk12 (fun _ => ?_) | refine tk4 ?_ | refine tk5 ?_ | refine tk6 ?_ | refine tk7 ?_ | refine tk8 ?_ | refine tk9 ?_ | refine tk10 (fun _ _ => ?_) | refine tk11 (fun _ => ?_) | refine tk13 ?_ | refine tk14 ?_); (conv => whnf))
      refine CallK.fn (Parse_f line.dropLast (by omega)) ?_
      (conv => whnf); repeat ((first | refine tk1 ?_ | refine tk2 ?_ | refine tk3 ?_ | refine tk12 (fun _ => ?_) | refine tk4 ?_ | refine tk5 ?_ | refine tk6 ?_ | refine tk7 ?_ | refine tk8 ?_ | refine tk9 ?_ | refine tk10 (fun _ _ => ?_) | refine tk11 (fun _ => ?_) | refine tk13 ?_ | refine tk14 ?_); (conv => whnf))
      exact ⟨_, Cv.into (by (try dsimp only); repeat' (first | with_reducible exact Cv.refl | with_reducible exact Cv.left | with_reducible exact Cv.right | with_reducible exact Cv.nil | (with_reducible apply Cv.cons; focus ((repeat (first | with_reducible exact Pick.here | with_reducible apply Pick.skip)); done)) | (apply Cv.cons; focus ((repeat (first | exact Pick.here | apply Pick.skip)); done)) | exact Cv.nil | exact Cv.refl | exact Cv.left | exact Cv.right | refine Cv.skip ?_)), k y'⟩
  · (conv => whnf); repeat ((first | refine tk1 ?_ | refine tk2 ?_ | refine tk3 ?_ | refine tk12 (fun _ => ?_) | refine tk4 ?_ | refine tk5 ?_ | refine tk6 ?_ | refine tk7 ?_ | refine tk8 ?_ | refine tk9 ?_ | refine tk10 (fun _ _ => ?_) | refine tk11 (fun _ => ?_) | refine tk13 ?_ | refine tk14 ?_); (conv => whnf))
    exact ⟨_, Cv.into (by (try dsimp only); repeat' (first | with_reducible exact Cv.refl | with_reducible exact Cv.left | with_reducible exact Cv.right | with_reducible exact Cv.nil | (with_reducible apply Cv.cons; focus ((repeat (first | with_reducible exact Pick.here | with_reducible apply Pick.skip)); done)) | (apply Cv.cons; focus ((repeat (first | exact Pick.here | apply Pick.skip)); done)) | exact Cv.nil | exact Cv.refl | exact Cv.left | exact Cv.right | refine Cv.skip ?_)), k y'⟩
  · (conv => whnf); repeat ((first | refine tk1 ?_ | refine tk2 ?_ | refine tk3 ?_ | refine tk12 (fun _ => ?_) | refine tk4 ?_ | refine tk5 ?_ | refine tk6 ?_ | refine tk7 ?_ | refine tk8 ?_ | refine tk9 ?_ | refine tk10 (fun _ _ => ?_) | refine tk11 (fun _ => ?_) | refine tk13 ?_ | refine tk14 ?_); (conv => whnf))
    exact ⟨_, Cv.into (by (try dsimp only); repeat' (first | with_reducible exact Cv.refl | with_reducible exact Cv.left | with_reducible exact Cv.right | with_reducible exact Cv.nil | (with_reducible apply Cv.cons; focus ((repeat (first | with_reducible exact Pick.here | with_reducible apply Pick.skip)); done)) | (apply Cv.cons; focus ((repeat (first | exact Pick.here | apply Pick.skip)); done)) | exact Cv.nil | exact Cv.refl | exact Cv.left | exact Cv.right | refine Cv.skip ?_)), k y'⟩
end Go.Proofs.YtbgnogdlkmhnkaaGreatDoor.Vex
/- chunk.Feed, reckoned. -/
namespace Go.Proofs.YtbgnogdlkmhnkaaGreatDoor.Vex
open Go Go.RowKit
set_option maxRecDepth 100000
set_option linter.unusedSectionVars false
variable {gI : GI} [HasMax gI] [HasUtf gI] [HasErr gI]

theorem tk15 {c : Ctx} {H : Hp} {b n j : Nat} {vs L : List Value} {t : TypeId} {f : List Value → Hp} {K : Hp → Prop} [h : BoxAt b H vs t f] (k : K (f (L.take j))) (hn : (L.take j).length = n := by exact rfl) (hv : vs.length = n := by exact rfl) (h1 : ∀ x ∈ L, x.oneCell' = true := by simp [Value.oneCell']) :
    Sto c H (.pointer (some ⟨b, 0, none⟩)) (.agg ⟨L.take j⟩) n K := Sto.tv hn hv (fun x hx => h1 x (List.mem_of_mem_take hx)) k
def stepF (ph : Nat) : Nat := if ph = 0 then 19 else if ph = 2 then 20 else 21
theorem step_k {c : Ctx} (hc : Ours Tryz.prog gI c) {b : Nat} {s : CSt} {d : List UInt8} {y : CMem} {x : UInt8} {X : Hp} {K : Value → Hp → Prop} (hm : chMay s = true) (h1 : s.ph ≠ 1) (h4 : s.ph ≠ 4)
    (k : ∀ y', K (.int .i64 (oneG s x).2) (cHeap b (oneG s x).1 d y' X)) : CallK c false (stepF s.ph) [.pointer (some ⟨b, 0, none⟩), .int .u8 x.toNat] (cHeap b s d y X) K := by
  have hml := may_le hm
  rcases (show s.ph = 0 ∨ s.ph = 2 ∨ s.ph = 3 by omega) with h | h | h <;> rw [h]
  · exact size_k hc hm h k
  · exact end_k hc hm h k
  · exact trailer_k hc hm h k
def FeedV (r : CRes) (y : CMem) : Value := .tuple #[cV r.c y.lA y.lc, .slice y.dA r.data.length y.dc, .int .i64 (r.used : Nat), .int .i64 r.e]
def FeedH (r : CRes) (y : CMem) : Hp := [.row (.slice y.lA r.c.line.length y.lc) 5 1 r.c.line.length (r.c.line.map byteV), .row (.slice y.dA r.data.length y.dc) 5 1 r.data.length (r.data.map byteV)]
structure FL where
  k : Nat
  s : CSt
  d : List UInt8
  y : CMem
def phC : List Value := [.func (.func 19) ⟨[]⟩ ⟨[]⟩, .nilFunc, .func (.func 20) ⟨[]⟩ ⟨[]⟩, .func (.func 21) ⟨[]⟩ ⟨[]⟩]
instance RdA.ofBox {c : Ctx} {H : Hp} {b : Nat} {vs : List Value} {t : TypeId} {f : List Value → Hp} [h : BoxAt b H vs t f] : RdA c H (some ⟨b, 0, none⟩) vs := ⟨RdS.box⟩
set_option maxHeartbeats 8000000 in
theorem Feed_f (s0 : CSt) (A : Option Addr) (cp : Nat) (BA : Option Addr) (Bc : Nat) (b : List UInt8) (hl : s0.line.length ≤ 1000000000) (hb : b.length ≤ 1000000000) :
    FnT Tryz.prog gI 6 [cV s0 A cp, .slice BA b.length Bc] (fun w => RdL w [(A, s0.line.map byteV), (BA, b.map byteV)] ∧ s0.line.length ≤ cp ∧ b.length ≤ Bc) (FeedV (feedG s0 b)) (fun _ => True) (FeedH (feedG s0 b)) (fun _ => []) := by
  have hcheck := CCheck_f (gI := gI) s0 A cp hl
  have hcl := BClone_f (gI := gI) A cp s0.line hl
  unfold cV at hcheck ⊢
  refine FnE.of tys_ok Tryz.func6 rfl (by kernel_rfl) rfl rfl ?_; intro w hG hP
  have hA : ∀ H, RdS (mkC Tryz.prog gI w hG) H A (s0.line.map byteV) := fun H => hP.1.1.now
  have hRB : ∀ H, RdA (mkC Tryz.prog gI w hG) H BA (b.map byteV) := fun H => ⟨hP.1.2.1.now⟩
  have hcp := hP.2.1
  have hbc := hP.2.2
  have hfail : ∀ (e : Int) (r : CRes) (w w' : World) (hG : gI.G w), r = ⟨cst0, [], 0, e⟩ → St (mkC Tryz.prog gI w hG) [] w' → ∃ x, Value.tuple #[.agg ⟨[.int .u8 0, .int .i64 0, .slice none 0 0, .int .i64 0]⟩, .slice none 0 0, .int .i64 0, .int .i64 e] = FeedV r x ∧ True ∧ newH w w' (FeedH r x ++ []) := fun e r w w' hG hr hw' => by
    subst hr
    exact ⟨⟨none, 0, none, 0⟩, rfl, trivial, newH.of ((hw'.nilRow 5 1).nilRow 5 1)⟩
  have hou : Ours Tryz.prog gI (mkC Tryz.prog gI w hG) := ⟨rfl, rfl⟩
  (conv => whnf); repeat ((first | refine tk1 ?_ | refine tk2 ?_ | refine tk3 ?_ | refine tk12 (fun _ => ?_) | refine tk4 ?_ | refine tk5 ?_ | refine tk6 ?_ | refine tk7 ?_ | refine tk8 ?_ | refine tk9 ?_ | refine tk10 (fun _ _ => ?_) | refine tk11 (fun _ => ?_) | refine tk13 ?_ | refine tk14 ?_); (conv => whnf))
  rename_i b2 b4
  refine CallK.fnEV hcheck (fun w1 hw1 => ⟨⟨hA _ w1 hw1, trivial⟩, hcp⟩) ?_
  unfold chE feedG
  cases hm : chMay s0
  · simp only [Bool.false_eq_true, if_false]
    (conv => whnf); repeat ((first | refine tk1 ?_ | refine tk2 ?_ | refine tk3 ?_ | refine tk12 (fun _ => ?_) | refine tk4 ?_ | refine tk5 ?_ | refine tk6 ?_ | refine tk7 ?_ | refine tk8 ?_ | refine tk9 ?_ | refine tk10 (fun _ _ => ?_) | refine tk11 (fun _ => ?_) | refine tk13 ?_ | refine tk14 ?_); (conv => whnf))
    exact fun w' hw' => hfail 8 _ w w' hG rfl (hw'.sub (List.nil_sublist _))
  simp only [if_true]
  (conv => whnf); repeat ((first | refine tk1 ?_ | refine tk2 ?_ | refine tk3 ?_ | refine tk12 (fun _ => ?_) | refine tk4 ?_ | refine tk5 ?_ | refine tk6 ?_ | refine tk7 ?_ | refine tk8 ?_ | refine tk9 ?_ | refine tk10 (fun _ _ => ?_) | refine tk11 (fun _ => ?_) | refine tk13 ?_ | refine tk14 ?_); (conv => whnf))
  by_cases h4 : s0.ph = 4
  · rw [if_pos h4]
    (conv => whnf); repeat ((first | refine tk1 ?_ | refine tk2 ?_ | refine tk3 ?_ | refine tk12 (fun _ => ?_) | refine tk4 ?_ | refine tk5 ?_ | refine tk6 ?_ | refine tk7 ?_ | refine tk8 ?_ | refine tk9 ?_ | refine tk10 (fun _ _ => ?_) | refine tk11 (fun _ => ?_) | refine tk13 ?_ | refine tk14 ?_); (conv => whnf))
    exact fun w' hw' => hfail 6 _ w w' hG rfl (hw'.sub (List.nil_sublist _))
  rw [if_neg h4]
  by_cases h1 : b.length ≤ 131072
  rotate_left
  · rw [if_neg h1]
    (conv => whnf); repeat ((first | refine tk1 ?_ | refine tk2 ?_ | refine tk3 ?_ | refine tk12 (fun _ => ?_) | refine tk4 ?_ | refine tk5 ?_ | refine tk6 ?_ | refine tk7 ?_ | refine tk8 ?_ | refine tk9 ?_ | refine tk10 (fun _ _ => ?_) | refine tk11 (fun _ => ?_) | refine tk13 ?_ | refine tk14 ?_); (conv => whnf))
    exact fun w' hw' => hfail 4 _ w w' hG rfl (hw'.sub (List.nil_sublist _))
  rw [if_pos h1]
  (conv => whnf); repeat ((first | refine tk1 ?_ | refine tk2 ?_ | refine tk3 ?_ | refine tk12 (fun _ => ?_) | refine tk4 ?_ | refine tk5 ?_ | refine tk6 ?_ | refine tk7 ?_ | refine tk8 ?_ | refine tk9 ?_ | refine tk10 (fun _ _ => ?_) | refine tk11 (fun _ => ?_) | refine tk13 ?_ | refine tk14 ?_); (conv => whnf))
  refine CallK.fnS hcl ⟨hA _, trivial⟩ (fun LA lc => ?_)
  (conv => whnf); repeat ((first | refine tk1 ?_ | refine tk2 ?_ | refine tk3 ?_ | refine tk12 (fun _ => ?_) | refine tk4 ?_ | refine tk5 ?_ | refine tk6 ?_ | refine tk7 ?_ | refine tk8 ?_ | refine tk9 ?_ | refine tk10 (fun _ _ => ?_) | refine tk11 (fun _ => ?_) | refine tk13 ?_ | refine tk14 ?_); (conv => whnf))
  refine OthP.mkArr (cs := [.func (.func 19) ⟨[]⟩ ⟨[]⟩, .nilFunc, .func (.func 20) ⟨[]⟩ ⟨[]⟩, .func (.func 21) ⟨[]⟩ ⟨[]⟩]) tys_ok rfl (fun h => nomatch h) rfl rfl rfl ?_
  (conv => whnf); repeat ((first | refine tk1 ?_ | refine tk2 ?_ | refine tk3 ?_ | refine tk12 (fun _ => ?_) | refine tk4 ?_ | refine tk5 ?_ | refine tk6 ?_ | refine tk7 ?_ | refine tk8 ?_ | refine tk9 ?_ | refine tk10 (fun _ _ => ?_) | refine tk11 (fun _ => ?_) | refine tk13 ?_ | refine tk14 ?_); (conv => whnf))
  rename_i b9 b10
  refine LoopS.lpT tys_ok (fun (x : FL) u => [u 0, .slice BA b.length Bc, u 2, u 3, .pointer (some ⟨b4, 0, none⟩), u 5, .int .i64 (x.k : Nat), u 7, u 8, .pointer (some ⟨b9, 0, none⟩), .pointer (some ⟨b10, 0, none⟩), u 11, u 12, u 13, u 14, u 15, u 16, u 17, u 18, u 19, u 20, u 21, u 22, u 23, u 24, u 25, u 26, u 27, u 28, u 29, u 30, u 31, u 32, u 33, u 34, u 35, u 36, u 37, u 38, u 39, u 40, u 41, u 42, u 43, u 44, u 45, u 46, u 47, u 48, u 49, u 50, u 51, u 52, u 53, u 54, u 55, u 56, u 57, u 58, u 59, u 60, u 61, u 62, u 63, u 64, u 65, u 66, u 67, u 68, u 69, u 70, u 71, u 72, u 73, u 74, u 75, u 76, u 77, u 78, u 79, u 80, u 81, u 82, u 83, u 84, u 85, u 86, u 87, u 88, u 89, u 90, u 91, u 92, u 93, u 94, u 95, u 96, u 97, u 98, u 99, u 100, u 101, u 102, u 103, u 104, u 105, u 106, u 107, u 108, u 109, u 110, u 111, u 112, u 113, u 114, u 115, u 116, u 117, u 118, u 119, u 120, u 121, u 122, u 123, u 124, u 125, u 126, u 127, u 128, u 129, u 130, u 131, u 132, u 133])
    (fun x => cHeap b9 x.s x.d x.y [.box b4 [.int .u8 0, .int .i64 0, .slice none 0 0, .int .i64 0] 27, .box b10 phC 49])
    (fun x => x.k ≤ b.length ∧ chMay x.s = true ∧ fedG s0 [] 0 b = fedG x.s x.d x.k (b.drop x.k) ∧ x.d.length ≤ x.k) (fun x => b.length - x.k) ⟨0, s0, [], ⟨LA, lc, none, 0⟩⟩ ⟨Nat.zero_le _, hm, rfl, Nat.le_refl _⟩ rfl ?_ ?_
  · unfold cHeap
    exact Into.trans (Into.nilRow (e := 5) (sz := 1) Into.refl) (Cv.into (by (try dsimp only); repeat' (first | with_reducible exact Cv.refl | with_reducible exact Cv.left | with_reducible exact Cv.right | with_reducible exact Cv.nil | (with_reducible apply Cv.cons; focus ((repeat (first | with_reducible exact Pick.here | with_reducible apply Pick.skip)); done)) | (apply Cv.cons; focus ((repeat (first | exact Pick.here | apply Pick.skip)); done)) | exact Cv.nil | exact Cv.refl | exact Cv.left | exact Cv.right | refine Cv.skip ?_)))
  rintro ⟨k, s, d, y⟩ u ⟨hk, hm, hI, hd⟩
  dsimp only at hk hm hI hd ⊢
  have hml := may_le hm
  unfold cHeap
  by_cases hlt : k < b.length
  rotate_left
  · as_aux_lemma =>
    have hr : fedG s0 [] 0 b = ⟨s, d, k, 0⟩ := by rw [hI, List.drop_eq_nil_of_le (by omega)]; rfl
    rw [hr]
    (conv => whnf); repeat ((first | refine tk1 ?_ | refine tk2 ?_ | refine tk3 ?_ | refine tk12 (fun _ => ?_) | refine tk4 ?_ | refine tk5 ?_ | refine tk6 ?_ | refine tk7 ?_ | refine tk8 ?_ | refine tk9 ?_ | refine tk10 (fun _ _ => ?_) | refine tk11 (fun _ => ?_) | refine tk13 ?_ | refine tk14 ?_); (conv => whnf))
    refine DrawS.fork [] (.q 0 (.q 1 (.q 2 (.q 3 (.q 4 (.q 8 (.ch 5 (.ch 6 (.ch 7 (.a 9 (.q 10 (.q 11 (.q 12 (.nil))))) (.ch 9 (.q 7 (.q 10 (.q 11 (.q 12 (.nil))))) (.stop))) (.ch 9 (.q 6 (.q 7 (.q 10 (.q 11 (.q 12 (.nil)))))) (.stop))) (.ch 9 (.q 5 (.q 6 (.q 7 (.q 10 (.q 11 (.q 12 (.nil))))))) (.stop))))))))) tys_ok mixed (by kernel_rfl) ?_
    (repeat' ((conv => whnf); first | refine tk15 ?_ | (first | refine tk1 ?_ | refine tk2 ?_ | refine tk3 ?_ | refine tk12 (fun _ => ?_) | refine tk4 ?_ | refine tk5 ?_ | refine tk6 ?_ | refine tk7 ?_ | refine tk8 ?_ | refine tk9 ?_ | refine tk10 (fun _ _ => ?_) | refine tk11 (fun _ => ?_) | refine tk13 ?_ | refine tk14 ?_) | refine And.intro ?_ ?_ | exact trivial | exact fun w' hw' => ⟨y, rfl, trivial, newH.into hw' (Cv.into (by (try dsimp only); repeat' (first | with_reducible exact Cv.refl | with_reducible exact Cv.left | with_reducible exact Cv.right | with_reducible exact Cv.nil | (with_reducible apply Cv.cons; focus ((repeat (first | with_reducible exact Pick.here | with_reducible apply Pick.skip)); done)) | (apply Cv.cons; focus ((repeat (first | exact Pick.here | apply Pick.skip)); done)) | exact Cv.nil | exact Cv.refl | exact Cv.left | exact Cv.right | refine Cv.skip ?_)))⟩))
  by_cases hp4 : s.ph = 4
  · as_aux_lemma =>
    have hr : fedG s0 [] 0 b = ⟨s, d, k, 0⟩ := by rw [hI, fed_over _ _ _ _ hp4]
    rw [hr]
    (conv => whnf); repeat ((first | refine tk1 ?_ | refine tk2 ?_ | refine tk3 ?_ | refine tk12 (fun _ => ?_) | refine tk4 ?_ | refine tk5 ?_ | refine tk6 ?_ | refine tk7 ?_ | refine tk8 ?_ | refine tk9 ?_ | refine tk10 (fun _ _ => ?_) | refine tk11 (fun _ => ?_) | refine tk13 ?_ | refine tk14 ?_); (conv => whnf))
    refine DrawS.fork [] (.q 0 (.q 1 (.q 2 (.q 3 (.q 4 (.q 8 (.ch 5 (.ch 6 (.ch 7 (.a 9 (.q 10 (.q 11 (.q 12 (.nil))))) (.ch 9 (.q 7 (.q 10 (.q 11 (.q 12 (.nil))))) (.stop))) (.ch 9 (.q 6 (.q 7 (.q 10 (.q 11 (.q 12 (.nil)))))) (.stop))) (.ch 9 (.q 5 (.q 6 (.q 7 (.q 10 (.q 11 (.q 12 (.nil))))))) (.stop))))))))) tys_ok mixed (by kernel_rfl) ?_
    (repeat' ((conv => whnf); first | refine tk15 ?_ | (first | refine tk1 ?_ | refine tk2 ?_ | refine tk3 ?_ | refine tk12 (fun _ => ?_) | refine tk4 ?_ | refine tk5 ?_ | refine tk6 ?_ | refine tk7 ?_ | refine tk8 ?_ | refine tk9 ?_ | refine tk10 (fun _ _ => ?_) | refine tk11 (fun _ => ?_) | refine tk13 ?_ | refine tk14 ?_) | refine And.intro ?_ ?_ | exact trivial | exact fun w' hw' => ⟨y, rfl, trivial, newH.into hw' (Cv.into (by (try dsimp only); repeat' (first | with_reducible exact Cv.refl | with_reducible exact Cv.left | with_reducible exact Cv.right | with_reducible exact Cv.nil | (with_reducible apply Cv.cons; focus ((repeat (first | with_reducible exact Pick.here | with_reducible apply Pick.skip)); done)) | (apply Cv.cons; focus ((repeat (first | exact Pick.here | apply Pick.skip)); done)) | exact Cv.nil | exact Cv.refl | exact Cv.left | exact Cv.right | refine Cv.skip ?_)))⟩))
  by_cases hp1 : s.ph = 1
  rotate_left
  · as_aux_lemma =>
    have hph : s.ph = 0 ∨ s.ph = 2 ∨ s.ph = 3 := by omega
    have hxb : (b.map byteV)[k]? = some (.int .u8 b[k].toNat) := by rw [List.getElem?_map, List.getElem?_eq_getElem hlt]; rfl
    have hfn : phC[((s.ph : Nat) : Int).toNat]? = some (.func (.func (stepF s.ph)) ⟨[]⟩ ⟨[]⟩) := by rcases hph with h | h | h <;> rw [h] <;> rfl
    rw [List.drop_eq_getElem_cons hlt, fed_cons, if_neg hp4, if_neg hp1] at hI
    obtain ⟨x, hx⟩ : ∃ x, b[k] = x := ⟨_, rfl⟩
    rw [hx] at hI hxb
    (conv => whnf); repeat ((first | refine tk1 ?_ | refine tk2 ?_ | refine tk3 ?_ | refine tk12 (fun _ => ?_) | refine tk4 ?_ | refine tk5 ?_ | refine tk6 ?_ | refine tk7 ?_ | refine tk8 ?_ | refine tk9 ?_ | refine tk10 (fun _ _ => ?_) | refine tk11 (fun _ => ?_) | refine tk13 ?_ | refine tk14 ?_); (conv => whnf))
    refine DrawS.goW [12] [(0, true), (1, true), (2, true), (3, true), (4, true), (5, true), (6, true), (7, true), (8, true), (9, true), (10, true), (11, true), (12, false), (13, true)] tys_ok mixed (by kernel_rfl) ?_
    (conv => whnf); repeat ((first | refine tk1 ?_ | refine tk2 ?_ | refine tk3 ?_ | refine tk12 (fun _ => ?_) | refine tk4 ?_ | refine tk5 ?_ | refine tk6 ?_ | refine tk7 ?_ | refine tk8 ?_ | refine tk9 ?_ | refine tk10 (fun _ _ => ?_) | refine tk11 (fun _ => ?_) | refine tk13 ?_ | refine tk14 ?_); (conv => whnf))
    refine OthP.idxArr (b := b10) (k := .u8) (z := (s.ph : Nat)) tys_ok rfl (fun h => nomatch h) rfl rfl rfl (by omega) (by omega) ?_
    (conv => whnf); repeat ((first | refine tk1 ?_ | refine tk2 ?_ | refine tk3 ?_ | refine tk12 (fun _ => ?_) | refine tk4 ?_ | refine tk5 ?_ | refine tk6 ?_ | refine tk7 ?_ | refine tk8 ?_ | refine tk9 ?_ | refine tk10 (fun _ _ => ?_) | refine tk11 (fun _ => ?_) | refine tk13 ?_ | refine tk14 ?_); (conv => whnf))
    refine Ld.tc (vs := phC) hfn ?_
    (conv => whnf); repeat ((first | refine tk1 ?_ | refine tk2 ?_ | refine tk3 ?_ | refine tk12 (fun _ => ?_) | refine tk4 ?_ | refine tk5 ?_ | refine tk6 ?_ | refine tk7 ?_ | refine tk8 ?_ | refine tk9 ?_ | refine tk10 (fun _ _ => ?_) | refine tk11 (fun _ => ?_) | refine tk13 ?_ | refine tk14 ?_); (conv => whnf))
    refine IdxA.tc (by rw [List.length_map]; omega) (by omega) (by omega) ?_
    (conv => whnf); repeat ((first | refine tk1 ?_ | refine tk2 ?_ | refine tk3 ?_ | refine tk12 (fun _ => ?_) | refine tk4 ?_ | refine tk5 ?_ | refine tk6 ?_ | refine tk7 ?_ | refine tk8 ?_ | refine tk9 ?_ | refine tk10 (fun _ _ => ?_) | refine tk11 (fun _ => ?_) | refine tk13 ?_ | refine tk14 ?_); (conv => whnf))
    refine Ld.ta (v := .int .u8 x.toNat) (by rw [show ((k : Nat) : Int).toNat * 1 = k by omega]; exact hxb) ?_
    (conv => whnf); repeat ((first | refine tk1 ?_ | refine tk2 ?_ | refine tk3 ?_ | refine tk12 (fun _ => ?_) | refine tk4 ?_ | refine tk5 ?_ | refine tk6 ?_ | refine tk7 ?_ | refine tk8 ?_ | refine tk9 ?_ | refine tk10 (fun _ _ => ?_) | refine tk11 (fun _ => ?_) | refine tk13 ?_ | refine tk14 ?_); (conv => whnf))
    refine step_k hou (s := s) (d := d) (y := y) (x := x) (X := [.box b4 [.int .u8 0, .int .i64 0, .slice none 0 0, .int .i64 0] 27, .box b10 phC 49]) hm hp1 hp4 (fun y' => ?_)
    have hkeep := one_keeps (x := x) hm hp1 hp4
    rcases hst : oneG s x with ⟨s1, e⟩
    rw [hst] at hI hkeep
    dsimp only at hI hkeep ⊢
    unfold cHeap
    by_cases he : e = 0
    · rw [if_pos he] at hI
      rw [he]
      (conv => whnf); repeat ((first | refine tk1 ?_ | refine tk2 ?_ | refine tk3 ?_ | refine tk12 (fun _ => ?_) | refine tk4 ?_ | refine tk5 ?_ | refine tk6 ?_ | refine tk7 ?_ | refine tk8 ?_ | refine tk9 ?_ | refine tk10 (fun _ _ => ?_) | refine tk11 (fun _ => ?_) | refine tk13 ?_ | refine tk14 ?_); (conv => whnf))
      exact ⟨⟨k + 1, s1, d, y'⟩, ⟨by dsimp only; omega, hkeep he, hI, by dsimp only; omega⟩, rfl, Into.refl, by dsimp only; omega⟩
    · rw [if_neg he] at hI
      rw [hI]
      (conv => whnf); repeat ((first | refine tk1 ?_ | refine tk2 ?_ | refine tk3 ?_ | refine tk12 (fun _ => ?_) | refine tk4 ?_ | refine tk5 ?_ | refine tk6 ?_ | refine tk7 ?_ | refine tk8 ?_ | refine tk9 ?_ | refine tk10 (fun _ _ => ?_) | refine tk11 (fun _ => ?_) | refine tk13 ?_ | refine tk14 ?_); (conv => whnf))
      exact fun w' hw' => hfail e _ w w' hG rfl (hw'.sub (List.nil_sublist _))
  · as_aux_lemma =>
    have hcm := hm
    have hln : s.line = [] ∧ 1 ≤ s.left := by
      obtain ⟨ph, left, line, trail⟩ := s
      dsimp only at hp1
      subst hp1
      simp [chMay, lineMay, leftMay, trailMay] at hm
      exact ⟨hm.1, hm.2.1.1⟩
    obtain ⟨n, hn⟩ : ∃ n : Nat, min s.left ((b.length : Int) - (k : Int)) = n := ⟨(min s.left ((b.length : Int) - (k : Int))).toNat, by omega⟩
    have hn1 : 1 ≤ n := by omega
    have hn2 : n ≤ b.length - k := by omega
    have hn3 : (n : Int) ≤ s.left := by omega
    have hdr : (b.drop k).length = b.length - k := List.length_drop
    rw [fed_block n (b.drop k) s d k hp1 hn1 (by omega) hn3, List.drop_drop] at hI
    (conv => whnf); repeat ((first | refine tk1 ?_ | refine tk2 ?_ | refine tk3 ?_ | refine tk12 (fun _ => ?_) | refine tk4 ?_ | refine tk5 ?_ | refine tk6 ?_ | refine tk7 ?_ | refine tk8 ?_ | refine tk9 ?_ | refine tk10 (fun _ _ => ?_) | refine tk11 (fun _ => ?_) | refine tk13 ?_ | refine tk14 ?_); (conv => whnf))
    refine OthP.min2 (n : Int) rfl rfl hn ?_
    (conv => whnf); repeat ((first | refine tk1 ?_ | refine tk2 ?_ | refine tk3 ?_ | refine tk12 (fun _ => ?_) | refine tk4 ?_ | refine tk5 ?_ | refine tk6 ?_ | refine tk7 ?_ | refine tk8 ?_ | refine tk9 ?_ | refine tk10 (fun _ _ => ?_) | refine tk11 (fun _ => ?_) | refine tk13 ?_ | refine tk14 ?_); (conv => whnf))
    refine Oth.make (n := n) tys_ok rfl (fun h => nomatch h) rfl rfl rfl rfl rfl (by omega) (fun bm => ?_)
    (conv => whnf); repeat ((first | refine tk1 ?_ | refine tk2 ?_ | refine tk3 ?_ | refine tk12 (fun _ => ?_) | refine tk4 ?_ | refine tk5 ?_ | refine tk6 ?_ | refine tk7 ?_ | refine tk8 ?_ | refine tk9 ?_ | refine tk10 (fun _ _ => ?_) | refine tk11 (fun _ => ?_) | refine tk13 ?_ | refine tk14 ?_); (conv => whnf))
    refine SlcV.from (by omega) (by omega) ?_
    have hp := fun H => RdS.piece (cp := Bc) (sz := 1) (lo := (k : Int)) (hRB H).ok (by omega) (fun e => by omega)
    have hdm : (b.map byteV).drop ((k : Int).toNat * 1) = (b.drop k).map byteV := by rw [Int.toNat_natCast, Nat.mul_one, List.map_drop]
    rw [hdm] at hp
    rw [show b.length - (k : Int).toNat = (b.drop k).length by rw [List.length_drop]; omega]
    have hpt := fun H => RdS.take (hp H) n
    rw [← List.map_take] at hpt
    have hnl : (((b.drop k).take n).map byteV).length = n := by rw [List.length_map, List.length_take]; omega
    (conv => whnf); repeat ((first | refine tk1 ?_ | refine tk2 ?_ | refine tk3 ?_ | refine tk12 (fun _ => ?_) | refine tk4 ?_ | refine tk5 ?_ | refine tk6 ?_ | refine tk7 ?_ | refine tk8 ?_ | refine tk9 ?_ | refine tk10 (fun _ _ => ?_) | refine tk11 (fun _ => ?_) | refine tk13 ?_ | refine tk14 ?_); (conv => whnf))
    refine Oth.copy (news := ((b.drop k).take n).map byteV) tys_ok rfl (fun h => nomatch h) rfl rfl rfl (hpt _) (by simp) hnl (by omega) (by omega) (bytes_one _) ?_
    (conv => whnf); repeat ((first | refine tk1 ?_ | refine tk2 ?_ | refine tk3 ?_ | refine tk12 (fun _ => ?_) | refine tk4 ?_ | refine tk5 ?_ | refine tk6 ?_ | refine tk7 ?_ | refine tk8 ?_ | refine tk9 ?_ | refine tk10 (fun _ _ => ?_) | refine tk11 (fun _ => ?_) | refine tk13 ?_ | refine tk14 ?_); (conv => whnf))
    have hlen : d.length + n = (d ++ (b.drop k).take n).length := by rw [List.length_append, List.length_take]; omega
    refine DrawS.joinI (fun (x : Option Addr × Nat) u => [u 0, .slice BA b.length Bc, u 2, u 3, .pointer (some ⟨b4, 0, none⟩), u 5, .int .i64 ((k : Int) + (n : Int)), u 7, u 8, .pointer (some ⟨b9, 0, none⟩), .pointer (some ⟨b10, 0, none⟩), u 11, u 12, u 13, u 14, u 15, u 16, u 17, u 18, u 19, u 20, u 21, u 22, u 23, u 24, u 25, u 26, u 27, u 28, u 29, u 30, u 31, u 32, u 33, u 34, u 35, u 36, u 37, u 38, u 39, u 40, u 41, u 42, u 43, u 44, u 45, u 46, u 47, u 48, u 49, u 50, u 51, u 52, u 53, u 54, u 55, u 56, u 57, u 58, u 59, u 60, u 61, u 62, u 63, u 64, u 65, u 66, u 67, u 68, u 69, u 70, u 71, u 72, u 73, u 74, u 75, u 76, u 77, u 78, u 79, u 80, u 81, u 82, u 83, u 84, u 85, u 86, u 87, u 88, u 89, u 90, u 91, u 92, u 93, u 94, u 95, u 96, u 97, u 98, u 99, u 100, u 101, u 102, u 103, u 104, u 105, u 106, u 107, u 108, u 109, u 110, u 111, u 112, u 113, u 114, u 115, u 116, u 117, u 118, u 119, u 120, u 121, u 122, u 123, u 124, u 125, u 126, u 127, u 128, u 129, u 130, u 131, u 132, u 133])
      (fun x => [.box b9 [.int .u8 (s.ph : Nat), .int .i64 (s.left - (n : Int)), .slice y.lA s.line.length y.lc, .int .i64 s.trail, .slice x.1 (d.length + n) x.2] 45,
        .row (.slice y.lA s.line.length y.lc) 5 1 s.line.length (s.line.map byteV), .row (.slice x.1 (d.length + n) x.2) 5 1 (d.length + n) ((d ++ (b.drop k).take n).map byteV),
        .box b4 [.int .u8 0, .int .i64 0, .slice none 0 0, .int .i64 0] 27, .box b10 phC 49]) [] (.q 0 (.q 1 (.q 2 (.q 3 (.q 4 (.q 5 (.q 6 (.q 8 (.q 13 (.q 15 (.q 16 (.ch 7 (.q 9 (.q 10 (.q 11 (.q 12 (.q 18 (.q 19 (.ch 14 (.ch 17 (.a 20 (.q 21 (.q 22 (.q 23 (.a 24 (.q 25 (.nil))))))) (.ch 20 (.q 21 (.q 22 (.q 23 (.ch 17 (.a 24 (.q 25 (.nil))) (.ch 24 (.q 17 (.q 25 (.nil))) (.stop)))))) (.stop))) (.ch 17 (.ch 14 (.a 20 (.q 21 (.q 22 (.q 23 (.a 24 (.q 25 (.nil))))))) (.ch 20 (.q 14 (.q 21 (.q 22 (.q 23 (.a 24 (.q 25 (.nil))))))) (.stop))) (.ch 20 (.q 14 (.q 21 (.q 22 (.q 23 (.ch 17 (.a 24 (.q 25 (.nil))) (.ch 24 (.q 17 (.q 25 (.nil))) (.stop))))))) (.stop)))))))))) (.ch 9 (.ch 7 (.q 10 (.q 11 (.q 12 (.q 18 (.q 19 (.ch 14 (.ch 17 (.a 20 (.q 21 (.q 22 (.q 23 (.a 24 (.q 25 (.nil))))))) (.ch 20 (.q 21 (.q 22 (.q 23 (.ch 17 (.a 24 (.q 25 (.nil))) (.ch 24 (.q 17 (.q 25 (.nil))) (.stop)))))) (.stop))) (.ch 17 (.ch 14 (.a 20 (.q 21 (.q 22 (.q 23 (.a 24 (.q 25 (.nil))))))) (.ch 20 (.q 14 (.q 21 (.q 22 (.q 23 (.a 24 (.q 25 (.nil))))))) (.stop))) (.ch 20 (.q 14 (.q 21 (.q 22 (.q 23 (.ch 17 (.a 24 (.q 25 (.nil))) (.ch 24 (.q 17 (.q 25 (.nil))) (.stop))))))) (.stop))))))))) (.ch 10 (.ch 7 (.q 11 (.q 12 (.q 18 (.q 19 (.ch 14 (.ch 17 (.a 20 (.q 21 (.q 22 (.q 23 (.a 24 (.q 25 (.nil))))))) (.ch 20 (.q 21 (.q 22 (.q 23 (.ch 17 (.a 24 (.q 25 (.nil))) (.ch 24 (.q 17 (.q 25 (.nil))) (.stop)))))) (.stop))) (.ch 17 (.ch 14 (.a 20 (.q 21 (.q 22 (.q 23 (.a 24 (.q 25 (.nil))))))) (.ch 20 (.q 14 (.q 21 (.q 22 (.q 23 (.a 24 (.q 25 (.nil))))))) (.stop))) (.ch 20 (.q 14 (.q 21 (.q 22 (.q 23 (.ch 17 (.a 24 (.q 25 (.nil))) (.ch 24 (.q 17 (.q 25 (.nil))) (.stop))))))) (.stop)))))))) (.ch 11 (.ch 7 (.q 12 (.q 18 (.q 19 (.ch 14 (.ch 17 (.a 20 (.q 21 (.q 22 (.q 23 (.a 24 (.q 25 (.nil))))))) (.ch 20 (.q 21 (.q 22 (.q 23 (.ch 17 (.a 24 (.q 25 (.nil))) (.ch 24 (.q 17 (.q 25 (.nil))) (.stop)))))) (.stop))) (.ch 17 (.ch 14 (.a 20 (.q 21 (.q 22 (.q 23 (.a 24 (.q 25 (.nil))))))) (.ch 20 (.q 14 (.q 21 (.q 22 (.q 23 (.a 24 (.q 25 (.nil))))))) (.stop))) (.ch 20 (.q 14 (.q 21 (.q 22 (.q 23 (.ch 17 (.a 24 (.q 25 (.nil))) (.ch 24 (.q 17 (.q 25 (.nil))) (.stop))))))) (.stop))))))) (.ch 12 (.ch 7 (.q 18 (.q 19 (.ch 14 (.ch 17 (.a 20 (.q 21 (.q 22 (.q 23 (.a 24 (.q 25 (.nil))))))) (.ch 20 (.q 21 (.q 22 (.q 23 (.ch 17 (.a 24 (.q 25 (.nil))) (.ch 24 (.q 17 (.q 25 (.nil))) (.stop)))))) (.stop))) (.ch 17 (.ch 14 (.a 20 (.q 21 (.q 22 (.q 23 (.a 24 (.q 25 (.nil))))))) (.ch 20 (.q 14 (.q 21 (.q 22 (.q 23 (.a 24 (.q 25 (.nil))))))) (.stop))) (.ch 20 (.q 14 (.q 21 (.q 22 (.q 23 (.ch 17 (.a 24 (.q 25 (.nil))) (.ch 24 (.q 17 (.q 25 (.nil))) (.stop))))))) (.stop)))))) (.ch 14 (.ch 7 (.q 18 (.q 19 (.ch 17 (.a 20 (.q 21 (.q 22 (.q 23 (.a 24 (.q 25 (.nil))))))) (.ch 20 (.q 21 (.q 22 (.q 23 (.ch 17 (.a 24 (.q 25 (.nil))) (.ch 24 (.q 17 (.q 25 (.nil))) (.stop)))))) (.stop))))) (.ch 17 (.a 7 (.q 18 (.q 19 (.a 20 (.q 21 (.q 22 (.q 23 (.a 24 (.q 25 (.nil)))))))))) (.stop))) (.ch 17 (.ch 7 (.q 18 (.q 19 (.ch 14 (.a 20 (.q 21 (.q 22 (.q 23 (.a 24 (.q 25 (.nil))))))) (.ch 20 (.q 14 (.q 21 (.q 22 (.q 23 (.a 24 (.q 25 (.nil))))))) (.stop))))) (.ch 14 (.a 7 (.q 18 (.q 19 (.a 20 (.q 21 (.q 22 (.q 23 (.a 24 (.q 25 (.nil)))))))))) (.stop))) (.stop)))) (.ch 17 (.ch 7 (.q 12 (.q 18 (.q 19 (.ch 14 (.a 20 (.q 21 (.q 22 (.q 23 (.a 24 (.q 25 (.nil))))))) (.ch 20 (.q 14 (.q 21 (.q 22 (.q 23 (.a 24 (.q 25 (.nil))))))) (.stop)))))) (.ch 12 (.ch 7 (.q 18 (.q 19 (.ch 14 (.a 20 (.q 21 (.q 22 (.q 23 (.a 24 (.q 25 (.nil))))))) (.ch 20 (.q 14 (.q 21 (.q 22 (.q 23 (.a 24 (.q 25 (.nil))))))) (.stop))))) (.ch 14 (.a 7 (.q 18 (.q 19 (.a 20 (.q 21 (.q 22 (.q 23 (.a 24 (.q 25 (.nil)))))))))) (.stop))) (.stop))) (.stop)))) (.ch 17 (.ch 7 (.q 11 (.q 12 (.q 18 (.q 19 (.ch 14 (.a 20 (.q 21 (.q 22 (.q 23 (.a 24 (.q 25 (.nil))))))) (.ch 20 (.q 14 (.q 21 (.q 22 (.q 23 (.a 24 (.q 25 (.nil))))))) (.stop))))))) (.ch 11 (.ch 7 (.q 12 (.q 18 (.q 19 (.ch 14 (.a 20 (.q 21 (.q 22 (.q 23 (.a 24 (.q 25 (.nil))))))) (.ch 20 (.q 14 (.q 21 (.q 22 (.q 23 (.a 24 (.q 25 (.nil))))))) (.stop)))))) (.ch 12 (.ch 7 (.q 18 (.q 19 (.ch 14 (.a 20 (.q 21 (.q 22 (.q 23 (.a 24 (.q 25 (.nil))))))) (.ch 20 (.q 14 (.q 21 (.q 22 (.q 23 (.a 24 (.q 25 (.nil))))))) (.stop))))) (.ch 14 (.a 7 (.q 18 (.q 19 (.a 20 (.q 21 (.q 22 (.q 23 (.a 24 (.q 25 (.nil)))))))))) (.stop))) (.stop))) (.stop))) (.stop)))) (.ch 17 (.ch 7 (.q 10 (.q 11 (.q 12 (.q 18 (.q 19 (.ch 14 (.a 20 (.q 21 (.q 22 (.q 23 (.a 24 (.q 25 (.nil))))))) (.ch 20 (.q 14 (.q 21 (.q 22 (.q 23 (.a 24 (.q 25 (.nil))))))) (.stop)))))))) (.ch 10 (.ch 7 (.q 11 (.q 12 (.q 18 (.q 19 (.ch 14 (.a 20 (.q 21 (.q 22 (.q 23 (.a 24 (.q 25 (.nil))))))) (.ch 20 (.q 14 (.q 21 (.q 22 (.q 23 (.a 24 (.q 25 (.nil))))))) (.stop))))))) (.ch 11 (.ch 7 (.q 12 (.q 18 (.q 19 (.ch 14 (.a 20 (.q 21 (.q 22 (.q 23 (.a 24 (.q 25 (.nil))))))) (.ch 20 (.q 14 (.q 21 (.q 22 (.q 23 (.a 24 (.q 25 (.nil))))))) (.stop)))))) (.ch 12 (.ch 7 (.q 18 (.q 19 (.ch 14 (.a 20 (.q 21 (.q 22 (.q 23 (.a 24 (.q 25 (.nil))))))) (.ch 20 (.q 14 (.q 21 (.q 22 (.q 23 (.a 24 (.q 25 (.nil))))))) (.stop))))) (.ch 14 (.a 7 (.q 18 (.q 19 (.a 20 (.q 21 (.q 22 (.q 23 (.a 24 (.q 25 (.nil)))))))))) (.stop))) (.stop))) (.stop))) (.stop))) (.stop)))) (.ch 17 (.ch 7 (.q 9 (.q 10 (.q 11 (.q 12 (.q 18 (.q 19 (.ch 14 (.a 20 (.q 21 (.q 22 (.q 23 (.a 24 (.q 25 (.nil))))))) (.ch 20 (.q 14 (.q 21 (.q 22 (.q 23 (.a 24 (.q 25 (.nil))))))) (.stop))))))))) (.ch 9 (.ch 7 (.q 10 (.q 11 (.q 12 (.q 18 (.q 19 (.ch 14 (.a 20 (.q 21 (.q 22 (.q 23 (.a 24 (.q 25 (.nil))))))) (.ch 20 (.q 14 (.q 21 (.q 22 (.q 23 (.a 24 (.q 25 (.nil))))))) (.stop)))))))) (.ch 10 (.ch 7 (.q 11 (.q 12 (.q 18 (.q 19 (.ch 14 (.a 20 (.q 21 (.q 22 (.q 23 (.a 24 (.q 25 (.nil))))))) (.ch 20 (.q 14 (.q 21 (.q 22 (.q 23 (.a 24 (.q 25 (.nil))))))) (.stop))))))) (.ch 11 (.ch 7 (.q 12 (.q 18 (.q 19 (.ch 14 (.a 20 (.q 21 (.q 22 (.q 23 (.a 24 (.q 25 (.nil))))))) (.ch 20 (.q 14 (.q 21 (.q 22 (.q 23 (.a 24 (.q 25 (.nil))))))) (.stop)))))) (.ch 12 (.ch 7 (.q 18 (.q 19 (.ch 14 (.a 20 (.q 21 (.q 22 (.q 23 (.a 24 (.q 25 (.nil))))))) (.ch 20 (.q 14 (.q 21 (.q 22 (.q 23 (.a 24 (.q 25 (.nil))))))) (.stop))))) (.ch 14 (.a 7 (.q 18 (.q 19 (.a 20 (.q 21 (.q 22 (.q 23 (.a 24 (.q 25 (.nil)))))))))) (.stop))) (.stop))) (.stop))) (.stop))) (.stop))) (.stop))))))))))))))) tys_ok mixed (by as_aux_lemma => kernel_rfl) ?_ ?_
    · as_aux_lemma =>
      (repeat' ((conv => whnf); first | (first | refine tk1 ?_ | refine tk2 ?_ | refine tk3 ?_ | refine tk12 (fun _ => ?_) | refine tk4 ?_ | refine tk5 ?_ | refine tk6 ?_ | refine tk7 ?_ | refine tk8 ?_ | refine tk9 ?_ | refine tk10 (fun _ _ => ?_) | refine tk11 (fun _ => ?_) | refine tk13 ?_ | refine tk14 ?_) | refine And.intro ?_ ?_ | exact trivial | exact ⟨(_, _), rfl, Cv.into (by (try dsimp only); repeat' (first | with_reducible exact Cv.refl | with_reducible exact Cv.left | with_reducible exact Cv.right | with_reducible exact Cv.nil | (with_reducible apply Cv.cons; focus ((repeat (first | with_reducible exact Pick.here | with_reducible apply Pick.skip)); done)) | (apply Cv.cons; focus ((repeat (first | exact Pick.here | apply Pick.skip)); done)) | exact Cv.nil | exact Cv.refl | exact Cv.left | exact Cv.right | refine Cv.skip ?_))⟩ | (refine AppS.tc (m := n) (news := ((b.drop k).take n).map byteV) SrcK.tc (by omega) (bytes_one _) (by decide) (by omega) (by omega) (zs := (d ++ (b.drop k).take n).map byteV) (by rw [List.map_append]) (fun _ _ => ?_))))
    rintro ⟨dA, dc⟩ u
    as_aux_lemma =>
    dsimp only
    rw [hlen]
    have hd2 : (d ++ (b.drop k).take n).length ≤ k + n := by rw [← hlen]; omega
    have hk2 : chMay { s with left := s.left - n, ph := if s.left - n = 0 then 2 else 1 } = true := by
      obtain ⟨ph, left, line, trail⟩ := s
      dsimp only at hp1 hln hn3
      subst hp1
      obtain ⟨rfl, _⟩ := hln
      simp [chMay, lineMay, leftMay, trailMay] at hcm ⊢
      by_cases hz : left - (n : Int) = 0
      · simp [hz, noEnd, bare, crB, hcm]
      · simp [hz, hcm]
        omega
    by_cases hz : s.left - (n : Int) = 0
    · as_aux_lemma =>
      rw [if_pos hz] at hI hk2
      (conv => whnf); repeat ((first | refine tk1 ?_ | refine tk2 ?_ | refine tk3 ?_ | refine tk12 (fun _ => ?_) | refine tk4 ?_ | refine tk5 ?_ | refine tk6 ?_ | refine tk7 ?_ | refine tk8 ?_ | refine tk9 ?_ | refine tk10 (fun _ _ => ?_) | refine tk11 (fun _ => ?_) | refine tk13 ?_ | refine tk14 ?_); (conv => whnf))
      exact ⟨⟨k + n, ⟨2, s.left - n, s.line, s.trail⟩, d ++ (b.drop k).take n, ⟨y.lA, y.lc, dA, dc⟩⟩, ⟨by dsimp only; omega, hk2, hI, hd2⟩, rfl, Cv.into (by (try dsimp only); repeat' (first | with_reducible exact Cv.refl | with_reducible exact Cv.left | with_reducible exact Cv.right | with_reducible exact Cv.nil | (with_reducible apply Cv.cons; focus ((repeat (first | with_reducible exact Pick.here | with_reducible apply Pick.skip)); done)) | (apply Cv.cons; focus ((repeat (first | exact Pick.here | apply Pick.skip)); done)) | exact Cv.nil | exact Cv.refl | exact Cv.left | exact Cv.right | refine Cv.skip ?_)), by dsimp only; omega⟩
    · as_aux_lemma =>
      rw [if_neg hz] at hI hk2
      rw [hp1]
      (conv => whnf); repeat ((first | refine tk1 ?_ | refine tk2 ?_ | refine tk3 ?_ | refine tk12 (fun _ => ?_) | refine tk4 ?_ | refine tk5 ?_ | refine tk6 ?_ | refine tk7 ?_ | refine tk8 ?_ | refine tk9 ?_ | refine tk10 (fun _ _ => ?_) | refine tk11 (fun _ => ?_) | refine tk13 ?_ | refine tk14 ?_); (conv => whnf))
      exact ⟨⟨k + n, ⟨1, s.left - n, s.line, s.trail⟩, d ++ (b.drop k).take n, ⟨y.lA, y.lc, dA, dc⟩⟩, ⟨by dsimp only; omega, hk2, hI, hd2⟩, rfl, Cv.into (by (try dsimp only); repeat' (first | with_reducible exact Cv.refl | with_reducible exact Cv.left | with_reducible exact Cv.right | with_reducible exact Cv.nil | (with_reducible apply Cv.cons; focus ((repeat (first | with_reducible exact Pick.here | with_reducible apply Pick.skip)); done)) | (apply Cv.cons; focus ((repeat (first | exact Pick.here | apply Pick.skip)); done)) | exact Cv.nil | exact Cv.refl | exact Cv.left | exact Cv.right | refine Cv.skip ?_)), by dsimp only; omega⟩
end Go.Proofs.YtbgnogdlkmhnkaaGreatDoor.Vex
/- Bodies under way compared, the statements' own first body, and ChunkKeeps, reckoned. -/
namespace Go.Proofs.YtbgnogdlkmhnkaaGreatDoor.Vex
open Go Go.RowKit
set_option maxRecDepth 100000
set_option linter.unusedSectionVars false
variable {gI : GI} [HasMax gI] [HasUtf gI] [HasErr gI]

theorem CSame_r (s t : CSt) (A B : Option Addr) (cp cq : Nat) (hs : s.line.length ≤ 1000000000) (ht : t.line.length ≤ 1000000000) :
    FnR Tryz.prog gI 13 [cV s A cp, cV t B cq] [(A, s.line.map byteV), (B, t.line.map byteV)] (.bool (decide (s = t))) := by
  obtain ⟨ap, al, an, at'⟩ := s
  obtain ⟨bp, bl, bn, bt⟩ := t
  unfold cV
  dsimp only at hs ht ⊢
  refine FnE.of tys_ok Tryz.func13 rfl (by kernel_rfl) rfl rfl ?_; intro w hG hP
  have hA : ∀ H, RdA (mkC Tryz.prog gI w hG) H A (an.map byteV) := fun H => ⟨hP.1.now⟩
  have hB : ∀ H, RdA (mkC Tryz.prog gI w hG) H B (bn.map byteV) := fun H => ⟨hP.2.1.now⟩
  (conv => whnf); repeat ((first | refine tk1 ?_ | refine tk2 ?_ | refine tk3 ?_ | refine tk12 (fun _ => ?_) | refine tk4 ?_ | refine tk5 ?_ | refine tk6 ?_ | refine tk7 ?_ | refine tk8 ?_ | refine tk9 ?_ | refine tk10 (fun _ _ => ?_) | refine tk11 (fun _ => ?_) | refine tk13 ?_ | refine tk14 ?_); (conv => whnf))
  refine Cmp.cases (fun h1 => ?_) (fun h1 => ?_)
  rotate_left
  · rw [decide_eq_false (show ¬ (⟨ap, al, an, at'⟩ : CSt) = ⟨bp, bl, bn, bt⟩ from fun h => h1 (by rw [show ap = bp from congrArg CSt.ph h]))]
    (conv => whnf); repeat ((first | refine tk1 ?_ | refine tk2 ?_ | refine tk3 ?_ | refine tk12 (fun _ => ?_) | refine tk4 ?_ | refine tk5 ?_ | refine tk6 ?_ | refine tk7 ?_ | refine tk8 ?_ | refine tk9 ?_ | refine tk10 (fun _ _ => ?_) | refine tk11 (fun _ => ?_) | refine tk13 ?_ | refine tk14 ?_); (conv => whnf))
    exact fun w' _ => rfl
  (conv => whnf); repeat ((first | refine tk1 ?_ | refine tk2 ?_ | refine tk3 ?_ | refine tk12 (fun _ => ?_) | refine tk4 ?_ | refine tk5 ?_ | refine tk6 ?_ | refine tk7 ?_ | refine tk8 ?_ | refine tk9 ?_ | refine tk10 (fun _ _ => ?_) | refine tk11 (fun _ => ?_) | refine tk13 ?_ | refine tk14 ?_); (conv => whnf))
  refine Cmp.cases (fun h2 => ?_) (fun h2 => ?_)
  rotate_left
  · rw [decide_eq_false (show ¬ (⟨ap, al, an, at'⟩ : CSt) = ⟨bp, bl, bn, bt⟩ from fun h => h2 (congrArg CSt.left h))]
    (conv => whnf); repeat ((first | refine tk1 ?_ | refine tk2 ?_ | refine tk3 ?_ | refine tk12 (fun _ => ?_) | refine tk4 ?_ | refine tk5 ?_ | refine tk6 ?_ | refine tk7 ?_ | refine tk8 ?_ | refine tk9 ?_ | refine tk10 (fun _ _ => ?_) | refine tk11 (fun _ => ?_) | refine tk13 ?_ | refine tk14 ?_); (conv => whnf))
    exact fun w' _ => rfl
  (conv => whnf); repeat ((first | refine tk1 ?_ | refine tk2 ?_ | refine tk3 ?_ | refine tk12 (fun _ => ?_) | refine tk4 ?_ | refine tk5 ?_ | refine tk6 ?_ | refine tk7 ?_ | refine tk8 ?_ | refine tk9 ?_ | refine tk10 (fun _ _ => ?_) | refine tk11 (fun _ => ?_) | refine tk13 ?_ | refine tk14 ?_); (conv => whnf))
  refine B2S.rd (hA _).ok rfl ?_
  (conv => whnf); repeat ((first | refine tk1 ?_ | refine tk2 ?_ | refine tk3 ?_ | refine tk12 (fun _ => ?_) | refine tk4 ?_ | refine tk5 ?_ | refine tk6 ?_ | refine tk7 ?_ | refine tk8 ?_ | refine tk9 ?_ | refine tk10 (fun _ _ => ?_) | refine tk11 (fun _ => ?_) | refine tk13 ?_ | refine tk14 ?_); (conv => whnf))
  refine B2S.rd (hB _).ok rfl ?_
  (conv => whnf); repeat ((first | refine tk1 ?_ | refine tk2 ?_ | refine tk3 ?_ | refine tk12 (fun _ => ?_) | refine tk4 ?_ | refine tk5 ?_ | refine tk6 ?_ | refine tk7 ?_ | refine tk8 ?_ | refine tk9 ?_ | refine tk10 (fun _ _ => ?_) | refine tk11 (fun _ => ?_) | refine tk13 ?_ | refine tk14 ?_); (conv => whnf))
  refine Cmp.cases (fun h3 => ?_) (fun h3 => ?_)
  rotate_left
  · rw [decide_eq_false (show ¬ (⟨ap, al, an, at'⟩ : CSt) = ⟨bp, bl, bn, bt⟩ from fun h => h3 (congrArg CSt.line h))]
    (conv => whnf); repeat ((first | refine tk1 ?_ | refine tk2 ?_ | refine tk3 ?_ | refine tk12 (fun _ => ?_) | refine tk4 ?_ | refine tk5 ?_ | refine tk6 ?_ | refine tk7 ?_ | refine tk8 ?_ | refine tk9 ?_ | refine tk10 (fun _ _ => ?_) | refine tk11 (fun _ => ?_) | refine tk13 ?_ | refine tk14 ?_); (conv => whnf))
    exact fun w' _ => rfl
  (conv => whnf); repeat ((first | refine tk1 ?_ | refine tk2 ?_ | refine tk3 ?_ | refine tk12 (fun _ => ?_) | refine tk4 ?_ | refine tk5 ?_ | refine tk6 ?_ | refine tk7 ?_ | refine tk8 ?_ | refine tk9 ?_ | refine tk10 (fun _ _ => ?_) | refine tk11 (fun _ => ?_) | refine tk13 ?_ | refine tk14 ?_); (conv => whnf))
  refine Cmp.of (decide ((⟨ap, al, an, at'⟩ : CSt) = ⟨bp, bl, bn, bt⟩)) (by rw [decide_eq_true_eq, CSt.mk.injEq]; exact ⟨fun h => h.2.2.2, fun h => ⟨by omega, h2, h3, h⟩⟩) ?_
  (conv => whnf); repeat ((first | refine tk1 ?_ | refine tk2 ?_ | refine tk3 ?_ | refine tk12 (fun _ => ?_) | refine tk4 ?_ | refine tk5 ?_ | refine tk6 ?_ | refine tk7 ?_ | refine tk8 ?_ | refine tk9 ?_ | refine tk10 (fun _ _ => ?_) | refine tk11 (fun _ => ?_) | refine tk13 ?_ | refine tk14 ?_); (conv => whnf))
  exact fun w' _ => rfl
theorem rdw0 {w : World} {A : Option Addr} : Rdw w A [] := fun j u h => by simp at h
def aliveC : List UInt8 := [51, 13, 10, 97, 98, 99, 13, 10, 48, 13, 10, 13, 10, 120]
theorem alive_feed : feedG cst0 aliveC = ⟨⟨4, 0, [], 0⟩, [97, 98, 99], 13, 0⟩ := by decide +kernel
theorem alive22_f : Fn Tryz.prog gI 8 [] (.bool true) := by
  refine Fn.of tys_ok Tryz.func8 rfl (by kernel_rfl) rfl rfl ?_; intro w hG
  (conv => whnf); repeat ((first | refine tk1 ?_ | refine tk2 ?_ | refine tk3 ?_ | refine tk12 (fun _ => ?_) | refine tk4 ?_ | refine tk5 ?_ | refine tk6 ?_ | refine tk7 ?_ | refine tk8 ?_ | refine tk9 ?_ | refine tk10 (fun _ _ => ?_) | refine tk11 (fun _ => ?_) | refine tk13 ?_ | refine tk14 ?_); (conv => whnf))
  rename_i b7
  refine Oth.same tys_ok rfl rfl rfl (fun o7 ho7 => ?_)
  have hR7 : ∀ H, RdA (mkC Tryz.prog gI w hG) (.obj b7 o7 :: H) (some ⟨b7, 0, none⟩) _ := ho7.rd
  have hs := Feed_f (gI := gI) cst0 none 0 (some ⟨b7, 0, none⟩) 14 aliveC (by decide) (by decide)
  rw [alive_feed] at hs
  (conv => whnf); repeat ((first | refine tk1 ?_ | refine tk2 ?_ | refine tk3 ?_ | refine tk12 (fun _ => ?_) | refine tk4 ?_ | refine tk5 ?_ | refine tk6 ?_ | refine tk7 ?_ | refine tk8 ?_ | refine tk9 ?_ | refine tk10 (fun _ _ => ?_) | refine tk11 (fun _ => ?_) | refine tk13 ?_ | refine tk14 ?_); (conv => whnf))
  refine CallK.fnT hs (fun w1 hw1 => ⟨⟨rdw0, RdA.ok (xs := aliveC.map byteV) w1 hw1, trivial⟩, by decide, by decide⟩) ?_
  intro y _
  dsimp only [FeedV, FeedH, cV, List.cons_append, List.nil_append, List.append_nil]
  (conv => whnf); repeat ((first | refine tk1 ?_ | refine tk2 ?_ | refine tk3 ?_ | refine tk12 (fun _ => ?_) | refine tk4 ?_ | refine tk5 ?_ | refine tk6 ?_ | refine tk7 ?_ | refine tk8 ?_ | refine tk9 ?_ | refine tk10 (fun _ _ => ?_) | refine tk11 (fun _ => ?_) | refine tk13 ?_ | refine tk14 ?_); (conv => whnf))
  refine B2S.tc (xs := [97, 98, 99].map byteV) (l := [97, 98, 99]) rfl rfl ?_
  (conv => whnf); repeat ((first | refine tk1 ?_ | refine tk2 ?_ | refine tk3 ?_ | refine tk12 (fun _ => ?_) | refine tk4 ?_ | refine tk5 ?_ | refine tk6 ?_ | refine tk7 ?_ | refine tk8 ?_ | refine tk9 ?_ | refine tk10 (fun _ _ => ?_) | refine tk11 (fun _ => ?_) | refine tk13 ?_ | refine tk14 ?_); (conv => whnf))
/-- What goes on tells either all or nothing. -/
theorem feed_ok (s : CSt) (b : List UInt8) : ((feedG s b).e = 0 ∧ (feedG s b).data.length ≤ (feedG s b).used ∧ (feedG s b).used ≤ b.length ∧ ((feedG s b).used = b.length ∨ (feedG s b).c.ph = 4) ∧ chMay (feedG s b).c = true ∧ feedG s b = fedG s [] 0 b ∧ chMay s = true ∧ s.ph ≠ 4 ∧ b.length ≤ 131072) ∨
    ((feedG s b).e ≠ 0 ∧ feedG s b = ⟨cst0, [], 0, (feedG s b).e⟩) := by
  unfold feedG
  cases hm : chMay s
  · exact .inr ⟨by simp, by simp⟩
  rw [if_pos rfl]
  by_cases h4 : s.ph = 4
  · rw [if_pos h4]; exact .inr ⟨by decide, rfl⟩
  rw [if_neg h4]
  by_cases hb : b.length ≤ 131072
  · rw [if_pos hb]
    rcases fed_used b s [] 0 (Nat.le_refl _) with ⟨a1, a2, a3, a4⟩ | h
    · exact .inl ⟨a1, a2, by omega, by rcases a4 with a | a; exact .inl (by omega); exact .inr a, fed_keeps b s [] 0 hm a1, rfl, rfl, h4, hb⟩
    · exact .inr h
  · rw [if_neg hb]; exact .inr ⟨by decide, rfl⟩
theorem may_257 {s : CSt} (h : chMay s = true) : s.line.length ≤ 257 := by
  obtain ⟨ph, left, line, trail⟩ := s
  have hb : line.length ≤ (bare line).length + 1 := by
    unfold bare
    split
    · rw [List.length_dropLast]; omega
    · omega
  unfold chMay lineMay at h
  rw [Bool.and_eq_true] at h
  have h := h.1
  dsimp only at h ⊢
  split at h
  · simp only [Bool.and_eq_true, decide_eq_true_eq] at h; have := h.2; omega
  split at h
  · simp only [decide_eq_true_eq] at h; subst h; simp
  split at h
  · simp only [Bool.and_eq_true, decide_eq_true_eq] at h; have : (bare line).length = 0 := by rw [h.2]; rfl
    omega
  split at h
  · simp only [Bool.and_eq_true, decide_eq_true_eq] at h; have := h.2; omega
  · cases h
end Go.Proofs.YtbgnogdlkmhnkaaGreatDoor.Vex
/- strconv.FormatInt to the base of 16, reckoned; what of the tables it reads. -/
namespace Go.Proofs.YtbgnogdlkmhnkaaGreatDoor.Vex
open Go Go.RowKit Go.ChangeShapes
set_option maxRecDepth 100000
set_option linter.unusedSectionVars false

/-- The one entry of the table that a base of 16 reads. -/
class HasTz (g : GI) : Prop where
  ok : ∀ w, g.G w → w.cell? ⟨5, 15, none⟩ = some (.int .u8 4)
def gV : GI where
  n := max gU.n (5 + 1)
  G w := gU.G w ∧ w.cell? ⟨5, 15, none⟩ = some (.int .u8 4)
  keep w w' h := fun ⟨h1, h2⟩ => ⟨gU.keep w w' (fun k hk => h k (Nat.lt_of_lt_of_le hk (Nat.le_max_left _ _))) h1, (World.cell?_of_block (h 5 (by omega))).trans h2⟩
  size w := fun ⟨h1, h2⟩ => Nat.max_le.2 ⟨gU.size w h1, World.block_lt_of_cell? _ _ h2⟩
instance : HasMax gV := ⟨fun _ h => h.1.1.1.1⟩
instance : HasErr gV := ⟨fun _ h => h.1.1.1.2⟩
instance : HasPow gV := ⟨fun _ h => h.1.1.2⟩
instance : HasUtf gV := ⟨fun _ h => h.1.2⟩
instance : HasTz gV := ⟨fun _ h => h.2⟩
theorem tz_name : Tryz.prog.globalNamed "math/bits.deBruijn64tab" = some 5 := by kernel_rfl
def tzTab : List Int := [0, 1, 56, 2, 57, 49, 28, 3, 61, 58, 42, 50, 38, 29, 17, 4, 62, 47, 59, 36, 45, 43, 51, 22, 53, 39, 33, 30, 24, 18, 12, 5, 63, 55, 48, 27, 60, 41, 37, 16, 46, 35, 44, 21, 52, 32, 23, 11, 54, 26, 40, 15, 34, 20, 31, 10, 25, 14, 19, 9, 13, 8, 7, 6]
theorem gV_of {l : List (String × DataW Unit)} {W : World} (hL : laidMetH Tryz.prog l W) (hS : W.ShapedOpen Tryz.prog) (hp : (l.all fun x => x.2.handleName?.isNone) = true)
    (h1 : ("strconv.ErrSyntax", Rows.laid_strconv_ErrSyntax) ∈ l) (h2 : ("strconv.ErrRange", Rows.laid_strconv_ErrRange) ∈ l) (h3 : ("internal/strconv.uint64pow10", Rows.laid_internal_strconv_uint64pow10) ∈ l)
    (h4 : ("unicode/utf8.first", Rows.laid_unicode_utf8_first) ∈ l) (h5 : ("unicode/utf8.acceptRanges", Rows.laid_unicode_utf8_acceptRanges) ∈ l) (h6 : ("math/bits.deBruijn64tab", Rows.laid_math_bits_deBruijn64tab) ∈ l) : gV.G W := by
  have e6 : (Rows.laid_math_bits_deBruijn64tab : DataW Unit) = Lib.tabData .u8 tzTab := by kernel_rfl
  rw [e6] at h6
  have ht := tab_of (t := 139) (e := 5) (m := 64) (reads_of hL hp h6) tz_name (by kernel_rfl) Tryz.underlying139 Tryz.underlying5 (by kernel_rfl) (by kernel_rfl)
  exact ⟨gU_of hL hS hp h1 h2 h3 h4 h5, ht.cell tz_name 15 (by decide)⟩

section
variable {c : Ctx} {T : Ty} {H : Hp} {fr : Fr} {dst : Option Nat} {ty : TypeId} {pos : String} {after : Array Edge} {gd : Option (Nat × Bool)}
/-- An array's end, as a slice. -/
theorem OthP.slcArr {t e n : Nat} {x lo : Operand} {b : Nat} {k : IntKind} {z : Int} {K : Value → Prop} (hT : TOk c.P T) (ht : (lookT T t).d = .array n e) (he : (lookT T e).d ≠ .invalid) (hs : (lookT T e).size = 1)
    (hx : evK fr x fun v => v = .pointer (some ⟨b, 0, none⟩)) (hl : evK fr lo fun v => v = .int k z) (h0 : 0 ≤ z) (h1 : z < n) (kk : K (.slice (some ⟨b, z.toNat, none⟩) (n - z.toNat) (n - z.toNat))) :
    OthP c ⟨dst, .slice t x (some lo) none none, ty, pos, after, gd⟩ fr H K := ⟨⟨_, kk, fun w _ => by
  rw [evK_eq] at hx hl
  have hu := (lookT_ok hT (t := t) (by rw [ht]; intro h; cases h)).1
  rw [ht] at hu
  have hse := run_sizeOf (lookT_ok hT he) w
  rw [hs] at hse
  have hne : ¬ n = z.toNat := by omega
  have hle : z ≤ n := by omega
  generalize (act fr).eval = ρ at *
  simp [execOp, hx, hl, Instr.sliceAt, Instr.sliceBounds, Instr.sliceBound, asIntOf, Sem.run_bind, run_underlying hu, Instr.sureAddr, h0, hle, hse, hne, Addr.add_lit]⟩⟩
/-- A box's cells from a place on. -/
theorem RdS.boxAt {b k : Nat} {vs : List Value} {t : TypeId} {f : List Value → Hp} [h : BoxAt b H vs t f] : RdS c H (some ⟨b, k, none⟩) (vs.drop k) := fun w hw j u hj => by
  obtain ⟨H1, H2, rfl, _⟩ := h.ok
  have hg : w.heap[b]? = some (.cells ⟨vs⟩ t (0, 0)) := (hw.own (.box b vs t) (by simp)).1
  rw [List.getElem?_drop] at hj
  exact ⟨_, rfl, by rw [Addr.add_lit, cell_of_row w b (k + j) ⟨vs⟩ t _ hg]; simpa using hj⟩
end
theorem Ar.u64 {z : Int} {K : Value → Prop} (h : 0 ≤ z) (h' : z < 18446744073709551616) (k : K (.int .u64 z)) : Ar .u64 z K := ⟨z, by rw [IntKind.wrap_u64]; omega, k⟩
variable {gI : GI} [HasTz gI]
theorem Pow2_f : Fn Tryz.prog gI 61 [.int .i64 16] (.bool true) := by
  refine Fn.of tys_ok Tryz.func61 rfl (by kernel_rfl) rfl rfl ?_; intro w hG
  (conv => whnf); repeat ((first | refine tk1 ?_ | refine tk2 ?_ | refine tk3 ?_ | refine tk12 (fun _ => ?_) | refine tk4 ?_ | refine tk5 ?_ | refine tk6 ?_ | refine tk7 ?_ | refine tk8 ?_ | refine tk9 ?_ | refine tk10 (fun _ _ => ?_) | refine tk11 (fun _ => ?_) | refine tk13 ?_ | refine tk14 ?_); (conv => whnf))
  refine OthP.ints rfl rfl (v := .int .i64 0) (fun w => rfl) ?_
  (conv => whnf); repeat ((first | refine tk1 ?_ | refine tk2 ?_ | refine tk3 ?_ | refine tk12 (fun _ => ?_) | refine tk4 ?_ | refine tk5 ?_ | refine tk6 ?_ | refine tk7 ?_ | refine tk8 ?_ | refine tk9 ?_ | refine tk10 (fun _ _ => ?_) | refine tk11 (fun _ => ?_) | refine tk13 ?_ | refine tk14 ?_); (conv => whnf))
theorem Tz64_f : Fn Tryz.prog gI 87 [.int .u64 16] (.int .i64 4) := by
  refine Fn.of tys_ok Tryz.func87 rfl (by kernel_rfl) rfl rfl ?_; intro w hG
  have ht := HasTz.ok w hG
  (conv => whnf); repeat ((first | refine tk1 ?_ | refine tk2 ?_ | refine tk3 ?_ | refine tk12 (fun _ => ?_) | refine tk4 ?_ | refine tk5 ?_ | refine tk6 ?_ | refine tk7 ?_ | refine tk8 ?_ | refine tk9 ?_ | refine tk10 (fun _ _ => ?_) | refine tk11 (fun _ => ?_) | refine tk13 ?_ | refine tk14 ?_); (conv => whnf))
  refine ⟨18446744073709551600, rfl, ?_⟩
  (conv => whnf); repeat ((first | refine tk1 ?_ | refine tk2 ?_ | refine tk3 ?_ | refine tk12 (fun _ => ?_) | refine tk4 ?_ | refine tk5 ?_ | refine tk6 ?_ | refine tk7 ?_ | refine tk8 ?_ | refine tk9 ?_ | refine tk10 (fun _ _ => ?_) | refine tk11 (fun _ => ?_) | refine tk13 ?_ | refine tk14 ?_); (conv => whnf))
  refine OthP.ints rfl rfl (v := .int .u64 16) (fun w => rfl) ?_
  (conv => whnf); repeat ((first | refine tk1 ?_ | refine tk2 ?_ | refine tk3 ?_ | refine tk12 (fun _ => ?_) | refine tk4 ?_ | refine tk5 ?_ | refine tk6 ?_ | refine tk7 ?_ | refine tk8 ?_ | refine tk9 ?_ | refine tk10 (fun _ _ => ?_) | refine tk11 (fun _ => ?_) | refine tk13 ?_ | refine tk14 ?_); (conv => whnf))
  refine ⟨4573923408821661840, rfl, ?_⟩
  (conv => whnf); repeat ((first | refine tk1 ?_ | refine tk2 ?_ | refine tk3 ?_ | refine tk12 (fun _ => ?_) | refine tk4 ?_ | refine tk5 ?_ | refine tk6 ?_ | refine tk7 ?_ | refine tk8 ?_ | refine tk9 ?_ | refine tk10 (fun _ _ => ?_) | refine tk11 (fun _ => ?_) | refine tk13 ?_ | refine tk14 ?_); (conv => whnf))
  refine OthP.ints rfl rfl (v := .int .u64 15) (fun w => rfl) ?_
  (conv => whnf); repeat ((first | refine tk1 ?_ | refine tk2 ?_ | refine tk3 ?_ | refine tk12 (fun _ => ?_) | refine tk4 ?_ | refine tk5 ?_ | refine tk6 ?_ | refine tk7 ?_ | refine tk8 ?_ | refine tk9 ?_ | refine tk10 (fun _ _ => ?_) | refine tk11 (fun _ => ?_) | refine tk13 ?_ | refine tk14 ?_); (conv => whnf))
  refine OthP.idxArr (b := 5) (k := .u64) (z := 15) tys_ok rfl (fun h => nomatch h) rfl rfl rfl (by decide) (by decide) ?_
  (conv => whnf); repeat ((first | refine tk1 ?_ | refine tk2 ?_ | refine tk3 ?_ | refine tk12 (fun _ => ?_) | refine tk4 ?_ | refine tk5 ?_ | refine tk6 ?_ | refine tk7 ?_ | refine tk8 ?_ | refine tk9 ?_ | refine tk10 (fun _ _ => ?_) | refine tk11 (fun _ => ?_) | refine tk13 ?_ | refine tk14 ?_); (conv => whnf))
  refine Ld.now ht ?_
  (conv => whnf); repeat ((first | refine tk1 ?_ | refine tk2 ?_ | refine tk3 ?_ | refine tk12 (fun _ => ?_) | refine tk4 ?_ | refine tk5 ?_ | refine tk6 ?_ | refine tk7 ?_ | refine tk8 ?_ | refine tk9 ?_ | refine tk10 (fun _ _ => ?_) | refine tk11 (fun _ => ?_) | refine tk13 ?_ | refine tk14 ?_); (conv => whnf))
theorem Tz_f : Fn Tryz.prog gI 62 [.int .u64 16] (.int .i64 4) := by
  refine Fn.of tys_ok Tryz.func62 rfl (by kernel_rfl) rfl rfl ?_; intro w hG
  (conv => whnf); repeat ((first | refine tk1 ?_ | refine tk2 ?_ | refine tk3 ?_ | refine tk12 (fun _ => ?_) | refine tk4 ?_ | refine tk5 ?_ | refine tk6 ?_ | refine tk7 ?_ | refine tk8 ?_ | refine tk9 ?_ | refine tk10 (fun _ _ => ?_) | refine tk11 (fun _ => ?_) | refine tk13 ?_ | refine tk14 ?_); (conv => whnf))
  refine CallK.fn (Tz64_f (gI := gI)) ?_
  (conv => whnf); repeat ((first | refine tk1 ?_ | refine tk2 ?_ | refine tk3 ?_ | refine tk12 (fun _ => ?_) | refine tk4 ?_ | refine tk5 ?_ | refine tk6 ?_ | refine tk7 ?_ | refine tk8 ?_ | refine tk9 ?_ | refine tk10 (fun _ _ => ?_) | refine tk11 (fun _ => ?_) | refine tk13 ?_ | refine tk14 ?_); (conv => whnf))

theorem and15 (u : Nat) (h : u < 18446744073709551616) : bits .and .u64 (u : Int) 15 = ((u % 16 : Nat) : Int) := by
  have := bits_and_u64_nat u 15 h (by decide)
  rw [show ((15 : Nat) : Int) = 15 from rfl] at this
  rw [this, show (15 : Nat) = 2 ^ 4 - 1 from rfl, Nat.and_two_pow_sub_one_eq_mod]
def arrC (dg : List UInt8) : List Value := List.replicate (65 - dg.length) (.int .u8 0) ++ dg.map byteV
theorem arrC_length (dg : List UInt8) (h : dg.length ≤ 65) : (arrC dg).length = 65 := by
  unfold arrC
  rw [List.length_append, List.length_replicate, List.length_map]
  omega
theorem arrC_set (dg : List UInt8) (x : UInt8) (h : dg.length < 65) : (arrC dg).set (64 - dg.length) (.int .u8 x.toNat) = arrC (x :: dg) := by
  unfold arrC
  rw [show 65 - dg.length = (64 - dg.length) + 1 by omega, List.replicate_succ', List.append_assoc, List.set_append_right _ _ (by rw [List.length_replicate]; exact Nat.le_refl _)]
  rw [List.length_replicate, Nat.sub_self, List.length_cons, show 65 - (dg.length + 1) = 64 - dg.length by omega]
  rfl
theorem arrC_drop (dg : List UInt8) : (arrC dg).drop (65 - dg.length) = dg.map byteV := by
  unfold arrC
  rw [List.drop_append_of_le_length (by rw [List.length_replicate]; exact Nat.le_refl _), List.drop_of_length_le (by rw [List.length_replicate]; exact Nat.le_refl _), List.nil_append]
def digL : List UInt8 := [48, 49, 50, 51, 52, 53, 54, 55, 56, 57, 97, 98, 99, 100, 101, 102, 103, 104, 105, 106, 107, 108, 109, 110, 111, 112, 113, 114, 115, 116, 117, 118, 119, 120, 121, 122]
theorem digL_at : ∀ k : Nat, k < 16 → digL[k]? = some (hxD k) := by decide +kernel
structure FB where
  f : Nat
  u : Nat
  dg : List UInt8
set_option maxHeartbeats 4000000 in
theorem formatBits_f (n : Nat) (hn : n < 18446744073709551616) : FnE Tryz.prog gI 40 [.slice none 0 0, .int .u64 n, .int .i64 16, .bool false, .bool false] (fun _ => True) fun _ v _ => v = .tuple #[.slice none 0 0, str (hxS n)] := by
  refine FnE.of tys_ok Tryz.func40 rfl (by kernel_rfl) rfl rfl ?_; intro w hG hP
  (conv => whnf); repeat ((first | refine tk1 ?_ | refine tk2 ?_ | refine tk3 ?_ | refine tk12 (fun _ => ?_) | refine tk4 ?_ | refine tk5 ?_ | refine tk6 ?_ | refine tk7 ?_ | refine tk8 ?_ | refine tk9 ?_ | refine tk10 (fun _ _ => ?_) | refine tk11 (fun _ => ?_) | refine tk13 ?_ | refine tk14 ?_); (conv => whnf))
  rename_i b
  refine CallK.fn (Pow2_f (gI := gI)) ?_
  (conv => whnf); repeat ((first | refine tk1 ?_ | refine tk2 ?_ | refine tk3 ?_ | refine tk12 (fun _ => ?_) | refine tk4 ?_ | refine tk5 ?_ | refine tk6 ?_ | refine tk7 ?_ | refine tk8 ?_ | refine tk9 ?_ | refine tk10 (fun _ _ => ?_) | refine tk11 (fun _ => ?_) | refine tk13 ?_ | refine tk14 ?_); (conv => whnf))
  refine Ar.u64 (by decide) (by decide) ?_
  (conv => whnf); repeat ((first | refine tk1 ?_ | refine tk2 ?_ | refine tk3 ?_ | refine tk12 (fun _ => ?_) | refine tk4 ?_ | refine tk5 ?_ | refine tk6 ?_ | refine tk7 ?_ | refine tk8 ?_ | refine tk9 ?_ | refine tk10 (fun _ _ => ?_) | refine tk11 (fun _ => ?_) | refine tk13 ?_ | refine tk14 ?_); (conv => whnf))
  refine CallK.fn (Tz_f (gI := gI)) ?_
  (conv => whnf); repeat ((first | refine tk1 ?_ | refine tk2 ?_ | refine tk3 ?_ | refine tk12 (fun _ => ?_) | refine tk4 ?_ | refine tk5 ?_ | refine tk6 ?_ | refine tk7 ?_ | refine tk8 ?_ | refine tk9 ?_ | refine tk10 (fun _ _ => ?_) | refine tk11 (fun _ => ?_) | refine tk13 ?_ | refine tk14 ?_); (conv => whnf))
  refine Ar.u64 (by decide) (by decide) ?_
  (conv => whnf); repeat ((first | refine tk1 ?_ | refine tk2 ?_ | refine tk3 ?_ | refine tk12 (fun _ => ?_) | refine tk4 ?_ | refine tk5 ?_ | refine tk6 ?_ | refine tk7 ?_ | refine tk8 ?_ | refine tk9 ?_ | refine tk10 (fun _ _ => ?_) | refine tk11 (fun _ => ?_) | refine tk13 ?_ | refine tk14 ?_); (conv => whnf))
  refine Ar.u64 (by decide) (by decide) ?_
  (conv => whnf); repeat ((first | refine tk1 ?_ | refine tk2 ?_ | refine tk3 ?_ | refine tk12 (fun _ => ?_) | refine tk4 ?_ | refine tk5 ?_ | refine tk6 ?_ | refine tk7 ?_ | refine tk8 ?_ | refine tk9 ?_ | refine tk10 (fun _ _ => ?_) | refine tk11 (fun _ => ?_) | refine tk13 ?_ | refine tk14 ?_); (conv => whnf))
  refine Ar.u64 (by decide) (by decide) ?_
  (conv => whnf); repeat ((first | refine tk1 ?_ | refine tk2 ?_ | refine tk3 ?_ | refine tk12 (fun _ => ?_) | refine tk4 ?_ | refine tk5 ?_ | refine tk6 ?_ | refine tk7 ?_ | refine tk8 ?_ | refine tk9 ?_ | refine tk10 (fun _ _ => ?_) | refine tk11 (fun _ => ?_) | refine tk13 ?_ | refine tk14 ?_); (conv => whnf))
  refine Ar.u64 (by decide) (by decide) ?_
  (conv => whnf); repeat ((first | refine tk1 ?_ | refine tk2 ?_ | refine tk3 ?_ | refine tk12 (fun _ => ?_) | refine tk4 ?_ | refine tk5 ?_ | refine tk6 ?_ | refine tk7 ?_ | refine tk8 ?_ | refine tk9 ?_ | refine tk10 (fun _ _ => ?_) | refine tk11 (fun _ => ?_) | refine tk13 ?_ | refine tk14 ?_); (conv => whnf))
  refine LoopS.lp tys_ok (fun (x : FB) u => [.slice none 0 0, .int .u64 (x.u : Nat), u 2, .bool false, .bool false, u 5, u 6, u 7, u 8, u 9, .slice none 0 0, str [], .pointer (some ⟨b, 0, none⟩), .int .i64 (65 - (x.dg.length : Int)), .int .u64 4, .int .u64 16, .int .u64 15, u 17, u 18, u 19, u 20, u 21, u 22, u 23, u 24, u 25, u 26, u 27, u 28, u 29, u 30, u 31, u 32, u 33, u 34, u 35, u 36, u 37, u 38, u 39, u 40, u 41, u 42, u 43, u 44, u 45, u 46, u 47, u 48, u 49, u 50, u 51, u 52, u 53, u 54, u 55, u 56, u 57, u 58, u 59, u 60, u 61, u 62, u 63, u 64, u 65, u 66, u 67, u 68, u 69, u 70, u 71, u 72, u 73, u 74, u 75, u 76, u 77, u 78, u 79, u 80, u 81, u 82, u 83, u 84, u 85, u 86, u 87, u 88, u 89, u 90, u 91, u 92, u 93, u 94, u 95, u 96, u 97, u 98, u 99, u 100, u 101])
    (fun x => [.box b (arrC x.dg) 103])
    (fun x => x.u < 16 ^ (x.f + 1) ∧ hxF 16 n = hxF x.f x.u ++ x.dg ∧ x.f + x.dg.length = 16 ∧ x.u < 18446744073709551616) (fun x => x.u) ⟨16, n, []⟩ ⟨by dsimp only; omega, by rw [List.append_nil], rfl, hn⟩ rfl (by repeat' (first | exact List.Sublist.refl _ | exact List.nil_sublist _ | apply List.Sublist.cons_cons | apply List.Sublist.cons)) ?_
  rintro ⟨f, u, dg⟩ uu ⟨h1, h2, h3, h4⟩
  dsimp only at h1 h2 h3 h4 ⊢
  have hset := arrC_set dg (hxD (u % 16)) (by omega)
  have hlen := arrC_length dg (by omega)
  (conv => whnf); repeat ((first | refine tk1 ?_ | refine tk2 ?_ | refine tk3 ?_ | refine tk12 (fun _ => ?_) | refine tk4 ?_ | refine tk5 ?_ | refine tk6 ?_ | refine tk7 ?_ | refine tk8 ?_ | refine tk9 ?_ | refine tk10 (fun _ _ => ?_) | refine tk11 (fun _ => ?_) | refine tk13 ?_ | refine tk14 ?_); (conv => whnf))
  refine Cmp.cases (fun c1 => ?_) (fun c1 => ?_)
  · obtain ⟨f, rfl⟩ : ∃ g, f = g + 1 := ⟨f - 1, by rcases f with _ | f; (exfalso; simp at h1; omega); omega⟩
    have hpow : u / 16 < 16 ^ (f + 1) := by rw [Nat.pow_succ] at h1; omega
    have hstep : hxF (f + 1) u = hxF f (u / 16) ++ [hxD (u % 16)] := by rw [hxF, if_neg (by omega)]
    have hand := and15 u h4
    have hdv : ((u : Nat) : Int).fdiv 16 = ((u / 16 : Nat) : Int) := by rw [Int.fdiv_eq_ediv_of_nonneg _ (by decide)]; omega
    (conv => whnf); repeat ((first | refine tk1 ?_ | refine tk2 ?_ | refine tk3 ?_ | refine tk12 (fun _ => ?_) | refine tk4 ?_ | refine tk5 ?_ | refine tk6 ?_ | refine tk7 ?_ | refine tk8 ?_ | refine tk9 ?_ | refine tk10 (fun _ _ => ?_) | refine tk11 (fun _ => ?_) | refine tk13 ?_ | refine tk14 ?_); (conv => whnf))
    refine OthP.ints rfl rfl (v := .int .u64 ((u % 16 : Nat) : Int)) (fun w => by show Result.ok (Value.int .u64 (bits .and .u64 (u : Int) 15)) w = _; rw [hand]) ?_
    (conv => whnf); repeat ((first | refine tk1 ?_ | refine tk2 ?_ | refine tk3 ?_ | refine tk12 (fun _ => ?_) | refine tk4 ?_ | refine tk5 ?_ | refine tk6 ?_ | refine tk7 ?_ | refine tk8 ?_ | refine tk9 ?_ | refine tk10 (fun _ _ => ?_) | refine tk11 (fun _ => ?_) | refine tk13 ?_ | refine tk14 ?_); (conv => whnf))
    refine IdxS.at (hxD (u % 16)) (digL_at (u % 16) (Nat.mod_lt _ (by decide))) (by omega) ?_
    (conv => whnf); repeat ((first | refine tk1 ?_ | refine tk2 ?_ | refine tk3 ?_ | refine tk12 (fun _ => ?_) | refine tk4 ?_ | refine tk5 ?_ | refine tk6 ?_ | refine tk7 ?_ | refine tk8 ?_ | refine tk9 ?_ | refine tk10 (fun _ _ => ?_) | refine tk11 (fun _ => ?_) | refine tk13 ?_ | refine tk14 ?_); (conv => whnf))
    refine OthP.idxArr (b := b) (k := .i64) (z := 65 - (dg.length : Int) - 1) tys_ok rfl (fun h => nomatch h) rfl rfl rfl (by omega) (by omega) ?_
    (conv => whnf); repeat ((first | refine tk1 ?_ | refine tk2 ?_ | refine tk3 ?_ | refine tk12 (fun _ => ?_) | refine tk4 ?_ | refine tk5 ?_ | refine tk6 ?_ | refine tk7 ?_ | refine tk8 ?_ | refine tk9 ?_ | refine tk10 (fun _ _ => ?_) | refine tk11 (fun _ => ?_) | refine tk13 ?_ | refine tk14 ?_); (conv => whnf))
    refine Sto.tc (vs' := arrC (hxD (u % 16) :: dg)) (by rw [show (65 - (dg.length : Int) - 1).toNat = 64 - dg.length by omega]; exact hset) (by rw [hlen]; omega) rfl ?_
    (conv => whnf); repeat ((first | refine tk1 ?_ | refine tk2 ?_ | refine tk3 ?_ | refine tk12 (fun _ => ?_) | refine tk4 ?_ | refine tk5 ?_ | refine tk6 ?_ | refine tk7 ?_ | refine tk8 ?_ | refine tk9 ?_ | refine tk10 (fun _ _ => ?_) | refine tk11 (fun _ => ?_) | refine tk13 ?_ | refine tk14 ?_); (conv => whnf))
    refine OthP.ints rfl rfl (v := .int .u64 (((u : Nat) : Int).fdiv 16)) (fun w => rfl) ?_
    rw [hdv]
    (conv => whnf); repeat ((first | refine tk1 ?_ | refine tk2 ?_ | refine tk3 ?_ | refine tk12 (fun _ => ?_) | refine tk4 ?_ | refine tk5 ?_ | refine tk6 ?_ | refine tk7 ?_ | refine tk8 ?_ | refine tk9 ?_ | refine tk10 (fun _ _ => ?_) | refine tk11 (fun _ => ?_) | refine tk13 ?_ | refine tk14 ?_); (conv => whnf))
    exact ⟨⟨f, u / 16, hxD (u % 16) :: dg⟩, ⟨hpow, by rw [h2, hstep, List.append_assoc]; rfl, by dsimp only; rw [List.length_cons]; omega, by dsimp only; omega⟩, by dsimp only; rw [show (65 : Int) - ((hxD (u % 16) :: dg).length : Int) = 65 - (dg.length : Int) - 1 by rw [List.length_cons]; omega]; rfl, (by repeat' (first | exact List.Sublist.refl _ | exact List.nil_sublist _ | apply List.Sublist.cons_cons | apply List.Sublist.cons)), by dsimp only; omega⟩
  · have hu : u < 16 := by omega
    have hlast : hxF f u = [hxD u] := by
      cases f with
      | zero => rw [hxF, Nat.mod_eq_of_lt hu]
      | succ f => rw [hxF, if_pos hu]
    have hset := arrC_set dg (hxD u) (by omega)
    have hfin : hxS n = hxD u :: dg := by unfold hxS; rw [h2, hlast]; rfl
    (conv => whnf); repeat ((first | refine tk1 ?_ | refine tk2 ?_ | refine tk3 ?_ | refine tk12 (fun _ => ?_) | refine tk4 ?_ | refine tk5 ?_ | refine tk6 ?_ | refine tk7 ?_ | refine tk8 ?_ | refine tk9 ?_ | refine tk10 (fun _ _ => ?_) | refine tk11 (fun _ => ?_) | refine tk13 ?_ | refine tk14 ?_); (conv => whnf))
    refine IdxS.at (hxD u) (digL_at u hu) (by omega) ?_
    (conv => whnf); repeat ((first | refine tk1 ?_ | refine tk2 ?_ | refine tk3 ?_ | refine tk12 (fun _ => ?_) | refine tk4 ?_ | refine tk5 ?_ | refine tk6 ?_ | refine tk7 ?_ | refine tk8 ?_ | refine tk9 ?_ | refine tk10 (fun _ _ => ?_) | refine tk11 (fun _ => ?_) | refine tk13 ?_ | refine tk14 ?_); (conv => whnf))
    refine OthP.idxArr (b := b) (k := .i64) (z := 65 - (dg.length : Int) - 1) tys_ok rfl (fun h => nomatch h) rfl rfl rfl (by omega) (by omega) ?_
    (conv => whnf); repeat ((first | refine tk1 ?_ | refine tk2 ?_ | refine tk3 ?_ | refine tk12 (fun _ => ?_) | refine tk4 ?_ | refine tk5 ?_ | refine tk6 ?_ | refine tk7 ?_ | refine tk8 ?_ | refine tk9 ?_ | refine tk10 (fun _ _ => ?_) | refine tk11 (fun _ => ?_) | refine tk13 ?_ | refine tk14 ?_); (conv => whnf))
    refine Sto.tc (vs' := arrC (hxD u :: dg)) (by rw [show (65 - (dg.length : Int) - 1).toNat = 64 - dg.length by omega]; exact hset) (by rw [hlen]; omega) rfl ?_
    (conv => whnf); repeat ((first | refine tk1 ?_ | refine tk2 ?_ | refine tk3 ?_ | refine tk12 (fun _ => ?_) | refine tk4 ?_ | refine tk5 ?_ | refine tk6 ?_ | refine tk7 ?_ | refine tk8 ?_ | refine tk9 ?_ | refine tk10 (fun _ _ => ?_) | refine tk11 (fun _ => ?_) | refine tk13 ?_ | refine tk14 ?_); (conv => whnf))
    refine OthP.slcArr (b := b) (k := .i64) (z := 65 - (dg.length : Int) - 1) tys_ok rfl (fun h => nomatch h) rfl rfl rfl (by omega) (by omega) ?_
    (conv => whnf); repeat ((first | refine tk1 ?_ | refine tk2 ?_ | refine tk3 ?_ | refine tk12 (fun _ => ?_) | refine tk4 ?_ | refine tk5 ?_ | refine tk6 ?_ | refine tk7 ?_ | refine tk8 ?_ | refine tk9 ?_ | refine tk10 (fun _ _ => ?_) | refine tk11 (fun _ => ?_) | refine tk13 ?_ | refine tk14 ?_); (conv => whnf))
    refine B2S.rd (l := hxD u :: dg) ?_ (by rw [List.length_cons]; omega) ?_
    · have hd := arrC_drop (hxD u :: dg)
      rw [← hd, show (65 - (dg.length : Int) - 1).toNat = 65 - (hxD u :: dg).length by rw [List.length_cons]; omega]
      exact RdS.boxAt
    rw [hfin]
    (conv => whnf); repeat ((first | refine tk1 ?_ | refine tk2 ?_ | refine tk3 ?_ | refine tk12 (fun _ => ?_) | refine tk4 ?_ | refine tk5 ?_ | refine tk6 ?_ | refine tk7 ?_ | refine tk8 ?_ | refine tk9 ?_ | refine tk10 (fun _ _ => ?_) | refine tk11 (fun _ => ?_) | refine tk13 ?_ | refine tk14 ?_); (conv => whnf))
    exact fun w' _ => rfl
theorem FormatInt_f (n : Nat) (hn : n < 9223372036854775808) : Fn Tryz.prog gI 16 [.int .i64 n, .int .i64 16] (str (hxS n)) := by
  have hf := formatBits_f (gI := gI) n (by omega)
  have h2 : FnE Tryz.prog gI 27 [.int .i64 n, .int .i64 16] (fun _ => True) fun _ v _ => v = str (hxS n) := by
    refine FnE.of tys_ok Tryz.func27 rfl (by kernel_rfl) rfl rfl ?_; intro w hG hP
    (conv => whnf); repeat ((first | refine tk1 ?_ | refine tk2 ?_ | refine tk3 ?_ | refine tk12 (fun _ => ?_) | refine tk4 ?_ | refine tk5 ?_ | refine tk6 ?_ | refine tk7 ?_ | refine tk8 ?_ | refine tk9 ?_ | refine tk10 (fun _ _ => ?_) | refine tk11 (fun _ => ?_) | refine tk13 ?_ | refine tk14 ?_); (conv => whnf))
    refine Ar.u64 (by omega) (by omega) ?_
    (conv => whnf); repeat ((first | refine tk1 ?_ | refine tk2 ?_ | refine tk3 ?_ | refine tk12 (fun _ => ?_) | refine tk4 ?_ | refine tk5 ?_ | refine tk6 ?_ | refine tk7 ?_ | refine tk8 ?_ | refine tk9 ?_ | refine tk10 (fun _ _ => ?_) | refine tk11 (fun _ => ?_) | refine tk13 ?_ | refine tk14 ?_); (conv => whnf))
    refine CallK.fnEV hf (fun _ _ => trivial) ?_
    (conv => whnf); repeat ((first | refine tk1 ?_ | refine tk2 ?_ | refine tk3 ?_ | refine tk12 (fun _ => ?_) | refine tk4 ?_ | refine tk5 ?_ | refine tk6 ?_ | refine tk7 ?_ | refine tk8 ?_ | refine tk9 ?_ | refine tk10 (fun _ _ => ?_) | refine tk11 (fun _ => ?_) | refine tk13 ?_ | refine tk14 ?_); (conv => whnf))
    exact fun w' _ => rfl
  refine Fn.of tys_ok Tryz.func16 rfl (by kernel_rfl) rfl rfl ?_; intro w hG
  (conv => whnf); repeat ((first | refine tk1 ?_ | refine tk2 ?_ | refine tk3 ?_ | refine tk12 (fun _ => ?_) | refine tk4 ?_ | refine tk5 ?_ | refine tk6 ?_ | refine tk7 ?_ | refine tk8 ?_ | refine tk9 ?_ | refine tk10 (fun _ _ => ?_) | refine tk11 (fun _ => ?_) | refine tk13 ?_ | refine tk14 ?_); (conv => whnf))
  refine CallK.fnEV h2 (fun _ _ => trivial) ?_
  (conv => whnf); repeat ((first | refine tk1 ?_ | refine tk2 ?_ | refine tk3 ?_ | refine tk12 (fun _ => ?_) | refine tk4 ?_ | refine tk5 ?_ | refine tk6 ?_ | refine tk7 ?_ | refine tk8 ?_ | refine tk9 ?_ | refine tk10 (fun _ _ => ?_) | refine tk11 (fun _ => ?_) | refine tk13 ?_ | refine tk14 ?_); (conv => whnf))
end Go.Proofs.YtbgnogdlkmhnkaaGreatDoor.Vex
