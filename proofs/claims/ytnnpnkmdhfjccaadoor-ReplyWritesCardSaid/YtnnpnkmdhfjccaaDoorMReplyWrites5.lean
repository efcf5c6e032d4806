/- The statement ReplyWrites: answers are checked, and told, as the document says; any answer and version, to HEAD or not, the last one or not. -/
import Derived.Test.YtnnpnkmdhfjccaaDoorMReplyWrites4
import Derived.Shelf.Spec.SlicesGrow
/- slices.Concat of three, chunk.Wrap, chunk.Last, reckoned. -/
namespace Go.Proofs.YtnnpnkmdhfjccaaDoor.Vex
open Go Go.RowKit Go.ChangeShapes
set_option maxRecDepth 100000
set_option linter.unusedSectionVars false

def growRen : Go.Shelf.Ren := ⟨fun | 4 => 92 | n => n, fun | 0 => 0 | 3 => 3 | 4 => 4 | 9 => 9 | 20 => 20 | 22 => 35 | 25 => 5 | n => n, fun n => n⟩
theorem growLays : Go.Proofs.Lays8.n4 Tryd.prog growRen := {
  mixed := by kernel_rfl
  f4 := ⟨"slices.Grow[[]byte,byte]", by decide, Tryd.func92.trans (congrArg some (by kernel_rfl))⟩
  t0 := Tryd.underlying0
  a0 := Tryd.isAgg0
  z0 := Tryd.sizeOf0
  v0 := Tryd.zeroValue0
  t3 := Tryd.underlying3
  a3 := Tryd.isAgg3
  z3 := Tryd.sizeOf3
  v3 := Tryd.zeroValue3
  t4 := Tryd.underlying4
  a4 := Tryd.isAgg4
  z4 := Tryd.sizeOf4
  v4 := Tryd.zeroValue4
  t9 := Tryd.underlying9
  a9 := Tryd.isAgg9
  z9 := Tryd.sizeOf9
  v9 := Tryd.zeroValue9
  t20 := Tryd.underlying20
  a20 := Tryd.isAgg20
  z20 := Tryd.sizeOf20
  v20 := Tryd.zeroValue20
  t22 := Tryd.underlying35
  a22 := Tryd.isAgg35
  z22 := Tryd.sizeOf35
  v22 := Tryd.zeroValue35 }
theorem u8Info : ∃ i, Tryd.prog.info? 5 = some i ∧ i.zero = some (.int .u8 0) ∧ i.size = 1 ∧ i.bytes = 1 := by
  have h : (Tryd.prog.info? 5).map (fun i => (i.zero, i.size, i.bytes)) = some (some (Value.int .u8 0), 1, 1) := by kernel_rfl
  cases hi : Tryd.prog.info? 5 with
  | none => rw [hi] at h; cases h
  | some i =>
    rw [hi] at h
    simp only [Option.map_some, Option.some.injEq, Prod.mk.injEq] at h
    exact ⟨i, rfl, h.1, h.2.1, h.2.2⟩
variable {gI : GI}
/-- A nil slice, with room for some bytes. -/
theorem Grow_f (n : Nat) (h1 : 1 ≤ n) (h : n ≤ 1000000000) : FnS Tryd.prog gI 92 [.slice none 0 0, .int .i64 n] [] 5 1 0 [] :=
  ⟨callable Tryd.func92 rfl (by kernel_rfl), fun w hG _ => by
    obtain ⟨i0, hi, hz, hs, hb⟩ := u8Info
    refine (Any8.slices_Grow_grow growLays i0 (.int .u8 0) hi hz (by omega) none 0 0 n [] w (Nat.le_refl _) (by omega) (by rw [hb]; omega) (by omega) (by simp) (fun _ => rfl) (fun a ha => by cases ha)).mono fun e w' ⟨he, hw⟩ => ⟨_, he, ?_, ?_⟩
    · subst hw
      obtain ⟨G, hGe⟩ : ∃ G, grownCap w (0 + n) 0 (growRen.t 25) = G := ⟨_, rfl⟩
      have hg1 : n ≤ G := by have := grownCap_ge w (0 + n) 0 (growRen.t 25); omega
      have hg2 : G ≤ maxLen := by rw [← hGe]; exact grownCap_le_maxLen w (0 + n) 0 _ (by unfold maxLen; omega)
      rw [hGe]
      refine ⟨⟨rfl, .inr ⟨w.heap.size, G, _, (0, 0), rfl, heap_alloc_new w.drew _, Nat.zero_le _, hg2, ?_, ?_, .inl (Nat.le_refl _)⟩⟩, fun b hb => ?_⟩
      · simp only [Array.size_append, size_zeroCells, List.size_toArray, List.length_nil]
        show 0 + (0 + n - 0) * 1 + (G - (0 + n)) * 1 = G * 1
        omega
      · simp
      · cases hb
        exact ⟨Nat.le_refl _, by rw [World.size_alloc]; exact Nat.lt_succ_self _⟩
    · subst hw
      exact (R.drew w).alloc (Nat.le_refl _) _⟩
structure CPt where
  A : Option Addr
  cp : Nat
  l : List UInt8
def CPt.v (x : CPt) : Value := .slice x.A x.l.length x.cp
def sumC (a b c : CPt) : Nat → Int | 0 => 0 | 1 => 0 + a.l.length | 2 => 0 + a.l.length + b.l.length | _ => 0 + a.l.length + b.l.length + c.l.length
def catC (a b c : CPt) : Nat → List UInt8 | 0 => [] | 1 => a.l | 2 => a.l ++ b.l | _ => a.l ++ b.l ++ c.l
set_option maxHeartbeats 4000000 in
theorem Concat3_f (P : Option Addr) (pc : Nat) (a b c : CPt) (h1 : 1 ≤ a.l.length) (h : a.l.length + b.l.length + c.l.length ≤ 1000000000) :
    FnS Tryd.prog gI 68 [.slice P 3 pc] [(P, [a.v, b.v, c.v]), (a.A, a.l.map byteV), (b.A, b.l.map byteV), (c.A, c.l.map byteV)] 5 1 (a.l ++ b.l ++ c.l).length ((a.l ++ b.l ++ c.l).map byteV) := by
  have hg := Grow_f (gI := gI) (a.l.length + b.l.length + c.l.length) (by omega) h
  refine FnE.of tys_ok Tryd.func68 rfl (by kernel_rfl) rfl rfl ?_; intro w hG hP
  have hR : ∀ H, RdA (mkC Tryd.prog gI w hG) H P [a.v, b.v, c.v] := fun H => ⟨hP.1.now⟩
  have hA : ∀ H, RdA (mkC Tryd.prog gI w hG) H a.A (a.l.map byteV) := fun H => ⟨hP.2.1.now⟩
  have hB : ∀ H, RdA (mkC Tryd.prog gI w hG) H b.A (b.l.map byteV) := fun H => ⟨hP.2.2.1.now⟩
  have hC : ∀ H, RdA (mkC Tryd.prog gI w hG) H c.A (c.l.map byteV) := fun H => ⟨hP.2.2.2.1.now⟩
  clear hP
  (conv => whnf); repeat ((first | refine tk1 ?_ | refine tk2 ?_ | refine tk3 ?_ | refine tk12 (fun _ => ?_) | refine tk4 ?_ | refine tk5 ?_ | refine tk6 ?_ | refine tk7 ?_ | refine tk8 ?_ | refine tk9 ?_ | refine tk10 (fun _ _ => ?_) | refine tk11 (fun _ => ?_) | refine tk13 ?_ | refine tk14 ?_); (conv => whnf))
  refine LoopS.lp tys_ok (fun (k : Nat) u => [.slice P 3 pc, u 1, u 2, .int .i64 (sumC a b c k), u 4, u 5, u 6, u 7, u 8, .slice P 3 pc, .int .i64 3, .int .i64 (k : Nat), u 12, u 13, u 14, u 15, u 16, u 17, u 18, u 19, u 20, u 21, u 22, u 23, u 24, u 25, u 26, u 27, u 28, u 29, u 30, u 31, u 32, u 33, u 34, u 35]) (fun _ => []) (fun k => k ≤ 3) (fun k => 3 - k) 0 (by decide) rfl (by repeat' (first | exact List.Sublist.refl _ | exact List.nil_sublist _ | apply List.Sublist.cons_cons | apply List.Sublist.cons)) ?_
  intro k u hk
  have hk4 : k = 0 ∨ k = 1 ∨ k = 2 ∨ k = 3 := by omega
  rcases hk4 with rfl | rfl | rfl | rfl <;> dsimp only [sumC]
  · (conv => whnf); repeat ((first | refine tk1 ?_ | refine tk2 ?_ | refine tk3 ?_ | refine tk12 (fun _ => ?_) | refine tk4 ?_ | refine tk5 ?_ | refine tk6 ?_ | refine tk7 ?_ | refine tk8 ?_ | refine tk9 ?_ | refine tk10 (fun _ _ => ?_) | refine tk11 (fun _ => ?_) | refine tk13 ?_ | refine tk14 ?_); (conv => whnf))
    refine IdxA.tc (xs := [a.v, b.v, c.v]) (by simp) (by decide) (by decide) ?_
    (conv => whnf); repeat ((first | refine tk1 ?_ | refine tk2 ?_ | refine tk3 ?_ | refine tk12 (fun _ => ?_) | refine tk4 ?_ | refine tk5 ?_ | refine tk6 ?_ | refine tk7 ?_ | refine tk8 ?_ | refine tk9 ?_ | refine tk10 (fun _ _ => ?_) | refine tk11 (fun _ => ?_) | refine tk13 ?_ | refine tk14 ?_); (conv => whnf))
    refine Ld.ta (xs := [a.v, b.v, c.v]) (v := a.v) rfl ?_
    unfold CPt.v
    (conv => whnf); repeat ((first | refine tk1 ?_ | refine tk2 ?_ | refine tk3 ?_ | refine tk12 (fun _ => ?_) | refine tk4 ?_ | refine tk5 ?_ | refine tk6 ?_ | refine tk7 ?_ | refine tk8 ?_ | refine tk9 ?_ | refine tk10 (fun _ _ => ?_) | refine tk11 (fun _ => ?_) | refine tk13 ?_ | refine tk14 ?_); (conv => whnf))
    exact ⟨1, by decide, rfl, (by repeat' (first | exact List.Sublist.refl _ | exact List.nil_sublist _ | apply List.Sublist.cons_cons | apply List.Sublist.cons)), by decide⟩
  · (conv => whnf); repeat ((first | refine tk1 ?_ | refine tk2 ?_ | refine tk3 ?_ | refine tk12 (fun _ => ?_) | refine tk4 ?_ | refine tk5 ?_ | refine tk6 ?_ | refine tk7 ?_ | refine tk8 ?_ | refine tk9 ?_ | refine tk10 (fun _ _ => ?_) | refine tk11 (fun _ => ?_) | refine tk13 ?_ | refine tk14 ?_); (conv => whnf))
    refine IdxA.tc (xs := [a.v, b.v, c.v]) (by simp) (by decide) (by decide) ?_
    (conv => whnf); repeat ((first | refine tk1 ?_ | refine tk2 ?_ | refine tk3 ?_ | refine tk12 (fun _ => ?_) | refine tk4 ?_ | refine tk5 ?_ | refine tk6 ?_ | refine tk7 ?_ | refine tk8 ?_ | refine tk9 ?_ | refine tk10 (fun _ _ => ?_) | refine tk11 (fun _ => ?_) | refine tk13 ?_ | refine tk14 ?_); (conv => whnf))
    refine Ld.ta (xs := [a.v, b.v, c.v]) (v := b.v) rfl ?_
    unfold CPt.v
    (conv => whnf); repeat ((first | refine tk1 ?_ | refine tk2 ?_ | refine tk3 ?_ | refine tk12 (fun _ => ?_) | refine tk4 ?_ | refine tk5 ?_ | refine tk6 ?_ | refine tk7 ?_ | refine tk8 ?_ | refine tk9 ?_ | refine tk10 (fun _ _ => ?_) | refine tk11 (fun _ => ?_) | refine tk13 ?_ | refine tk14 ?_); (conv => whnf))
    exact ⟨2, by decide, rfl, (by repeat' (first | exact List.Sublist.refl _ | exact List.nil_sublist _ | apply List.Sublist.cons_cons | apply List.Sublist.cons)), by decide⟩
  · (conv => whnf); repeat ((first | refine tk1 ?_ | refine tk2 ?_ | refine tk3 ?_ | refine tk12 (fun _ => ?_) | refine tk4 ?_ | refine tk5 ?_ | refine tk6 ?_ | refine tk7 ?_ | refine tk8 ?_ | refine tk9 ?_ | refine tk10 (fun _ _ => ?_) | refine tk11 (fun _ => ?_) | refine tk13 ?_ | refine tk14 ?_); (conv => whnf))
    refine IdxA.tc (xs := [a.v, b.v, c.v]) (by simp) (by decide) (by decide) ?_
    (conv => whnf); repeat ((first | refine tk1 ?_ | refine tk2 ?_ | refine tk3 ?_ | refine tk12 (fun _ => ?_) | refine tk4 ?_ | refine tk5 ?_ | refine tk6 ?_ | refine tk7 ?_ | refine tk8 ?_ | refine tk9 ?_ | refine tk10 (fun _ _ => ?_) | refine tk11 (fun _ => ?_) | refine tk13 ?_ | refine tk14 ?_); (conv => whnf))
    refine Ld.ta (xs := [a.v, b.v, c.v]) (v := c.v) rfl ?_
    unfold CPt.v
    (conv => whnf); repeat ((first | refine tk1 ?_ | refine tk2 ?_ | refine tk3 ?_ | refine tk12 (fun _ => ?_) | refine tk4 ?_ | refine tk5 ?_ | refine tk6 ?_ | refine tk7 ?_ | refine tk8 ?_ | refine tk9 ?_ | refine tk10 (fun _ _ => ?_) | refine tk11 (fun _ => ?_) | refine tk13 ?_ | refine tk14 ?_); (conv => whnf))
    exact ⟨3, by decide, rfl, (by repeat' (first | exact List.Sublist.refl _ | exact List.nil_sublist _ | apply List.Sublist.cons_cons | apply List.Sublist.cons)), by decide⟩
  · rw [show (0 : Int) + a.l.length + b.l.length + c.l.length = ((a.l.length + b.l.length + c.l.length : Nat) : Int) by omega]
    (conv => whnf); repeat ((first | refine tk1 ?_ | refine tk2 ?_ | refine tk3 ?_ | refine tk12 (fun _ => ?_) | refine tk4 ?_ | refine tk5 ?_ | refine tk6 ?_ | refine tk7 ?_ | refine tk8 ?_ | refine tk9 ?_ | refine tk10 (fun _ _ => ?_) | refine tk11 (fun _ => ?_) | refine tk13 ?_ | refine tk14 ?_); (conv => whnf))
    refine CallK.fnS hg trivial (fun B bc => ?_)
    (conv => whnf); repeat ((first | refine tk1 ?_ | refine tk2 ?_ | refine tk3 ?_ | refine tk12 (fun _ => ?_) | refine tk4 ?_ | refine tk5 ?_ | refine tk6 ?_ | refine tk7 ?_ | refine tk8 ?_ | refine tk9 ?_ | refine tk10 (fun _ _ => ?_) | refine tk11 (fun _ => ?_) | refine tk13 ?_ | refine tk14 ?_); (conv => whnf))
    refine LoopS.lp tys_ok (fun (x : Nat × Option Addr × Nat) u => [u 0, u 1, u 2, u 3, u 4, u 5, .slice x.2.1 (catC a b c x.1).length x.2.2, u 7, u 8, u 9, u 10, u 11, u 12, u 13, u 14, u 15, u 16, u 17, u 18, u 19, u 20, u 21, u 22, u 23, u 24, .slice P 3 pc, .int .i64 3, .int .i64 (x.1 : Nat), u 28, u 29, u 30, u 31, u 32, u 33, u 34, u 35]) (fun x => [.row (.slice x.2.1 (catC a b c x.1).length x.2.2) 5 1 (catC a b c x.1).length ((catC a b c x.1).map byteV)]) (fun x => x.1 ≤ 3) (fun x => 3 - x.1) ⟨0, B, bc⟩ (by dsimp only; omega) rfl (by repeat' (first | exact List.Sublist.refl _ | exact List.nil_sublist _ | apply List.Sublist.cons_cons | apply List.Sublist.cons)) ?_
    rintro ⟨k, B, bc⟩ u hk
    dsimp only at hk ⊢
    have hk4 : k = 0 ∨ k = 1 ∨ k = 2 ∨ k = 3 := by omega
    rcases hk4 with rfl | rfl | rfl | rfl
    · have hl0 : (catC a b c 0).length + a.l.length = (catC a b c 1).length := by simp [catC]; try omega
      have hl1 : (catC a b c 1).length ≤ 1000000000 := by simp [catC]; omega
      (conv => whnf); repeat ((first | refine tk1 ?_ | refine tk2 ?_ | refine tk3 ?_ | refine tk12 (fun _ => ?_) | refine tk4 ?_ | refine tk5 ?_ | refine tk6 ?_ | refine tk7 ?_ | refine tk8 ?_ | refine tk9 ?_ | refine tk10 (fun _ _ => ?_) | refine tk11 (fun _ => ?_) | refine tk13 ?_ | refine tk14 ?_); (conv => whnf))
      refine IdxA.tc (xs := [a.v, b.v, c.v]) (by simp) (by decide) (by decide) ?_
      (conv => whnf); repeat ((first | refine tk1 ?_ | refine tk2 ?_ | refine tk3 ?_ | refine tk12 (fun _ => ?_) | refine tk4 ?_ | refine tk5 ?_ | refine tk6 ?_ | refine tk7 ?_ | refine tk8 ?_ | refine tk9 ?_ | refine tk10 (fun _ _ => ?_) | refine tk11 (fun _ => ?_) | refine tk13 ?_ | refine tk14 ?_); (conv => whnf))
      refine Ld.ta (xs := [a.v, b.v, c.v]) (v := a.v) rfl ?_
      unfold CPt.v
      (conv => whnf); repeat ((first | refine tk1 ?_ | refine tk2 ?_ | refine tk3 ?_ | refine tk12 (fun _ => ?_) | refine tk4 ?_ | refine tk5 ?_ | refine tk6 ?_ | refine tk7 ?_ | refine tk8 ?_ | refine tk9 ?_ | refine tk10 (fun _ _ => ?_) | refine tk11 (fun _ => ?_) | refine tk13 ?_ | refine tk14 ?_); (conv => whnf))
      refine AppS.tc SrcK.tc (by simp) (bytes_one a.l) (by decide) (by omega) (by omega) (zs := (catC a b c 1).map byteV) (by simp [catC]) (fun B' bc' => ?_)
      rw [hl0]
      (conv => whnf); repeat ((first | refine tk1 ?_ | refine tk2 ?_ | refine tk3 ?_ | refine tk12 (fun _ => ?_) | refine tk4 ?_ | refine tk5 ?_ | refine tk6 ?_ | refine tk7 ?_ | refine tk8 ?_ | refine tk9 ?_ | refine tk10 (fun _ _ => ?_) | refine tk11 (fun _ => ?_) | refine tk13 ?_ | refine tk14 ?_); (conv => whnf))
      exact ⟨(1, B', bc'), by dsimp only; omega, rfl, (by repeat' (first | exact List.Sublist.refl _ | exact List.nil_sublist _ | apply List.Sublist.cons_cons | apply List.Sublist.cons)), by dsimp only; omega⟩
    · have hl0 : (catC a b c 1).length + b.l.length = (catC a b c 2).length := by simp [catC]; try omega
      have hl1 : (catC a b c 2).length ≤ 1000000000 := by simp [catC]; omega
      (conv => whnf); repeat ((first | refine tk1 ?_ | refine tk2 ?_ | refine tk3 ?_ | refine tk12 (fun _ => ?_) | refine tk4 ?_ | refine tk5 ?_ | refine tk6 ?_ | refine tk7 ?_ | refine tk8 ?_ | refine tk9 ?_ | refine tk10 (fun _ _ => ?_) | refine tk11 (fun _ => ?_) | refine tk13 ?_ | refine tk14 ?_); (conv => whnf))
      refine IdxA.tc (xs := [a.v, b.v, c.v]) (by simp) (by decide) (by decide) ?_
      (conv => whnf); repeat ((first | refine tk1 ?_ | refine tk2 ?_ | refine tk3 ?_ | refine tk12 (fun _ => ?_) | refine tk4 ?_ | refine tk5 ?_ | refine tk6 ?_ | refine tk7 ?_ | refine tk8 ?_ | refine tk9 ?_ | refine tk10 (fun _ _ => ?_) | refine tk11 (fun _ => ?_) | refine tk13 ?_ | refine tk14 ?_); (conv => whnf))
      refine Ld.ta (xs := [a.v, b.v, c.v]) (v := b.v) rfl ?_
      unfold CPt.v
      (conv => whnf); repeat ((first | refine tk1 ?_ | refine tk2 ?_ | refine tk3 ?_ | refine tk12 (fun _ => ?_) | refine tk4 ?_ | refine tk5 ?_ | refine tk6 ?_ | refine tk7 ?_ | refine tk8 ?_ | refine tk9 ?_ | refine tk10 (fun _ _ => ?_) | refine tk11 (fun _ => ?_) | refine tk13 ?_ | refine tk14 ?_); (conv => whnf))
      refine AppS.tc SrcK.tc (by simp) (bytes_one b.l) (by decide) (by omega) (by omega) (zs := (catC a b c 2).map byteV) (by simp [catC]) (fun B' bc' => ?_)
      rw [hl0]
      (conv => whnf); repeat ((first | refine tk1 ?_ | refine tk2 ?_ | refine tk3 ?_ | refine tk12 (fun _ => ?_) | refine tk4 ?_ | refine tk5 ?_ | refine tk6 ?_ | refine tk7 ?_ | refine tk8 ?_ | refine tk9 ?_ | refine tk10 (fun _ _ => ?_) | refine tk11 (fun _ => ?_) | refine tk13 ?_ | refine tk14 ?_); (conv => whnf))
      exact ⟨(2, B', bc'), by dsimp only; omega, rfl, (by repeat' (first | exact List.Sublist.refl _ | exact List.nil_sublist _ | apply List.Sublist.cons_cons | apply List.Sublist.cons)), by dsimp only; omega⟩
    · have hl0 : (catC a b c 2).length + c.l.length = (catC a b c 3).length := by simp [catC]; try omega
      have hl1 : (catC a b c 3).length ≤ 1000000000 := by simp [catC]; omega
      (conv => whnf); repeat ((first | refine tk1 ?_ | refine tk2 ?_ | refine tk3 ?_ | refine tk12 (fun _ => ?_) | refine tk4 ?_ | refine tk5 ?_ | refine tk6 ?_ | refine tk7 ?_ | refine tk8 ?_ | refine tk9 ?_ | refine tk10 (fun _ _ => ?_) | refine tk11 (fun _ => ?_) | refine tk13 ?_ | refine tk14 ?_); (conv => whnf))
      refine IdxA.tc (xs := [a.v, b.v, c.v]) (by simp) (by decide) (by decide) ?_
      (conv => whnf); repeat ((first | refine tk1 ?_ | refine tk2 ?_ | refine tk3 ?_ | refine tk12 (fun _ => ?_) | refine tk4 ?_ | refine tk5 ?_ | refine tk6 ?_ | refine tk7 ?_ | refine tk8 ?_ | refine tk9 ?_ | refine tk10 (fun _ _ => ?_) | refine tk11 (fun _ => ?_) | refine tk13 ?_ | refine tk14 ?_); (conv => whnf))
      refine Ld.ta (xs := [a.v, b.v, c.v]) (v := c.v) rfl ?_
      unfold CPt.v
      (conv => whnf); repeat ((first | refine tk1 ?_ | refine tk2 ?_ | refine tk3 ?_ | refine tk12 (fun _ => ?_) | refine tk4 ?_ | refine tk5 ?_ | refine tk6 ?_ | refine tk7 ?_ | refine tk8 ?_ | refine tk9 ?_ | refine tk10 (fun _ _ => ?_) | refine tk11 (fun _ => ?_) | refine tk13 ?_ | refine tk14 ?_); (conv => whnf))
      refine AppS.tc SrcK.tc (by simp) (bytes_one c.l) (by decide) (by omega) (by omega) (zs := (catC a b c 3).map byteV) (by simp [catC]) (fun B' bc' => ?_)
      rw [hl0]
      (conv => whnf); repeat ((first | refine tk1 ?_ | refine tk2 ?_ | refine tk3 ?_ | refine tk12 (fun _ => ?_) | refine tk4 ?_ | refine tk5 ?_ | refine tk6 ?_ | refine tk7 ?_ | refine tk8 ?_ | refine tk9 ?_ | refine tk10 (fun _ _ => ?_) | refine tk11 (fun _ => ?_) | refine tk13 ?_ | refine tk14 ?_); (conv => whnf))
      exact ⟨(3, B', bc'), by dsimp only; omega, rfl, (by repeat' (first | exact List.Sublist.refl _ | exact List.nil_sublist _ | apply List.Sublist.cons_cons | apply List.Sublist.cons)), by dsimp only; omega⟩
    · (conv => whnf); repeat ((first | refine tk1 ?_ | refine tk2 ?_ | refine tk3 ?_ | refine tk12 (fun _ => ?_) | refine tk4 ?_ | refine tk5 ?_ | refine tk6 ?_ | refine tk7 ?_ | refine tk8 ?_ | refine tk9 ?_ | refine tk10 (fun _ _ => ?_) | refine tk11 (fun _ => ?_) | refine tk13 ?_ | refine tk14 ?_); (conv => whnf))
      exact rowPost.of (by simp [catC])
theorem Last_f : FnT Tryd.prog gI 24 [] (fun _ => True) (fun (x : Nat × Obj) => .slice (some ⟨x.1, 0, none⟩) 5 5) (fun x => RowO x.2 (lastC.map byteV)) (fun x => [.obj x.1 x.2]) (fun _ => []) := by
  refine FnE.of tys_ok Tryd.func24 rfl (by kernel_rfl) rfl rfl ?_; intro w hG hP
  (conv => whnf); repeat ((first | refine tk1 ?_ | refine tk2 ?_ | refine tk3 ?_ | refine tk12 (fun _ => ?_) | refine tk4 ?_ | refine tk5 ?_ | refine tk6 ?_ | refine tk7 ?_ | refine tk8 ?_ | refine tk9 ?_ | refine tk10 (fun _ _ => ?_) | refine tk11 (fun _ => ?_) | refine tk13 ?_ | refine tk14 ?_); (conv => whnf))
  refine Oth.same tys_ok rfl rfl rfl (fun o ho => ?_)
  (conv => whnf); repeat ((first | refine tk1 ?_ | refine tk2 ?_ | refine tk3 ?_ | refine tk12 (fun _ => ?_) | refine tk4 ?_ | refine tk5 ?_ | refine tk6 ?_ | refine tk7 ?_ | refine tk8 ?_ | refine tk9 ?_ | refine tk10 (fun _ _ => ?_) | refine tk11 (fun _ => ?_) | refine tk13 ?_ | refine tk14 ?_); (conv => whnf))
  exact fun w' hw' => ⟨(_, o), rfl, ho, newH.into hw' (Cv.into (by (try dsimp only); repeat' (first | with_reducible exact Cv.refl | with_reducible exact Cv.left | with_reducible exact Cv.right | with_reducible exact Cv.nil | (with_reducible apply Cv.cons; focus ((repeat (first | with_reducible exact Pick.here | with_reducible apply Pick.skip)); done)) | (apply Cv.cons; focus ((repeat (first | exact Pick.here | apply Pick.skip)); done)) | exact Cv.nil | exact Cv.refl | exact Cv.left | exact Cv.right | refine Cv.skip ?_)))⟩
def wrapV (b : List UInt8) : List UInt8 := if b.length ≤ 131072 then wrapG b else []
def wrapE (b : List UInt8) : Int := if b.length ≤ 131072 then 0 else 4
set_option maxHeartbeats 4000000 in
theorem Wrap_f [HasTz gI] (A : Option Addr) (cp : Nat) (b : List UInt8) (hb : b.length ≤ 1000000000) :
    FnT Tryd.prog gI 42 [.slice A b.length cp] (fun w => RdL w [(A, b.map byteV)]) (fun (x : Option Addr × Nat) => .tuple #[.slice x.1 (wrapV b).length x.2, .int .i64 (wrapE b)]) (fun _ => True) (fun x => [.row (.slice x.1 (wrapV b).length x.2) 5 1 (wrapV b).length ((wrapV b).map byteV)]) (fun _ => []) := by
  have hfi := FormatInt_f (gI := gI) b.length (by omega)
  refine FnE.of tys_ok Tryd.func42 rfl (by kernel_rfl) rfl rfl ?_; intro w hG hP
  have hA : ∀ H, RdA (mkC Tryd.prog gI w hG) H A (b.map byteV) := fun H => ⟨hP.1.now⟩
  by_cases h1 : b.length ≤ 131072
  rotate_left
  · have e1 : wrapV b = [] := if_neg h1
    have e2 : wrapE b = 4 := if_neg h1
    rw [e1, e2]
    (conv => whnf); repeat ((first | refine tk1 ?_ | refine tk2 ?_ | refine tk3 ?_ | refine tk12 (fun _ => ?_) | refine tk4 ?_ | refine tk5 ?_ | refine tk6 ?_ | refine tk7 ?_ | refine tk8 ?_ | refine tk9 ?_ | refine tk10 (fun _ _ => ?_) | refine tk11 (fun _ => ?_) | refine tk13 ?_ | refine tk14 ?_); (conv => whnf))
    exact fun w' hw' => ⟨(none, 0), rfl, trivial, newH.of (hw'.nilRow 5 1)⟩
  have e2 : wrapE b = 0 := if_pos h1
  rw [e2]
  by_cases h0 : b.length = 0
  · have e1 : wrapV b = [] := by unfold wrapV; rw [if_pos h1, List.eq_nil_of_length_eq_zero h0]; rfl
    rw [e1]
    (conv => whnf); repeat ((first | refine tk1 ?_ | refine tk2 ?_ | refine tk3 ?_ | refine tk12 (fun _ => ?_) | refine tk4 ?_ | refine tk5 ?_ | refine tk6 ?_ | refine tk7 ?_ | refine tk8 ?_ | refine tk9 ?_ | refine tk10 (fun _ _ => ?_) | refine tk11 (fun _ => ?_) | refine tk13 ?_ | refine tk14 ?_); (conv => whnf))
    exact fun w' hw' => ⟨(none, 0), rfl, trivial, newH.of (hw'.nilRow 5 1)⟩
  have e1 : wrapV b = (hxS b.length ++ [13, 10]) ++ b ++ [13, 10] := by unfold wrapV wrapG; rw [if_pos h1, if_neg (fun e => h0 (by rw [e]; rfl))]
  have hl : (hxS b.length).length ≤ 6 := hxF_long 16 5 b.length (by omega)
  have hs := hxF_some 16 b.length
  rw [e1]
  (conv => whnf); repeat ((first | refine tk1 ?_ | refine tk2 ?_ | refine tk3 ?_ | refine tk12 (fun _ => ?_) | refine tk4 ?_ | refine tk5 ?_ | refine tk6 ?_ | refine tk7 ?_ | refine tk8 ?_ | refine tk9 ?_ | refine tk10 (fun _ _ => ?_) | refine tk11 (fun _ => ?_) | refine tk13 ?_ | refine tk14 ?_); (conv => whnf))
  refine CallK.fn hfi ?_
  (conv => whnf); repeat ((first | refine tk1 ?_ | refine tk2 ?_ | refine tk3 ?_ | refine tk12 (fun _ => ?_) | refine tk4 ?_ | refine tk5 ?_ | refine tk6 ?_ | refine tk7 ?_ | refine tk8 ?_ | refine tk9 ?_ | refine tk10 (fun _ _ => ?_) | refine tk11 (fun _ => ?_) | refine tk13 ?_ | refine tk14 ?_); (conv => whnf))
  refine CatS.at (by simp; omega) ?_
  (conv => whnf); repeat ((first | refine tk1 ?_ | refine tk2 ?_ | refine tk3 ?_ | refine tk12 (fun _ => ?_) | refine tk4 ?_ | refine tk5 ?_ | refine tk6 ?_ | refine tk7 ?_ | refine tk8 ?_ | refine tk9 ?_ | refine tk10 (fun _ _ => ?_) | refine tk11 (fun _ => ?_) | refine tk13 ?_ | refine tk14 ?_); (conv => whnf))
  refine S2B.go (by rw [List.length_append]; simp only [List.length_cons, List.length_nil]; omega) (fun B1 c1 => ?_)
  (conv => whnf); repeat ((first | refine tk1 ?_ | refine tk2 ?_ | refine tk3 ?_ | refine tk12 (fun _ => ?_) | refine tk4 ?_ | refine tk5 ?_ | refine tk6 ?_ | refine tk7 ?_ | refine tk8 ?_ | refine tk9 ?_ | refine tk10 (fun _ _ => ?_) | refine tk11 (fun _ => ?_) | refine tk13 ?_ | refine tk14 ?_); (conv => whnf))
  rename_i b2
  refine Oth.same tys_ok rfl rfl rfl (fun o2 ho2 => ?_)
  have hR2 : ∀ H, RdA (mkC Tryd.prog gI w hG) (.obj b2 o2 :: H) (some ⟨b2, 0, none⟩) _ := ho2.rd
  (conv => whnf); repeat ((first | refine tk1 ?_ | refine tk2 ?_ | refine tk3 ?_ | refine tk12 (fun _ => ?_) | refine tk4 ?_ | refine tk5 ?_ | refine tk6 ?_ | refine tk7 ?_ | refine tk8 ?_ | refine tk9 ?_ | refine tk10 (fun _ _ => ?_) | refine tk11 (fun _ => ?_) | refine tk13 ?_ | refine tk14 ?_); (conv => whnf))
  refine CallK.fnS (Concat3_f (gI := gI) _ 3 ⟨_, c1, hxS b.length ++ [13, 10]⟩ ⟨A, cp, b⟩ ⟨_, 2, [13, 10]⟩ (by dsimp only; simp) (by dsimp only; simp; omega)) ⟨RdA.ok, RdA.ok, (hA _).ok, RdA.ok, trivial⟩ (fun C cc => ?_)
  (conv => whnf); repeat ((first | refine tk1 ?_ | refine tk2 ?_ | refine tk3 ?_ | refine tk12 (fun _ => ?_) | refine tk4 ?_ | refine tk5 ?_ | refine tk6 ?_ | refine tk7 ?_ | refine tk8 ?_ | refine tk9 ?_ | refine tk10 (fun _ _ => ?_) | refine tk11 (fun _ => ?_) | refine tk13 ?_ | refine tk14 ?_); (conv => whnf))
  exact fun w' hw' => ⟨(C, cc), rfl, trivial, newH.into hw' (Cv.into (by (try dsimp only); repeat' (first | with_reducible exact Cv.refl | with_reducible exact Cv.left | with_reducible exact Cv.right | with_reducible exact Cv.nil | (with_reducible apply Cv.cons; focus ((repeat (first | with_reducible exact Pick.here | with_reducible apply Pick.skip)); done)) | (apply Cv.cons; focus ((repeat (first | exact Pick.here | apply Pick.skip)); done)) | exact Cv.nil | exact Cv.refl | exact Cv.left | exact Cv.right | refine Cv.skip ?_)))⟩
end Go.Proofs.YtnnpnkmdhfjccaaDoor.Vex
/- The program's functions on answers as bytes, reckoned: wrap. -/
namespace Go.Proofs.YtnnpnkmdhfjccaaDoor.Vex
open Go Go.RowKit
set_option maxRecDepth 100000
set_option linter.unusedSectionVars false
variable {gI : GI} [HasTz gI]

section
variable {c : Ctx} {T : Ty} {H : Hp} {fr : Fr} {dst : Option Nat} {ty : TypeId} {pos : String} {after : Array Edge} {gd : Option (Nat × Bool)}
/-- A slice's own elements, all of them, with no room behind. -/
theorem OthP.slcAll {t e n cp : Nat} {x lo hi mx : Operand} {A : Option Addr} {k1 k2 k3 : IntKind} {z : Int} {K : Value → Prop} (hT : TOk c.P T) (ht : (lookT T t).d = .slice e) (he : (lookT T e).d ≠ .invalid)
    (hx : evK fr x fun v => v = .slice A n cp) (hl : evK fr lo fun v => v = .int k1 0) (hh : evK fr hi fun v => v = .int k2 z) (hm : evK fr mx fun v => v = .int k3 z) (hz : z = n) (hcp : n ≤ cp) (kk : K (.slice A n n)) :
    OthP c ⟨dst, .slice t x (some lo) (some hi) (some mx), ty, pos, after, gd⟩ fr H K := ⟨⟨_, kk, fun w _ => by
  rw [evK_eq] at hx hl hh hm
  subst hz
  have hu := (lookT_ok hT (t := t) (by rw [ht]; intro h; cases h)).1
  rw [ht] at hu
  have hse := run_sizeOf (lookT_ok hT he) w
  have hA : A.map (·.add (0 * (lookT T e).size)) = A := by
    cases A with
    | none => rfl
    | some a =>
      simp only [Option.map_some, Nat.zero_mul, Option.some.injEq]
      unfold Addr.add
      split <;> simp_all
  rw [Nat.zero_mul] at hA
  generalize (act fr).eval = ρ at *
  simp [execOp, hx, hl, hh, hm, Instr.sliceAt, Instr.slice, Instr.sliceBounds, Instr.sliceBound, asIntOf, Sem.run_bind, run_underlying hu, hse, hcp, hA]⟩⟩
end
theorem AWrap_f (A : Option Addr) (cp : Nat) (b : List UInt8) (hb : b.length ≤ 131072) (hcp : b.length ≤ cp) : FnS Tryd.prog gI 21 [.slice A b.length cp] [(A, b.map byteV)] 5 1 (wrapG b).length ((wrapG b).map byteV) := by
  have hw := fun XA Xc => Wrap_f (gI := gI) XA Xc b (by omega)
  have e1 : wrapV b = wrapG b := if_pos hb
  have e2 : wrapE b = 0 := if_pos hb
  have hwl := wrapG_long b (by omega)
  rw [e1, e2] at hw
  refine FnE.ofX tys_ok Tryd.func21 rfl (by kernel_rfl) rfl rfl ?_; intro w hG hP
  have hA : ∀ H, RdA (mkC Tryd.prog gI w hG) H A (b.map byteV) := fun H => ⟨hP.1.now⟩
  (conv => whnf); repeat ((first | refine tk1 ?_ | refine tk2 ?_ | refine tk3 ?_ | refine tk12 (fun _ => ?_) | refine tk4 ?_ | refine tk5 ?_ | refine tk6 ?_ | refine tk7 ?_ | refine tk8 ?_ | refine tk9 ?_ | refine tk10 (fun _ _ => ?_) | refine tk11 (fun _ => ?_) | refine tk13 ?_ | refine tk14 ?_); (conv => whnf))
  refine CallK.inl tys_ok Tryd.func41 rfl (by kernel_rfl) rfl rfl ?_
  (conv => whnf); repeat ((first | refine tk1 ?_ | refine tk2 ?_ | refine tk3 ?_ | refine tk12 (fun _ => ?_) | refine tk4 ?_ | refine tk5 ?_ | refine tk6 ?_ | refine tk7 ?_ | refine tk8 ?_ | refine tk9 ?_ | refine tk10 (fun _ _ => ?_) | refine tk11 (fun _ => ?_) | refine tk13 ?_ | refine tk14 ?_); (conv => whnf))
  rename_i bo bs bn
  refine RngS.go tys_ok rfl Tryd.func66 rfl (by kernel_rfl) ?_
  intro fno D
  generalize hR : ready fno _ _ _ _ D = R
  have yl : ∀ (A0 : Option Addr) (c0 : Nat) (K : Value → Hp → Prop), (∀ A' cp', K (.bool true) [.obj (D + 1) (.loop R), .row (.slice A' (wrapG b).length cp') 5 1 (wrapG b).length ((wrapG b).map byteV), .obj D (.deferred (some [])), .box bn [.int .i64 131072] 3, .box bs [.slice A b.length cp] 35, .box bo [.slice A' (wrapG b).length cp'] 35]) →
      YldK (mkC Tryd.prog gI w hG) (D + 1) [.slice A b.length b.length] [.obj (D + 1) (.loop R), .row (.slice A0 ([] : List UInt8).length c0) 5 1 ([] : List UInt8).length (([] : List UInt8).map byteV), .obj D (.deferred (some [])), .box bn [.int .i64 131072] 3, .box bs [.slice A b.length cp] 35, .box bo [.slice A0 ([] : List UInt8).length c0] 35] K := by
    intro A0 c0 K hk
    subst hR
    refine YldK.run tys_ok .here rfl rfl rfl rfl ?_
    (conv => whnf); repeat ((first | refine tk1 ?_ | refine tk2 ?_ | refine tk3 ?_ | refine tk12 (fun _ => ?_) | refine tk4 ?_ | refine tk5 ?_ | refine tk6 ?_ | refine tk7 ?_ | refine tk8 ?_ | refine tk9 ?_ | refine tk10 (fun _ _ => ?_) | refine tk11 (fun _ => ?_) | refine tk13 ?_ | refine tk14 ?_); (conv => whnf))
    refine ⟨List.Perm.refl _, ?_⟩
    (conv => whnf); repeat ((first | refine tk1 ?_ | refine tk2 ?_ | refine tk3 ?_ | refine tk12 (fun _ => ?_) | refine tk4 ?_ | refine tk5 ?_ | refine tk6 ?_ | refine tk7 ?_ | refine tk8 ?_ | refine tk9 ?_ | refine tk10 (fun _ _ => ?_) | refine tk11 (fun _ => ?_) | refine tk13 ?_ | refine tk14 ?_); (conv => whnf))
    refine CallK.fnT (hw A b.length) (fun w1 hw1 => ⟨(hA _).ok w1 hw1, trivial⟩) ?_
    rintro ⟨vA, vc⟩ _
    dsimp only [List.cons_append, List.nil_append, List.append_nil]
    (conv => whnf); repeat ((first | refine tk1 ?_ | refine tk2 ?_ | refine tk3 ?_ | refine tk12 (fun _ => ?_) | refine tk4 ?_ | refine tk5 ?_ | refine tk6 ?_ | refine tk7 ?_ | refine tk8 ?_ | refine tk9 ?_ | refine tk10 (fun _ _ => ?_) | refine tk11 (fun _ => ?_) | refine tk13 ?_ | refine tk14 ?_); (conv => whnf))
    refine AppS.tc (m := (wrapG b).length) (news := (wrapG b).map byteV) SrcK.tc (by simp) (bytes_one _) (by decide) (by simp; omega) (by simp; omega) (zs := (wrapG b).map byteV) (by simp) (fun A' cp' => ?_)
    rw [List.length_nil, Nat.zero_add]
    (conv => whnf); repeat ((first | refine tk1 ?_ | refine tk2 ?_ | refine tk3 ?_ | refine tk12 (fun _ => ?_) | refine tk4 ?_ | refine tk5 ?_ | refine tk6 ?_ | refine tk7 ?_ | refine tk8 ?_ | refine tk9 ?_ | refine tk10 (fun _ _ => ?_) | refine tk11 (fun _ => ?_) | refine tk13 ?_ | refine tk14 ?_); (conv => whnf))
    exact ⟨_, _, (by first | exact Pick.here | exact Pick.here.skip | exact Pick.here.skip.skip | exact Pick.here.skip.skip.skip | exact Pick.here.skip.skip.skip.skip | exact Pick.here.skip.skip.skip.skip.skip | exact Pick.here.skip.skip.skip.skip.skip.skip | exact Pick.here.skip.skip.skip.skip.skip.skip.skip | exact Pick.here.skip.skip.skip.skip.skip.skip.skip.skip | exact Pick.here.skip.skip.skip.skip.skip.skip.skip.skip.skip | exact Pick.here.skip.skip.skip.skip.skip.skip.skip.skip.skip.skip | exact Pick.here.skip.skip.skip.skip.skip.skip.skip.skip.skip.skip.skip), (by repeat' (first | exact List.Sublist.refl _ | exact List.nil_sublist _ | apply List.Sublist.cons_cons | apply List.Sublist.cons)), hk A' cp'⟩
  (conv => whnf); repeat ((first | refine tk1 ?_ | refine tk2 ?_ | refine tk3 ?_ | refine tk12 (fun _ => ?_) | refine tk4 ?_ | refine tk5 ?_ | refine tk6 ?_ | refine tk7 ?_ | refine tk8 ?_ | refine tk9 ?_ | refine tk10 (fun _ _ => ?_) | refine tk11 (fun _ => ?_) | refine tk13 ?_ | refine tk14 ?_); (conv => whnf))
  refine LoopS.nilRow 5 1 ?_
  refine LoopS.lpT tys_ok (fun (x : Nat × List UInt8 × Option Addr × Nat) u => [.func (.yield (D + 1)) ⟨[]⟩ ⟨[]⟩, .pointer (some ⟨bs, 0, none⟩), .pointer (some ⟨bn, 0, none⟩), u 3, .int .i64 (131072 * (x.1 : Nat)), u 5, u 6, u 7, u 8, u 9, u 10, u 11, u 12, u 13, u 14, u 15, u 16, u 17, u 18, u 19, u 20, u 21, u 22, u 23, u 24, u 25, u 26, u 27, u 28, u 29, u 30])
    (fun x => [.obj (D + 1) (.loop R), .row (.slice x.2.2.1 x.2.1.length x.2.2.2) 5 1 x.2.1.length (x.2.1.map byteV), .obj D (.deferred (some [])), .box bn [.int .i64 131072] 3, .box bs [.slice A b.length cp] 35, .box bo [.slice x.2.2.1 x.2.1.length x.2.2.2] 35]) (fun x => (x.1 = 0 ∧ x.2.1 = []) ∨ (x.1 = 1 ∧ x.2.1 = wrapG b)) (fun x => 1 - x.1) (0, [], none, 0) (.inl ⟨rfl, rfl⟩) rfl (Cv.into (by (try dsimp only); repeat' (first | with_reducible exact Cv.refl | with_reducible exact Cv.left | with_reducible exact Cv.right | with_reducible exact Cv.nil | (with_reducible apply Cv.cons; focus ((repeat (first | with_reducible exact Pick.here | with_reducible apply Pick.skip)); done)) | (apply Cv.cons; focus ((repeat (first | exact Pick.here | apply Pick.skip)); done)) | exact Cv.nil | exact Cv.refl | exact Cv.left | exact Cv.right | refine Cv.skip ?_))) ?_
  rintro ⟨k, out, OA, oc⟩ u hx
  dsimp only at hx ⊢
  rcases hx with ⟨rfl, rfl⟩ | ⟨rfl, rfl⟩
  rotate_left
  · (conv => whnf); repeat ((first | refine tk1 ?_ | refine tk2 ?_ | refine tk3 ?_ | refine tk12 (fun _ => ?_) | refine tk4 ?_ | refine tk5 ?_ | refine tk6 ?_ | refine tk7 ?_ | refine tk8 ?_ | refine tk9 ?_ | refine tk10 (fun _ _ => ?_) | refine tk11 (fun _ => ?_) | refine tk13 ?_ | refine tk14 ?_); (conv => whnf))
    refine ⟨_, _, .here, ?_, ?_, ?_⟩
    · rw [← hR]; rfl
    · rw [← hR]; rfl
    (conv => whnf); repeat ((first | refine tk1 ?_ | refine tk2 ?_ | refine tk3 ?_ | refine tk12 (fun _ => ?_) | refine tk4 ?_ | refine tk5 ?_ | refine tk6 ?_ | refine tk7 ?_ | refine tk8 ?_ | refine tk9 ?_ | refine tk10 (fun _ _ => ?_) | refine tk11 (fun _ => ?_) | refine tk13 ?_ | refine tk14 ?_); (conv => whnf))
    refine ⟨_, _, rfl, (by first | exact Pick.here | exact Pick.here.skip | exact Pick.here.skip.skip | exact Pick.here.skip.skip.skip | exact Pick.here.skip.skip.skip.skip | exact Pick.here.skip.skip.skip.skip.skip | exact Pick.here.skip.skip.skip.skip.skip.skip | exact Pick.here.skip.skip.skip.skip.skip.skip.skip | exact Pick.here.skip.skip.skip.skip.skip.skip.skip.skip | exact Pick.here.skip.skip.skip.skip.skip.skip.skip.skip.skip | exact Pick.here.skip.skip.skip.skip.skip.skip.skip.skip.skip.skip | exact Pick.here.skip.skip.skip.skip.skip.skip.skip.skip.skip.skip.skip), ?_⟩
    (conv => whnf); repeat ((first | refine tk1 ?_ | refine tk2 ?_ | refine tk3 ?_ | refine tk12 (fun _ => ?_) | refine tk4 ?_ | refine tk5 ?_ | refine tk6 ?_ | refine tk7 ?_ | refine tk8 ?_ | refine tk9 ?_ | refine tk10 (fun _ _ => ?_) | refine tk11 (fun _ => ?_) | refine tk13 ?_ | refine tk14 ?_); (conv => whnf))
    exact fun w' hs => rowPost.of (by simp) w' hs
  by_cases h0 : b.length = 0
  · obtain rfl : b = [] := List.eq_nil_of_length_eq_zero h0
    (conv => whnf); repeat ((first | refine tk1 ?_ | refine tk2 ?_ | refine tk3 ?_ | refine tk12 (fun _ => ?_) | refine tk4 ?_ | refine tk5 ?_ | refine tk6 ?_ | refine tk7 ?_ | refine tk8 ?_ | refine tk9 ?_ | refine tk10 (fun _ _ => ?_) | refine tk11 (fun _ => ?_) | refine tk13 ?_ | refine tk14 ?_); (conv => whnf))
    refine ⟨_, _, .here, ?_, ?_, ?_⟩
    · rw [← hR]; rfl
    · rw [← hR]; rfl
    (conv => whnf); repeat ((first | refine tk1 ?_ | refine tk2 ?_ | refine tk3 ?_ | refine tk12 (fun _ => ?_) | refine tk4 ?_ | refine tk5 ?_ | refine tk6 ?_ | refine tk7 ?_ | refine tk8 ?_ | refine tk9 ?_ | refine tk10 (fun _ _ => ?_) | refine tk11 (fun _ => ?_) | refine tk13 ?_ | refine tk14 ?_); (conv => whnf))
    refine ⟨_, _, rfl, (by first | exact Pick.here | exact Pick.here.skip | exact Pick.here.skip.skip | exact Pick.here.skip.skip.skip | exact Pick.here.skip.skip.skip.skip | exact Pick.here.skip.skip.skip.skip.skip | exact Pick.here.skip.skip.skip.skip.skip.skip | exact Pick.here.skip.skip.skip.skip.skip.skip.skip | exact Pick.here.skip.skip.skip.skip.skip.skip.skip.skip | exact Pick.here.skip.skip.skip.skip.skip.skip.skip.skip.skip | exact Pick.here.skip.skip.skip.skip.skip.skip.skip.skip.skip.skip | exact Pick.here.skip.skip.skip.skip.skip.skip.skip.skip.skip.skip.skip), ?_⟩
    (conv => whnf); repeat ((first | refine tk1 ?_ | refine tk2 ?_ | refine tk3 ?_ | refine tk12 (fun _ => ?_) | refine tk4 ?_ | refine tk5 ?_ | refine tk6 ?_ | refine tk7 ?_ | refine tk8 ?_ | refine tk9 ?_ | refine tk10 (fun _ _ => ?_) | refine tk11 (fun _ => ?_) | refine tk13 ?_ | refine tk14 ?_); (conv => whnf))
    exact fun w' hs => rowPost.of (by simp [wrapG]) w' hs
  (conv => whnf); repeat ((first | refine tk1 ?_ | refine tk2 ?_ | refine tk3 ?_ | refine tk12 (fun _ => ?_) | refine tk4 ?_ | refine tk5 ?_ | refine tk6 ?_ | refine tk7 ?_ | refine tk8 ?_ | refine tk9 ?_ | refine tk10 (fun _ _ => ?_) | refine tk11 (fun _ => ?_) | refine tk13 ?_ | refine tk14 ?_); (conv => whnf))
  refine DrawS.go (qs 7) tys_ok mixed (by kernel_rfl) ?_
  (conv => whnf); repeat ((first | refine tk1 ?_ | refine tk2 ?_ | refine tk3 ?_ | refine tk12 (fun _ => ?_) | refine tk4 ?_ | refine tk5 ?_ | refine tk6 ?_ | refine tk7 ?_ | refine tk8 ?_ | refine tk9 ?_ | refine tk10 (fun _ _ => ?_) | refine tk11 (fun _ => ?_) | refine tk13 ?_ | refine tk14 ?_); (conv => whnf))
  refine SlcV.from (by omega) (by omega) ?_
  (conv => whnf); repeat ((first | refine tk1 ?_ | refine tk2 ?_ | refine tk3 ?_ | refine tk12 (fun _ => ?_) | refine tk4 ?_ | refine tk5 ?_ | refine tk6 ?_ | refine tk7 ?_ | refine tk8 ?_ | refine tk9 ?_ | refine tk10 (fun _ _ => ?_) | refine tk11 (fun _ => ?_) | refine tk13 ?_ | refine tk14 ?_); (conv => whnf))
  refine OthP.min2 (z := (b.length : Int)) rfl rfl (by omega) ?_
  (conv => whnf); repeat ((first | refine tk1 ?_ | refine tk2 ?_ | refine tk3 ?_ | refine tk12 (fun _ => ?_) | refine tk4 ?_ | refine tk5 ?_ | refine tk6 ?_ | refine tk7 ?_ | refine tk8 ?_ | refine tk9 ?_ | refine tk10 (fun _ _ => ?_) | refine tk11 (fun _ => ?_) | refine tk13 ?_ | refine tk14 ?_); (conv => whnf))
  refine OthP.slcAll (z := 131072 * ((0 : Nat) : Int) + (b.length : Int)) tys_ok rfl (fun h => nomatch h) rfl rfl rfl rfl (by omega) hcp ?_
  (conv => whnf); repeat ((first | refine tk1 ?_ | refine tk2 ?_ | refine tk3 ?_ | refine tk12 (fun _ => ?_) | refine tk4 ?_ | refine tk5 ?_ | refine tk6 ?_ | refine tk7 ?_ | refine tk8 ?_ | refine tk9 ?_ | refine tk10 (fun _ _ => ?_) | refine tk11 (fun _ => ?_) | refine tk13 ?_ | refine tk14 ?_); (conv => whnf))
  refine yl OA oc _ (fun A' cp' => ?_)
  (conv => whnf); repeat ((first | refine tk1 ?_ | refine tk2 ?_ | refine tk3 ?_ | refine tk12 (fun _ => ?_) | refine tk4 ?_ | refine tk5 ?_ | refine tk6 ?_ | refine tk7 ?_ | refine tk8 ?_ | refine tk9 ?_ | refine tk10 (fun _ _ => ?_) | refine tk11 (fun _ => ?_) | refine tk13 ?_ | refine tk14 ?_); (conv => whnf))
  exact ⟨(1, wrapG b, A', cp'), .inr ⟨rfl, rfl⟩, rfl, Cv.into (by (try dsimp only); repeat' (first | with_reducible exact Cv.refl | with_reducible exact Cv.left | with_reducible exact Cv.right | with_reducible exact Cv.nil | (with_reducible apply Cv.cons; focus ((repeat (first | with_reducible exact Pick.here | with_reducible apply Pick.skip)); done)) | (apply Cv.cons; focus ((repeat (first | exact Pick.here | apply Pick.skip)); done)) | exact Cv.nil | exact Cv.refl | exact Cv.left | exact Cv.right | refine Cv.skip ?_)), by dsimp only; omega⟩
end Go.Proofs.YtnnpnkmdhfjccaaDoor.Vex
/- The program's functions on answers as bytes, reckoned: Write. -/
namespace Go.Proofs.YtnnpnkmdhfjccaaDoor.Vex
open Go Go.RowKit
set_option maxRecDepth 100000
set_option linter.unusedSectionVars false
variable {gI : GI} [HasMax gI] [HasPow gI] [HasTz gI]

/-- Parts that come out. -/
structure PV where
  D : Option Addr
  dc : Nat
  ps : List Prt
def PV.hd (y : PV) : Hp := [.row (.slice y.D y.ps.length y.dc) 37 2 y.ps.length (pcells y.ps)]
structure WL where
  k : Nat
  A : Option Addr
  o : List UInt8
  c : Nat
  D : Option Addr
  d : List Prt
  dc : Nat
theorem bodyR_eq (ch : Bool) (ps : List Prt) : bodyR ch (ps.map pure1) = ps.map fun q => (if ch then wrapG q.l else q.l, q.f) := by
  unfold bodyR
  rw [List.map_map]
  rfl
theorem bodyR_at (ch : Bool) (ps : List Prt) (k : Nat) (h : k < ps.length) : (bodyR ch (ps.map pure1)).take (k + 1) = (bodyR ch (ps.map pure1)).take k ++ [(if ch then wrapG ps[k].l else ps[k].l, ps[k].f)] := by
  rw [bodyR_eq, List.take_succ_eq_append_getElem (by rw [List.length_map]; exact h), List.getElem_map]
theorem total_mem2 {p : List UInt8 × Bool} : ∀ {l : Prs}, p ∈ l → p.1.length ≤ total l
  | q :: r, h => by
    rw [total]
    rcases List.mem_cons.1 h with rfl | h
    · omega
    · have := total_mem2 h
      omega
theorem total_bodyR (ch : Bool) : ∀ l : Prs, (∀ p ∈ l, p.1.length < 16777216) → total (bodyR ch l) ≤ total l + 10 * l.length
  | [], _ => Nat.zero_le _
  | p :: r, h => by
    have ih := total_bodyR ch r fun q hq => h q (List.mem_cons_of_mem _ hq)
    have h1 := wrapG_long p.1 (h p (List.mem_cons_self ..))
    have e : bodyR ch (p :: r) = (if ch then wrapG p.1 else p.1, p.2) :: bodyR ch r := rfl
    rw [e, total, total, List.length_cons]
    cases ch
    · simp only [Bool.false_eq_true, if_false]; omega
    · simp only [if_true]; omega
theorem headR_le (st : Int) (fs : List Fld) (ps : Prs) (cd : Nat) (ch cl : Bool) (hF : fsum fs ≤ 1048576) (hst : 200 ≤ st) (hst2 : st ≤ 599) (ht : total ps ≤ 4000000) : (headR st fs ps cd ch cl).length ≤ 8000000 := by
  have h1 := Lib.itoa_length_le st (by omega) (by omega)
  have h2 := Lib.itoa_length_le (total ps : Nat) (by omega) (by omega)
  have h3 := linesR_le fs
  have h4 := fsum_length fs
  have h5 : (codNm cd).length ≤ 20 := by unfold codNm; split <;> (try split) <;> decide
  have h6 : (if cd = 0 then [] else lineR ceN (codNm cd)).length ≤ 100 := by
    split
    · simp
    · simp [lineR, ceN]; omega
  have h7 : (lengthR st ps cd ch).length ≤ 100 := by
    unfold lengthR
    split
    · simp
    split
    · decide
    split
    · simp
    · simp [lineR, clN]; omega
  have h8 : (if cl then lineR coN closeN else []).length ≤ 100 := by cases cl <;> decide
  unfold headR
  simp only [List.length_append]
  have h9 : firstR.length = 9 := rfl
  simp only [List.length_cons, List.length_nil]
  omega
set_option maxHeartbeats 16000000 in
theorem AWrite_f (st : Int) (FA : Option Addr) (Fc : Nat) (F : List Fld) (QA : Option Addr) (Qc : Nat) (ps : List Prt) (cd : UInt8) (tag : List UInt8) (press : Bool) (minor : Int) (head last : Bool) (hF : fsum F ≤ 1048576) (hn : ps.length ≤ 1000) (htl : total (ps.map pure1) ≤ 131072) (hq : ∀ q ∈ ps, q.l.length ≤ q.cp) :
    FnT Tryd.prog gI 7 [.agg ⟨[.int .i64 st, .slice FA F.length Fc, .slice QA ps.length Qc, .int .u8 cd.toNat, str tag, .bool press]⟩, .int .i64 minor, .bool head, .bool last] (fun w => Rdw w FA (fcells F) ∧ PrtsOk w QA ps)
      (fun y : PV => .tuple #[.slice y.D y.ps.length y.dc, .bool (writeR st F (ps.map pure1) cd.toNat minor head last).c, .int .i64 (writeR st F (ps.map pure1) cd.toNat minor head last).e]) (fun y => y.ps.map pure1 = (writeR st F (ps.map pure1) cd.toNat minor head last).l) PV.hd (fun y => rowsP 5 y.ps) := by
  have hck := ACheck_f (gI := gI) st FA Fc F QA Qc ps cd tag press hF (by omega) (by omega)
  have hstr := streamed_r (gI := gI) st FA F.length Fc QA Qc ps cd tag press (by omega)
  have hbare := bare_f (gI := gI) st
  refine FnE.of tys_ok Tryd.func7 rfl (by kernel_rfl) rfl rfl ?_; intro w hG hP
  have hRF : ∀ H, RdA (mkC Tryd.prog gI w hG) H FA (fcells F) := fun H => ⟨hP.1.now⟩
  have hRQ : ∀ H, RdA (mkC Tryd.prog gI w hG) H QA (pcells ps) := fun H => ⟨hP.2.1.now⟩
  have hRq : ∀ q ∈ ps, ∀ H, RdA (mkC Tryd.prog gI w hG) H q.A (q.l.map byteV) := fun q hm H => ⟨(hP.2.2 q hm).now⟩
  have hPQ : ∀ H w', St (mkC Tryd.prog gI w hG) H w' → PrtsOk w' QA ps := fun H w' hw' => ⟨(hRQ H).ok w' hw', fun q hm => (hRq q hm H).ok w' hw'⟩
  have hou : Ours Tryd.prog gI (mkC Tryd.prog gI w hG) := ⟨rfl, rfl⟩
  clear hP
  have hfail : ∀ (e : Int) (r : WRes) (w w' : World) (hG : gI.G w), r = ⟨[], false, e⟩ → St (mkC Tryd.prog gI w hG) [] w' → ∃ y : PV, Value.tuple #[.slice none 0 0, .bool false, .int .i64 e] = Value.tuple #[.slice y.D y.ps.length y.dc, .bool r.c, .int .i64 r.e] ∧ y.ps.map pure1 = r.l ∧ newH w w' (y.hd ++ rowsP 5 y.ps) := fun e r w w' hG hr hw' => by
    subst hr
    exact ⟨⟨none, 0, []⟩, rfl, rfl, newH.of (hw'.nilRow 37 2)⟩
  (conv => whnf); repeat ((first | refine tk1 ?_ | refine tk2 ?_ | refine tk3 ?_ | refine tk12 (fun _ => ?_) | refine tk4 ?_ | refine tk5 ?_ | refine tk6 ?_ | refine tk7 ?_ | refine tk8 ?_ | refine tk9 ?_ | refine tk10 (fun _ _ => ?_) | refine tk11 (fun _ => ?_) | refine tk13 ?_ | refine tk14 ?_); (conv => whnf))
  rename_i b4
  refine CallK.fnR hck ⟨(hRF _).ok, (hRQ _).ok, trivial⟩ ?_
  unfold anE writeR
  cases hok : anOK st F (ps.map pure1) cd.toNat
  · simp only [Bool.false_eq_true, if_false]
    (conv => whnf); repeat ((first | refine tk1 ?_ | refine tk2 ?_ | refine tk3 ?_ | refine tk12 (fun _ => ?_) | refine tk4 ?_ | refine tk5 ?_ | refine tk6 ?_ | refine tk7 ?_ | refine tk8 ?_ | refine tk9 ?_ | refine tk10 (fun _ _ => ?_) | refine tk11 (fun _ => ?_) | refine tk13 ?_ | refine tk14 ?_); (conv => whnf))
    exact fun w' hw' => hfail 8 _ w w' hG rfl (hw'.sub (List.nil_sublist _))
  simp only [if_true]
  by_cases hmi : minor = 0 ∨ minor = 1
  rotate_left
  · rw [if_neg hmi]
    rcases (show minor < 0 ∨ (¬ minor < 0 ∧ 1 < minor) by omega) with h | ⟨h, h2⟩
    · (conv => whnf); repeat ((first | refine tk1 ?_ | refine tk2 ?_ | refine tk3 ?_ | refine tk12 (fun _ => ?_) | refine tk4 ?_ | refine tk5 ?_ | refine tk6 ?_ | refine tk7 ?_ | refine tk8 ?_ | refine tk9 ?_ | refine tk10 (fun _ _ => ?_) | refine tk11 (fun _ => ?_) | refine tk13 ?_ | refine tk14 ?_); (conv => whnf))
      exact fun w' hw' => hfail 2 _ w w' hG rfl (hw'.sub (List.nil_sublist _))
    · (conv => whnf); repeat ((first | refine tk1 ?_ | refine tk2 ?_ | refine tk3 ?_ | refine tk12 (fun _ => ?_) | refine tk4 ?_ | refine tk5 ?_ | refine tk6 ?_ | refine tk7 ?_ | refine tk8 ?_ | refine tk9 ?_ | refine tk10 (fun _ _ => ?_) | refine tk11 (fun _ => ?_) | refine tk13 ?_ | refine tk14 ?_); (conv => whnf))
      exact fun w' hw' => hfail 2 _ w w' hG rfl (hw'.sub (List.nil_sublist _))
  rw [if_pos hmi]
  dsimp only
  have hst : 200 ≤ st ∧ st ≤ 599 ∧ cd.toNat ≤ 2 := by
    unfold anOK anST at hok
    simp only [Bool.and_eq_true, decide_eq_true_eq] at hok
    exact ⟨hok.1.1, hok.1.2.1, hok.1.2.2.1⟩
  have hps : ∀ q ∈ ps, q.l.length ≤ 131072 := fun q hm => by
    have := total_mem2 (p := pure1 q) (l := ps.map pure1) (List.mem_map_of_mem hm)
    exact Nat.le_trans this htl
  clear hok hck hfail
  have hbt := total_bodyR
  unfold piecesR chunkB
  obtain ⟨ch, hch⟩ : ∃ ch, (streamB (ps.map pure1) cd.toNat && (decide (minor = 1) && !bareB st)) = ch := ⟨_, rfl⟩
  obtain ⟨cl, hcl⟩ : ∃ cl, (last || decide (minor = 0)) = cl := ⟨_, rfl⟩
  rw [hch, hcl]
  have hLz := headR_le st F (ps.map pure1) cd.toNat ch cl hF hst.1 hst.2.1 (by omega)
  have hways : (minor = 0 ∧ streamB (ps.map pure1) cd.toNat = false) ∨ (minor = 0 ∧ streamB (ps.map pure1) cd.toNat = true) ∨ (minor = 1 ∧ streamB (ps.map pure1) cd.toNat = false) ∨ (minor = 1 ∧ streamB (ps.map pure1) cd.toNat = true ∧ bareB st = false) ∨ (minor = 1 ∧ streamB (ps.map pure1) cd.toNat = true ∧ bareB st = true) := by
    cases streamB (ps.map pure1) cd.toNat <;> cases bareB st <;> simp [hmi]
  clear hmi
  cases head
  · cases last <;> rcases hways with ⟨rfl, hs⟩ | ⟨rfl, hs⟩ | ⟨rfl, hs⟩ | ⟨rfl, hs, hb⟩ | ⟨rfl, hs, hb⟩ <;> rw [hs] at hch <;> (try rw [hb] at hch) <;> have hch' := hch.symm <;> have hcl' := hcl.symm <;> simp at hch' hcl'
    all_goals as_aux_lemma =>
      (conv => whnf); repeat ((first | refine tk1 ?_ | refine tk2 ?_ | refine tk3 ?_ | refine tk12 (fun _ => ?_) | refine tk4 ?_ | refine tk5 ?_ | refine tk6 ?_ | refine tk7 ?_ | refine tk8 ?_ | refine tk9 ?_ | refine tk10 (fun _ _ => ?_) | refine tk11 (fun _ => ?_) | refine tk13 ?_ | refine tk14 ?_); (conv => whnf))
      refine CallK.fnR hstr ⟨(hRQ _).ok, trivial⟩ ?_
      rw [hs]
      (conv => whnf); repeat ((first | refine tk1 ?_ | refine tk2 ?_ | refine tk3 ?_ | refine tk12 (fun _ => ?_) | refine tk4 ?_ | refine tk5 ?_ | refine tk6 ?_ | refine tk7 ?_ | refine tk8 ?_ | refine tk9 ?_ | refine tk10 (fun _ _ => ?_) | refine tk11 (fun _ => ?_) | refine tk13 ?_ | refine tk14 ?_); (conv => whnf))
      try (refine CallK.fn hbare ?_; rw [hb])
      try ((conv => whnf); repeat ((first | refine tk1 ?_ | refine tk2 ?_ | refine tk3 ?_ | refine tk12 (fun _ => ?_) | refine tk4 ?_ | refine tk5 ?_ | refine tk6 ?_ | refine tk7 ?_ | refine tk8 ?_ | refine tk9 ?_ | refine tk10 (fun _ _ => ?_) | refine tk11 (fun _ => ?_) | refine tk13 ?_ | refine tk14 ?_); (conv => whnf)))
      rename_i b12
      refine CallK.into (G := .box b12 [.slice none 0 0, .slice none 0 0] 54 :: .row (.slice none 0 0) 5 1 0 [] :: [.box b4 [.int .i64 st, .slice FA F.length Fc, .slice QA ps.length Qc, .int .u8 cd.toNat, str tag, .bool press] 25]) (Into.trans (Into.nilRow (e := 5) (sz := 1) Into.refl) (Cv.into (by (try dsimp only); repeat' (first | with_reducible exact Cv.refl | with_reducible exact Cv.left | with_reducible exact Cv.right | with_reducible exact Cv.nil | (with_reducible apply Cv.cons; focus ((repeat (first | with_reducible exact Pick.here | with_reducible apply Pick.skip)); done)) | (apply Cv.cons; focus ((repeat (first | exact Pick.here | apply Pick.skip)); done)) | exact Cv.nil | exact Cv.refl | exact Cv.left | exact Cv.right | refine Cv.skip ?_)))) ?_
      refine head_k hou (l := []) (X := [.box b4 [.int .i64 st, .slice FA F.length Fc, .slice QA ps.length Qc, .int .u8 cd.toNat, str tag, .bool press] 25]) st FA Fc F QA Qc ps cd tag press _ _ hRF hRQ hPQ hF (by omega) (by omega) (by simp) hst.2.2 hst.1 hst.2.1 (fun _ A1 c1 L hL => ?_)
      rw [List.nil_append] at hL
      have hL : L = headR st F (ps.map pure1) cd.toNat ch cl := by rw [hch', hcl']; exact hL
      rw [← hL] at hLz ⊢
      (conv => whnf); repeat ((first | refine tk1 ?_ | refine tk2 ?_ | refine tk3 ?_ | refine tk12 (fun _ => ?_) | refine tk4 ?_ | refine tk5 ?_ | refine tk6 ?_ | refine tk7 ?_ | refine tk8 ?_ | refine tk9 ?_ | refine tk10 (fun _ _ => ?_) | refine tk11 (fun _ => ?_) | refine tk13 ?_ | refine tk14 ?_); (conv => whnf))
      obtain ⟨bd, hbd⟩ : ∃ bd, bodyR ch (ps.map pure1) = bd := ⟨_, rfl⟩
      rw [hbd]
      have hbdt : total bd ≤ 200000 := by
        rw [← hbd]
        have := total_bodyR ch (ps.map pure1) (fun p hp => by have := total_mem2 hp; omega)
        rw [List.length_map] at this
        exact Nat.le_trans (this) (by omega)
      have hbdl : bd.length = ps.length := by rw [← hbd]; unfold bodyR; rw [List.length_map, List.length_map]
      refine LoopS.lpT tys_ok (fun (x : WL) u => [u 0, u 1, u 2, u 3, u 4, u 5, u 6, u 7, u 8, .bool cl, u 10, u 11, .pointer (some ⟨b12, 0, none⟩), .bool ch, u 14, u 15, u 16, u 17, u 18, u 19, u 20, u 21, u 22, u 23, u 24, u 25, u 26, u 27, u 28, u 29, u 30, u 31, u 32, u 33, u 34, u 35, u 36, u 37, u 38, u 39, u 40, u 41, u 42, u 43, u 44, u 45, u 46, u 47, u 48, u 49, u 50, u 51, u 52, u 53, u 54, .slice QA ps.length Qc, .int .i64 ps.length, .int .i64 (x.k : Nat), u 58, u 59, u 60, u 61, u 62, u 63, u 64, u 65, u 66, u 67, u 68, u 69, u 70, u 71, u 72, u 73, u 74, u 75, u 76, u 77, u 78, u 79, u 80, u 81, u 82, u 83, u 84, u 85, u 86, u 87, u 88])
        (fun x => .box b12 [.slice x.A x.o.length x.c, .slice x.D x.d.length x.dc] 54 :: .row (.slice x.D x.d.length x.dc) 37 2 x.d.length (pcells x.d) :: .row (.slice x.A x.o.length x.c) 5 1 x.o.length (x.o.map byteV) :: ([] ++ rowsP 5 x.d)) (fun x => x.k ≤ ps.length ∧ x.o = (stG ((L, false) :: bd.take x.k)).1 ∧ x.d.map pure1 = (stG ((L, false) :: bd.take x.k)).2) (fun x => ps.length - x.k) ⟨0, A1, L, c1, none, [], 0⟩ ⟨Nat.zero_le _, by simp [stG, stepG], by simp [stG, stepG]⟩ (by rw [hch', hcl']; rfl) (Into.trans (Into.nilRow (e := 37) (sz := 2) Into.refl) (Cv.into (by (try dsimp only); repeat' (first | with_reducible exact Cv.refl | with_reducible exact Cv.left | with_reducible exact Cv.right | with_reducible exact Cv.nil | (with_reducible apply Cv.cons; focus ((repeat (first | with_reducible exact Pick.here | with_reducible apply Pick.skip)); done)) | (apply Cv.cons; focus ((repeat (first | exact Pick.here | apply Pick.skip)); done)) | exact Cv.nil | exact Cv.refl | exact Cv.left | exact Cv.right | refine Cv.skip ?_)))) ?_
      rintro ⟨k, oA, o, oc, D, d, dc⟩ u ⟨hk, ho, hd⟩
      dsimp only at hk ho hd ⊢
      have hsg : stG ((L, false) :: bd.take k) = (o, d.map pure1) := Prod.ext ho.symm hd.symm
      have hts := total_stG ((L, false) :: bd.take k)
      have htt := total_take bd k
      have hstl := stG_length ((L, false) :: bd.take k)
      rw [hsg] at hts hstl
      dsimp only at hts hstl
      rw [total] at hts
      dsimp only at hts
      rw [List.length_map, List.length_cons, List.length_take] at hstl
      by_cases hlt : k < ps.length
      · as_aux_lemma =>
        have h2 := (pcells_at ps k hlt).2.2
        have hqm := List.getElem_mem hlt
        have hx := bodyR_at ch ps k hlt
        rw [hbd] at hx
        generalize ps[k] = q at *
        have hpl := hps q hqm
        have hwl := wrapG_long q.l (by omega)
        have hqc := hq q hqm
        have hRq1 := hRq q hqm
        have hwr := AWrap_f (gI := gI) q.A q.cp q.l hpl hqc
        obtain ⟨pc, hpc⟩ : ∃ pc, (if ch then wrapG q.l else q.l) = pc := ⟨_, rfl⟩
        rw [hpc] at hx
        have hstep : stG ((L, false) :: bd.take (k + 1)) = stepG (o, d.map pure1) (pc, q.f) := by rw [hx, ← List.cons_append, stG_snoc, hsg]
        rw [hch'] at hpc
        have hpz : pc.length ≤ 140000 := by rw [← hpc]; simp; omega
        simp only [Bool.false_eq_true, if_true, if_false] at hpc
        subst hpc
        simp only [hch', hcl']
        (conv => whnf); repeat ((first | refine tk1 ?_ | refine tk2 ?_ | refine tk3 ?_ | refine tk12 (fun _ => ?_) | refine tk4 ?_ | refine tk5 ?_ | refine tk6 ?_ | refine tk7 ?_ | refine tk8 ?_ | refine tk9 ?_ | refine tk10 (fun _ _ => ?_) | refine tk11 (fun _ => ?_) | refine tk13 ?_ | refine tk14 ?_); (conv => whnf))
        refine IdxA.tc (xs := pcells ps) (by rw [pcells_length]; omega) (by omega) (by omega) ?_
        (conv => whnf); repeat ((first | refine tk1 ?_ | refine tk2 ?_ | refine tk3 ?_ | refine tk12 (fun _ => ?_) | refine tk4 ?_ | refine tk5 ?_ | refine tk6 ?_ | refine tk7 ?_ | refine tk8 ?_ | refine tk9 ?_ | refine tk10 (fun _ _ => ?_) | refine tk11 (fun _ => ?_) | refine tk13 ?_ | refine tk14 ?_); (conv => whnf))
        refine Ld.taN h2 rfl ?_
        (conv => whnf); repeat ((first | refine tk1 ?_ | refine tk2 ?_ | refine tk3 ?_ | refine tk12 (fun _ => ?_) | refine tk4 ?_ | refine tk5 ?_ | refine tk6 ?_ | refine tk7 ?_ | refine tk8 ?_ | refine tk9 ?_ | refine tk10 (fun _ _ => ?_) | refine tk11 (fun _ => ?_) | refine tk13 ?_ | refine tk14 ?_); (conv => whnf))
        try (refine CallK.fnS hwr ⟨(hRq1 _).ok, trivial⟩ (fun WA wc => ?_))
        try ((conv => whnf); repeat ((first | refine tk1 ?_ | refine tk2 ?_ | refine tk3 ?_ | refine tk12 (fun _ => ?_) | refine tk4 ?_ | refine tk5 ?_ | refine tk6 ?_ | refine tk7 ?_ | refine tk8 ?_ | refine tk9 ?_ | refine tk10 (fun _ _ => ?_) | refine tk11 (fun _ => ?_) | refine tk13 ?_ | refine tk14 ?_); (conv => whnf)))
        first
          | refine B2S.tc (xs := (wrapG q.l).map byteV) (l := wrapG q.l) rfl rfl ?_
          | refine B2S.rd (l := q.l) (hRq1 _).ok rfl ?_
        (conv => whnf); repeat ((first | refine tk1 ?_ | refine tk2 ?_ | refine tk3 ?_ | refine tk12 (fun _ => ?_) | refine tk4 ?_ | refine tk5 ?_ | refine tk6 ?_ | refine tk7 ?_ | refine tk8 ?_ | refine tk9 ?_ | refine tk10 (fun _ _ => ?_) | refine tk11 (fun _ => ?_) | refine tk13 ?_ | refine tk14 ?_); (conv => whnf))
        rename_i b15 sb
        obtain ⟨pc, hpc⟩ : ∃ pc, (if ch then wrapG q.l else q.l) = pc := ⟨_, rfl⟩
        rw [hch'] at hpc
        simp only [Bool.false_eq_true, if_true, if_false] at hpc
        simp only [hpc] at hstep hpz
        refine CallK.into (G := .row (.slice (some ⟨sb, 0, none⟩) 1 1) 9 1 1 ([pc].map str) :: .box b12 [.slice oA o.length oc, .slice D d.length dc] 54 :: .row (.slice oA o.length oc) 5 1 o.length (o.map byteV) :: (.box b15 [.slice q.A q.l.length q.cp, .bool q.f] 37 :: .row (.slice D d.length dc) 37 2 d.length (pcells d) :: rowsP 5 d)) (by subst hpc; exact Cv.into (by (try dsimp only); repeat' (first | with_reducible exact Cv.refl | with_reducible exact Cv.left | with_reducible exact Cv.right | with_reducible exact Cv.nil | (with_reducible apply Cv.cons; focus ((repeat (first | with_reducible exact Pick.here | with_reducible apply Pick.skip)); done)) | (apply Cv.cons; focus ((repeat (first | exact Pick.here | apply Pick.skip)); done)) | exact Cv.nil | exact Cv.refl | exact Cv.left | exact Cv.right | refine Cv.skip ?_))) ?_
        refine write_k hou (ts := [pc]) (X := .box b15 [.slice q.A q.l.length q.cp, .bool q.f] 37 :: .row (.slice D d.length dc) 37 2 d.length (pcells d) :: rowsP 5 d) (by simp; omega) (by simp) (fun _ A3 c3 => ?_)
        rw [show [pc].flatten = pc by simp]
        have hopl : (o ++ pc).length ≤ 9000000 := by rw [List.length_append]; omega
        clear hpc
        (conv => whnf); repeat ((first | refine tk1 ?_ | refine tk2 ?_ | refine tk3 ?_ | refine tk12 (fun _ => ?_) | refine tk4 ?_ | refine tk5 ?_ | refine tk6 ?_ | refine tk7 ?_ | refine tk8 ?_ | refine tk9 ?_ | refine tk10 (fun _ _ => ?_) | refine tk11 (fun _ => ?_) | refine tk13 ?_ | refine tk14 ?_); (conv => whnf))
        cases hqf : q.f
        · rw [hqf] at hstep
          (conv => whnf); repeat ((first | refine tk1 ?_ | refine tk2 ?_ | refine tk3 ?_ | refine tk12 (fun _ => ?_) | refine tk4 ?_ | refine tk5 ?_ | refine tk6 ?_ | refine tk7 ?_ | refine tk8 ?_ | refine tk9 ?_ | refine tk10 (fun _ _ => ?_) | refine tk11 (fun _ => ?_) | refine tk13 ?_ | refine tk14 ?_); (conv => whnf))
          exact ⟨⟨k + 1, A3, o ++ pc, c3, D, d, dc⟩, ⟨by dsimp only; omega, by dsimp only; rw [hstep]; rfl, by dsimp only; rw [hstep]; rfl⟩, rfl, Cv.into (by (try dsimp only); repeat' (first | with_reducible exact Cv.refl | with_reducible exact Cv.left | with_reducible exact Cv.right | with_reducible exact Cv.nil | (with_reducible apply Cv.cons; focus ((repeat (first | with_reducible exact Pick.here | with_reducible apply Pick.skip)); done)) | (apply Cv.cons; focus ((repeat (first | exact Pick.here | apply Pick.skip)); done)) | exact Cv.nil | exact Cv.refl | exact Cv.left | exact Cv.right | refine Cv.skip ?_)), by dsimp only; omega⟩
        · rw [hqf] at hstep
          (conv => whnf); repeat ((first | refine tk1 ?_ | refine tk2 ?_ | refine tk3 ?_ | refine tk12 (fun _ => ?_) | refine tk4 ?_ | refine tk5 ?_ | refine tk6 ?_ | refine tk7 ?_ | refine tk8 ?_ | refine tk9 ?_ | refine tk10 (fun _ _ => ?_) | refine tk11 (fun _ => ?_) | refine tk13 ?_ | refine tk14 ?_); (conv => whnf))
          refine CallK.into (G := .box b12 [.slice A3 (o ++ pc).length c3, .slice D d.length dc] 54 :: .row (.slice D d.length dc) 37 2 d.length (pcells d) :: .row (.slice A3 (o ++ pc).length c3) 5 1 (o ++ pc).length ((o ++ pc).map byteV) :: ([] ++ rowsP 5 d)) (Cv.into (by (try dsimp only); repeat' (first | with_reducible exact Cv.refl | with_reducible exact Cv.left | with_reducible exact Cv.right | with_reducible exact Cv.nil | (with_reducible apply Cv.cons; focus ((repeat (first | with_reducible exact Pick.here | with_reducible apply Pick.skip)); done)) | (apply Cv.cons; focus ((repeat (first | exact Pick.here | apply Pick.skip)); done)) | exact Cv.nil | exact Cv.refl | exact Cv.left | exact Cv.right | refine Cv.skip ?_))) ?_
          refine cut_k hou (f := true) (ps := d) (by omega) (by omega) (fun _ D3 dc3 d3 hd3 => ?_)
          (conv => whnf); repeat ((first | refine tk1 ?_ | refine tk2 ?_ | refine tk3 ?_ | refine tk12 (fun _ => ?_) | refine tk4 ?_ | refine tk5 ?_ | refine tk6 ?_ | refine tk7 ?_ | refine tk8 ?_ | refine tk9 ?_ | refine tk10 (fun _ _ => ?_) | refine tk11 (fun _ => ?_) | refine tk13 ?_ | refine tk14 ?_); (conv => whnf))
          exact ⟨⟨k + 1, none, [], 0, D3, d3, dc3⟩, ⟨by dsimp only; omega, by dsimp only; rw [hstep]; rfl, by dsimp only; rw [hd3, hstep]; rfl⟩, rfl, Cv.into (by (try dsimp only); repeat' (first | with_reducible exact Cv.refl | with_reducible exact Cv.left | with_reducible exact Cv.right | with_reducible exact Cv.nil | (with_reducible apply Cv.cons; focus ((repeat (first | with_reducible exact Pick.here | with_reducible apply Pick.skip)); done)) | (apply Cv.cons; focus ((repeat (first | exact Pick.here | apply Pick.skip)); done)) | exact Cv.nil | exact Cv.refl | exact Cv.left | exact Cv.right | refine Cv.skip ?_)), by dsimp only; omega⟩
      obtain rfl : k = ps.length := by omega
      rw [List.take_of_length_le (show bd.length ≤ ps.length by omega)] at hsg
      simp only [hch', hcl', if_true, if_false, Bool.false_eq_true]
      (conv => whnf); repeat ((first | refine tk1 ?_ | refine tk2 ?_ | refine tk3 ?_ | refine tk12 (fun _ => ?_) | refine tk4 ?_ | refine tk5 ?_ | refine tk6 ?_ | refine tk7 ?_ | refine tk8 ?_ | refine tk9 ?_ | refine tk10 (fun _ _ => ?_) | refine tk11 (fun _ => ?_) | refine tk13 ?_ | refine tk14 ?_); (conv => whnf))
      try (refine CallK.fnT Last_f (fun _ _ => trivial) ?_; rintro ⟨lb, lo⟩ hlo; have hRl : ∀ H, RdA (mkC Tryd.prog gI w hG) (.obj lb lo :: H) (some ⟨lb, 0, none⟩) _ := hlo.rd; dsimp only [List.cons_append, List.nil_append, List.append_nil])
      try ((conv => whnf); repeat ((first | refine tk1 ?_ | refine tk2 ?_ | refine tk3 ?_ | refine tk12 (fun _ => ?_) | refine tk4 ?_ | refine tk5 ?_ | refine tk6 ?_ | refine tk7 ?_ | refine tk8 ?_ | refine tk9 ?_ | refine tk10 (fun _ _ => ?_) | refine tk11 (fun _ => ?_) | refine tk13 ?_ | refine tk14 ?_); (conv => whnf)))
      have hfin1 : partsG ((L, false) :: (bd ++ [(lastC, false)])) = close1 (o ++ lastC) false (d.map pure1) := by unfold partsG; rw [← List.cons_append, stG_snoc, hsg]; rfl
      have hfin2 : partsG ((L, false) :: (bd ++ [])) = close1 o false (d.map pure1) := by rw [List.append_nil]; unfold partsG; rw [hsg]
      have hl5 : lastC.length = 5 := rfl
      first
        | (refine B2S.tc (xs := lastC.map byteV) (l := lastC) rfl rfl ?_
           (conv => whnf); repeat ((first | refine tk1 ?_ | refine tk2 ?_ | refine tk3 ?_ | refine tk12 (fun _ => ?_) | refine tk4 ?_ | refine tk5 ?_ | refine tk6 ?_ | refine tk7 ?_ | refine tk8 ?_ | refine tk9 ?_ | refine tk10 (fun _ _ => ?_) | refine tk11 (fun _ => ?_) | refine tk13 ?_ | refine tk14 ?_); (conv => whnf))
           rename_i sb
           refine CallK.into (G := .row (.slice (some ⟨sb, 0, none⟩) 1 1) 9 1 1 ([lastC].map str) :: .box b12 [.slice oA o.length oc, .slice D d.length dc] 54 :: .row (.slice oA o.length oc) 5 1 o.length (o.map byteV) :: (.row (.slice D d.length dc) 37 2 d.length (pcells d) :: rowsP 5 d)) (Cv.into (by (try dsimp only); repeat' (first | with_reducible exact Cv.refl | with_reducible exact Cv.left | with_reducible exact Cv.right | with_reducible exact Cv.nil | (with_reducible apply Cv.cons; focus ((repeat (first | with_reducible exact Pick.here | with_reducible apply Pick.skip)); done)) | (apply Cv.cons; focus ((repeat (first | exact Pick.here | apply Pick.skip)); done)) | exact Cv.nil | exact Cv.refl | exact Cv.left | exact Cv.right | refine Cv.skip ?_))) ?_
           refine write_k hou (ts := [lastC]) (X := .row (.slice D d.length dc) 37 2 d.length (pcells d) :: rowsP 5 d) (by simp; omega) (by simp) (fun _ A3 c3 => ?_)
           rw [show [lastC].flatten = lastC by simp]
           have hopl : (o ++ lastC).length ≤ 9000000 := by rw [List.length_append]; omega
           (conv => whnf); repeat ((first | refine tk1 ?_ | refine tk2 ?_ | refine tk3 ?_ | refine tk12 (fun _ => ?_) | refine tk4 ?_ | refine tk5 ?_ | refine tk6 ?_ | refine tk7 ?_ | refine tk8 ?_ | refine tk9 ?_ | refine tk10 (fun _ _ => ?_) | refine tk11 (fun _ => ?_) | refine tk13 ?_ | refine tk14 ?_); (conv => whnf))
           refine CallK.into (G := .box b12 [.slice A3 (o ++ lastC).length c3, .slice D d.length dc] 54 :: .row (.slice D d.length dc) 37 2 d.length (pcells d) :: .row (.slice A3 (o ++ lastC).length c3) 5 1 (o ++ lastC).length ((o ++ lastC).map byteV) :: ([] ++ rowsP 5 d)) (Cv.into (by (try dsimp only); repeat' (first | with_reducible exact Cv.refl | with_reducible exact Cv.left | with_reducible exact Cv.right | with_reducible exact Cv.nil | (with_reducible apply Cv.cons; focus ((repeat (first | with_reducible exact Pick.here | with_reducible apply Pick.skip)); done)) | (apply Cv.cons; focus ((repeat (first | exact Pick.here | apply Pick.skip)); done)) | exact Cv.nil | exact Cv.refl | exact Cv.left | exact Cv.right | refine Cv.skip ?_))) ?_
           refine cut_k hou (f := false) (ps := d) (by omega) (by omega) (fun _ D3 dc3 d3 hd3 => ?_)
           (conv => whnf); repeat ((first | refine tk1 ?_ | refine tk2 ?_ | refine tk3 ?_ | refine tk12 (fun _ => ?_) | refine tk4 ?_ | refine tk5 ?_ | refine tk6 ?_ | refine tk7 ?_ | refine tk8 ?_ | refine tk9 ?_ | refine tk10 (fun _ _ => ?_) | refine tk11 (fun _ => ?_) | refine tk13 ?_ | refine tk14 ?_); (conv => whnf))
           exact fun w' hw' => ⟨⟨D3, dc3, d3⟩, rfl, hd3.trans hfin1.symm, newH.into hw' (Cv.into (by (try dsimp only); repeat' (first | with_reducible exact Cv.refl | with_reducible exact Cv.left | with_reducible exact Cv.right | with_reducible exact Cv.nil | (with_reducible apply Cv.cons; focus ((repeat (first | with_reducible exact Pick.here | with_reducible apply Pick.skip)); done)) | (apply Cv.cons; focus ((repeat (first | exact Pick.here | apply Pick.skip)); done)) | exact Cv.nil | exact Cv.refl | exact Cv.left | exact Cv.right | refine Cv.skip ?_)))⟩)
        | (refine CallK.into (G := .box b12 [.slice oA o.length oc, .slice D d.length dc] 54 :: .row (.slice D d.length dc) 37 2 d.length (pcells d) :: .row (.slice oA o.length oc) 5 1 o.length (o.map byteV) :: ([] ++ rowsP 5 d)) (Cv.into (by (try dsimp only); repeat' (first | with_reducible exact Cv.refl | with_reducible exact Cv.left | with_reducible exact Cv.right | with_reducible exact Cv.nil | (with_reducible apply Cv.cons; focus ((repeat (first | with_reducible exact Pick.here | with_reducible apply Pick.skip)); done)) | (apply Cv.cons; focus ((repeat (first | exact Pick.here | apply Pick.skip)); done)) | exact Cv.nil | exact Cv.refl | exact Cv.left | exact Cv.right | refine Cv.skip ?_))) ?_
           refine cut_k hou (f := false) (ps := d) (by omega) (by omega) (fun _ D3 dc3 d3 hd3 => ?_)
           (conv => whnf); repeat ((first | refine tk1 ?_ | refine tk2 ?_ | refine tk3 ?_ | refine tk12 (fun _ => ?_) | refine tk4 ?_ | refine tk5 ?_ | refine tk6 ?_ | refine tk7 ?_ | refine tk8 ?_ | refine tk9 ?_ | refine tk10 (fun _ _ => ?_) | refine tk11 (fun _ => ?_) | refine tk13 ?_ | refine tk14 ?_); (conv => whnf))
           exact fun w' hw' => ⟨⟨D3, dc3, d3⟩, rfl, hd3.trans hfin2.symm, newH.into hw' (Cv.into (by (try dsimp only); repeat' (first | with_reducible exact Cv.refl | with_reducible exact Cv.left | with_reducible exact Cv.right | with_reducible exact Cv.nil | (with_reducible apply Cv.cons; focus ((repeat (first | with_reducible exact Pick.here | with_reducible apply Pick.skip)); done)) | (apply Cv.cons; focus ((repeat (first | exact Pick.here | apply Pick.skip)); done)) | exact Cv.nil | exact Cv.refl | exact Cv.left | exact Cv.right | refine Cv.skip ?_)))⟩)
  · cases last <;> rcases hways with ⟨rfl, hs⟩ | ⟨rfl, hs⟩ | ⟨rfl, hs⟩ | ⟨rfl, hs, hb⟩ | ⟨rfl, hs, hb⟩ <;> rw [hs] at hch <;> (try rw [hb] at hch) <;> have hch' := hch.symm <;> have hcl' := hcl.symm <;> simp at hch' hcl'
    all_goals as_aux_lemma =>
      (conv => whnf); repeat ((first | refine tk1 ?_ | refine tk2 ?_ | refine tk3 ?_ | refine tk12 (fun _ => ?_) | refine tk4 ?_ | refine tk5 ?_ | refine tk6 ?_ | refine tk7 ?_ | refine tk8 ?_ | refine tk9 ?_ | refine tk10 (fun _ _ => ?_) | refine tk11 (fun _ => ?_) | refine tk13 ?_ | refine tk14 ?_); (conv => whnf))
      refine CallK.fnR hstr ⟨(hRQ _).ok, trivial⟩ ?_
      rw [hs]
      (conv => whnf); repeat ((first | refine tk1 ?_ | refine tk2 ?_ | refine tk3 ?_ | refine tk12 (fun _ => ?_) | refine tk4 ?_ | refine tk5 ?_ | refine tk6 ?_ | refine tk7 ?_ | refine tk8 ?_ | refine tk9 ?_ | refine tk10 (fun _ _ => ?_) | refine tk11 (fun _ => ?_) | refine tk13 ?_ | refine tk14 ?_); (conv => whnf))
      try (refine CallK.fn hbare ?_; rw [hb])
      try ((conv => whnf); repeat ((first | refine tk1 ?_ | refine tk2 ?_ | refine tk3 ?_ | refine tk12 (fun _ => ?_) | refine tk4 ?_ | refine tk5 ?_ | refine tk6 ?_ | refine tk7 ?_ | refine tk8 ?_ | refine tk9 ?_ | refine tk10 (fun _ _ => ?_) | refine tk11 (fun _ => ?_) | refine tk13 ?_ | refine tk14 ?_); (conv => whnf)))
      rename_i b12
      refine CallK.into (G := .box b12 [.slice none 0 0, .slice none 0 0] 54 :: .row (.slice none 0 0) 5 1 0 [] :: [.box b4 [.int .i64 st, .slice FA F.length Fc, .slice QA ps.length Qc, .int .u8 cd.toNat, str tag, .bool press] 25]) (Into.trans (Into.nilRow (e := 5) (sz := 1) Into.refl) (Cv.into (by (try dsimp only); repeat' (first | with_reducible exact Cv.refl | with_reducible exact Cv.left | with_reducible exact Cv.right | with_reducible exact Cv.nil | (with_reducible apply Cv.cons; focus ((repeat (first | with_reducible exact Pick.here | with_reducible apply Pick.skip)); done)) | (apply Cv.cons; focus ((repeat (first | exact Pick.here | apply Pick.skip)); done)) | exact Cv.nil | exact Cv.refl | exact Cv.left | exact Cv.right | refine Cv.skip ?_)))) ?_
      refine head_k hou (l := []) (X := [.box b4 [.int .i64 st, .slice FA F.length Fc, .slice QA ps.length Qc, .int .u8 cd.toNat, str tag, .bool press] 25]) st FA Fc F QA Qc ps cd tag press _ _ hRF hRQ hPQ hF (by omega) (by omega) (by simp) hst.2.2 hst.1 hst.2.1 (fun _ A1 c1 L hL => ?_)
      rw [List.nil_append] at hL
      have hL : L = headR st F (ps.map pure1) cd.toNat ch cl := by rw [hch', hcl']; exact hL
      rw [← hL] at hLz ⊢
      (conv => whnf); repeat ((first | refine tk1 ?_ | refine tk2 ?_ | refine tk3 ?_ | refine tk12 (fun _ => ?_) | refine tk4 ?_ | refine tk5 ?_ | refine tk6 ?_ | refine tk7 ?_ | refine tk8 ?_ | refine tk9 ?_ | refine tk10 (fun _ _ => ?_) | refine tk11 (fun _ => ?_) | refine tk13 ?_ | refine tk14 ?_); (conv => whnf))
      refine CallK.into (G := .box b12 [.slice A1 L.length c1, .slice none 0 0] 54 :: .row (.slice none 0 0) 37 2 0 [] :: .row (.slice A1 L.length c1) 5 1 L.length (L.map byteV) :: ([] ++ rowsP 5 [])) (Into.trans (Into.nilRow (e := 37) (sz := 2) Into.refl) (Cv.into (by (try dsimp only); repeat' (first | with_reducible exact Cv.refl | with_reducible exact Cv.left | with_reducible exact Cv.right | with_reducible exact Cv.nil | (with_reducible apply Cv.cons; focus ((repeat (first | with_reducible exact Pick.here | with_reducible apply Pick.skip)); done)) | (apply Cv.cons; focus ((repeat (first | exact Pick.here | apply Pick.skip)); done)) | exact Cv.nil | exact Cv.refl | exact Cv.left | exact Cv.right | refine Cv.skip ?_)))) ?_
      refine cut_k hou (ps := []) (by omega) (by simp) (fun _ D2 dc2 ps2 hps2 => ?_)
      (conv => whnf); repeat ((first | refine tk1 ?_ | refine tk2 ?_ | refine tk3 ?_ | refine tk12 (fun _ => ?_) | refine tk4 ?_ | refine tk5 ?_ | refine tk6 ?_ | refine tk7 ?_ | refine tk8 ?_ | refine tk9 ?_ | refine tk10 (fun _ _ => ?_) | refine tk11 (fun _ => ?_) | refine tk13 ?_ | refine tk14 ?_); (conv => whnf))
      simp only [hch', hcl', if_true]
      exact fun w' hw' => ⟨⟨D2, dc2, ps2⟩, rfl, hps2, newH.into hw' (Cv.into (by (try dsimp only); repeat' (first | with_reducible exact Cv.refl | with_reducible exact Cv.left | with_reducible exact Cv.right | with_reducible exact Cv.nil | (with_reducible apply Cv.cons; focus ((repeat (first | with_reducible exact Pick.here | with_reducible apply Pick.skip)); done)) | (apply Cv.cons; focus ((repeat (first | exact Pick.here | apply Pick.skip)); done)) | exact Cv.nil | exact Cv.refl | exact Cv.left | exact Cv.right | refine Cv.skip ?_)))⟩
end Go.Proofs.YtnnpnkmdhfjccaaDoor.Vex
/- The document's own answer for answers as bytes, reckoned: Streamed, May, Check, chunks. -/
namespace Go.Proofs.YtnnpnkmdhfjccaaDoor.Vex
open Go Go.RowKit
set_option maxRecDepth 100000
set_option linter.unusedSectionVars false
variable {gI : GI} [HasMax gI]

theorem own_rel (n : List UInt8) : (n ≠ etN → ownL.contains n = ownR.contains n) ∧ (n = etN → ownR.contains n = false) := by
  refine ⟨fun h => ?_, fun h => by subst h; decide⟩
  unfold ownL ownR
  rw [Bool.eq_iff_iff]
  simp [h]
theorem rstreamed_r (st : Int) (FA : Option Addr) (Fn Fc : Nat) (QA : Option Addr) (Qc : Nat) (ps : List Prt) (cd : UInt8) (tag : List UInt8) (press : Bool) (hn : ps.length ≤ 4000000) :
    FnR Tryd.prog gI 47 [.agg ⟨[.int .i64 st, .slice FA Fn Fc, .slice QA ps.length Qc, .int .u8 cd.toNat, str tag, .bool press]⟩] [(QA, pcells ps)] (.bool (streamB (ps.map pure1) cd.toNat)) := by
  refine FnE.of tys_ok Tryd.func47 rfl (by kernel_rfl) rfl rfl ?_; intro w hG hP
  have hRQ : ∀ H, RdA (mkC Tryd.prog gI w hG) H QA (pcells ps) := fun H => ⟨hP.1.now⟩
  clear hP
  rw [streamB_n]
  (conv => whnf); repeat ((first | refine tk1 ?_ | refine tk2 ?_ | refine tk3 ?_ | refine tk12 (fun _ => ?_) | refine tk4 ?_ | refine tk5 ?_ | refine tk6 ?_ | refine tk7 ?_ | refine tk8 ?_ | refine tk9 ?_ | refine tk10 (fun _ _ => ?_) | refine tk11 (fun _ => ?_) | refine tk13 ?_ | refine tk14 ?_); (conv => whnf))
  refine Cmp.cases (fun c1 => ?_) (fun c1 => ?_)
  · rw [decide_eq_false (show ¬ cd.toNat = 0 by omega)]
    (conv => whnf); repeat ((first | refine tk1 ?_ | refine tk2 ?_ | refine tk3 ?_ | refine tk12 (fun _ => ?_) | refine tk4 ?_ | refine tk5 ?_ | refine tk6 ?_ | refine tk7 ?_ | refine tk8 ?_ | refine tk9 ?_ | refine tk10 (fun _ _ => ?_) | refine tk11 (fun _ => ?_) | refine tk13 ?_ | refine tk14 ?_); (conv => whnf))
    exact fun w' _ => rfl
  rw [decide_eq_true (show cd.toNat = 0 by omega)]
  (conv => whnf); repeat ((first | refine tk1 ?_ | refine tk2 ?_ | refine tk3 ?_ | refine tk12 (fun _ => ?_) | refine tk4 ?_ | refine tk5 ?_ | refine tk6 ?_ | refine tk7 ?_ | refine tk8 ?_ | refine tk9 ?_ | refine tk10 (fun _ _ => ?_) | refine tk11 (fun _ => ?_) | refine tk13 ?_ | refine tk14 ?_); (conv => whnf))
  refine Cmp.cases (fun c2 => ?_) (fun c2 => ?_)
  · rw [decide_eq_true (show 1 < ps.length by omega)]
    (conv => whnf); repeat ((first | refine tk1 ?_ | refine tk2 ?_ | refine tk3 ?_ | refine tk12 (fun _ => ?_) | refine tk4 ?_ | refine tk5 ?_ | refine tk6 ?_ | refine tk7 ?_ | refine tk8 ?_ | refine tk9 ?_ | refine tk10 (fun _ _ => ?_) | refine tk11 (fun _ => ?_) | refine tk13 ?_ | refine tk14 ?_); (conv => whnf))
    exact fun w' _ => rfl
  rw [decide_eq_false (show ¬ 1 < ps.length by omega)]
  rcases ps with _ | ⟨p, _ | ⟨q, r⟩⟩
  · (conv => whnf); repeat ((first | refine tk1 ?_ | refine tk2 ?_ | refine tk3 ?_ | refine tk12 (fun _ => ?_) | refine tk4 ?_ | refine tk5 ?_ | refine tk6 ?_ | refine tk7 ?_ | refine tk8 ?_ | refine tk9 ?_ | refine tk10 (fun _ _ => ?_) | refine tk11 (fun _ => ?_) | refine tk13 ?_ | refine tk14 ?_); (conv => whnf))
    exact fun w' _ => rfl
  · (conv => whnf); repeat ((first | refine tk1 ?_ | refine tk2 ?_ | refine tk3 ?_ | refine tk12 (fun _ => ?_) | refine tk4 ?_ | refine tk5 ?_ | refine tk6 ?_ | refine tk7 ?_ | refine tk8 ?_ | refine tk9 ?_ | refine tk10 (fun _ _ => ?_) | refine tk11 (fun _ => ?_) | refine tk13 ?_ | refine tk14 ?_); (conv => whnf))
    refine IdxA.tc (xs := pcells [p]) (by simp [pcells]) (by decide) (by simp) ?_
    (conv => whnf); repeat ((first | refine tk1 ?_ | refine tk2 ?_ | refine tk3 ?_ | refine tk12 (fun _ => ?_) | refine tk4 ?_ | refine tk5 ?_ | refine tk6 ?_ | refine tk7 ?_ | refine tk8 ?_ | refine tk9 ?_ | refine tk10 (fun _ _ => ?_) | refine tk11 (fun _ => ?_) | refine tk13 ?_ | refine tk14 ?_); (conv => whnf))
    refine Ld.taF (xs := pcells [p]) (v := .bool p.f) rfl ?_
    dsimp only
    cases p.f
    · (conv => whnf); repeat ((first | refine tk1 ?_ | refine tk2 ?_ | refine tk3 ?_ | refine tk12 (fun _ => ?_) | refine tk4 ?_ | refine tk5 ?_ | refine tk6 ?_ | refine tk7 ?_ | refine tk8 ?_ | refine tk9 ?_ | refine tk10 (fun _ _ => ?_) | refine tk11 (fun _ => ?_) | refine tk13 ?_ | refine tk14 ?_); (conv => whnf))
      exact fun w' _ => rfl
    · (conv => whnf); repeat ((first | refine tk1 ?_ | refine tk2 ?_ | refine tk3 ?_ | refine tk12 (fun _ => ?_) | refine tk4 ?_ | refine tk5 ?_ | refine tk6 ?_ | refine tk7 ?_ | refine tk8 ?_ | refine tk9 ?_ | refine tk10 (fun _ _ => ?_) | refine tk11 (fun _ => ?_) | refine tk13 ?_ | refine tk14 ?_); (conv => whnf))
      exact fun w' _ => rfl
  · simp only [List.length_cons] at c2; omega
theorem rchunks_r (A : Option Addr) (cp : Nat) (b : List UInt8) (hb : b.length ≤ 131072) : FnS Tryd.prog gI 48 [.slice A b.length cp] [(A, b.map byteV)] 5 1 (wrapG b).length ((wrapG b).map byteV) := by
  have hw := Wrapped_f (gI := gI) A cp b (by omega)
  have hwl := wrapG_long b (by omega)
  refine FnE.of tys_ok Tryd.func48 rfl (by kernel_rfl) rfl rfl ?_; intro w hG hP
  have hA : ∀ H, RdA (mkC Tryd.prog gI w hG) H A (b.map byteV) := fun H => ⟨hP.1.now⟩
  clear hP
  (conv => whnf); repeat ((first | refine tk1 ?_ | refine tk2 ?_ | refine tk3 ?_ | refine tk12 (fun _ => ?_) | refine tk4 ?_ | refine tk5 ?_ | refine tk6 ?_ | refine tk7 ?_ | refine tk8 ?_ | refine tk9 ?_ | refine tk10 (fun _ _ => ?_) | refine tk11 (fun _ => ?_) | refine tk13 ?_ | refine tk14 ?_); (conv => whnf))
  refine LoopS.lp tys_ok (fun (x : Unit) u => [.slice A b.length cp, u 1, u 2, .slice none 0 0, u 4, u 5, u 6, u 7, u 8, u 9, u 10, u 11, u 12, u 13, u 14, u 15, u 16, u 17]) (fun _ => []) (fun _ => True) (fun _ => 0) () trivial rfl (by repeat' (first | exact List.Sublist.refl _ | exact List.nil_sublist _ | apply List.Sublist.cons_cons | apply List.Sublist.cons)) ?_
  rintro x u _
  (conv => whnf); repeat ((first | refine tk1 ?_ | refine tk2 ?_ | refine tk3 ?_ | refine tk12 (fun _ => ?_) | refine tk4 ?_ | refine tk5 ?_ | refine tk6 ?_ | refine tk7 ?_ | refine tk8 ?_ | refine tk9 ?_ | refine tk10 (fun _ _ => ?_) | refine tk11 (fun _ => ?_) | refine tk13 ?_ | refine tk14 ?_); (conv => whnf))
  refine CallK.fnS hw ⟨(hA _).ok, trivial⟩ (fun WA wc => ?_)
  (conv => whnf); repeat ((first | refine tk1 ?_ | refine tk2 ?_ | refine tk3 ?_ | refine tk12 (fun _ => ?_) | refine tk4 ?_ | refine tk5 ?_ | refine tk6 ?_ | refine tk7 ?_ | refine tk8 ?_ | refine tk9 ?_ | refine tk10 (fun _ _ => ?_) | refine tk11 (fun _ => ?_) | refine tk13 ?_ | refine tk14 ?_); (conv => whnf))
  refine AppS.t0 (m := (wrapG b).length) (news := (wrapG b).map byteV) SrcK.tc (by simp) (bytes_one _) (by decide) (by omega) (by omega) (fun B1 c1 => ?_)
  (conv => whnf); repeat ((first | refine tk1 ?_ | refine tk2 ?_ | refine tk3 ?_ | refine tk12 (fun _ => ?_) | refine tk4 ?_ | refine tk5 ?_ | refine tk6 ?_ | refine tk7 ?_ | refine tk8 ?_ | refine tk9 ?_ | refine tk10 (fun _ _ => ?_) | refine tk11 (fun _ => ?_) | refine tk13 ?_ | refine tk14 ?_); (conv => whnf))
  exact rowPost.of (by simp)
set_option maxHeartbeats 4000000 in
theorem May29_r (st : Int) (FA : Option Addr) (Fc : Nat) (F : List Fld) (QA : Option Addr) (Qc : Nat) (ps : List Prt) (cd : UInt8) (tag : List UInt8) (press : Bool) (hF : fsum F ≤ 1048576) (hn : ps.length ≤ 4000000) (htl : total (ps.map pure1) ≤ 4000000) :
    FnR Tryd.prog gI 25 [.agg ⟨[.int .i64 st, .slice FA F.length Fc, .slice QA ps.length Qc, .int .u8 cd.toNat, str tag, .bool press]⟩] [(FA, fcells F), (QA, pcells ps)] (.bool (anOK st F (ps.map pure1) cd.toNat)) := by
  have bad1 : anST st ps.length cd.toNat = false → anOK st F (ps.map pure1) cd.toNat = false := fun h => by unfold anOK; rw [List.length_map, h]; rfl
  have hFl := fsum_length F
  refine FnE.of tys_ok Tryd.func25 rfl (by kernel_rfl) rfl rfl ?_; intro w hG hP
  have hRF : ∀ H, RdA (mkC Tryd.prog gI w hG) H FA (fcells F) := fun H => ⟨hP.1.now⟩
  have hRQ : ∀ H, RdA (mkC Tryd.prog gI w hG) H QA (pcells ps) := fun H => ⟨hP.2.1.now⟩
  clear hP
  (conv => whnf); repeat ((first | refine tk1 ?_ | refine tk2 ?_ | refine tk3 ?_ | refine tk12 (fun _ => ?_) | refine tk4 ?_ | refine tk5 ?_ | refine tk6 ?_ | refine tk7 ?_ | refine tk8 ?_ | refine tk9 ?_ | refine tk10 (fun _ _ => ?_) | refine tk11 (fun _ => ?_) | refine tk13 ?_ | refine tk14 ?_); (conv => whnf))
  rename_i b
  refine Cmp.cases (fun c1 => ?_) (fun c1 => ?_)
  · rw [bad1 (anST_bad (by omega))]
    (conv => whnf); repeat ((first | refine tk1 ?_ | refine tk2 ?_ | refine tk3 ?_ | refine tk12 (fun _ => ?_) | refine tk4 ?_ | refine tk5 ?_ | refine tk6 ?_ | refine tk7 ?_ | refine tk8 ?_ | refine tk9 ?_ | refine tk10 (fun _ _ => ?_) | refine tk11 (fun _ => ?_) | refine tk13 ?_ | refine tk14 ?_); (conv => whnf))
    exact fun w' _ => rfl
  (conv => whnf); repeat ((first | refine tk1 ?_ | refine tk2 ?_ | refine tk3 ?_ | refine tk12 (fun _ => ?_) | refine tk4 ?_ | refine tk5 ?_ | refine tk6 ?_ | refine tk7 ?_ | refine tk8 ?_ | refine tk9 ?_ | refine tk10 (fun _ _ => ?_) | refine tk11 (fun _ => ?_) | refine tk13 ?_ | refine tk14 ?_); (conv => whnf))
  refine Cmp.cases (fun c2 => ?_) (fun c2 => ?_)
  · rw [bad1 (anST_bad (by omega))]
    (conv => whnf); repeat ((first | refine tk1 ?_ | refine tk2 ?_ | refine tk3 ?_ | refine tk12 (fun _ => ?_) | refine tk4 ?_ | refine tk5 ?_ | refine tk6 ?_ | refine tk7 ?_ | refine tk8 ?_ | refine tk9 ?_ | refine tk10 (fun _ _ => ?_) | refine tk11 (fun _ => ?_) | refine tk13 ?_ | refine tk14 ?_); (conv => whnf))
    exact fun w' _ => rfl
  (conv => whnf); repeat ((first | refine tk1 ?_ | refine tk2 ?_ | refine tk3 ?_ | refine tk12 (fun _ => ?_) | refine tk4 ?_ | refine tk5 ?_ | refine tk6 ?_ | refine tk7 ?_ | refine tk8 ?_ | refine tk9 ?_ | refine tk10 (fun _ _ => ?_) | refine tk11 (fun _ => ?_) | refine tk13 ?_ | refine tk14 ?_); (conv => whnf))
  refine Cmp.cases (fun c3 => ?_) (fun c3 => ?_)
  · rw [bad1 (anST_bad (by omega))]
    (conv => whnf); repeat ((first | refine tk1 ?_ | refine tk2 ?_ | refine tk3 ?_ | refine tk12 (fun _ => ?_) | refine tk4 ?_ | refine tk5 ?_ | refine tk6 ?_ | refine tk7 ?_ | refine tk8 ?_ | refine tk9 ?_ | refine tk10 (fun _ _ => ?_) | refine tk11 (fun _ => ?_) | refine tk13 ?_ | refine tk14 ?_); (conv => whnf))
    exact fun w' _ => rfl
  (conv => whnf); repeat ((first | refine tk1 ?_ | refine tk2 ?_ | refine tk3 ?_ | refine tk12 (fun _ => ?_) | refine tk4 ?_ | refine tk5 ?_ | refine tk6 ?_ | refine tk7 ?_ | refine tk8 ?_ | refine tk9 ?_ | refine tk10 (fun _ _ => ?_) | refine tk11 (fun _ => ?_) | refine tk13 ?_ | refine tk14 ?_); (conv => whnf))
  refine CallK.fn (bare_r st) ?_
  cases hbr : bareB st
  · have hst := anST_good (n := ps.length) (cd := cd.toNat) c1 c2 (by omega) (fun h => by rw [hbr] at h; cases h)
    clear c1 c2 c3
    (conv => whnf); repeat ((first | refine tk1 ?_ | refine tk2 ?_ | refine tk3 ?_ | refine tk12 (fun _ => ?_) | refine tk4 ?_ | refine tk5 ?_ | refine tk6 ?_ | refine tk7 ?_ | refine tk8 ?_ | refine tk9 ?_ | refine tk10 (fun _ _ => ?_) | refine tk11 (fun _ => ?_) | refine tk13 ?_ | refine tk14 ?_); (conv => whnf))
    refine LoopS.lp tys_ok (fun (k : Nat) u => [u 0, .pointer (some ⟨b, 0, none⟩), u 2, .int .i64 (k : Nat), u 4, u 5, u 6, u 7, u 8, u 9, u 10, u 11, u 12, u 13, u 14, u 15, u 16, u 17, u 18, u 19, u 20, u 21, u 22, u 23, u 24, u 25, u 26, u 27, u 28, u 29, u 30, u 31, u 32, u 33, u 34, u 35, u 36, u 37, u 38, u 39, u 40, u 41, u 42, u 43, u 44, u 45, u 46, u 47, u 48, u 49, u 50, u 51, u 52, u 53, u 54, u 55, u 56, u 57, u 58, u 59, u 60, u 61, u 62, u 63, u 64, u 65, u 66, u 67, u 68, u 69, u 70, u 71, u 72, u 73, u 74, u 75, u 76, u 77, u 78, u 79, u 80, u 81, u 82, u 83, u 84, u 85, u 86, u 87, u 88, u 89, u 90, u 91, u 92, u 93, u 94]) (fun _ => [.box b [.int .i64 st, .slice FA F.length Fc, .slice QA ps.length Qc, .int .u8 cd.toNat, str tag, .bool press] 25])
      (fun k => k ≤ F.length ∧ (F.take k).all fldR = true) (fun k => F.length - k) 0 ⟨Nat.zero_le _, rfl⟩ rfl (by repeat' (first | exact List.Sublist.refl _ | exact List.nil_sublist _ | apply List.Sublist.cons_cons | apply List.Sublist.cons)) ?_
    rintro k u ⟨hk, hI⟩
    (conv => whnf); repeat ((first | refine tk1 ?_ | refine tk2 ?_ | refine tk3 ?_ | refine tk12 (fun _ => ?_) | refine tk4 ?_ | refine tk5 ?_ | refine tk6 ?_ | refine tk7 ?_ | refine tk8 ?_ | refine tk9 ?_ | refine tk10 (fun _ _ => ?_) | refine tk11 (fun _ => ?_) | refine tk13 ?_ | refine tk14 ?_); (conv => whnf))
    refine Cmp.cases (fun hlt => ?_) (fun hlt => ?_)
    · as_aux_lemma =>
      have hlt' : k < F.length := by omega
      have hsn := all_snoc_take fldR F k hlt' hI
      have h2 := fcells_two F k hlt'
      have h3 := fcells_0 F k hlt'
      have hm9 := List.getElem_mem hlt'
      obtain ⟨n, v, hf⟩ : ∃ n v, F[k] = (n, v) := ⟨_, _, rfl⟩
      rw [hf] at hsn h2 hm9 h3
      have badf : fldR (n, v) = false → anOK st F (ps.map pure1) cd.toNat = false := fun h => by unfold anOK; rw [all_bad hm9 h]; simp
      (conv => whnf); repeat ((first | refine tk1 ?_ | refine tk2 ?_ | refine tk3 ?_ | refine tk12 (fun _ => ?_) | refine tk4 ?_ | refine tk5 ?_ | refine tk6 ?_ | refine tk7 ?_ | refine tk8 ?_ | refine tk9 ?_ | refine tk10 (fun _ _ => ?_) | refine tk11 (fun _ => ?_) | refine tk13 ?_ | refine tk14 ?_); (conv => whnf))
      refine IdxA.tc (xs := fcells F) (by rw [fcells_length]; omega) (by omega) (by omega) ?_
      (conv => whnf); repeat ((first | refine tk1 ?_ | refine tk2 ?_ | refine tk3 ?_ | refine tk12 (fun _ => ?_) | refine tk4 ?_ | refine tk5 ?_ | refine tk6 ?_ | refine tk7 ?_ | refine tk8 ?_ | refine tk9 ?_ | refine tk10 (fun _ _ => ?_) | refine tk11 (fun _ => ?_) | refine tk13 ?_ | refine tk14 ?_); (conv => whnf))
      refine Ld.taN h2 rfl ?_
      (conv => whnf); repeat ((first | refine tk1 ?_ | refine tk2 ?_ | refine tk3 ?_ | refine tk12 (fun _ => ?_) | refine tk4 ?_ | refine tk5 ?_ | refine tk6 ?_ | refine tk7 ?_ | refine tk8 ?_ | refine tk9 ?_ | refine tk10 (fun _ _ => ?_) | refine tk11 (fun _ => ?_) | refine tk13 ?_ | refine tk14 ?_); (conv => whnf))
      refine CallK.fn (May_r n v) ?_
      cases hfo : fieldOK n v
      · rw [badf (by unfold fldR; rw [hfo]; rfl)]
        (conv => whnf); repeat ((first | refine tk1 ?_ | refine tk2 ?_ | refine tk3 ?_ | refine tk12 (fun _ => ?_) | refine tk4 ?_ | refine tk5 ?_ | refine tk6 ?_ | refine tk7 ?_ | refine tk8 ?_ | refine tk9 ?_ | refine tk10 (fun _ _ => ?_) | refine tk11 (fun _ => ?_) | refine tk13 ?_ | refine tk14 ?_); (conv => whnf))
        exact fun w' _ => rfl
      · (conv => whnf); repeat ((first | refine tk1 ?_ | refine tk2 ?_ | refine tk3 ?_ | refine tk12 (fun _ => ?_) | refine tk4 ?_ | refine tk5 ?_ | refine tk6 ?_ | refine tk7 ?_ | refine tk8 ?_ | refine tk9 ?_ | refine tk10 (fun _ _ => ?_) | refine tk11 (fun _ => ?_) | refine tk13 ?_ | refine tk14 ?_); (conv => whnf))
        refine IdxA.tc (xs := fcells F) (by rw [fcells_length]; omega) (by omega) (by omega) ?_
        (conv => whnf); repeat ((first | refine tk1 ?_ | refine tk2 ?_ | refine tk3 ?_ | refine tk12 (fun _ => ?_) | refine tk4 ?_ | refine tk5 ?_ | refine tk6 ?_ | refine tk7 ?_ | refine tk8 ?_ | refine tk9 ?_ | refine tk10 (fun _ _ => ?_) | refine tk11 (fun _ => ?_) | refine tk13 ?_ | refine tk14 ?_); (conv => whnf))
        refine Ld.taF (v := str n) h3 ?_
        (conv => whnf); repeat ((first | refine tk1 ?_ | refine tk2 ?_ | refine tk3 ?_ | refine tk12 (fun _ => ?_) | refine tk4 ?_ | refine tk5 ?_ | refine tk6 ?_ | refine tk7 ?_ | refine tk8 ?_ | refine tk9 ?_ | refine tk10 (fun _ _ => ?_) | refine tk11 (fun _ => ?_) | refine tk13 ?_ | refine tk14 ?_); (conv => whnf))
        have hrel := own_rel n
        refine Cmp.cases (fun he => ?_) (fun he => ?_)
        · have he' : n ≠ etN := he
          (conv => whnf); repeat ((first | refine tk1 ?_ | refine tk2 ?_ | refine tk3 ?_ | refine tk12 (fun _ => ?_) | refine tk4 ?_ | refine tk5 ?_ | refine tk6 ?_ | refine tk7 ?_ | refine tk8 ?_ | refine tk9 ?_ | refine tk10 (fun _ _ => ?_) | refine tk11 (fun _ => ?_) | refine tk13 ?_ | refine tk14 ?_); (conv => whnf))
          refine IdxA.tc (xs := fcells F) (by rw [fcells_length]; omega) (by omega) (by omega) ?_
          (conv => whnf); repeat ((first | refine tk1 ?_ | refine tk2 ?_ | refine tk3 ?_ | refine tk12 (fun _ => ?_) | refine tk4 ?_ | refine tk5 ?_ | refine tk6 ?_ | refine tk7 ?_ | refine tk8 ?_ | refine tk9 ?_ | refine tk10 (fun _ _ => ?_) | refine tk11 (fun _ => ?_) | refine tk13 ?_ | refine tk14 ?_); (conv => whnf))
          refine Ld.taF (v := str n) h3 ?_
          (conv => whnf); repeat ((first | refine tk1 ?_ | refine tk2 ?_ | refine tk3 ?_ | refine tk12 (fun _ => ?_) | refine tk4 ?_ | refine tk5 ?_ | refine tk6 ?_ | refine tk7 ?_ | refine tk8 ?_ | refine tk9 ?_ | refine tk10 (fun _ _ => ?_) | refine tk11 (fun _ => ?_) | refine tk13 ?_ | refine tk14 ?_); (conv => whnf))
          refine CallK.fn (Own_r n) ?_
          rw [hrel.1 he']
          cases hc : ownR.contains n
          · rw [show fldR (n, v) = true by unfold fldR; rw [hfo, hc]; rfl] at hsn
            (conv => whnf); repeat ((first | refine tk1 ?_ | refine tk2 ?_ | refine tk3 ?_ | refine tk12 (fun _ => ?_) | refine tk4 ?_ | refine tk5 ?_ | refine tk6 ?_ | refine tk7 ?_ | refine tk8 ?_ | refine tk9 ?_ | refine tk10 (fun _ _ => ?_) | refine tk11 (fun _ => ?_) | refine tk13 ?_ | refine tk14 ?_); (conv => whnf))
            exact ⟨k + 1, ⟨by omega, hsn⟩, rfl, (by repeat' (first | exact List.Sublist.refl _ | exact List.nil_sublist _ | apply List.Sublist.cons_cons | apply List.Sublist.cons)), by dsimp only; omega⟩
          · rw [badf (by unfold fldR; rw [hc]; simp)]
            (conv => whnf); repeat ((first | refine tk1 ?_ | refine tk2 ?_ | refine tk3 ?_ | refine tk12 (fun _ => ?_) | refine tk4 ?_ | refine tk5 ?_ | refine tk6 ?_ | refine tk7 ?_ | refine tk8 ?_ | refine tk9 ?_ | refine tk10 (fun _ _ => ?_) | refine tk11 (fun _ => ?_) | refine tk13 ?_ | refine tk14 ?_); (conv => whnf))
            exact fun w' _ => rfl
        · have he' : n = etN := Classical.not_not.1 he
          rw [show fldR (n, v) = true by unfold fldR; rw [hfo, hrel.2 he']; rfl] at hsn
          (conv => whnf); repeat ((first | refine tk1 ?_ | refine tk2 ?_ | refine tk3 ?_ | refine tk12 (fun _ => ?_) | refine tk4 ?_ | refine tk5 ?_ | refine tk6 ?_ | refine tk7 ?_ | refine tk8 ?_ | refine tk9 ?_ | refine tk10 (fun _ _ => ?_) | refine tk11 (fun _ => ?_) | refine tk13 ?_ | refine tk14 ?_); (conv => whnf))
          exact ⟨k + 1, ⟨by omega, hsn⟩, rfl, (by repeat' (first | exact List.Sublist.refl _ | exact List.nil_sublist _ | apply List.Sublist.cons_cons | apply List.Sublist.cons)), by dsimp only; omega⟩
    have hFok : F.all fldR = true := by rw [List.take_of_length_le (by omega)] at hI; exact hI
    have hAE : anOK st F (ps.map pure1) cd.toNat = prsOK 0 (ps.map pure1) := by
      unfold anOK
      rw [List.length_map, hst, hFok]
      rfl
    rw [hAE]
    clear hI hlt hk bad1 hAE
    (conv => whnf); repeat ((first | refine tk1 ?_ | refine tk2 ?_ | refine tk3 ?_ | refine tk12 (fun _ => ?_) | refine tk4 ?_ | refine tk5 ?_ | refine tk6 ?_ | refine tk7 ?_ | refine tk8 ?_ | refine tk9 ?_ | refine tk10 (fun _ _ => ?_) | refine tk11 (fun _ => ?_) | refine tk13 ?_ | refine tk14 ?_); (conv => whnf))
    refine LoopS.lp tys_ok (fun (k : Nat) u => [u 0, .pointer (some ⟨b, 0, none⟩), u 2, u 3, .int .i64 (total ((ps.map pure1).take k) : Nat), .int .i64 (k : Nat), u 6, u 7, u 8, u 9, u 10, u 11, u 12, u 13, u 14, u 15, u 16, u 17, u 18, u 19, u 20, u 21, u 22, u 23, u 24, u 25, u 26, u 27, u 28, u 29, u 30, u 31, u 32, u 33, u 34, u 35, u 36, u 37, u 38, u 39, u 40, u 41, u 42, u 43, u 44, u 45, u 46, u 47, u 48, u 49, u 50, u 51, u 52, u 53, u 54, u 55, u 56, u 57, u 58, u 59, u 60, u 61, u 62, u 63, u 64, u 65, u 66, u 67, u 68, u 69, u 70, u 71, u 72, u 73, u 74, u 75, u 76, u 77, u 78, u 79, u 80, u 81, u 82, u 83, u 84, u 85, u 86, u 87, u 88, u 89, u 90, u 91, u 92, u 93, u 94]) (fun _ => [.box b [.int .i64 st, .slice FA F.length Fc, .slice QA ps.length Qc, .int .u8 cd.toNat, str tag, .bool press] 25])
      (fun k => k ≤ ps.length ∧ prsOK 0 (ps.map pure1) = prsOK (total ((ps.map pure1).take k)) ((ps.map pure1).drop k)) (fun k => ps.length - k) 0 ⟨Nat.zero_le _, rfl⟩ rfl (by repeat' (first | exact List.Sublist.refl _ | exact List.nil_sublist _ | apply List.Sublist.cons_cons | apply List.Sublist.cons)) ?_
    rintro k u ⟨hk, hI⟩
    (conv => whnf); repeat ((first | refine tk1 ?_ | refine tk2 ?_ | refine tk3 ?_ | refine tk12 (fun _ => ?_) | refine tk4 ?_ | refine tk5 ?_ | refine tk6 ?_ | refine tk7 ?_ | refine tk8 ?_ | refine tk9 ?_ | refine tk10 (fun _ _ => ?_) | refine tk11 (fun _ => ?_) | refine tk13 ?_ | refine tk14 ?_); (conv => whnf))
    refine Cmp.cases (fun hlt => ?_) (fun hlt => ?_)
    · as_aux_lemma =>
      have hlt' : k < ps.length := by omega
      have hkp : k < (ps.map pure1).length := by rw [List.length_map]; exact hlt'
      have h2 := (pcells_at ps k hlt').1
      have htk := total_take (ps.map pure1) (k + 1)
      have ht1 : total ((ps.map pure1).take (k + 1)) = total ((ps.map pure1).take k) + ps[k].l.length := by
        rw [List.take_succ_eq_append_getElem hkp, total_append, List.getElem_map]; simp [total, pure1]
      rw [ht1] at htk
      rw [List.drop_eq_getElem_cons hkp, List.getElem_map] at hI
      generalize ps[k] = q at *
      have hcons : prsOK (total ((ps.map pure1).take k)) (pure1 q :: (ps.map pure1).drop (k + 1)) = (!decide (q.l = []) && (decide (total ((ps.map pure1).take k) + q.l.length ≤ 262144) && prsOK (total ((ps.map pure1).take k) + q.l.length) ((ps.map pure1).drop (k + 1)))) := rfl
      rw [hcons] at hI
      clear hcons
      rw [show (prsOK (total ((ps.map pure1).take k) + q.l.length) ((ps.map pure1).drop (k + 1))) = prsOK (total ((ps.map pure1).take (k + 1))) ((ps.map pure1).drop (k + 1)) by rw [ht1]] at hI
      have hidx : ∀ {H : Hp} {K : Value → Prop}, K (.pointer (some ((QA.getD at0).add (((k : Nat) : Int).toNat * 2)))) → IdxA (mkC Tryd.prog gI w hG) H QA ps.length (k : Int) 2 K := fun h => IdxA.tc (xs := pcells ps) (by rw [pcells_length]; omega) (by omega) (by omega) h
      have hld : ∀ {H : Hp} {K : Value → Prop}, K (.slice q.A q.l.length q.cp) → Ld (mkC Tryd.prog gI w hG) H (.pointer (some (((QA.getD at0).add (((k : Nat) : Int).toNat * 2)).add 0))) none K := fun h => Ld.taF (xs := pcells ps) (v := .slice q.A q.l.length q.cp) (by rw [Int.toNat_natCast]; exact h2) h
      (conv => whnf); repeat ((first | refine tk1 ?_ | refine tk2 ?_ | refine tk3 ?_ | refine tk12 (fun _ => ?_) | refine tk4 ?_ | refine tk5 ?_ | refine tk6 ?_ | refine tk7 ?_ | refine tk8 ?_ | refine tk9 ?_ | refine tk10 (fun _ _ => ?_) | refine tk11 (fun _ => ?_) | refine tk13 ?_ | refine tk14 ?_); (conv => whnf))
      refine hidx ?_
      (conv => whnf); repeat ((first | refine tk1 ?_ | refine tk2 ?_ | refine tk3 ?_ | refine tk12 (fun _ => ?_) | refine tk4 ?_ | refine tk5 ?_ | refine tk6 ?_ | refine tk7 ?_ | refine tk8 ?_ | refine tk9 ?_ | refine tk10 (fun _ _ => ?_) | refine tk11 (fun _ => ?_) | refine tk13 ?_ | refine tk14 ?_); (conv => whnf))
      refine hld ?_
      (conv => whnf); repeat ((first | refine tk1 ?_ | refine tk2 ?_ | refine tk3 ?_ | refine tk12 (fun _ => ?_) | refine tk4 ?_ | refine tk5 ?_ | refine tk6 ?_ | refine tk7 ?_ | refine tk8 ?_ | refine tk9 ?_ | refine tk10 (fun _ _ => ?_) | refine tk11 (fun _ => ?_) | refine tk13 ?_ | refine tk14 ?_); (conv => whnf))
      refine hidx ?_
      (conv => whnf); repeat ((first | refine tk1 ?_ | refine tk2 ?_ | refine tk3 ?_ | refine tk12 (fun _ => ?_) | refine tk4 ?_ | refine tk5 ?_ | refine tk6 ?_ | refine tk7 ?_ | refine tk8 ?_ | refine tk9 ?_ | refine tk10 (fun _ _ => ?_) | refine tk11 (fun _ => ?_) | refine tk13 ?_ | refine tk14 ?_); (conv => whnf))
      refine hld ?_
      by_cases hq0 : q.l.length = 0
      · rw [show prsOK 0 (ps.map pure1) = false by rw [hI, decide_eq_true (List.eq_nil_of_length_eq_zero hq0)]; rfl]
        (conv => whnf); repeat ((first | refine tk1 ?_ | refine tk2 ?_ | refine tk3 ?_ | refine tk12 (fun _ => ?_) | refine tk4 ?_ | refine tk5 ?_ | refine tk6 ?_ | refine tk7 ?_ | refine tk8 ?_ | refine tk9 ?_ | refine tk10 (fun _ _ => ?_) | refine tk11 (fun _ => ?_) | refine tk13 ?_ | refine tk14 ?_); (conv => whnf))
        exact fun w' _ => rfl
      have hqn : q.l ≠ [] := fun h => hq0 (by rw [h]; rfl)
      by_cases hbig : total ((ps.map pure1).take k) + q.l.length ≤ 262144
      · rw [decide_eq_false hqn, decide_eq_true hbig] at hI
        simp only [Bool.not_false, Bool.true_and] at hI
        (conv => whnf); repeat ((first | refine tk1 ?_ | refine tk2 ?_ | refine tk3 ?_ | refine tk12 (fun _ => ?_) | refine tk4 ?_ | refine tk5 ?_ | refine tk6 ?_ | refine tk7 ?_ | refine tk8 ?_ | refine tk9 ?_ | refine tk10 (fun _ _ => ?_) | refine tk11 (fun _ => ?_) | refine tk13 ?_ | refine tk14 ?_); (conv => whnf))
        exact ⟨k + 1, ⟨by omega, hI⟩, by dsimp only; rw [ht1]; rfl, (by repeat' (first | exact List.Sublist.refl _ | exact List.nil_sublist _ | apply List.Sublist.cons_cons | apply List.Sublist.cons)), by dsimp only; omega⟩
      · rw [show prsOK 0 (ps.map pure1) = false by rw [hI, decide_eq_false hbig]; simp]
        (conv => whnf); repeat ((first | refine tk1 ?_ | refine tk2 ?_ | refine tk3 ?_ | refine tk12 (fun _ => ?_) | refine tk4 ?_ | refine tk5 ?_ | refine tk6 ?_ | refine tk7 ?_ | refine tk8 ?_ | refine tk9 ?_ | refine tk10 (fun _ _ => ?_) | refine tk11 (fun _ => ?_) | refine tk13 ?_ | refine tk14 ?_); (conv => whnf))
        exact fun w' _ => rfl
    · rw [show prsOK 0 (ps.map pure1) = true by rw [hI, List.drop_eq_nil_of_le (by rw [List.length_map]; omega)]; rfl]
      (conv => whnf); repeat ((first | refine tk1 ?_ | refine tk2 ?_ | refine tk3 ?_ | refine tk12 (fun _ => ?_) | refine tk4 ?_ | refine tk5 ?_ | refine tk6 ?_ | refine tk7 ?_ | refine tk8 ?_ | refine tk9 ?_ | refine tk10 (fun _ _ => ?_) | refine tk11 (fun _ => ?_) | refine tk13 ?_ | refine tk14 ?_); (conv => whnf))
      exact fun w' _ => rfl
  · (conv => whnf); repeat ((first | refine tk1 ?_ | refine tk2 ?_ | refine tk3 ?_ | refine tk12 (fun _ => ?_) | refine tk4 ?_ | refine tk5 ?_ | refine tk6 ?_ | refine tk7 ?_ | refine tk8 ?_ | refine tk9 ?_ | refine tk10 (fun _ _ => ?_) | refine tk11 (fun _ => ?_) | refine tk13 ?_ | refine tk14 ?_); (conv => whnf))
    refine Cmp.cases (fun c4 => ?_) (fun c4 => ?_)
    · rw [bad1 (anST_bad (.inr (.inr (.inr ⟨hbr, .inl (by omega)⟩))))]
      (conv => whnf); repeat ((first | refine tk1 ?_ | refine tk2 ?_ | refine tk3 ?_ | refine tk12 (fun _ => ?_) | refine tk4 ?_ | refine tk5 ?_ | refine tk6 ?_ | refine tk7 ?_ | refine tk8 ?_ | refine tk9 ?_ | refine tk10 (fun _ _ => ?_) | refine tk11 (fun _ => ?_) | refine tk13 ?_ | refine tk14 ?_); (conv => whnf))
      exact fun w' _ => rfl
    (conv => whnf); repeat ((first | refine tk1 ?_ | refine tk2 ?_ | refine tk3 ?_ | refine tk12 (fun _ => ?_) | refine tk4 ?_ | refine tk5 ?_ | refine tk6 ?_ | refine tk7 ?_ | refine tk8 ?_ | refine tk9 ?_ | refine tk10 (fun _ _ => ?_) | refine tk11 (fun _ => ?_) | refine tk13 ?_ | refine tk14 ?_); (conv => whnf))
    refine Cmp.cases (fun c5 => ?_) (fun c5 => ?_)
    · rw [bad1 (anST_bad (.inr (.inr (.inr ⟨hbr, .inr (by omega)⟩))))]
      (conv => whnf); repeat ((first | refine tk1 ?_ | refine tk2 ?_ | refine tk3 ?_ | refine tk12 (fun _ => ?_) | refine tk4 ?_ | refine tk5 ?_ | refine tk6 ?_ | refine tk7 ?_ | refine tk8 ?_ | refine tk9 ?_ | refine tk10 (fun _ _ => ?_) | refine tk11 (fun _ => ?_) | refine tk13 ?_ | refine tk14 ?_); (conv => whnf))
      exact fun w' _ => rfl
    have hst := anST_good (n := ps.length) (cd := cd.toNat) c1 c2 (by omega) (fun _ => ⟨by omega, by omega⟩)
    clear c1 c2 c3 c4 c5
    (conv => whnf); repeat ((first | refine tk1 ?_ | refine tk2 ?_ | refine tk3 ?_ | refine tk12 (fun _ => ?_) | refine tk4 ?_ | refine tk5 ?_ | refine tk6 ?_ | refine tk7 ?_ | refine tk8 ?_ | refine tk9 ?_ | refine tk10 (fun _ _ => ?_) | refine tk11 (fun _ => ?_) | refine tk13 ?_ | refine tk14 ?_); (conv => whnf))
    refine LoopS.lp tys_ok (fun (k : Nat) u => [u 0, .pointer (some ⟨b, 0, none⟩), u 2, .int .i64 (k : Nat), u 4, u 5, u 6, u 7, u 8, u 9, u 10, u 11, u 12, u 13, u 14, u 15, u 16, u 17, u 18, u 19, u 20, u 21, u 22, u 23, u 24, u 25, u 26, u 27, u 28, u 29, u 30, u 31, u 32, u 33, u 34, u 35, u 36, u 37, u 38, u 39, u 40, u 41, u 42, u 43, u 44, u 45, u 46, u 47, u 48, u 49, u 50, u 51, u 52, u 53, u 54, u 55, u 56, u 57, u 58, u 59, u 60, u 61, u 62, u 63, u 64, u 65, u 66, u 67, u 68, u 69, u 70, u 71, u 72, u 73, u 74, u 75, u 76, u 77, u 78, u 79, u 80, u 81, u 82, u 83, u 84, u 85, u 86, u 87, u 88, u 89, u 90, u 91, u 92, u 93, u 94]) (fun _ => [.box b [.int .i64 st, .slice FA F.length Fc, .slice QA ps.length Qc, .int .u8 cd.toNat, str tag, .bool press] 25])
      (fun k => k ≤ F.length ∧ (F.take k).all fldR = true) (fun k => F.length - k) 0 ⟨Nat.zero_le _, rfl⟩ rfl (by repeat' (first | exact List.Sublist.refl _ | exact List.nil_sublist _ | apply List.Sublist.cons_cons | apply List.Sublist.cons)) ?_
    rintro k u ⟨hk, hI⟩
    (conv => whnf); repeat ((first | refine tk1 ?_ | refine tk2 ?_ | refine tk3 ?_ | refine tk12 (fun _ => ?_) | refine tk4 ?_ | refine tk5 ?_ | refine tk6 ?_ | refine tk7 ?_ | refine tk8 ?_ | refine tk9 ?_ | refine tk10 (fun _ _ => ?_) | refine tk11 (fun _ => ?_) | refine tk13 ?_ | refine tk14 ?_); (conv => whnf))
    refine Cmp.cases (fun hlt => ?_) (fun hlt => ?_)
    · as_aux_lemma =>
      have hlt' : k < F.length := by omega
      have hsn := all_snoc_take fldR F k hlt' hI
      have h2 := fcells_two F k hlt'
      have h3 := fcells_0 F k hlt'
      have hm9 := List.getElem_mem hlt'
      obtain ⟨n, v, hf⟩ : ∃ n v, F[k] = (n, v) := ⟨_, _, rfl⟩
      rw [hf] at hsn h2 hm9 h3
      have badf : fldR (n, v) = false → anOK st F (ps.map pure1) cd.toNat = false := fun h => by unfold anOK; rw [all_bad hm9 h]; simp
      (conv => whnf); repeat ((first | refine tk1 ?_ | refine tk2 ?_ | refine tk3 ?_ | refine tk12 (fun _ => ?_) | refine tk4 ?_ | refine tk5 ?_ | refine tk6 ?_ | refine tk7 ?_ | refine tk8 ?_ | refine tk9 ?_ | refine tk10 (fun _ _ => ?_) | refine tk11 (fun _ => ?_) | refine tk13 ?_ | refine tk14 ?_); (conv => whnf))
      refine IdxA.tc (xs := fcells F) (by rw [fcells_length]; omega) (by omega) (by omega) ?_
      (conv => whnf); repeat ((first | refine tk1 ?_ | refine tk2 ?_ | refine tk3 ?_ | refine tk12 (fun _ => ?_) | refine tk4 ?_ | refine tk5 ?_ | refine tk6 ?_ | refine tk7 ?_ | refine tk8 ?_ | refine tk9 ?_ | refine tk10 (fun _ _ => ?_) | refine tk11 (fun _ => ?_) | refine tk13 ?_ | refine tk14 ?_); (conv => whnf))
      refine Ld.taN h2 rfl ?_
      (conv => whnf); repeat ((first | refine tk1 ?_ | refine tk2 ?_ | refine tk3 ?_ | refine tk12 (fun _ => ?_) | refine tk4 ?_ | refine tk5 ?_ | refine tk6 ?_ | refine tk7 ?_ | refine tk8 ?_ | refine tk9 ?_ | refine tk10 (fun _ _ => ?_) | refine tk11 (fun _ => ?_) | refine tk13 ?_ | refine tk14 ?_); (conv => whnf))
      refine CallK.fn (May_r n v) ?_
      cases hfo : fieldOK n v
      · rw [badf (by unfold fldR; rw [hfo]; rfl)]
        (conv => whnf); repeat ((first | refine tk1 ?_ | refine tk2 ?_ | refine tk3 ?_ | refine tk12 (fun _ => ?_) | refine tk4 ?_ | refine tk5 ?_ | refine tk6 ?_ | refine tk7 ?_ | refine tk8 ?_ | refine tk9 ?_ | refine tk10 (fun _ _ => ?_) | refine tk11 (fun _ => ?_) | refine tk13 ?_ | refine tk14 ?_); (conv => whnf))
        exact fun w' _ => rfl
      · (conv => whnf); repeat ((first | refine tk1 ?_ | refine tk2 ?_ | refine tk3 ?_ | refine tk12 (fun _ => ?_) | refine tk4 ?_ | refine tk5 ?_ | refine tk6 ?_ | refine tk7 ?_ | refine tk8 ?_ | refine tk9 ?_ | refine tk10 (fun _ _ => ?_) | refine tk11 (fun _ => ?_) | refine tk13 ?_ | refine tk14 ?_); (conv => whnf))
        refine IdxA.tc (xs := fcells F) (by rw [fcells_length]; omega) (by omega) (by omega) ?_
        (conv => whnf); repeat ((first | refine tk1 ?_ | refine tk2 ?_ | refine tk3 ?_ | refine tk12 (fun _ => ?_) | refine tk4 ?_ | refine tk5 ?_ | refine tk6 ?_ | refine tk7 ?_ | refine tk8 ?_ | refine tk9 ?_ | refine tk10 (fun _ _ => ?_) | refine tk11 (fun _ => ?_) | refine tk13 ?_ | refine tk14 ?_); (conv => whnf))
        refine Ld.taF (v := str n) h3 ?_
        (conv => whnf); repeat ((first | refine tk1 ?_ | refine tk2 ?_ | refine tk3 ?_ | refine tk12 (fun _ => ?_) | refine tk4 ?_ | refine tk5 ?_ | refine tk6 ?_ | refine tk7 ?_ | refine tk8 ?_ | refine tk9 ?_ | refine tk10 (fun _ _ => ?_) | refine tk11 (fun _ => ?_) | refine tk13 ?_ | refine tk14 ?_); (conv => whnf))
        have hrel := own_rel n
        refine Cmp.cases (fun he => ?_) (fun he => ?_)
        · have he' : n ≠ etN := he
          (conv => whnf); repeat ((first | refine tk1 ?_ | refine tk2 ?_ | refine tk3 ?_ | refine tk12 (fun _ => ?_) | refine tk4 ?_ | refine tk5 ?_ | refine tk6 ?_ | refine tk7 ?_ | refine tk8 ?_ | refine tk9 ?_ | refine tk10 (fun _ _ => ?_) | refine tk11 (fun _ => ?_) | refine tk13 ?_ | refine tk14 ?_); (conv => whnf))
          refine IdxA.tc (xs := fcells F) (by rw [fcells_length]; omega) (by omega) (by omega) ?_
          (conv => whnf); repeat ((first | refine tk1 ?_ | refine tk2 ?_ | refine tk3 ?_ | refine tk12 (fun _ => ?_) | refine tk4 ?_ | refine tk5 ?_ | refine tk6 ?_ | refine tk7 ?_ | refine tk8 ?_ | refine tk9 ?_ | refine tk10 (fun _ _ => ?_) | refine tk11 (fun _ => ?_) | refine tk13 ?_ | refine tk14 ?_); (conv => whnf))
          refine Ld.taF (v := str n) h3 ?_
          (conv => whnf); repeat ((first | refine tk1 ?_ | refine tk2 ?_ | refine tk3 ?_ | refine tk12 (fun _ => ?_) | refine tk4 ?_ | refine tk5 ?_ | refine tk6 ?_ | refine tk7 ?_ | refine tk8 ?_ | refine tk9 ?_ | refine tk10 (fun _ _ => ?_) | refine tk11 (fun _ => ?_) | refine tk13 ?_ | refine tk14 ?_); (conv => whnf))
          refine CallK.fn (Own_r n) ?_
          rw [hrel.1 he']
          cases hc : ownR.contains n
          · rw [show fldR (n, v) = true by unfold fldR; rw [hfo, hc]; rfl] at hsn
            (conv => whnf); repeat ((first | refine tk1 ?_ | refine tk2 ?_ | refine tk3 ?_ | refine tk12 (fun _ => ?_) | refine tk4 ?_ | refine tk5 ?_ | refine tk6 ?_ | refine tk7 ?_ | refine tk8 ?_ | refine tk9 ?_ | refine tk10 (fun _ _ => ?_) | refine tk11 (fun _ => ?_) | refine tk13 ?_ | refine tk14 ?_); (conv => whnf))
            exact ⟨k + 1, ⟨by omega, hsn⟩, rfl, (by repeat' (first | exact List.Sublist.refl _ | exact List.nil_sublist _ | apply List.Sublist.cons_cons | apply List.Sublist.cons)), by dsimp only; omega⟩
          · rw [badf (by unfold fldR; rw [hc]; simp)]
            (conv => whnf); repeat ((first | refine tk1 ?_ | refine tk2 ?_ | refine tk3 ?_ | refine tk12 (fun _ => ?_) | refine tk4 ?_ | refine tk5 ?_ | refine tk6 ?_ | refine tk7 ?_ | refine tk8 ?_ | refine tk9 ?_ | refine tk10 (fun _ _ => ?_) | refine tk11 (fun _ => ?_) | refine tk13 ?_ | refine tk14 ?_); (conv => whnf))
            exact fun w' _ => rfl
        · have he' : n = etN := Classical.not_not.1 he
          rw [show fldR (n, v) = true by unfold fldR; rw [hfo, hrel.2 he']; rfl] at hsn
          (conv => whnf); repeat ((first | refine tk1 ?_ | refine tk2 ?_ | refine tk3 ?_ | refine tk12 (fun _ => ?_) | refine tk4 ?_ | refine tk5 ?_ | refine tk6 ?_ | refine tk7 ?_ | refine tk8 ?_ | refine tk9 ?_ | refine tk10 (fun _ _ => ?_) | refine tk11 (fun _ => ?_) | refine tk13 ?_ | refine tk14 ?_); (conv => whnf))
          exact ⟨k + 1, ⟨by omega, hsn⟩, rfl, (by repeat' (first | exact List.Sublist.refl _ | exact List.nil_sublist _ | apply List.Sublist.cons_cons | apply List.Sublist.cons)), by dsimp only; omega⟩
    have hFok : F.all fldR = true := by rw [List.take_of_length_le (by omega)] at hI; exact hI
    have hAE : anOK st F (ps.map pure1) cd.toNat = prsOK 0 (ps.map pure1) := by
      unfold anOK
      rw [List.length_map, hst, hFok]
      rfl
    rw [hAE]
    clear hI hlt hk bad1 hAE
    (conv => whnf); repeat ((first | refine tk1 ?_ | refine tk2 ?_ | refine tk3 ?_ | refine tk12 (fun _ => ?_) | refine tk4 ?_ | refine tk5 ?_ | refine tk6 ?_ | refine tk7 ?_ | refine tk8 ?_ | refine tk9 ?_ | refine tk10 (fun _ _ => ?_) | refine tk11 (fun _ => ?_) | refine tk13 ?_ | refine tk14 ?_); (conv => whnf))
    refine LoopS.lp tys_ok (fun (k : Nat) u => [u 0, .pointer (some ⟨b, 0, none⟩), u 2, u 3, .int .i64 (total ((ps.map pure1).take k) : Nat), .int .i64 (k : Nat), u 6, u 7, u 8, u 9, u 10, u 11, u 12, u 13, u 14, u 15, u 16, u 17, u 18, u 19, u 20, u 21, u 22, u 23, u 24, u 25, u 26, u 27, u 28, u 29, u 30, u 31, u 32, u 33, u 34, u 35, u 36, u 37, u 38, u 39, u 40, u 41, u 42, u 43, u 44, u 45, u 46, u 47, u 48, u 49, u 50, u 51, u 52, u 53, u 54, u 55, u 56, u 57, u 58, u 59, u 60, u 61, u 62, u 63, u 64, u 65, u 66, u 67, u 68, u 69, u 70, u 71, u 72, u 73, u 74, u 75, u 76, u 77, u 78, u 79, u 80, u 81, u 82, u 83, u 84, u 85, u 86, u 87, u 88, u 89, u 90, u 91, u 92, u 93, u 94]) (fun _ => [.box b [.int .i64 st, .slice FA F.length Fc, .slice QA ps.length Qc, .int .u8 cd.toNat, str tag, .bool press] 25])
      (fun k => k ≤ ps.length ∧ prsOK 0 (ps.map pure1) = prsOK (total ((ps.map pure1).take k)) ((ps.map pure1).drop k)) (fun k => ps.length - k) 0 ⟨Nat.zero_le _, rfl⟩ rfl (by repeat' (first | exact List.Sublist.refl _ | exact List.nil_sublist _ | apply List.Sublist.cons_cons | apply List.Sublist.cons)) ?_
    rintro k u ⟨hk, hI⟩
    (conv => whnf); repeat ((first | refine tk1 ?_ | refine tk2 ?_ | refine tk3 ?_ | refine tk12 (fun _ => ?_) | refine tk4 ?_ | refine tk5 ?_ | refine tk6 ?_ | refine tk7 ?_ | refine tk8 ?_ | refine tk9 ?_ | refine tk10 (fun _ _ => ?_) | refine tk11 (fun _ => ?_) | refine tk13 ?_ | refine tk14 ?_); (conv => whnf))
    refine Cmp.cases (fun hlt => ?_) (fun hlt => ?_)
    · as_aux_lemma =>
      have hlt' : k < ps.length := by omega
      have hkp : k < (ps.map pure1).length := by rw [List.length_map]; exact hlt'
      have h2 := (pcells_at ps k hlt').1
      have htk := total_take (ps.map pure1) (k + 1)
      have ht1 : total ((ps.map pure1).take (k + 1)) = total ((ps.map pure1).take k) + ps[k].l.length := by
        rw [List.take_succ_eq_append_getElem hkp, total_append, List.getElem_map]; simp [total, pure1]
      rw [ht1] at htk
      rw [List.drop_eq_getElem_cons hkp, List.getElem_map] at hI
      generalize ps[k] = q at *
      have hcons : prsOK (total ((ps.map pure1).take k)) (pure1 q :: (ps.map pure1).drop (k + 1)) = (!decide (q.l = []) && (decide (total ((ps.map pure1).take k) + q.l.length ≤ 262144) && prsOK (total ((ps.map pure1).take k) + q.l.length) ((ps.map pure1).drop (k + 1)))) := rfl
      rw [hcons] at hI
      clear hcons
      rw [show (prsOK (total ((ps.map pure1).take k) + q.l.length) ((ps.map pure1).drop (k + 1))) = prsOK (total ((ps.map pure1).take (k + 1))) ((ps.map pure1).drop (k + 1)) by rw [ht1]] at hI
      have hidx : ∀ {H : Hp} {K : Value → Prop}, K (.pointer (some ((QA.getD at0).add (((k : Nat) : Int).toNat * 2)))) → IdxA (mkC Tryd.prog gI w hG) H QA ps.length (k : Int) 2 K := fun h => IdxA.tc (xs := pcells ps) (by rw [pcells_length]; omega) (by omega) (by omega) h
      have hld : ∀ {H : Hp} {K : Value → Prop}, K (.slice q.A q.l.length q.cp) → Ld (mkC Tryd.prog gI w hG) H (.pointer (some (((QA.getD at0).add (((k : Nat) : Int).toNat * 2)).add 0))) none K := fun h => Ld.taF (xs := pcells ps) (v := .slice q.A q.l.length q.cp) (by rw [Int.toNat_natCast]; exact h2) h
      (conv => whnf); repeat ((first | refine tk1 ?_ | refine tk2 ?_ | refine tk3 ?_ | refine tk12 (fun _ => ?_) | refine tk4 ?_ | refine tk5 ?_ | refine tk6 ?_ | refine tk7 ?_ | refine tk8 ?_ | refine tk9 ?_ | refine tk10 (fun _ _ => ?_) | refine tk11 (fun _ => ?_) | refine tk13 ?_ | refine tk14 ?_); (conv => whnf))
      refine hidx ?_
      (conv => whnf); repeat ((first | refine tk1 ?_ | refine tk2 ?_ | refine tk3 ?_ | refine tk12 (fun _ => ?_) | refine tk4 ?_ | refine tk5 ?_ | refine tk6 ?_ | refine tk7 ?_ | refine tk8 ?_ | refine tk9 ?_ | refine tk10 (fun _ _ => ?_) | refine tk11 (fun _ => ?_) | refine tk13 ?_ | refine tk14 ?_); (conv => whnf))
      refine hld ?_
      (conv => whnf); repeat ((first | refine tk1 ?_ | refine tk2 ?_ | refine tk3 ?_ | refine tk12 (fun _ => ?_) | refine tk4 ?_ | refine tk5 ?_ | refine tk6 ?_ | refine tk7 ?_ | refine tk8 ?_ | refine tk9 ?_ | refine tk10 (fun _ _ => ?_) | refine tk11 (fun _ => ?_) | refine tk13 ?_ | refine tk14 ?_); (conv => whnf))
      refine hidx ?_
      (conv => whnf); repeat ((first | refine tk1 ?_ | refine tk2 ?_ | refine tk3 ?_ | refine tk12 (fun _ => ?_) | refine tk4 ?_ | refine tk5 ?_ | refine tk6 ?_ | refine tk7 ?_ | refine tk8 ?_ | refine tk9 ?_ | refine tk10 (fun _ _ => ?_) | refine tk11 (fun _ => ?_) | refine tk13 ?_ | refine tk14 ?_); (conv => whnf))
      refine hld ?_
      by_cases hq0 : q.l.length = 0
      · rw [show prsOK 0 (ps.map pure1) = false by rw [hI, decide_eq_true (List.eq_nil_of_length_eq_zero hq0)]; rfl]
        (conv => whnf); repeat ((first | refine tk1 ?_ | refine tk2 ?_ | refine tk3 ?_ | refine tk12 (fun _ => ?_) | refine tk4 ?_ | refine tk5 ?_ | refine tk6 ?_ | refine tk7 ?_ | refine tk8 ?_ | refine tk9 ?_ | refine tk10 (fun _ _ => ?_) | refine tk11 (fun _ => ?_) | refine tk13 ?_ | refine tk14 ?_); (conv => whnf))
        exact fun w' _ => rfl
      have hqn : q.l ≠ [] := fun h => hq0 (by rw [h]; rfl)
      by_cases hbig : total ((ps.map pure1).take k) + q.l.length ≤ 262144
      · rw [decide_eq_false hqn, decide_eq_true hbig] at hI
        simp only [Bool.not_false, Bool.true_and] at hI
        (conv => whnf); repeat ((first | refine tk1 ?_ | refine tk2 ?_ | refine tk3 ?_ | refine tk12 (fun _ => ?_) | refine tk4 ?_ | refine tk5 ?_ | refine tk6 ?_ | refine tk7 ?_ | refine tk8 ?_ | refine tk9 ?_ | refine tk10 (fun _ _ => ?_) | refine tk11 (fun _ => ?_) | refine tk13 ?_ | refine tk14 ?_); (conv => whnf))
        exact ⟨k + 1, ⟨by omega, hI⟩, by dsimp only; rw [ht1]; rfl, (by repeat' (first | exact List.Sublist.refl _ | exact List.nil_sublist _ | apply List.Sublist.cons_cons | apply List.Sublist.cons)), by dsimp only; omega⟩
      · rw [show prsOK 0 (ps.map pure1) = false by rw [hI, decide_eq_false hbig]; simp]
        (conv => whnf); repeat ((first | refine tk1 ?_ | refine tk2 ?_ | refine tk3 ?_ | refine tk12 (fun _ => ?_) | refine tk4 ?_ | refine tk5 ?_ | refine tk6 ?_ | refine tk7 ?_ | refine tk8 ?_ | refine tk9 ?_ | refine tk10 (fun _ _ => ?_) | refine tk11 (fun _ => ?_) | refine tk13 ?_ | refine tk14 ?_); (conv => whnf))
        exact fun w' _ => rfl
    · rw [show prsOK 0 (ps.map pure1) = true by rw [hI, List.drop_eq_nil_of_le (by rw [List.length_map]; omega)]; rfl]
      (conv => whnf); repeat ((first | refine tk1 ?_ | refine tk2 ?_ | refine tk3 ?_ | refine tk12 (fun _ => ?_) | refine tk4 ?_ | refine tk5 ?_ | refine tk6 ?_ | refine tk7 ?_ | refine tk8 ?_ | refine tk9 ?_ | refine tk10 (fun _ _ => ?_) | refine tk11 (fun _ => ?_) | refine tk13 ?_ | refine tk14 ?_); (conv => whnf))
      exact fun w' _ => rfl
end Go.Proofs.YtnnpnkmdhfjccaaDoor.Vex
/- The document's own answer for answers as bytes, reckoned: Head. -/
namespace Go.Proofs.YtnnpnkmdhfjccaaDoor.Vex
open Go Go.RowKit
set_option maxRecDepth 100000
set_option linter.unusedSectionVars false
variable {gI : GI} [HasMax gI] [HasPow gI]

set_option maxHeartbeats 8000000 in
theorem Head29_r (st : Int) (FA : Option Addr) (Fc : Nat) (F : List Fld) (QA : Option Addr) (Qc : Nat) (ps : List Prt) (cd : UInt8) (tag : List UInt8) (press : Bool) (minor : Int) (cl : Bool) (hF : fsum F ≤ 1048576) (hn : ps.length ≤ 1000) (htl : total (ps.map pure1) ≤ 131072) (hcd : cd.toNat ≤ 2) (hst : 200 ≤ st) (hst2 : st ≤ 599) :
    FnE Tryd.prog gI 46 [.agg ⟨[.int .i64 st, .slice FA F.length Fc, .slice QA ps.length Qc, .int .u8 cd.toNat, str tag, .bool press]⟩, .int .i64 minor, .bool cl] (fun w => Rdw w FA (fcells F) ∧ PrtsOk w QA ps) fun _ v _ => v = str (headR st F (ps.map pure1) cd.toNat (chunkB st (ps.map pure1) cd.toNat minor) cl) := by
  have hLz := headR_le st F (ps.map pure1) cd.toNat (chunkB st (ps.map pure1) cd.toNat minor) cl hF hst hst2 (by omega)
  have hstr := rstreamed_r (gI := gI) st FA F.length Fc QA Qc ps cd tag press (by omega)
  have hbare := bare_r (gI := gI) st
  have hnm := named_r (gI := gI) cd hcd
  have hll := linesR_le F
  have hFl := fsum_length F
  have hit := Lib.itoa_length_le st (by omega) (by omega)
  have hnum := number_r (gI := gI) st.toNat (by omega)
  rw [show ((st.toNat : Nat) : Int) = st by omega] at hnum
  have hnt := number_r (gI := gI) (total (ps.map pure1)) (by omega)
  have hitl := Lib.itoa_length_le (total (ps.map pure1) : Nat) (by omega) (by omega)
  have hcn : (codNm cd.toNat).length ≤ 20 := by unfold codNm; split <;> (try split) <;> decide
  refine FnE.of tys_ok Tryd.func46 rfl (by kernel_rfl) rfl rfl ?_; intro w hG hP
  have hRF : ∀ H, RdA (mkC Tryd.prog gI w hG) H FA (fcells F) := fun H => ⟨hP.1.now⟩
  have hRQ : ∀ H, RdA (mkC Tryd.prog gI w hG) H QA (pcells ps) := fun H => ⟨hP.2.1.now⟩
  have hRq : ∀ q ∈ ps, ∀ H, RdA (mkC Tryd.prog gI w hG) H q.A (q.l.map byteV) := fun q hm H => ⟨(hP.2.2 q hm).now⟩
  have hPQ : ∀ H w', St (mkC Tryd.prog gI w hG) H w' → PrtsOk w' QA ps := fun H w' hw' => ⟨(hRQ H).ok w' hw', fun q hm => (hRq q hm H).ok w' hw'⟩
  clear hP
  (conv => whnf); repeat ((first | refine tk1 ?_ | refine tk2 ?_ | refine tk3 ?_ | refine tk12 (fun _ => ?_) | refine tk4 ?_ | refine tk5 ?_ | refine tk6 ?_ | refine tk7 ?_ | refine tk8 ?_ | refine tk9 ?_ | refine tk10 (fun _ _ => ?_) | refine tk11 (fun _ => ?_) | refine tk13 ?_ | refine tk14 ?_); (conv => whnf))
  rename_i b
  refine CallK.fn hnum ?_
  (conv => whnf); repeat ((first | refine tk1 ?_ | refine tk2 ?_ | refine tk3 ?_ | refine tk12 (fun _ => ?_) | refine tk4 ?_ | refine tk5 ?_ | refine tk6 ?_ | refine tk7 ?_ | refine tk8 ?_ | refine tk9 ?_ | refine tk10 (fun _ _ => ?_) | refine tk11 (fun _ => ?_) | refine tk13 ?_ | refine tk14 ?_); (conv => whnf))
  refine CatS.at (by simp; omega) ?_
  (conv => whnf); repeat ((first | refine tk1 ?_ | refine tk2 ?_ | refine tk3 ?_ | refine tk12 (fun _ => ?_) | refine tk4 ?_ | refine tk5 ?_ | refine tk6 ?_ | refine tk7 ?_ | refine tk8 ?_ | refine tk9 ?_ | refine tk10 (fun _ _ => ?_) | refine tk11 (fun _ => ?_) | refine tk13 ?_ | refine tk14 ?_); (conv => whnf))
  refine CatS.at (by simp; omega) ?_
  (conv => whnf); repeat ((first | refine tk1 ?_ | refine tk2 ?_ | refine tk3 ?_ | refine tk12 (fun _ => ?_) | refine tk4 ?_ | refine tk5 ?_ | refine tk6 ?_ | refine tk7 ?_ | refine tk8 ?_ | refine tk9 ?_ | refine tk10 (fun _ _ => ?_) | refine tk11 (fun _ => ?_) | refine tk13 ?_ | refine tk14 ?_); (conv => whnf))
  obtain ⟨l1, hl1⟩ : ∃ l1, (firstR ++ Lib.itoa st) ++ [32, 13, 10] = l1 := ⟨_, rfl⟩
  have hz1 : l1.length ≤ 40 := by rw [← hl1]; simp [firstR]; omega
  refine LoopS.lp tys_ok (fun (k : Nat) u => [u 0, .int .i64 minor, .bool cl, .pointer (some ⟨b, 0, none⟩), u 4, u 5, u 6, str (l1 ++ linesR (F.take k)), .int .i64 (k : Nat), u 9, u 10, u 11, u 12, u 13, u 14, u 15, u 16, u 17, u 18, u 19, u 20, u 21, u 22, u 23, u 24, u 25, u 26, u 27, u 28, u 29, u 30, u 31, u 32, u 33, u 34, u 35, u 36, u 37, u 38, u 39, u 40, u 41, u 42, u 43, u 44, u 45, u 46, u 47, u 48, u 49, u 50, u 51, u 52, u 53, u 54, u 55, u 56, u 57, u 58, u 59, u 60, u 61, u 62, u 63, u 64, u 65, u 66, u 67, u 68, u 69, u 70, u 71, u 72, u 73, u 74, u 75, u 76, u 77, u 78, u 79, u 80, u 81, u 82, u 83, u 84]) (fun _ => [.box b [.int .i64 st, .slice FA F.length Fc, .slice QA ps.length Qc, .int .u8 cd.toNat, str tag, .bool press] 25])
    (fun k => k ≤ F.length) (fun k => F.length - k) 0 (Nat.zero_le _) (by simp only [List.take_zero, linesR, List.flatMap_nil, List.append_nil]; rw [← hl1]; rfl) (by repeat' (first | exact List.Sublist.refl _ | exact List.nil_sublist _ | apply List.Sublist.cons_cons | apply List.Sublist.cons)) ?_
  intro k u hk
  have hti := linesR_take_le F k
  have hz2 : (l1 ++ linesR (F.take k)).length ≤ 8000000 := by rw [List.length_append]; omega
  by_cases hlt : k < F.length
  · as_aux_lemma =>
    have h3 := fcells_0 F k hlt
    have h4 := fcells_1 F k hlt
    have hm9 := List.getElem_mem hlt
    have hz := fsum_mem hm9
    have hnx := linesR_take F k hlt
    obtain ⟨n, v, hf⟩ : ∃ n v, F[k] = (n, v) := ⟨_, _, rfl⟩
    rw [hf] at h3 h4 hz hnx
    dsimp only at hz hnx
    (conv => whnf); repeat ((first | refine tk1 ?_ | refine tk2 ?_ | refine tk3 ?_ | refine tk12 (fun _ => ?_) | refine tk4 ?_ | refine tk5 ?_ | refine tk6 ?_ | refine tk7 ?_ | refine tk8 ?_ | refine tk9 ?_ | refine tk10 (fun _ _ => ?_) | refine tk11 (fun _ => ?_) | refine tk13 ?_ | refine tk14 ?_); (conv => whnf))
    refine DrawS.go (qs 18) tys_ok mixed (by kernel_rfl) ?_
    (conv => whnf); repeat ((first | refine tk1 ?_ | refine tk2 ?_ | refine tk3 ?_ | refine tk12 (fun _ => ?_) | refine tk4 ?_ | refine tk5 ?_ | refine tk6 ?_ | refine tk7 ?_ | refine tk8 ?_ | refine tk9 ?_ | refine tk10 (fun _ _ => ?_) | refine tk11 (fun _ => ?_) | refine tk13 ?_ | refine tk14 ?_); (conv => whnf))
    refine IdxA.tc (xs := fcells F) (by rw [fcells_length]; omega) (by omega) (by omega) ?_
    (conv => whnf); repeat ((first | refine tk1 ?_ | refine tk2 ?_ | refine tk3 ?_ | refine tk12 (fun _ => ?_) | refine tk4 ?_ | refine tk5 ?_ | refine tk6 ?_ | refine tk7 ?_ | refine tk8 ?_ | refine tk9 ?_ | refine tk10 (fun _ _ => ?_) | refine tk11 (fun _ => ?_) | refine tk13 ?_ | refine tk14 ?_); (conv => whnf))
    refine Ld.taF (v := str n) h3 ?_
    (conv => whnf); repeat ((first | refine tk1 ?_ | refine tk2 ?_ | refine tk3 ?_ | refine tk12 (fun _ => ?_) | refine tk4 ?_ | refine tk5 ?_ | refine tk6 ?_ | refine tk7 ?_ | refine tk8 ?_ | refine tk9 ?_ | refine tk10 (fun _ _ => ?_) | refine tk11 (fun _ => ?_) | refine tk13 ?_ | refine tk14 ?_); (conv => whnf))
    refine CatS.at (by simp only [List.length_append, List.length_cons, List.length_nil] at hz2 ⊢; omega) ?_
    (conv => whnf); repeat ((first | refine tk1 ?_ | refine tk2 ?_ | refine tk3 ?_ | refine tk12 (fun _ => ?_) | refine tk4 ?_ | refine tk5 ?_ | refine tk6 ?_ | refine tk7 ?_ | refine tk8 ?_ | refine tk9 ?_ | refine tk10 (fun _ _ => ?_) | refine tk11 (fun _ => ?_) | refine tk13 ?_ | refine tk14 ?_); (conv => whnf))
    refine CatS.at (by simp only [List.length_append, List.length_cons, List.length_nil] at hz2 ⊢; omega) ?_
    (conv => whnf); repeat ((first | refine tk1 ?_ | refine tk2 ?_ | refine tk3 ?_ | refine tk12 (fun _ => ?_) | refine tk4 ?_ | refine tk5 ?_ | refine tk6 ?_ | refine tk7 ?_ | refine tk8 ?_ | refine tk9 ?_ | refine tk10 (fun _ _ => ?_) | refine tk11 (fun _ => ?_) | refine tk13 ?_ | refine tk14 ?_); (conv => whnf))
    refine IdxA.tc (xs := fcells F) (by rw [fcells_length]; omega) (by omega) (by omega) ?_
    (conv => whnf); repeat ((first | refine tk1 ?_ | refine tk2 ?_ | refine tk3 ?_ | refine tk12 (fun _ => ?_) | refine tk4 ?_ | refine tk5 ?_ | refine tk6 ?_ | refine tk7 ?_ | refine tk8 ?_ | refine tk9 ?_ | refine tk10 (fun _ _ => ?_) | refine tk11 (fun _ => ?_) | refine tk13 ?_ | refine tk14 ?_); (conv => whnf))
    refine Ld.taF (v := str v) h4 ?_
    (conv => whnf); repeat ((first | refine tk1 ?_ | refine tk2 ?_ | refine tk3 ?_ | refine tk12 (fun _ => ?_) | refine tk4 ?_ | refine tk5 ?_ | refine tk6 ?_ | refine tk7 ?_ | refine tk8 ?_ | refine tk9 ?_ | refine tk10 (fun _ _ => ?_) | refine tk11 (fun _ => ?_) | refine tk13 ?_ | refine tk14 ?_); (conv => whnf))
    refine CatS.at (by simp only [List.length_append, List.length_cons, List.length_nil] at hz2 ⊢; omega) ?_
    (conv => whnf); repeat ((first | refine tk1 ?_ | refine tk2 ?_ | refine tk3 ?_ | refine tk12 (fun _ => ?_) | refine tk4 ?_ | refine tk5 ?_ | refine tk6 ?_ | refine tk7 ?_ | refine tk8 ?_ | refine tk9 ?_ | refine tk10 (fun _ _ => ?_) | refine tk11 (fun _ => ?_) | refine tk13 ?_ | refine tk14 ?_); (conv => whnf))
    refine CatS.at (by simp only [List.length_append, List.length_cons, List.length_nil] at hz2 ⊢; omega) ?_
    (conv => whnf); repeat ((first | refine tk1 ?_ | refine tk2 ?_ | refine tk3 ?_ | refine tk12 (fun _ => ?_) | refine tk4 ?_ | refine tk5 ?_ | refine tk6 ?_ | refine tk7 ?_ | refine tk8 ?_ | refine tk9 ?_ | refine tk10 (fun _ _ => ?_) | refine tk11 (fun _ => ?_) | refine tk13 ?_ | refine tk14 ?_); (conv => whnf))
    exact ⟨k + 1, by omega, by dsimp only; rw [show l1 ++ linesR (F.take (k + 1)) = l1 ++ linesR (F.take k) ++ n ++ [58, 32] ++ v ++ [13, 10] by rw [hnx]; simp [lineR]]; rfl, (by repeat' (first | exact List.Sublist.refl _ | exact List.nil_sublist _ | apply List.Sublist.cons_cons | apply List.Sublist.cons)), by dsimp only; omega⟩
  obtain rfl : k = F.length := by omega
  rw [List.take_length] at hz2 ⊢
  obtain ⟨l2, hl2⟩ : ∃ l2, l1 ++ linesR F = l2 := ⟨_, rfl⟩
  rw [hl2] at hz2 ⊢
  have e0 : l2 = firstR ++ Lib.itoa st ++ [32, 13, 10] ++ linesR F := by rw [← hl2, ← hl1]
  clear hk hlt hl1 hl2 hti hnum hLz
  have hmn : minor = 1 ∨ minor ≠ 1 := by omega
  by_cases c0 : cd.toNat = 0 <;> cases hb : bareB st <;> cases hs : streamB (ps.map pure1) cd.toNat <;> rcases hmn with hm | hm <;> cases cl
  all_goals as_aux_lemma =>
    have hs' := hs
    try rw [c0] at hs'
    (repeat' ((conv => whnf); first | (first | refine tk1 ?_ | refine tk2 ?_ | refine tk3 ?_ | refine tk12 (fun _ => ?_) | refine tk4 ?_ | refine tk5 ?_ | refine tk6 ?_ | refine tk7 ?_ | refine tk8 ?_ | refine tk9 ?_ | refine tk10 (fun _ _ => ?_) | refine tk11 (fun _ => ?_) | refine tk13 ?_ | refine tk14 ?_) | refine Cmp.cases (fun _ => ?_) (fun _ => ?_) | refine IdxS.nat (by omega) ?_ | refine IdxS.go (by omega) (by omega) (fun _ _ _ => ?_) | refine SlcS.at (by omega) (by omega) (by omega) ?_ | refine CatS.at (by simp only [List.length_append, List.length_cons, List.length_nil]; omega) ?_ | (refine CallK.fn hnm ?_) | (refine CallK.fn hbare ?_; rw [hb]) | (refine CallK.fnR hstr ⟨(hRQ _).ok, trivial⟩ ?_; rw [hs]) | (refine CallK.fnG (G := fun v => v) (Body_r QA Qc ps (by omega) (by omega)) (fun w hw => hPQ _ w hw) (fun _ _ _ => ?_); rw [total_bodyOf]) | (refine CallK.fn hnt ?_) | (exact fun w' _ => congrArg str (by rw [e0]; simp [headR, lengthR, chunkB, lineR, ceN, teN, clN, coN, chunkedN, closeN, c0, hb, hs, hs', hm])))); all_goals (conv => whnf)
end Go.Proofs.YtnnpnkmdhfjccaaDoor.Vex
/- The document's own answer for answers as bytes, reckoned: Told. -/
namespace Go.Proofs.YtnnpnkmdhfjccaaDoor.Vex
open Go Go.RowKit
set_option maxRecDepth 100000
set_option linter.unusedSectionVars false
variable {gI : GI} [HasMax gI] [HasPow gI] [HasTz gI]

theorem prsOK_ne : ∀ (n : Nat) (l : Prs), prsOK n l = true → ∀ p ∈ l, p.1 ≠ []
  | n, p :: r, h, q, hq => by
    unfold prsOK at h
    simp only [Bool.and_eq_true, Bool.not_eq_true', decide_eq_false_iff_not] at h
    rcases List.mem_cons.1 hq with rfl | hq
    · exact h.1
    · exact prsOK_ne _ r h.2.2 q hq
theorem wrapG_ne {b : List UInt8} (h : b ≠ []) : wrapG b ≠ [] := by unfold wrapG; rw [if_neg h]; simp
set_option maxHeartbeats 16000000 in
theorem Told29_r (st : Int) (FA : Option Addr) (Fc : Nat) (F : List Fld) (QA : Option Addr) (Qc : Nat) (ps : List Prt) (cd : UInt8) (tag : List UInt8) (press : Bool) (minor : Int) (head last : Bool) (hF : fsum F ≤ 1048576) (hn : ps.length ≤ 1000) (htl : total (ps.map pure1) ≤ 131072) (hok : anOK st F (ps.map pure1) cd.toNat = true) (hmi : minor = 0 ∨ minor = 1) :
    FnT Tryd.prog gI 26 [.agg ⟨[.int .i64 st, .slice FA F.length Fc, .slice QA ps.length Qc, .int .u8 cd.toNat, str tag, .bool press]⟩, .int .i64 minor, .bool head, .bool last] (fun w => Rdw w FA (fcells F) ∧ PrtsOk w QA ps)
      (fun y : PV => .slice y.D y.ps.length y.dc) (fun y => y.ps.map pure1 = partsG (piecesR st F (ps.map pure1) cd.toNat minor head last)) PV.hd (fun y => rowsP 5 y.ps) := by
  have hstr := rstreamed_r (gI := gI) st FA F.length Fc QA Qc ps cd tag press (by omega)
  have hbare := bare_r (gI := gI) st
  have hst : 200 ≤ st ∧ st ≤ 599 ∧ cd.toNat ≤ 2 := by
    unfold anOK anST at hok
    simp only [Bool.and_eq_true, decide_eq_true_eq] at hok
    exact ⟨hok.1.1, hok.1.2.1, hok.1.2.2.1⟩
  have hps : ∀ q ∈ ps, q.l.length ≤ 131072 := fun q hm => by
    have := total_mem2 (p := pure1 q) (l := ps.map pure1) (List.mem_map_of_mem hm)
    exact Nat.le_trans this htl
  have hpn : ∀ q ∈ ps, q.l ≠ [] := fun q hm => by
    unfold anOK at hok
    simp only [Bool.and_eq_true] at hok
    exact prsOK_ne _ _ hok.2.2 (pure1 q) (List.mem_map_of_mem hm)
  have hhd := fun cl => Head29_r (gI := gI) st FA Fc F QA Qc ps cd tag press minor cl hF hn htl hst.2.2 hst.1 hst.2.1
  clear hok
  refine FnE.of tys_ok Tryd.func26 rfl (by kernel_rfl) rfl rfl ?_; intro w hG hP
  have hRF : ∀ H, RdA (mkC Tryd.prog gI w hG) H FA (fcells F) := fun H => ⟨hP.1.now⟩
  have hRQ : ∀ H, RdA (mkC Tryd.prog gI w hG) H QA (pcells ps) := fun H => ⟨hP.2.1.now⟩
  have hRq : ∀ q ∈ ps, ∀ H, RdA (mkC Tryd.prog gI w hG) H q.A (q.l.map byteV) := fun q hm H => ⟨(hP.2.2 q hm).now⟩
  have hPQ : ∀ H w', St (mkC Tryd.prog gI w hG) H w' → PrtsOk w' QA ps := fun H w' hw' => ⟨(hRQ H).ok w' hw', fun q hm => (hRq q hm H).ok w' hw'⟩
  clear hP
  unfold piecesR
  have hways : (minor = 0 ∧ streamB (ps.map pure1) cd.toNat = false) ∨ (minor = 0 ∧ streamB (ps.map pure1) cd.toNat = true) ∨ (minor = 1 ∧ streamB (ps.map pure1) cd.toNat = false) ∨ (minor = 1 ∧ streamB (ps.map pure1) cd.toNat = true ∧ bareB st = false) ∨ (minor = 1 ∧ streamB (ps.map pure1) cd.toNat = true ∧ bareB st = true) := by
    cases streamB (ps.map pure1) cd.toNat <;> cases bareB st <;> simp [hmi]
  clear hmi
  obtain ⟨ch, hch⟩ : ∃ ch, chunkB st (ps.map pure1) cd.toNat minor = ch := ⟨_, rfl⟩
  obtain ⟨cl, hcl⟩ : ∃ cl, (last || decide (minor = 0)) = cl := ⟨_, rfl⟩
  have hLz := headR_le st F (ps.map pure1) cd.toNat ch cl hF hst.1 hst.2.1 (by omega)
  have hhd := hhd cl
  rw [hch] at hhd ⊢
  rw [hcl]
  have hL1 : 1 ≤ (headR st F (ps.map pure1) cd.toNat ch cl).length := by unfold headR firstR; simp only [List.length_append, List.length_cons]; omega
  obtain ⟨L, hL⟩ : ∃ L, headR st F (ps.map pure1) cd.toNat ch cl = L := ⟨_, rfl⟩
  rw [hL] at hhd hLz hL1 ⊢
  clear hL
  unfold chunkB at hch
  cases head
  · cases last <;> rcases hways with ⟨rfl, hs⟩ | ⟨rfl, hs⟩ | ⟨rfl, hs⟩ | ⟨rfl, hs, hb⟩ | ⟨rfl, hs, hb⟩ <;> rw [hs] at hch <;> (try rw [hb] at hch) <;> have hch' := hch.symm <;> have hcl' := hcl.symm <;> simp at hch' hcl'
    all_goals as_aux_lemma =>
      rw [hcl'] at hhd
      (conv => whnf); repeat ((first | refine tk1 ?_ | refine tk2 ?_ | refine tk3 ?_ | refine tk12 (fun _ => ?_) | refine tk4 ?_ | refine tk5 ?_ | refine tk6 ?_ | refine tk7 ?_ | refine tk8 ?_ | refine tk9 ?_ | refine tk10 (fun _ _ => ?_) | refine tk11 (fun _ => ?_) | refine tk13 ?_ | refine tk14 ?_); (conv => whnf))
      rename_i b4
      refine CallK.fnEV hhd (fun w1 hw1 => ⟨(hRF _).ok w1 hw1, hPQ _ w1 hw1⟩) ?_
      (conv => whnf); repeat ((first | refine tk1 ?_ | refine tk2 ?_ | refine tk3 ?_ | refine tk12 (fun _ => ?_) | refine tk4 ?_ | refine tk5 ?_ | refine tk6 ?_ | refine tk7 ?_ | refine tk8 ?_ | refine tk9 ?_ | refine tk10 (fun _ _ => ?_) | refine tk11 (fun _ => ?_) | refine tk13 ?_ | refine tk14 ?_); (conv => whnf))
      rename_i SB sc
      refine CallK.fnR hstr ⟨(hRQ _).ok, trivial⟩ ?_
      rw [hs]
      (conv => whnf); repeat ((first | refine tk1 ?_ | refine tk2 ?_ | refine tk3 ?_ | refine tk12 (fun _ => ?_) | refine tk4 ?_ | refine tk5 ?_ | refine tk6 ?_ | refine tk7 ?_ | refine tk8 ?_ | refine tk9 ?_ | refine tk10 (fun _ _ => ?_) | refine tk11 (fun _ => ?_) | refine tk13 ?_ | refine tk14 ?_); (conv => whnf))
      try (refine CallK.fn hbare ?_; rw [hb])
      try ((conv => whnf); repeat ((first | refine tk1 ?_ | refine tk2 ?_ | refine tk3 ?_ | refine tk12 (fun _ => ?_) | refine tk4 ?_ | refine tk5 ?_ | refine tk6 ?_ | refine tk7 ?_ | refine tk8 ?_ | refine tk9 ?_ | refine tk10 (fun _ _ => ?_) | refine tk11 (fun _ => ?_) | refine tk13 ?_ | refine tk14 ?_); (conv => whnf)))
      obtain ⟨bd, hbd⟩ : ∃ bd, bodyR ch (ps.map pure1) = bd := ⟨_, rfl⟩
      rw [hbd]
      have hbdt : total bd ≤ 200000 := by
        rw [← hbd]
        have := total_bodyR ch (ps.map pure1) (fun p hp => by have := total_mem2 hp; omega)
        rw [List.length_map] at this
        exact Nat.le_trans (this) (by omega)
      have hbdl : bd.length = ps.length := by rw [← hbd]; unfold bodyR; rw [List.length_map, List.length_map]
      refine LoopS.lpT tys_ok (fun (x : WL) u => [u 0, u 1, .bool false, u 3, .pointer (some ⟨b4, 0, none⟩), u 5, u 6, u 7, u 8, .slice x.A x.o.length x.c, .bool ch, .slice x.D x.d.length x.dc, .int .i64 (x.k : Nat), u 13, u 14, u 15, u 16, u 17, u 18, u 19, u 20, u 21, u 22, u 23, u 24, u 25, u 26, u 27, u 28, u 29, u 30, u 31, u 32, u 33, u 34, u 35, u 36, u 37, u 38, u 39, u 40, u 41, u 42, u 43, u 44, u 45, u 46, u 47, u 48, u 49, u 50, u 51, u 52, u 53, u 54, u 55, u 56, u 57, u 58, u 59, u 60, u 61, u 62, u 63, u 64, u 65, u 66, u 67, u 68, u 69, u 70, u 71, u 72, u 73, u 74, u 75, u 76, u 77, u 78, u 79, u 80, u 81, u 82, u 83, u 84, u 85, u 86, u 87, u 88, u 89, u 90])
        (fun x => .box b4 [.int .i64 st, .slice FA F.length Fc, .slice QA ps.length Qc, .int .u8 cd.toNat, str tag, .bool press] 25 :: .row (.slice x.D x.d.length x.dc) 37 2 x.d.length (pcells x.d) :: .row (.slice x.A x.o.length x.c) 5 1 x.o.length (x.o.map byteV) :: rowsP 5 x.d) (fun x => x.k ≤ ps.length ∧ x.o = (stG ((L, false) :: bd.take x.k)).1 ∧ x.d.map pure1 = (stG ((L, false) :: bd.take x.k)).2) (fun x => ps.length - x.k) ⟨0, some ⟨SB, 0, none⟩, L, sc, none, [], 0⟩ ⟨Nat.zero_le _, by simp [stG, stepG], by simp [stG, stepG]⟩ (by rw [hch']; rfl) (Into.trans (Into.nilRow (e := 37) (sz := 2) Into.refl) (Cv.into (by (try dsimp only); repeat' (first | with_reducible exact Cv.refl | with_reducible exact Cv.left | with_reducible exact Cv.right | with_reducible exact Cv.nil | (with_reducible apply Cv.cons; focus ((repeat (first | with_reducible exact Pick.here | with_reducible apply Pick.skip)); done)) | (apply Cv.cons; focus ((repeat (first | exact Pick.here | apply Pick.skip)); done)) | exact Cv.nil | exact Cv.refl | exact Cv.left | exact Cv.right | refine Cv.skip ?_)))) ?_
      rintro ⟨k, oA, o, oc, D, d, dc⟩ u ⟨hk, ho, hd⟩
      dsimp only at hk ho hd ⊢
      have hsg : stG ((L, false) :: bd.take k) = (o, d.map pure1) := Prod.ext ho.symm hd.symm
      have hts := total_stG ((L, false) :: bd.take k)
      have htt := total_take bd k
      have hstl := stG_length ((L, false) :: bd.take k)
      rw [hsg] at hts hstl
      dsimp only at hts hstl
      rw [total] at hts
      dsimp only at hts
      rw [List.length_map, List.length_cons, List.length_take] at hstl
      by_cases hlt : k < ps.length
      · as_aux_lemma =>
        have h2 := (pcells_at ps k hlt).1
        have h22 := (pcells_at ps k hlt).2.1
        have hqm := List.getElem_mem hlt
        have hx := bodyR_at ch ps k hlt
        rw [hbd] at hx
        generalize ps[k] = q at *
        have hpl := hps q hqm
        have hwl := wrapG_long q.l (by omega)
        have hqn := hpn q hqm
        have hRq1 := hRq q hqm
        have hwr := rchunks_r (gI := gI) q.A q.cp q.l hpl
        have hpz : (if ch then wrapG q.l else q.l).length ≤ 140000 ∧ (if ch then wrapG q.l else q.l) ≠ [] := by
          cases ch
          · exact ⟨by simp; omega, by simpa using hqn⟩
          · exact ⟨by simp; omega, by simpa using wrapG_ne hqn⟩
        have hstep : stG ((L, false) :: bd.take (k + 1)) = stepG (o, d.map pure1) (if ch then wrapG q.l else q.l, q.f) := by rw [hx, ← List.cons_append, stG_snoc, hsg]
        have hidx : ∀ {H : Hp} {K : Value → Prop}, K (.pointer (some ((QA.getD at0).add (((k : Nat) : Int).toNat * 2)))) → IdxA (mkC Tryd.prog gI w hG) H QA ps.length (k : Int) 2 K := fun h => IdxA.tc (xs := pcells ps) (by rw [pcells_length]; omega) (by omega) (by omega) h
        have hld : ∀ {H : Hp} {K : Value → Prop}, K (.slice q.A q.l.length q.cp) → Ld (mkC Tryd.prog gI w hG) H (.pointer (some (((QA.getD at0).add (((k : Nat) : Int).toNat * 2)).add 0))) none K := fun h => Ld.taF (xs := pcells ps) (v := .slice q.A q.l.length q.cp) (by rw [Int.toNat_natCast]; exact h2) h
        have hlf : ∀ {H : Hp} {K : Value → Prop}, K (.bool q.f) → Ld (mkC Tryd.prog gI w hG) H (.pointer (some (((QA.getD at0).add (((k : Nat) : Int).toNat * 2)).add 1))) none K := fun h => Ld.taF (xs := pcells ps) (v := .bool q.f) (by rw [Int.toNat_natCast]; exact h22) h
        rw [hch'] at hstep hpz
        simp only [Bool.false_eq_true, if_true, if_false] at hstep hpz
        simp only [hch']
        (conv => whnf); repeat ((first | refine tk1 ?_ | refine tk2 ?_ | refine tk3 ?_ | refine tk12 (fun _ => ?_) | refine tk4 ?_ | refine tk5 ?_ | refine tk6 ?_ | refine tk7 ?_ | refine tk8 ?_ | refine tk9 ?_ | refine tk10 (fun _ _ => ?_) | refine tk11 (fun _ => ?_) | refine tk13 ?_ | refine tk14 ?_); (conv => whnf))
        refine hidx ?_
        (conv => whnf); repeat ((first | refine tk1 ?_ | refine tk2 ?_ | refine tk3 ?_ | refine tk12 (fun _ => ?_) | refine tk4 ?_ | refine tk5 ?_ | refine tk6 ?_ | refine tk7 ?_ | refine tk8 ?_ | refine tk9 ?_ | refine tk10 (fun _ _ => ?_) | refine tk11 (fun _ => ?_) | refine tk13 ?_ | refine tk14 ?_); (conv => whnf))
        refine hld ?_
        (conv => whnf); repeat ((first | refine tk1 ?_ | refine tk2 ?_ | refine tk3 ?_ | refine tk12 (fun _ => ?_) | refine tk4 ?_ | refine tk5 ?_ | refine tk6 ?_ | refine tk7 ?_ | refine tk8 ?_ | refine tk9 ?_ | refine tk10 (fun _ _ => ?_) | refine tk11 (fun _ => ?_) | refine tk13 ?_ | refine tk14 ?_); (conv => whnf))
        try (refine CallK.fnS hwr ⟨(hRq1 _).ok, trivial⟩ (fun WA wc => ?_))
        try ((conv => whnf); repeat ((first | refine tk1 ?_ | refine tk2 ?_ | refine tk3 ?_ | refine tk12 (fun _ => ?_) | refine tk4 ?_ | refine tk5 ?_ | refine tk6 ?_ | refine tk7 ?_ | refine tk8 ?_ | refine tk9 ?_ | refine tk10 (fun _ _ => ?_) | refine tk11 (fun _ => ?_) | refine tk13 ?_ | refine tk14 ?_); (conv => whnf)))
        first
          | refine AppS.tc (m := (wrapG q.l).length) (news := (wrapG q.l).map byteV) SrcK.tc (by simp) (bytes_one _) (by decide) (by omega) (by omega) (zs := (o ++ wrapG q.l).map byteV) List.map_append.symm (fun A3 c3 => ?_)
          | refine AppS.tc (m := q.l.length) (news := q.l.map byteV) (SrcK.rd (hRq1 _).ok) (by simp) (bytes_one _) (by decide) (by omega) (by omega) (zs := (o ++ q.l).map byteV) List.map_append.symm (fun A3 c3 => ?_)
        rw [← List.length_append]
        obtain ⟨pc, hpc⟩ : ∃ pc, (if ch then wrapG q.l else q.l) = pc := ⟨_, rfl⟩
        rw [hch'] at hpc
        simp only [Bool.false_eq_true, if_true, if_false] at hpc
        rw [hpc] at hstep hpz ⊢
        have hopl : (o ++ pc).length ≤ 9000000 := by rw [List.length_append]; omega
        have hopn : o ++ pc ≠ [] := fun h => hpz.2 (List.append_eq_nil_iff.1 h).2
        clear hpc
        (conv => whnf); repeat ((first | refine tk1 ?_ | refine tk2 ?_ | refine tk3 ?_ | refine tk12 (fun _ => ?_) | refine tk4 ?_ | refine tk5 ?_ | refine tk6 ?_ | refine tk7 ?_ | refine tk8 ?_ | refine tk9 ?_ | refine tk10 (fun _ _ => ?_) | refine tk11 (fun _ => ?_) | refine tk13 ?_ | refine tk14 ?_); (conv => whnf))
        refine hidx ?_
        (conv => whnf); repeat ((first | refine tk1 ?_ | refine tk2 ?_ | refine tk3 ?_ | refine tk12 (fun _ => ?_) | refine tk4 ?_ | refine tk5 ?_ | refine tk6 ?_ | refine tk7 ?_ | refine tk8 ?_ | refine tk9 ?_ | refine tk10 (fun _ _ => ?_) | refine tk11 (fun _ => ?_) | refine tk13 ?_ | refine tk14 ?_); (conv => whnf))
        refine hlf ?_
        cases hqf : q.f
        · rw [hqf] at hstep
          (conv => whnf); repeat ((first | refine tk1 ?_ | refine tk2 ?_ | refine tk3 ?_ | refine tk12 (fun _ => ?_) | refine tk4 ?_ | refine tk5 ?_ | refine tk6 ?_ | refine tk7 ?_ | refine tk8 ?_ | refine tk9 ?_ | refine tk10 (fun _ _ => ?_) | refine tk11 (fun _ => ?_) | refine tk13 ?_ | refine tk14 ?_); (conv => whnf))
          exact ⟨⟨k + 1, A3, o ++ pc, c3, D, d, dc⟩, ⟨by dsimp only; omega, by dsimp only; rw [hstep]; rfl, by dsimp only; rw [hstep]; rfl⟩, rfl, Cv.into (by (try dsimp only); repeat' (first | with_reducible exact Cv.refl | with_reducible exact Cv.left | with_reducible exact Cv.right | with_reducible exact Cv.nil | (with_reducible apply Cv.cons; focus ((repeat (first | with_reducible exact Pick.here | with_reducible apply Pick.skip)); done)) | (apply Cv.cons; focus ((repeat (first | exact Pick.here | apply Pick.skip)); done)) | exact Cv.nil | exact Cv.refl | exact Cv.left | exact Cv.right | refine Cv.skip ?_)), by dsimp only; omega⟩
        · rw [hqf] at hstep
          (conv => whnf); repeat ((first | refine tk1 ?_ | refine tk2 ?_ | refine tk3 ?_ | refine tk12 (fun _ => ?_) | refine tk4 ?_ | refine tk5 ?_ | refine tk6 ?_ | refine tk7 ?_ | refine tk8 ?_ | refine tk9 ?_ | refine tk10 (fun _ _ => ?_) | refine tk11 (fun _ => ?_) | refine tk13 ?_ | refine tk14 ?_); (conv => whnf))
          refine AppS.tc (m := 1) (news := [.slice A3 (o ++ pc).length c3, .bool true]) SrcK.tc rfl (by simp [Value.oneCell']) (by decide) (by omega) (by omega) (zs := pcells (d ++ [⟨A3, c3, o ++ pc, true⟩])) (by rw [pcells_append]; rfl) (fun D' dc' => ?_)
          rw [show d.length + 1 = (d ++ [(⟨A3, c3, o ++ pc, true⟩ : Prt)]).length by simp]
          (conv => whnf); repeat ((first | refine tk1 ?_ | refine tk2 ?_ | refine tk3 ?_ | refine tk12 (fun _ => ?_) | refine tk4 ?_ | refine tk5 ?_ | refine tk6 ?_ | refine tk7 ?_ | refine tk8 ?_ | refine tk9 ?_ | refine tk10 (fun _ _ => ?_) | refine tk11 (fun _ => ?_) | refine tk13 ?_ | refine tk14 ?_); (conv => whnf))
          exact ⟨⟨k + 1, none, [], 0, D', d ++ [⟨A3, c3, o ++ pc, true⟩], dc'⟩, ⟨by dsimp only; omega, by dsimp only; rw [hstep]; rfl, by dsimp only; rw [hstep]; simp only [stepG, if_true, close1, if_neg hopn, List.map_append]; rfl⟩, rfl, by dsimp only; exact Into.trans (Into.nilRow (e := 5) (sz := 1) Into.refl) (Cv.into (by (try dsimp only); repeat' (first | with_reducible exact Cv.refl | refine Cv.snoc (q := ⟨A3, c3, o ++ pc, true⟩) ?_ | (with_reducible apply Cv.cons; focus ((repeat (first | with_reducible exact Pick.here | with_reducible apply Pick.skip)); done)) | (apply Cv.cons; focus ((repeat (first | exact Pick.here | apply Pick.skip)); done)) | exact Cv.nil | exact Cv.refl | refine Cv.skip ?_))), by dsimp only; omega⟩
      obtain rfl : k = ps.length := by omega
      rw [List.take_of_length_le (show bd.length ≤ ps.length by omega)] at hsg
      have hfin1 : partsG ((L, false) :: (bd ++ [(lastC, false)])) = close1 (o ++ lastC) false (d.map pure1) := by unfold partsG; rw [← List.cons_append, stG_snoc, hsg]; rfl
      have hfin2 : partsG ((L, false) :: (bd ++ [])) = close1 o false (d.map pure1) := by rw [List.append_nil]; unfold partsG; rw [hsg]
      have hl5 : (o ++ lastC).length = o.length + 5 := by rw [List.length_append]; rfl
      have hne5 : o ++ lastC ≠ [] := fun h => by have := congrArg List.length h; rw [hl5] at this; simp at this
      have hdz : d.length ≤ 1001 := by omega
      have hoz : o.length ≤ 9000000 := by omega
      clear hts hstl htt
      simp only [hch', if_true, if_false, Bool.false_eq_true]
      (conv => whnf); repeat ((first | refine tk1 ?_ | refine tk2 ?_ | refine tk3 ?_ | refine tk12 (fun _ => ?_) | refine tk4 ?_ | refine tk5 ?_ | refine tk6 ?_ | refine tk7 ?_ | refine tk8 ?_ | refine tk9 ?_ | refine tk10 (fun _ _ => ?_) | refine tk11 (fun _ => ?_) | refine tk13 ?_ | refine tk14 ?_); (conv => whnf))
      first
        | (refine CallK.fnS (RLast_f (gI := gI)) trivial (fun MA mc => ?_)
           (conv => whnf); repeat ((first | refine tk1 ?_ | refine tk2 ?_ | refine tk3 ?_ | refine tk12 (fun _ => ?_) | refine tk4 ?_ | refine tk5 ?_ | refine tk6 ?_ | refine tk7 ?_ | refine tk8 ?_ | refine tk9 ?_ | refine tk10 (fun _ _ => ?_) | refine tk11 (fun _ => ?_) | refine tk13 ?_ | refine tk14 ?_); (conv => whnf))
           refine AppS.tc (m := 5) (news := lastC.map byteV) SrcK.tc (by rw [List.length_map]; rfl) (bytes_one _) (by decide) (by omega) (by omega) (zs := (o ++ lastC).map byteV) List.map_append.symm (fun A3 c3 => ?_)
           rw [← hl5]
           (conv => whnf); repeat ((first | refine tk1 ?_ | refine tk2 ?_ | refine tk3 ?_ | refine tk12 (fun _ => ?_) | refine tk4 ?_ | refine tk5 ?_ | refine tk6 ?_ | refine tk7 ?_ | refine tk8 ?_ | refine tk9 ?_ | refine tk10 (fun _ _ => ?_) | refine tk11 (fun _ => ?_) | refine tk13 ?_ | refine tk14 ?_); (conv => whnf))
           refine AppS.tc (m := 1) (news := [.slice A3 (o ++ lastC).length c3, .bool false]) SrcK.tc rfl (by simp [Value.oneCell']) (by decide) (by omega) (by omega) (zs := pcells (d ++ [⟨A3, c3, (o ++ lastC), false⟩])) (by rw [pcells_append]; rfl) (fun D' dc' => ?_)
           rw [show d.length + 1 = (d ++ [(⟨A3, c3, (o ++ lastC), false⟩ : Prt)]).length by simp]
           (conv => whnf); repeat ((first | refine tk1 ?_ | refine tk2 ?_ | refine tk3 ?_ | refine tk12 (fun _ => ?_) | refine tk4 ?_ | refine tk5 ?_ | refine tk6 ?_ | refine tk7 ?_ | refine tk8 ?_ | refine tk9 ?_ | refine tk10 (fun _ _ => ?_) | refine tk11 (fun _ => ?_) | refine tk13 ?_ | refine tk14 ?_); (conv => whnf))
           exact fun w' hw' => ⟨⟨D', dc', d ++ [⟨A3, c3, (o ++ lastC), false⟩]⟩, rfl, (by rw [hfin1, List.map_append]; unfold close1; rw [if_neg hne5]; rfl), newH.into hw' (by dsimp only [PV.hd]; exact Cv.into (by (try dsimp only); repeat' (first | with_reducible exact Cv.refl | refine Cv.snoc (q := ⟨A3, c3, (o ++ lastC), false⟩) ?_ | (with_reducible apply Cv.cons; focus ((repeat (first | with_reducible exact Pick.here | with_reducible apply Pick.skip)); done)) | (apply Cv.cons; focus ((repeat (first | exact Pick.here | apply Pick.skip)); done)) | exact Cv.nil | exact Cv.refl | refine Cv.skip ?_)))⟩)
        | (by_cases ho0 : o.length = 0
           · (conv => whnf); repeat ((first | refine tk1 ?_ | refine tk2 ?_ | refine tk3 ?_ | refine tk12 (fun _ => ?_) | refine tk4 ?_ | refine tk5 ?_ | refine tk6 ?_ | refine tk7 ?_ | refine tk8 ?_ | refine tk9 ?_ | refine tk10 (fun _ _ => ?_) | refine tk11 (fun _ => ?_) | refine tk13 ?_ | refine tk14 ?_); (conv => whnf))
             exact fun w' hw' => ⟨⟨D, dc, d⟩, rfl, (by rw [hfin2]; unfold close1; rw [if_pos (List.eq_nil_of_length_eq_zero ho0)]), newH.into hw' (by dsimp only [PV.hd]; exact Cv.into (by (try dsimp only); repeat' (first | with_reducible exact Cv.refl | with_reducible exact Cv.left | with_reducible exact Cv.right | with_reducible exact Cv.nil | (with_reducible apply Cv.cons; focus ((repeat (first | with_reducible exact Pick.here | with_reducible apply Pick.skip)); done)) | (apply Cv.cons; focus ((repeat (first | exact Pick.here | apply Pick.skip)); done)) | exact Cv.nil | exact Cv.refl | exact Cv.left | exact Cv.right | refine Cv.skip ?_)))⟩
           (conv => whnf); repeat ((first | refine tk1 ?_ | refine tk2 ?_ | refine tk3 ?_ | refine tk12 (fun _ => ?_) | refine tk4 ?_ | refine tk5 ?_ | refine tk6 ?_ | refine tk7 ?_ | refine tk8 ?_ | refine tk9 ?_ | refine tk10 (fun _ _ => ?_) | refine tk11 (fun _ => ?_) | refine tk13 ?_ | refine tk14 ?_); (conv => whnf))
           refine AppS.tc (m := 1) (news := [.slice oA o.length oc, .bool false]) SrcK.tc rfl (by simp [Value.oneCell']) (by decide) (by omega) (by omega) (zs := pcells (d ++ [⟨oA, oc, o, false⟩])) (by rw [pcells_append]; rfl) (fun D' dc' => ?_)
           rw [show d.length + 1 = (d ++ [(⟨oA, oc, o, false⟩ : Prt)]).length by simp]
           (conv => whnf); repeat ((first | refine tk1 ?_ | refine tk2 ?_ | refine tk3 ?_ | refine tk12 (fun _ => ?_) | refine tk4 ?_ | refine tk5 ?_ | refine tk6 ?_ | refine tk7 ?_ | refine tk8 ?_ | refine tk9 ?_ | refine tk10 (fun _ _ => ?_) | refine tk11 (fun _ => ?_) | refine tk13 ?_ | refine tk14 ?_); (conv => whnf))
           exact fun w' hw' => ⟨⟨D', dc', d ++ [⟨oA, oc, o, false⟩]⟩, rfl, (by rw [hfin2, List.map_append]; unfold close1; rw [if_neg (fun h => ho0 (by rw [h]; rfl))]; rfl), newH.into hw' (by dsimp only [PV.hd]; exact Cv.into (by (try dsimp only); repeat' (first | with_reducible exact Cv.refl | refine Cv.snoc (q := ⟨oA, oc, o, false⟩) ?_ | (with_reducible apply Cv.cons; focus ((repeat (first | with_reducible exact Pick.here | with_reducible apply Pick.skip)); done)) | (apply Cv.cons; focus ((repeat (first | exact Pick.here | apply Pick.skip)); done)) | exact Cv.nil | exact Cv.refl | refine Cv.skip ?_)))⟩)
  · cases last <;> rcases hways with ⟨rfl, hs⟩ | ⟨rfl, hs⟩ | ⟨rfl, hs⟩ | ⟨rfl, hs, hb⟩ | ⟨rfl, hs, hb⟩ <;> rw [hs] at hch <;> (try rw [hb] at hch) <;> have hch' := hch.symm <;> have hcl' := hcl.symm <;> simp at hch' hcl'
    all_goals as_aux_lemma =>
      rw [hcl'] at hhd
      (conv => whnf); repeat ((first | refine tk1 ?_ | refine tk2 ?_ | refine tk3 ?_ | refine tk12 (fun _ => ?_) | refine tk4 ?_ | refine tk5 ?_ | refine tk6 ?_ | refine tk7 ?_ | refine tk8 ?_ | refine tk9 ?_ | refine tk10 (fun _ _ => ?_) | refine tk11 (fun _ => ?_) | refine tk13 ?_ | refine tk14 ?_); (conv => whnf))
      rename_i b4
      refine CallK.fnEV hhd (fun w1 hw1 => ⟨(hRF _).ok w1 hw1, hPQ _ w1 hw1⟩) ?_
      (conv => whnf); repeat ((first | refine tk1 ?_ | refine tk2 ?_ | refine tk3 ?_ | refine tk12 (fun _ => ?_) | refine tk4 ?_ | refine tk5 ?_ | refine tk6 ?_ | refine tk7 ?_ | refine tk8 ?_ | refine tk9 ?_ | refine tk10 (fun _ _ => ?_) | refine tk11 (fun _ => ?_) | refine tk13 ?_ | refine tk14 ?_); (conv => whnf))
      rename_i SB sc
      refine CallK.fnR hstr ⟨(hRQ _).ok, trivial⟩ ?_
      rw [hs]
      (conv => whnf); repeat ((first | refine tk1 ?_ | refine tk2 ?_ | refine tk3 ?_ | refine tk12 (fun _ => ?_) | refine tk4 ?_ | refine tk5 ?_ | refine tk6 ?_ | refine tk7 ?_ | refine tk8 ?_ | refine tk9 ?_ | refine tk10 (fun _ _ => ?_) | refine tk11 (fun _ => ?_) | refine tk13 ?_ | refine tk14 ?_); (conv => whnf))
      try (refine CallK.fn hbare ?_; rw [hb])
      try ((conv => whnf); repeat ((first | refine tk1 ?_ | refine tk2 ?_ | refine tk3 ?_ | refine tk12 (fun _ => ?_) | refine tk4 ?_ | refine tk5 ?_ | refine tk6 ?_ | refine tk7 ?_ | refine tk8 ?_ | refine tk9 ?_ | refine tk10 (fun _ _ => ?_) | refine tk11 (fun _ => ?_) | refine tk13 ?_ | refine tk14 ?_); (conv => whnf)))
      have hLn : L ≠ [] := fun h => by rw [h] at hL1; simp at hL1
      have hfin : partsG ((L, false) :: []) = [(L, false)] := by unfold partsG stG; simp only [List.foldl_cons, List.foldl_nil, stepG, List.nil_append]; unfold close1; simp [hLn]
      refine LoopS.lpT tys_ok (fun (x : Unit) u => [u 0, u 1, .bool true, u 3, .pointer (some ⟨b4, 0, none⟩), u 5, u 6, u 7, u 8, .slice (some ⟨SB, 0, none⟩) L.length sc, .bool ch, .slice none 0 0, .int .i64 0, u 13, u 14, u 15, u 16, u 17, u 18, u 19, u 20, u 21, u 22, u 23, u 24, u 25, u 26, u 27, u 28, u 29, u 30, u 31, u 32, u 33, u 34, u 35, u 36, u 37, u 38, u 39, u 40, u 41, u 42, u 43, u 44, u 45, u 46, u 47, u 48, u 49, u 50, u 51, u 52, u 53, u 54, u 55, u 56, u 57, u 58, u 59, u 60, u 61, u 62, u 63, u 64, u 65, u 66, u 67, u 68, u 69, u 70, u 71, u 72, u 73, u 74, u 75, u 76, u 77, u 78, u 79, u 80, u 81, u 82, u 83, u 84, u 85, u 86, u 87, u 88, u 89, u 90])
        (fun _ => .row (.slice (some ⟨SB, 0, none⟩) L.length sc) 5 1 L.length (L.map byteV) :: [.box b4 [.int .i64 st, .slice FA F.length Fc, .slice QA ps.length Qc, .int .u8 cd.toNat, str tag, .bool press] 25]) (fun _ => True) (fun _ => 0) () trivial (by rw [hch']; rfl) (Cv.into (by (try dsimp only); repeat' (first | with_reducible exact Cv.refl | with_reducible exact Cv.left | with_reducible exact Cv.right | with_reducible exact Cv.nil | (with_reducible apply Cv.cons; focus ((repeat (first | with_reducible exact Pick.here | with_reducible apply Pick.skip)); done)) | (apply Cv.cons; focus ((repeat (first | exact Pick.here | apply Pick.skip)); done)) | exact Cv.nil | exact Cv.refl | exact Cv.left | exact Cv.right | refine Cv.skip ?_))) ?_
      rintro x u _
      simp only [hch', if_true]
      rcases (show ps.length = 0 ∨ 0 < ps.length by omega) with h0 | h0
      all_goals
        (conv => whnf); repeat ((first | refine tk1 ?_ | refine tk2 ?_ | refine tk3 ?_ | refine tk12 (fun _ => ?_) | refine tk4 ?_ | refine tk5 ?_ | refine tk6 ?_ | refine tk7 ?_ | refine tk8 ?_ | refine tk9 ?_ | refine tk10 (fun _ _ => ?_) | refine tk11 (fun _ => ?_) | refine tk13 ?_ | refine tk14 ?_); (conv => whnf))
        refine AppS.t0 (m := 1) (news := [.slice (some ⟨SB, 0, none⟩) L.length sc, .bool false]) SrcK.tc rfl (by simp [Value.oneCell']) (by decide) (by omega) (by omega) (fun D' dc' => ?_)
        (conv => whnf); repeat ((first | refine tk1 ?_ | refine tk2 ?_ | refine tk3 ?_ | refine tk12 (fun _ => ?_) | refine tk4 ?_ | refine tk5 ?_ | refine tk6 ?_ | refine tk7 ?_ | refine tk8 ?_ | refine tk9 ?_ | refine tk10 (fun _ _ => ?_) | refine tk11 (fun _ => ?_) | refine tk13 ?_ | refine tk14 ?_); (conv => whnf))
        exact fun w' hw' => ⟨⟨D', dc', [⟨some ⟨SB, 0, none⟩, sc, L, false⟩]⟩, rfl, (by rw [hfin]; rfl), newH.into hw' (by dsimp only [PV.hd, rowsP, Prt.row, List.map_cons, List.map_nil]; exact Cv.into (by (try dsimp only); repeat' (first | with_reducible exact Cv.refl | with_reducible exact Cv.left | with_reducible exact Cv.right | with_reducible exact Cv.nil | (with_reducible apply Cv.cons; focus ((repeat (first | with_reducible exact Pick.here | with_reducible apply Pick.skip)); done)) | (apply Cv.cons; focus ((repeat (first | exact Pick.here | apply Pick.skip)); done)) | exact Cv.nil | exact Cv.refl | exact Cv.left | exact Cv.right | refine Cv.skip ?_)))⟩
end Go.Proofs.YtnnpnkmdhfjccaaDoor.Vex
/- The document's own answer for answers as bytes, reckoned: Check. -/
namespace Go.Proofs.YtnnpnkmdhfjccaaDoor.Vex
open Go Go.RowKit
set_option maxRecDepth 100000
set_option linter.unusedSectionVars false
variable {gI : GI} [HasMax gI] [HasPow gI]

set_option maxHeartbeats 4000000 in
theorem Check29_r (st : Int) (FA : Option Addr) (Fc : Nat) (F : List Fld) (QA : Option Addr) (Qc : Nat) (ps : List Prt) (cd : UInt8) (tag : List UInt8) (press : Bool) (hF : fsum F ≤ 1048576) (hn : ps.length ≤ 4000000) (htl : total (ps.map pure1) ≤ 4000000) :
    FnR Tryd.prog gI 11 [.agg ⟨[.int .i64 st, .slice FA F.length Fc, .slice QA ps.length Qc, .int .u8 cd.toNat, str tag, .bool press]⟩] [(FA, fcells F), (QA, pcells ps)] (.int .i64 (anE st F (ps.map pure1) cd.toNat)) := by
  have hmay := May29_r (gI := gI) st FA Fc F QA Qc ps cd tag press hF hn htl
  refine FnE.of tys_ok Tryd.func11 rfl (by kernel_rfl) rfl rfl ?_; intro w hG hP
  have hRF : ∀ H, RdA (mkC Tryd.prog gI w hG) H FA (fcells F) := fun H => ⟨hP.1.now⟩
  have hRQ : ∀ H, RdA (mkC Tryd.prog gI w hG) H QA (pcells ps) := fun H => ⟨hP.2.1.now⟩
  clear hP
  (conv => whnf); repeat ((first | refine tk1 ?_ | refine tk2 ?_ | refine tk3 ?_ | refine tk12 (fun _ => ?_) | refine tk4 ?_ | refine tk5 ?_ | refine tk6 ?_ | refine tk7 ?_ | refine tk8 ?_ | refine tk9 ?_ | refine tk10 (fun _ _ => ?_) | refine tk11 (fun _ => ?_) | refine tk13 ?_ | refine tk14 ?_); (conv => whnf))
  rename_i b
  refine CallK.fnR hmay ⟨(hRF _).ok, (hRQ _).ok, trivial⟩ ?_
  unfold anE
  cases hok : anOK st F (ps.map pure1) cd.toNat
  · (conv => whnf); repeat ((first | refine tk1 ?_ | refine tk2 ?_ | refine tk3 ?_ | refine tk12 (fun _ => ?_) | refine tk4 ?_ | refine tk5 ?_ | refine tk6 ?_ | refine tk7 ?_ | refine tk8 ?_ | refine tk9 ?_ | refine tk10 (fun _ _ => ?_) | refine tk11 (fun _ => ?_) | refine tk13 ?_ | refine tk14 ?_); (conv => whnf))
    exact fun w' _ => rfl
  · (conv => whnf); repeat ((first | refine tk1 ?_ | refine tk2 ?_ | refine tk3 ?_ | refine tk12 (fun _ => ?_) | refine tk4 ?_ | refine tk5 ?_ | refine tk6 ?_ | refine tk7 ?_ | refine tk8 ?_ | refine tk9 ?_ | refine tk10 (fun _ _ => ?_) | refine tk11 (fun _ => ?_) | refine tk13 ?_ | refine tk14 ?_); (conv => whnf))
    exact fun w' _ => rfl
end Go.Proofs.YtnnpnkmdhfjccaaDoor.Vex
/- Whether an answer is great, reckoned. -/
namespace Go.Proofs.YtnnpnkmdhfjccaaDoor.Vex
open Go Go.RowKit
set_option maxRecDepth 100000
set_option linter.unusedSectionVars false
variable {gI : GI} [HasMax gI] [HasPow gI]

def pw (p : List UInt8 × Bool) : Nat := 1 + min p.1.length 10000
def gp : Prs → Nat
  | [] => 0
  | p :: r => pw p + gp r
theorem gp_add : ∀ a b : Prs, gp (a ++ b) = gp a + gp b
  | [], b => by simp [gp]
  | p :: a, b => by simp [gp, gp_add a b]; omega
theorem gp_take (l : Prs) (k : Nat) (h : k < l.length) : gp (l.take (k + 1)) = gp (l.take k) + pw l[k] := by
  rw [List.take_succ_eq_append_getElem h, gp_add]; simp [gp]
theorem gp_total : ∀ l : Prs, gp l ≤ 5000 → total l ≤ 5000 ∧ total l ≤ gp l
  | [], _ => by simp [total, gp]
  | p :: r, h => by
    have h' : pw p + gp r ≤ 5000 := h
    have hr := (gp_total r (by omega)).2
    have : total (p :: r) = p.1.length + total r := rfl
    unfold pw at h'
    have hgp : gp (p :: r) = pw p + gp r := rfl
    unfold pw at hgp
    omega
def greatR (F : List Fld) (ps : Prs) : Bool := decide (100 < ps.length) || (decide (5000 < gp (ps.take 200)) || (decide (90 < F.length) || decide (3000 < gs (F.take 1000))))

theorem gs_fsum : ∀ l : List Fld, gs l ≤ 3000 → fsum l ≤ gs l + 2 * l.length ∧ (∀ f ∈ l, f.1.length + f.2.length ≤ 3000)
  | [], _ => ⟨by simp [gs, fsum], fun f h => by cases h⟩
  | p :: r, h => by
    have e : gs (p :: r) = fw p + gs r := rfl
    rw [e] at h ⊢
    unfold fw at h ⊢
    have ih := gs_fsum r (by omega)
    rw [fsum_cons, List.length_cons]
    refine ⟨by omega, fun f hf => ?_⟩
    rcases List.mem_cons.1 hf with rfl | hf
    · omega
    · exact ih.2 f hf
/-- What an answer that is not great has. -/
theorem greatR_le {F : List Fld} {ps : Prs} (h : greatR F ps = false) : fsum F ≤ 4000 ∧ F.length ≤ 90 ∧ ps.length ≤ 100 ∧ total ps ≤ 5000 ∧ (∀ f ∈ F, f.1.length + f.2.length ≤ 3000) := by
  unfold greatR at h
  simp only [Bool.or_eq_false_iff, decide_eq_false_iff_not] at h
  obtain ⟨h1, h2, h3, h4⟩ := h
  rw [List.take_of_length_le (by omega)] at h2 h4
  have h5 := gs_fsum F (by omega)
  exact ⟨by omega, by omega, by omega, (gp_total _ (by omega)).1, h5.2⟩

set_option maxHeartbeats 4000000 in
theorem Great29_r (st : Int) (FA : Option Addr) (Fc : Nat) (F : List Fld) (QA : Option Addr) (Qc : Nat) (ps : List Prt) (cd : UInt8) (tag : List UInt8) (press : Bool) :
    FnR Tryd.prog gI 6 [.agg ⟨[.int .i64 st, .slice FA F.length Fc, .slice QA ps.length Qc, .int .u8 cd.toNat, str tag, .bool press]⟩] [(FA, fcells F), (QA, pcells ps)] (.bool (greatR F (ps.map pure1))) := by
  refine FnE.of tys_ok Tryd.func6 rfl (by kernel_rfl) rfl rfl ?_; intro w hG hP
  have hRF : ∀ H, RdA (mkC Tryd.prog gI w hG) H FA (fcells F) := fun H => ⟨hP.1.now⟩
  have hRQ : ∀ H, RdA (mkC Tryd.prog gI w hG) H QA (pcells ps) := fun H => ⟨hP.2.1.now⟩
  clear hP
  (conv => whnf); repeat ((first | refine tk1 ?_ | refine tk2 ?_ | refine tk3 ?_ | refine tk12 (fun _ => ?_) | refine tk4 ?_ | refine tk5 ?_ | refine tk6 ?_ | refine tk7 ?_ | refine tk8 ?_ | refine tk9 ?_ | refine tk10 (fun _ _ => ?_) | refine tk11 (fun _ => ?_) | refine tk13 ?_ | refine tk14 ?_); (conv => whnf))
  rename_i b
  refine LoopS.lp tys_ok (fun (k : Nat) u => [u 0, .pointer (some ⟨b, 0, none⟩), u 2, .int .i64 (gp ((ps.map pure1).take k) : Nat), .int .i64 (k : Nat), u 5, u 6, u 7, u 8, u 9, u 10, u 11, u 12, u 13, u 14, u 15, u 16, u 17, u 18, u 19, u 20, u 21, u 22, u 23, u 24, u 25, u 26, u 27, u 28, u 29, u 30, u 31, u 32, u 33, u 34, u 35, u 36, u 37, u 38, u 39, u 40, u 41, u 42, u 43, u 44, u 45]) (fun _ => [.box b [.int .i64 st, .slice FA F.length Fc, .slice QA ps.length Qc, .int .u8 cd.toNat, str tag, .bool press] 25])
    (fun k => k ≤ ps.length ∧ k ≤ 200 ∧ gp ((ps.map pure1).take k) ≤ k * 10001) (fun k => ps.length - k) 0 ⟨Nat.zero_le _, Nat.zero_le _, Nat.zero_le _⟩ rfl (by repeat' (first | exact List.Sublist.refl _ | exact List.nil_sublist _ | apply List.Sublist.cons_cons | apply List.Sublist.cons)) ?_
  intro k u ⟨hk, hk2, hz⟩
  (conv => whnf); repeat ((first | refine tk1 ?_ | refine tk2 ?_ | refine tk3 ?_ | refine tk12 (fun _ => ?_) | refine tk4 ?_ | refine tk5 ?_ | refine tk6 ?_ | refine tk7 ?_ | refine tk8 ?_ | refine tk9 ?_ | refine tk10 (fun _ _ => ?_) | refine tk11 (fun _ => ?_) | refine tk13 ?_ | refine tk14 ?_); (conv => whnf))
  refine Cmp.cases (fun hlt => ?_) (fun hlt => ?_)
  · (conv => whnf); repeat ((first | refine tk1 ?_ | refine tk2 ?_ | refine tk3 ?_ | refine tk12 (fun _ => ?_) | refine tk4 ?_ | refine tk5 ?_ | refine tk6 ?_ | refine tk7 ?_ | refine tk8 ?_ | refine tk9 ?_ | refine tk10 (fun _ _ => ?_) | refine tk11 (fun _ => ?_) | refine tk13 ?_ | refine tk14 ?_); (conv => whnf))
    refine Cmp.cases (fun h2 => ?_) (fun h2 => ?_)
    · have hlt' : k < ps.length := by omega
      have hkp : k < (ps.map pure1).length := by rw [List.length_map]; exact hlt'
      have g2 := (pcells_at ps k hlt').1
      have hnx := gp_take (ps.map pure1) k hkp
      rw [List.getElem_map] at hnx
      generalize ps[k] = q at *
      have hpw : pw (pure1 q) = 1 + min q.l.length 10000 := rfl
      rw [hpw] at hnx
      (conv => whnf); repeat ((first | refine tk1 ?_ | refine tk2 ?_ | refine tk3 ?_ | refine tk12 (fun _ => ?_) | refine tk4 ?_ | refine tk5 ?_ | refine tk6 ?_ | refine tk7 ?_ | refine tk8 ?_ | refine tk9 ?_ | refine tk10 (fun _ _ => ?_) | refine tk11 (fun _ => ?_) | refine tk13 ?_ | refine tk14 ?_); (conv => whnf))
      refine IdxA.tc (xs := pcells ps) (by rw [pcells_length]; omega) (by omega) (by omega) ?_
      (conv => whnf); repeat ((first | refine tk1 ?_ | refine tk2 ?_ | refine tk3 ?_ | refine tk12 (fun _ => ?_) | refine tk4 ?_ | refine tk5 ?_ | refine tk6 ?_ | refine tk7 ?_ | refine tk8 ?_ | refine tk9 ?_ | refine tk10 (fun _ _ => ?_) | refine tk11 (fun _ => ?_) | refine tk13 ?_ | refine tk14 ?_); (conv => whnf))
      refine Ld.taF (xs := pcells ps) (v := .slice q.A q.l.length q.cp) (by rw [Int.toNat_natCast]; exact g2) ?_
      (conv => whnf); repeat ((first | refine tk1 ?_ | refine tk2 ?_ | refine tk3 ?_ | refine tk12 (fun _ => ?_) | refine tk4 ?_ | refine tk5 ?_ | refine tk6 ?_ | refine tk7 ?_ | refine tk8 ?_ | refine tk9 ?_ | refine tk10 (fun _ _ => ?_) | refine tk11 (fun _ => ?_) | refine tk13 ?_ | refine tk14 ?_); (conv => whnf))
      refine OthP.min2 (min (q.l.length : Int) 10000) rfl rfl rfl ?_
      (conv => whnf); repeat ((first | refine tk1 ?_ | refine tk2 ?_ | refine tk3 ?_ | refine tk12 (fun _ => ?_) | refine tk4 ?_ | refine tk5 ?_ | refine tk6 ?_ | refine tk7 ?_ | refine tk8 ?_ | refine tk9 ?_ | refine tk10 (fun _ _ => ?_) | refine tk11 (fun _ => ?_) | refine tk13 ?_ | refine tk14 ?_); (conv => whnf))
      exact ⟨k + 1, ⟨by omega, by omega, by omega⟩, by dsimp only; rw [show ((gp ((ps.map pure1).take (k + 1)) : Nat) : Int) = (gp ((ps.map pure1).take k) : Nat) + 1 + min (q.l.length : Int) 10000 by rw [hnx]; omega]; rfl, (by repeat' (first | exact List.Sublist.refl _ | exact List.nil_sublist _ | apply List.Sublist.cons_cons | apply List.Sublist.cons)), by dsimp only; omega⟩
    · have ht : gp ((ps.map pure1).take k) = gp ((ps.map pure1).take 200) := by
        first
          | rw [show k = 200 by omega]
          | rw [List.take_of_length_le (by rw [List.length_map]; omega), List.take_of_length_le (by rw [List.length_map]; omega)]
      unfold greatR
      rw [ht, List.length_map]
      rw [ht] at hz
      (conv => whnf); repeat ((first | refine tk1 ?_ | refine tk2 ?_ | refine tk3 ?_ | refine tk12 (fun _ => ?_) | refine tk4 ?_ | refine tk5 ?_ | refine tk6 ?_ | refine tk7 ?_ | refine tk8 ?_ | refine tk9 ?_ | refine tk10 (fun _ _ => ?_) | refine tk11 (fun _ => ?_) | refine tk13 ?_ | refine tk14 ?_); (conv => whnf))
      exact fun w' _ => by rw [decide_eq_true (show 100 < ps.length by omega)]; rfl
  · have ht : gp ((ps.map pure1).take k) = gp ((ps.map pure1).take 200) := by
      first
        | rw [show k = 200 by omega]
        | rw [List.take_of_length_le (by rw [List.length_map]; omega), List.take_of_length_le (by rw [List.length_map]; omega)]
    unfold greatR
    rw [ht, List.length_map]
    rw [ht] at hz
    (conv => whnf); repeat ((first | refine tk1 ?_ | refine tk2 ?_ | refine tk3 ?_ | refine tk12 (fun _ => ?_) | refine tk4 ?_ | refine tk5 ?_ | refine tk6 ?_ | refine tk7 ?_ | refine tk8 ?_ | refine tk9 ?_ | refine tk10 (fun _ _ => ?_) | refine tk11 (fun _ => ?_) | refine tk13 ?_ | refine tk14 ?_); (conv => whnf))
    refine Cmp.cases (fun c1 => ?_) (fun c1 => ?_)
    · (conv => whnf); repeat ((first | refine tk1 ?_ | refine tk2 ?_ | refine tk3 ?_ | refine tk12 (fun _ => ?_) | refine tk4 ?_ | refine tk5 ?_ | refine tk6 ?_ | refine tk7 ?_ | refine tk8 ?_ | refine tk9 ?_ | refine tk10 (fun _ _ => ?_) | refine tk11 (fun _ => ?_) | refine tk13 ?_ | refine tk14 ?_); (conv => whnf))
      exact fun w' _ => by rw [decide_eq_true (show 100 < ps.length by omega)]; rfl
    rw [decide_eq_false (show ¬ 100 < ps.length by omega), Bool.false_or]
    (conv => whnf); repeat ((first | refine tk1 ?_ | refine tk2 ?_ | refine tk3 ?_ | refine tk12 (fun _ => ?_) | refine tk4 ?_ | refine tk5 ?_ | refine tk6 ?_ | refine tk7 ?_ | refine tk8 ?_ | refine tk9 ?_ | refine tk10 (fun _ _ => ?_) | refine tk11 (fun _ => ?_) | refine tk13 ?_ | refine tk14 ?_); (conv => whnf))
    refine Cmp.cases (fun c2 => ?_) (fun c2 => ?_)
    · (conv => whnf); repeat ((first | refine tk1 ?_ | refine tk2 ?_ | refine tk3 ?_ | refine tk12 (fun _ => ?_) | refine tk4 ?_ | refine tk5 ?_ | refine tk6 ?_ | refine tk7 ?_ | refine tk8 ?_ | refine tk9 ?_ | refine tk10 (fun _ _ => ?_) | refine tk11 (fun _ => ?_) | refine tk13 ?_ | refine tk14 ?_); (conv => whnf))
      exact fun w' _ => by rw [decide_eq_true (show 5000 < gp ((ps.map pure1).take 200) by omega)]; rfl
    rw [decide_eq_false (show ¬ 5000 < gp ((ps.map pure1).take 200) by omega), Bool.false_or]
    (conv => whnf); repeat ((first | refine tk1 ?_ | refine tk2 ?_ | refine tk3 ?_ | refine tk12 (fun _ => ?_) | refine tk4 ?_ | refine tk5 ?_ | refine tk6 ?_ | refine tk7 ?_ | refine tk8 ?_ | refine tk9 ?_ | refine tk10 (fun _ _ => ?_) | refine tk11 (fun _ => ?_) | refine tk13 ?_ | refine tk14 ?_); (conv => whnf))
    refine Cmp.cases (fun c3 => ?_) (fun c3 => ?_)
    · (conv => whnf); repeat ((first | refine tk1 ?_ | refine tk2 ?_ | refine tk3 ?_ | refine tk12 (fun _ => ?_) | refine tk4 ?_ | refine tk5 ?_ | refine tk6 ?_ | refine tk7 ?_ | refine tk8 ?_ | refine tk9 ?_ | refine tk10 (fun _ _ => ?_) | refine tk11 (fun _ => ?_) | refine tk13 ?_ | refine tk14 ?_); (conv => whnf))
      exact fun w' _ => by rw [decide_eq_true (show 90 < F.length by omega)]; rfl
    rw [decide_eq_false (show ¬ 90 < F.length by omega), Bool.false_or]
    (conv => whnf); repeat ((first | refine tk1 ?_ | refine tk2 ?_ | refine tk3 ?_ | refine tk12 (fun _ => ?_) | refine tk4 ?_ | refine tk5 ?_ | refine tk6 ?_ | refine tk7 ?_ | refine tk8 ?_ | refine tk9 ?_ | refine tk10 (fun _ _ => ?_) | refine tk11 (fun _ => ?_) | refine tk13 ?_ | refine tk14 ?_); (conv => whnf))
    refine CallK.fnR (Great_r (gI := gI) FA Fc F) ⟨(hRF _).ok, trivial⟩ ?_
    (conv => whnf); repeat ((first | refine tk1 ?_ | refine tk2 ?_ | refine tk3 ?_ | refine tk12 (fun _ => ?_) | refine tk4 ?_ | refine tk5 ?_ | refine tk6 ?_ | refine tk7 ?_ | refine tk8 ?_ | refine tk9 ?_ | refine tk10 (fun _ _ => ?_) | refine tk11 (fun _ => ?_) | refine tk13 ?_ | refine tk14 ?_); (conv => whnf))
    exact fun w' _ => rfl
end Go.Proofs.YtnnpnkmdhfjccaaDoor.Vex
/- The document's own answer for answers as bytes, reckoned: Write. -/
namespace Go.Proofs.YtnnpnkmdhfjccaaDoor.Vex
open Go Go.RowKit
set_option maxRecDepth 100000
set_option linter.unusedSectionVars false
variable {gI : GI} [HasMax gI] [HasPow gI] [HasTz gI]

set_option maxHeartbeats 4000000 in
theorem Write29_r (st : Int) (FA : Option Addr) (Fc : Nat) (F : List Fld) (QA : Option Addr) (Qc : Nat) (ps : List Prt) (cd : UInt8) (tag : List UInt8) (press : Bool) (minor : Int) (head last : Bool) (hF : fsum F ≤ 1048576) (hn : ps.length ≤ 1000) (htl : total (ps.map pure1) ≤ 131072) :
    FnT Tryd.prog gI 8 [.agg ⟨[.int .i64 st, .slice FA F.length Fc, .slice QA ps.length Qc, .int .u8 cd.toNat, str tag, .bool press]⟩, .int .i64 minor, .bool head, .bool last] (fun w => Rdw w FA (fcells F) ∧ PrtsOk w QA ps)
      (fun y : PV => .tuple #[.slice y.D y.ps.length y.dc, .bool (writeR st F (ps.map pure1) cd.toNat minor head last).c, .int .i64 (writeR st F (ps.map pure1) cd.toNat minor head last).e]) (fun y => y.ps.map pure1 = (writeR st F (ps.map pure1) cd.toNat minor head last).l) PV.hd (fun y => rowsP 5 y.ps) := by
  have hmay := May29_r (gI := gI) st FA Fc F QA Qc ps cd tag press hF (by omega) (by omega)
  have htold := Told29_r (gI := gI) st FA Fc F QA Qc ps cd tag press minor head last hF hn htl
  refine FnE.of tys_ok Tryd.func8 rfl (by kernel_rfl) rfl rfl ?_; intro w hG hP
  have hRF : ∀ H, RdA (mkC Tryd.prog gI w hG) H FA (fcells F) := fun H => ⟨hP.1.now⟩
  have hRQ : ∀ H, RdA (mkC Tryd.prog gI w hG) H QA (pcells ps) := fun H => ⟨hP.2.1.now⟩
  have hRq : ∀ q ∈ ps, ∀ H, RdA (mkC Tryd.prog gI w hG) H q.A (q.l.map byteV) := fun q hm H => ⟨(hP.2.2 q hm).now⟩
  have hPQ : ∀ H w', St (mkC Tryd.prog gI w hG) H w' → PrtsOk w' QA ps := fun H w' hw' => ⟨(hRQ H).ok w' hw', fun q hm => (hRq q hm H).ok w' hw'⟩
  clear hP
  have hfail : ∀ (e : Int) (r : WRes) (w w' : World) (hG : gI.G w), r = ⟨[], false, e⟩ → St (mkC Tryd.prog gI w hG) [] w' → ∃ y : PV, Value.tuple #[.slice none 0 0, .bool false, .int .i64 e] = Value.tuple #[.slice y.D y.ps.length y.dc, .bool r.c, .int .i64 r.e] ∧ y.ps.map pure1 = r.l ∧ newH w w' (y.hd ++ rowsP 5 y.ps) := fun e r w w' hG hr hw' => by
    subst hr
    exact ⟨⟨none, 0, []⟩, rfl, rfl, newH.of (hw'.nilRow 37 2)⟩
  (conv => whnf); repeat ((first | refine tk1 ?_ | refine tk2 ?_ | refine tk3 ?_ | refine tk12 (fun _ => ?_) | refine tk4 ?_ | refine tk5 ?_ | refine tk6 ?_ | refine tk7 ?_ | refine tk8 ?_ | refine tk9 ?_ | refine tk10 (fun _ _ => ?_) | refine tk11 (fun _ => ?_) | refine tk13 ?_ | refine tk14 ?_); (conv => whnf))
  rename_i b4
  refine CallK.fnR hmay ⟨(hRF _).ok, (hRQ _).ok, trivial⟩ ?_
  unfold writeR
  cases hok : anOK st F (ps.map pure1) cd.toNat
  · simp only [Bool.false_eq_true, if_false]
    (conv => whnf); repeat ((first | refine tk1 ?_ | refine tk2 ?_ | refine tk3 ?_ | refine tk12 (fun _ => ?_) | refine tk4 ?_ | refine tk5 ?_ | refine tk6 ?_ | refine tk7 ?_ | refine tk8 ?_ | refine tk9 ?_ | refine tk10 (fun _ _ => ?_) | refine tk11 (fun _ => ?_) | refine tk13 ?_ | refine tk14 ?_); (conv => whnf))
    exact fun w' hw' => hfail 8 _ w w' hG rfl (hw'.sub (List.nil_sublist _))
  simp only [if_true]
  by_cases h0 : minor = 0
  · subst h0
    have ht := htold hok (Or.inl rfl)
    (conv => whnf); repeat ((first | refine tk1 ?_ | refine tk2 ?_ | refine tk3 ?_ | refine tk12 (fun _ => ?_) | refine tk4 ?_ | refine tk5 ?_ | refine tk6 ?_ | refine tk7 ?_ | refine tk8 ?_ | refine tk9 ?_ | refine tk10 (fun _ _ => ?_) | refine tk11 (fun _ => ?_) | refine tk13 ?_ | refine tk14 ?_); (conv => whnf))
    refine CallK.fnT ht (fun w1 hw1 => ⟨(hRF _).ok w1 hw1, hPQ _ w1 hw1⟩) ?_
    rintro y hy
    cases last
    all_goals
      (conv => whnf); repeat ((first | refine tk1 ?_ | refine tk2 ?_ | refine tk3 ?_ | refine tk12 (fun _ => ?_) | refine tk4 ?_ | refine tk5 ?_ | refine tk6 ?_ | refine tk7 ?_ | refine tk8 ?_ | refine tk9 ?_ | refine tk10 (fun _ _ => ?_) | refine tk11 (fun _ => ?_) | refine tk13 ?_ | refine tk14 ?_); (conv => whnf))
      exact fun w' hw' => ⟨y, rfl, hy, newH.of (hw'.sub (by simp))⟩
  by_cases h1 : minor = 1
  · subst h1
    have ht := htold hok (Or.inr rfl)
    (conv => whnf); repeat ((first | refine tk1 ?_ | refine tk2 ?_ | refine tk3 ?_ | refine tk12 (fun _ => ?_) | refine tk4 ?_ | refine tk5 ?_ | refine tk6 ?_ | refine tk7 ?_ | refine tk8 ?_ | refine tk9 ?_ | refine tk10 (fun _ _ => ?_) | refine tk11 (fun _ => ?_) | refine tk13 ?_ | refine tk14 ?_); (conv => whnf))
    refine CallK.fnT ht (fun w1 hw1 => ⟨(hRF _).ok w1 hw1, hPQ _ w1 hw1⟩) ?_
    rintro y hy
    cases last
    all_goals
      (conv => whnf); repeat ((first | refine tk1 ?_ | refine tk2 ?_ | refine tk3 ?_ | refine tk12 (fun _ => ?_) | refine tk4 ?_ | refine tk5 ?_ | refine tk6 ?_ | refine tk7 ?_ | refine tk8 ?_ | refine tk9 ?_ | refine tk10 (fun _ _ => ?_) | refine tk11 (fun _ => ?_) | refine tk13 ?_ | refine tk14 ?_); (conv => whnf))
      exact fun w' hw' => ⟨y, rfl, hy, newH.of (hw'.sub (by simp))⟩
  rw [if_neg (by omega)]
  (conv => whnf); repeat ((first | refine tk1 ?_ | refine tk2 ?_ | refine tk3 ?_ | refine tk12 (fun _ => ?_) | refine tk4 ?_ | refine tk5 ?_ | refine tk6 ?_ | refine tk7 ?_ | refine tk8 ?_ | refine tk9 ?_ | refine tk10 (fun _ _ => ?_) | refine tk11 (fun _ => ?_) | refine tk13 ?_ | refine tk14 ?_); (conv => whnf))
  exact fun w' hw' => hfail 2 _ w w' hG rfl (hw'.sub (List.nil_sublist _))
end Go.Proofs.YtnnpnkmdhfjccaaDoor.Vex
/- The statement PageTells, reckoned. -/
namespace Go.Proofs.YtnnpnkmdhfjccaaDoor.Vex
open Go Go.RowKit
set_option maxRecDepth 100000
set_option linter.unusedSectionVars false
variable {gI : GI} [HasMax gI]

theorem answer_cases {st : Int} {fs : List Fld} {tag : List UInt8} {press : Bool} {Q : List Pce} {B q : List UInt8} {pm : List Fld} {a : Ans} {e : Int} (h : answerOf st fs tag press Q B q pm = (a, e)) :
    (e = 0 ∧ pageOK st tag fs Q = true ∧ total (told B q pm Q) ≤ 131072 ∧ a = ansOf st fs tag press (told B q pm Q)) ∨ (e = 9 ∧ a = ans0) ∨ (e = 8 ∧ pageE st tag fs Q = 8 ∧ a = ans0) := by
  unfold answerOf at h
  cases hp : pageOK st tag fs Q with
  | true =>
    rw [hp, if_pos rfl] at h
    split at h
    · rename_i ht
      obtain ⟨rfl, rfl⟩ := Prod.mk.inj h
      exact .inl ⟨rfl, rfl, ht, rfl⟩
    · obtain ⟨rfl, rfl⟩ := Prod.mk.inj h
      exact .inr (.inl ⟨rfl, rfl⟩)
  | false =>
    rw [hp, if_neg Bool.false_ne_true] at h
    obtain ⟨rfl, rfl⟩ := Prod.mk.inj h
    exact .inr (.inr ⟨rfl, by unfold pageE; rw [hp]; rfl, rfl⟩)
theorem ansF_at (tag : List UInt8) (F : List Fld) : F.length ≤ (ansF tag F).length ∧ ∀ (k : Nat) (h : k < F.length) (h' : k < (ansF tag F).length), (ansF tag F)[k] = F[k] := by
  unfold ansF
  by_cases ht : tag = []
  · simp only [if_pos ht]
    exact ⟨Nat.le_refl _, fun _ _ _ => trivial⟩
  · simp only [if_neg ht]
    exact ⟨by simp, fun k h h' => List.getElem_append_left h⟩
/-- What the walk of a statement on pages needs. -/
abbrev PgL (x : Pg) (r : Req) (P : Sl Fld) : List (Option Addr × List Value) := [(x.F.A, fcells x.F.l), (x.Ps.A, pccells x.Ps.l), (P.A, fcells P.l), (r.B.A, r.B.l.map byteV)]
end Go.Proofs.YtnnpnkmdhfjccaaDoor.Vex
/- The statement PageAnswers, reckoned. -/
namespace Go.Proofs.YtnnpnkmdhfjccaaDoor.Vex
open Go Go.RowKit
set_option maxRecDepth 100000
set_option linter.unusedSectionVars false
variable {gI : GI} [HasMax gI] [HasPow gI]

theorem CallQ.fnEV {c : Ctx} {H : Hp} {f : Nat} {args : List Value} {pre : World → Prop} {v : Value} {K : Value → Prop} (h : FnE c.P c.g f args pre fun _ u _ => u = v) (hp : ∀ w, St c H w → pre w) (k : K v) : CallQ c f args H K :=
  ⟨h.can, v, k, fun w hw => (h.ok w hw.glob (hp w hw)).mono fun _ _ ⟨_, he, hv, hr⟩ => ⟨by rw [he, hv], hr⟩⟩
/-- A part's row, its bytes turned. -/
def rowM (e : Nat) (z : Prt × List UInt8) : Ent := .row (.slice z.1.A z.1.l.length z.1.cp) e 1 z.1.l.length (z.2.map byteV)
def rowsM (e : Nat) (zs : List (Prt × List UInt8)) : Hp := zs.map (rowM e)
def asIs (ps : List Prt) : List (Prt × List UInt8) := ps.map fun q => (q, q.l)
theorem rowsM_asIs (e : Nat) (ps : List Prt) : rowsM e (asIs ps) = rowsP e ps := by
  unfold rowsM asIs rowsP
  rw [List.map_map]
  rfl
theorem out_perm {α : Type} {l : List α} {i : Nat} (h : i < l.length) : l.Perm (l[i] :: (l.take i ++ l.drop (i + 1))) := by
  have e : l = l.take i ++ (l[i] :: l.drop (i + 1)) := by rw [← List.drop_eq_getElem_cons h, List.take_append_drop]
  exact (List.Perm.of_eq e).trans List.perm_middle
theorem in_perm {α : Type} {l : List α} {i : Nat} (h : i < l.length) (x : α) : (x :: (l.take i ++ l.drop (i + 1))).Perm (l.set i x) := by
  rw [List.set_eq_take_append_cons_drop, if_pos h]
  exact List.perm_middle.symm
theorem rowsM_out {e : Nat} {zs : List (Prt × List UInt8)} {i : Nat} (h : i < zs.length) (T : Hp) : Cv (rowsM e zs ++ T) (rowM e zs[i] :: (rowsM e (zs.take i ++ zs.drop (i + 1)) ++ T)) := by
  refine .of ?_
  unfold rowsM
  rw [← List.cons_append, ← List.map_cons (f := rowM e)]
  exact List.Perm.append_right T (List.Perm.map _ (out_perm h))
theorem rowsM_in {e : Nat} {zs : List (Prt × List UInt8)} {i : Nat} (h : i < zs.length) (z : Prt × List UInt8) (T : Hp) : Cv (rowM e z :: (rowsM e (zs.take i ++ zs.drop (i + 1)) ++ T)) (rowsM e (zs.set i z) ++ T) := by
  refine .of ?_
  unfold rowsM
  rw [← List.cons_append, ← List.map_cons (f := rowM e)]
  exact List.Perm.append_right T (List.Perm.map _ (in_perm h z))
theorem total_mem {p : List UInt8 × Bool} : ∀ {l : Prs}, p ∈ l → p.1.length ≤ total l
  | q :: r, h => by
    rw [total]
    rcases List.mem_cons.1 h with rfl | h
    · omega
    · have := total_mem h; omega
theorem Cv.left2 {G A B : Hp} : Cv ((G ++ A) ++ B) G := Cv.left.trans Cv.left
theorem Cv.left3 {G A B D : Hp} : Cv (((G ++ A) ++ B) ++ D) G := Cv.left.trans Cv.left2
theorem Cv.bub {x z : Ent} {H G : Hp} (h : Cv H (z :: G)) : Cv (x :: H) (z :: x :: G) := by
  obtain ⟨R, hR⟩ := h
  exact ⟨R, (hR.cons x).trans (List.Perm.swap z x (G ++ R))⟩
theorem Cv.sink {x z : Ent} {H G : Hp} (h : Cv (z :: H) G) : Cv (z :: x :: H) (x :: G) := by
  obtain ⟨R, hR⟩ := h
  exact ⟨R, (List.Perm.swap x z H).trans (hR.cons x)⟩
theorem fcells_set : ∀ (l : List Fld) (k : Nat) (s : List UInt8) (h : k < l.length), (fcells l).set (k * 2 + 0) (str s) = fcells (l.set k (s, l[k].2))
  | p :: r, 0, s, _ => rfl
  | p :: r, k + 1, s, h => by
    have ih := fcells_set r k s (by simpa using h)
    rw [show (k + 1) * 2 + 0 = k * 2 + 0 + 1 + 1 by omega]
    exact congrArg (fun t => str p.1 :: str p.2 :: t) ih
theorem wrap_byte (z : Int) : ∃ y : UInt8, IntKind.u8.wrap z = (y.toNat : Int) := by
  have h : 0 ≤ IntKind.u8.wrap z ∧ IntKind.u8.wrap z < 256 := by rw [IntKind.wrap_u8]; omega
  refine ⟨UInt8.ofNat (IntKind.u8.wrap z).toNat, ?_⟩
  rw [UInt8.toNat_ofNat_of_lt' (by show _ < 256; omega)]
  omega
theorem errorOf_le {st : Int} {a : Ans} {e : Int} (h : errorOf st = (a, e)) : a.fs.length ≤ 1 ∧ a.ps.length ≤ 1 := by
  unfold errorOf at h
  split at h
  · obtain ⟨rfl, rfl⟩ := Prod.mk.inj h
    exact ⟨Nat.zero_le _, Nat.zero_le _⟩
  · obtain ⟨rfl, rfl⟩ := Prod.mk.inj h
    exact ⟨Nat.zero_le _, Nat.le_refl _⟩
end Go.Proofs.YtnnpnkmdhfjccaaDoor.Vex
/- The law ReplyWrites, reckoned. -/
namespace Go.Proofs.YtnnpnkmdhfjccaaDoor.Vex
open Go Go.RowKit
set_option maxRecDepth 100000
set_option linter.unusedSectionVars false
variable {gI : GI} [HasMax gI] [HasPow gI] [HasTz gI]

theorem writeR_le (st : Int) (F : List Fld) (ps : Prs) (cd : Nat) (minor : Int) (head last : Bool) (hF : fsum F ≤ 1048576) (hn : ps.length ≤ 100) (ht : total ps ≤ 5000) : (writeR st F ps cd minor head last).l.length ≤ 4000000 ∧ total (writeR st F ps cd minor head last).l ≤ 9000000 := by
  unfold writeR
  split
  · rename_i hok
    split
    · dsimp only
      have hst : 200 ≤ st ∧ st ≤ 599 := by
        unfold anOK anST at hok
        simp only [Bool.and_eq_true, decide_eq_true_eq] at hok
        exact ⟨hok.1.1, hok.1.2.1⟩
      have h1 := headR_le st F ps cd (chunkB st ps cd minor) (last || decide (minor = 0)) hF hst.1 hst.2 (by omega)
      have h2 := total_bodyR (chunkB st ps cd minor) ps (fun p hp => Nat.lt_of_le_of_lt (total_mem hp) (by omega))
      have h3 : (bodyR (chunkB st ps cd minor) ps).length ≤ ps.length := by unfold bodyR; split <;> simp
      have hpt : ∀ l : Prs, total (partsG l) = total l := fun l => by rw [← total_bodyOf, bodyOf_parts, total_bodyOf]
      rw [hpt]
      have h4 := (parts_length (piecesR st F ps cd minor head last)).1
      have h5 : lastC.length = 5 := rfl
      have h6 : (piecesR st F ps cd minor head last).length ≤ 200 ∧ total (piecesR st F ps cd minor head last) ≤ 9000000 := by
        have hc : ∀ (p : List UInt8 × Bool) (r : Prs), total (p :: r) = p.1.length + total r := fun _ _ => rfl
        have hnil : total ([] : Prs) = 0 := rfl
        clear h4
        unfold piecesR
        generalize headR st F ps cd (chunkB st ps cd minor) (last || decide (minor = 0)) = Hh at h1 ⊢
        generalize bodyR (chunkB st ps cd minor) ps = B at h2 h3 ⊢
        generalize chunkB st ps cd minor = ch
        cases head <;> cases ch <;> simp only [Bool.false_eq_true, if_true, if_false, hc, total_append, hnil, List.length_cons, List.length_append, List.length_nil, h5] <;> omega
      exact ⟨by omega, h6.2⟩
    · exact ⟨Nat.zero_le _, Nat.zero_le _⟩
  · exact ⟨Nat.zero_le _, Nat.zero_le _⟩
set_option maxHeartbeats 8000000 in
theorem ReplyWrites_v (st : Int) (FA : Option Addr) (Fc : Nat) (F : List Fld) (QA : Option Addr) (Qc : Nat) (ps : List Prt) (cd : UInt8) (tag : List UInt8) (press : Bool) (minor : Int) (head last : Bool) (hq : ∀ q ∈ ps, q.l.length ≤ q.cp) :
    FnE Tryd.prog gI 3 [.agg ⟨[.int .i64 st, .slice FA F.length Fc, .slice QA ps.length Qc, .int .u8 cd.toNat, str tag, .bool press]⟩, .int .i64 minor, .bool head, .bool last] (fun w => Rdw w FA (fcells F) ∧ PrtsOk w QA ps) fun _ v _ => v = .bool true := by
  refine FnE.of tys_ok Tryd.func3 rfl (by kernel_rfl) rfl rfl ?_; intro w hG hP
  have hRF : ∀ H, RdA (mkC Tryd.prog gI w hG) H FA (fcells F) := fun H => ⟨hP.1.now⟩
  have hRQ : ∀ H, RdA (mkC Tryd.prog gI w hG) H QA (pcells ps) := fun H => ⟨hP.2.1.now⟩
  have hRq : ∀ q ∈ ps, ∀ H, RdA (mkC Tryd.prog gI w hG) H q.A (q.l.map byteV) := fun q hm H => ⟨(hP.2.2 q hm).now⟩
  have hPQ : ∀ H w', St (mkC Tryd.prog gI w hG) H w' → PrtsOk w' QA ps := fun H w' hw' => ⟨(hRQ H).ok w' hw', fun q hm => (hRq q hm H).ok w' hw'⟩
  clear hP
  (conv => whnf); repeat ((first | refine tk1 ?_ | refine tk2 ?_ | refine tk3 ?_ | refine tk12 (fun _ => ?_) | refine tk4 ?_ | refine tk5 ?_ | refine tk6 ?_ | refine tk7 ?_ | refine tk8 ?_ | refine tk9 ?_ | refine tk10 (fun _ _ => ?_) | refine tk11 (fun _ => ?_) | refine tk13 ?_ | refine tk14 ?_); (conv => whnf))
  rename_i b
  refine CallK.fnR (Great29_r (gI := gI) st FA Fc F QA Qc ps cd tag press) ⟨(hRF _).ok, (hRQ _).ok, trivial⟩ ?_
  cases hg : greatR F (ps.map pure1)
  rotate_left
  · (conv => whnf); repeat ((first | refine tk1 ?_ | refine tk2 ?_ | refine tk3 ?_ | refine tk12 (fun _ => ?_) | refine tk4 ?_ | refine tk5 ?_ | refine tk6 ?_ | refine tk7 ?_ | refine tk8 ?_ | refine tk9 ?_ | refine tk10 (fun _ _ => ?_) | refine tk11 (fun _ => ?_) | refine tk13 ?_ | refine tk14 ?_); (conv => whnf))
    exact fun w' _ => rfl
  have hsz : ps.length ≤ 100 ∧ total (ps.map pure1) ≤ 5000 := by
    have := greatR_le hg
    rw [List.length_map] at this
    exact ⟨this.2.2.1, this.2.2.2.1⟩
  have hF : fsum F ≤ 1048576 := by have := (greatR_le hg).1; omega
  have hw1 := AWrite_f (gI := gI) st FA Fc F QA Qc ps cd tag press minor head last hF (by omega) (by omega) hq
  have hw2 := Write29_r (gI := gI) st FA Fc F QA Qc ps cd tag press minor head last hF (by omega) (by omega)
  have hWn : (writeR st F (ps.map pure1) cd.toNat minor head last).l.length ≤ 4000000 := (writeR_le st F (ps.map pure1) cd.toNat minor head last hF (by rw [List.length_map]; exact hsz.1) hsz.2).1
  have hWt : total (writeR st F (ps.map pure1) cd.toNat minor head last).l ≤ 9000000 := (writeR_le st F (ps.map pure1) cd.toNat minor head last hF (by rw [List.length_map]; exact hsz.1) hsz.2).2
  generalize writeR st F (ps.map pure1) cd.toNat minor head last = W at hw1 hw2 hWn hWt
  obtain ⟨Wl, Wc, We⟩ := W
  dsimp only at hw1 hw2 hWn hWt
  (conv => whnf); repeat ((first | refine tk1 ?_ | refine tk2 ?_ | refine tk3 ?_ | refine tk12 (fun _ => ?_) | refine tk4 ?_ | refine tk5 ?_ | refine tk6 ?_ | refine tk7 ?_ | refine tk8 ?_ | refine tk9 ?_ | refine tk10 (fun _ _ => ?_) | refine tk11 (fun _ => ?_) | refine tk13 ?_ | refine tk14 ?_); (conv => whnf))
  refine CallK.fnT hw1 (fun w1 hw1 => ⟨(hRF _).ok w1 hw1, hPQ _ w1 hw1⟩) ?_
  rintro x hx
  dsimp only [PV.hd, List.cons_append, List.nil_append]
  (conv => whnf); repeat ((first | refine tk1 ?_ | refine tk2 ?_ | refine tk3 ?_ | refine tk12 (fun _ => ?_) | refine tk4 ?_ | refine tk5 ?_ | refine tk6 ?_ | refine tk7 ?_ | refine tk8 ?_ | refine tk9 ?_ | refine tk10 (fun _ _ => ?_) | refine tk11 (fun _ => ?_) | refine tk13 ?_ | refine tk14 ?_); (conv => whnf))
  refine CallK.fnT hw2 (fun w1 hw1 => ⟨(hRF _).ok w1 hw1, hPQ _ w1 hw1⟩) ?_
  rintro y hy
  dsimp only [PV.hd, List.cons_append, List.nil_append]
  (conv => whnf); repeat ((first | refine tk1 ?_ | refine tk2 ?_ | refine tk3 ?_ | refine tk12 (fun _ => ?_) | refine tk4 ?_ | refine tk5 ?_ | refine tk6 ?_ | refine tk7 ?_ | refine tk8 ?_ | refine tk9 ?_ | refine tk10 (fun _ _ => ?_) | refine tk11 (fun _ => ?_) | refine tk13 ?_ | refine tk14 ?_); (conv => whnf))
  have hx' : x.ps.map pure1 = Wl := hx
  have hy' : y.ps.map pure1 = Wl := hy
  have hxl : x.ps.length = Wl.length := by rw [← hx', List.length_map]
  have hyl : y.ps.length = Wl.length := by rw [← hy', List.length_map]
  refine DrawS.go (qs 21) tys_ok mixed (by kernel_rfl) ?_
  (conv => whnf); repeat ((first | refine tk1 ?_ | refine tk2 ?_ | refine tk3 ?_ | refine tk12 (fun _ => ?_) | refine tk4 ?_ | refine tk5 ?_ | refine tk6 ?_ | refine tk7 ?_ | refine tk8 ?_ | refine tk9 ?_ | refine tk10 (fun _ _ => ?_) | refine tk11 (fun _ => ?_) | refine tk13 ?_ | refine tk14 ?_); (conv => whnf))
  refine CallQ.fnEV (SameParts_r x.D y.D x.dc y.dc x.ps y.ps (by rw [hxl]; exact hWn) (by rw [hyl]; exact hWn)) (fun w1 hw1 => ⟨(prtsOk_st RdA.ok (fun q hq => RdS.sub (Prt.rd (e := 5) hq) (by repeat' (first | exact List.Sublist.refl _ | exact List.sublist_append_right _ _ | exact List.sublist_append_left _ _ | refine List.Sublist.trans ?_ (List.sublist_append_left _ _) | apply List.Sublist.cons)))) w1 hw1, (prtsOk_st RdA.ok (fun q hq => RdS.sub (Prt.rd (e := 5) hq) (by repeat' (first | exact List.Sublist.refl _ | exact List.sublist_append_right _ _ | exact List.sublist_append_left _ _ | refine List.Sublist.trans ?_ (List.sublist_append_left _ _) | apply List.Sublist.cons)))) w1 hw1⟩) ?_
  rw [decide_eq_true (hx'.trans hy'.symm)]
  (conv => whnf); repeat ((first | refine tk1 ?_ | refine tk2 ?_ | refine tk3 ?_ | refine tk12 (fun _ => ?_) | refine tk4 ?_ | refine tk5 ?_ | refine tk6 ?_ | refine tk7 ?_ | refine tk8 ?_ | refine tk9 ?_ | refine tk10 (fun _ _ => ?_) | refine tk11 (fun _ => ?_) | refine tk13 ?_ | refine tk14 ?_); (conv => whnf))
  refine Cmp.f (fun h => h rfl) ?_
  (conv => whnf); repeat ((first | refine tk1 ?_ | refine tk2 ?_ | refine tk3 ?_ | refine tk12 (fun _ => ?_) | refine tk4 ?_ | refine tk5 ?_ | refine tk6 ?_ | refine tk7 ?_ | refine tk8 ?_ | refine tk9 ?_ | refine tk10 (fun _ _ => ?_) | refine tk11 (fun _ => ?_) | refine tk13 ?_ | refine tk14 ?_); (conv => whnf))
  refine CallQ.fnR (ACheck_f (gI := gI) st FA Fc F QA Qc ps cd tag press hF (by omega) (by omega)) ⟨(hRF _).ok, (hRQ _).ok, trivial⟩ ?_
  (conv => whnf); repeat ((first | refine tk1 ?_ | refine tk2 ?_ | refine tk3 ?_ | refine tk12 (fun _ => ?_) | refine tk4 ?_ | refine tk5 ?_ | refine tk6 ?_ | refine tk7 ?_ | refine tk8 ?_ | refine tk9 ?_ | refine tk10 (fun _ _ => ?_) | refine tk11 (fun _ => ?_) | refine tk13 ?_ | refine tk14 ?_); (conv => whnf))
  refine CallQ.fnR (Check29_r (gI := gI) st FA Fc F QA Qc ps cd tag press hF (by omega) (by omega)) ⟨(hRF _).ok, (hRQ _).ok, trivial⟩ ?_
  (conv => whnf); repeat ((first | refine tk1 ?_ | refine tk2 ?_ | refine tk3 ?_ | refine tk12 (fun _ => ?_) | refine tk4 ?_ | refine tk5 ?_ | refine tk6 ?_ | refine tk7 ?_ | refine tk8 ?_ | refine tk9 ?_ | refine tk10 (fun _ _ => ?_) | refine tk11 (fun _ => ?_) | refine tk13 ?_ | refine tk14 ?_); (conv => whnf))
  refine LoopS.lpT tys_ok (fun (s : Nat × List (Prt × List UInt8)) u => [u 0, .int .i64 minor, .bool head, .bool last, .pointer (some ⟨b, 0, none⟩), u 5, u 6, u 7, u 8, .slice x.D x.ps.length x.dc, u 10, u 11, .slice y.D y.ps.length y.dc, u 13, u 14, .int .i64 (s.1 : Nat), u 16, u 17, u 18, u 19, u 20, u 21, u 22, u 23, u 24, u 25, u 26, u 27, u 28, u 29, u 30, u 31, u 32, u 33, u 34, u 35, u 36, u 37, u 38, u 39, u 40, u 41, u 42, u 43, u 44, u 45, u 46, u 47, u 48, u 49, u 50, u 51, u 52, u 53, u 54, u 55, u 56, u 57, u 58, u 59, u 60, u 61, u 62, u 63, u 64, u 65, u 66, u 67, u 68, u 69, u 70, u 71, u 72, u 73, u 74, u 75, u 76, u 77, u 78, u 79, u 80, u 81, u 82, u 83, u 84, u 85, u 86, u 87, u 88, u 89, u 90, u 91, u 92, u 93, u 94, u 95, u 96, u 97, u 98, u 99, u 100, u 101, u 102, u 103, u 104])
    (fun s => (.row (.slice y.D y.ps.length y.dc) 37 2 y.ps.length (pcells y.ps) :: .row (.slice x.D x.ps.length x.dc) 37 2 x.ps.length (pcells x.ps) :: .box b [.int .i64 st, .slice FA F.length Fc, .slice QA ps.length Qc, .int .u8 cd.toNat, str tag, .bool press] 25 :: (rowsM 5 s.2 ++ rowsP 5 y.ps))) (fun s => s.1 ≤ x.ps.length ∧ s.2.map Prod.fst = x.ps ∧ ∀ z ∈ s.2, z.2.length = z.1.l.length) (fun s => x.ps.length - s.1) (0, asIs x.ps) ⟨Nat.zero_le _, by unfold asIs; rw [List.map_map]; exact List.map_id _, fun z hz => by
      obtain ⟨q, _, rfl⟩ := List.mem_map.1 hz
      rfl⟩ rfl (by
        dsimp only
        rw [rowsM_asIs]
        exact Cv.into (by (try dsimp only); repeat' (first | with_reducible exact Cv.refl | with_reducible exact Cv.left | with_reducible exact Cv.left2 | with_reducible exact Cv.left3 | with_reducible exact Cv.right | with_reducible exact Cv.nil | (with_reducible apply Cv.cons; focus ((repeat (first | with_reducible exact Pick.here | with_reducible apply Pick.skip)); done)) | (apply Cv.cons; focus ((repeat (first | exact Pick.here | apply Pick.skip)); done)) | exact Cv.nil | exact Cv.refl | exact Cv.left | exact Cv.right | refine Cv.skip ?_))) ?_
  rintro ⟨i, zs⟩ u ⟨hi, hzs, hzl⟩
  dsimp only at hi hzs hzl ⊢
  have hzn : zs.length = x.ps.length := by rw [← hzs, List.length_map]
  (conv => whnf); repeat ((first | refine tk1 ?_ | refine tk2 ?_ | refine tk3 ?_ | refine tk12 (fun _ => ?_) | refine tk4 ?_ | refine tk5 ?_ | refine tk6 ?_ | refine tk7 ?_ | refine tk8 ?_ | refine tk9 ?_ | refine tk10 (fun _ _ => ?_) | refine tk11 (fun _ => ?_) | refine tk13 ?_ | refine tk14 ?_); (conv => whnf))
  refine Cmp.cases (fun hlt => ?_) (fun hlt => ?_)
  · have hi2 : i < zs.length := by omega
    have hi3 : i < x.ps.length := by omega
    have hq1 : zs[i].1 = x.ps[i] := by
      have : (zs.map Prod.fst)[i]'(by rw [List.length_map]; exact hi2) = zs[i].1 := List.getElem_map ..
      rw [← this]; simp only [hzs]
    have ga := pcells_at x.ps i hi3
    have hl9 := hzl _ (List.getElem_mem hi2)
    have hout := rowsM_out (e := 5) hi2 (rowsP 5 y.ps)
    have hin := fun l2 => rowsM_in (e := 5) hi2 (x.ps[i], l2) (rowsP 5 y.ps)
    obtain ⟨q, hqe⟩ : ∃ q, x.ps[i] = q := ⟨_, rfl⟩
    obtain ⟨l0, hl0⟩ : ∃ l0, zs[i].2 = l0 := ⟨_, rfl⟩
    have hze : zs[i] = (q, l0) := Prod.ext (by rw [hq1, hqe]) hl0
    rw [hqe] at ga hin
    rw [hze] at hl9 hout
    dsimp only at hl9
    obtain ⟨T9, hT9⟩ : ∃ T9, rowsM 5 (zs.take i ++ zs.drop (i + 1)) ++ rowsP 5 y.ps = T9 := ⟨_, rfl⟩
    rw [hT9] at hout
    simp only [hT9] at hin
    have hset : x.ps.set i q = x.ps := by rw [← hqe]; exact List.set_getElem_self hi3
    have hqz : q.l.length ≤ 9000000 := by
      have hqm : q ∈ x.ps := hqe ▸ List.getElem_mem hi3
      have := total_mem (p := pure1 q) (l := Wl) (by rw [← hx']; exact List.mem_map_of_mem hqm)
      exact Nat.le_trans this hWt
    (conv => whnf); repeat ((first | refine tk1 ?_ | refine tk2 ?_ | refine tk3 ?_ | refine tk12 (fun _ => ?_) | refine tk4 ?_ | refine tk5 ?_ | refine tk6 ?_ | refine tk7 ?_ | refine tk8 ?_ | refine tk9 ?_ | refine tk10 (fun _ _ => ?_) | refine tk11 (fun _ => ?_) | refine tk13 ?_ | refine tk14 ?_); (conv => whnf))
    refine LoopS.lpT tys_ok (fun (s : Nat × List UInt8) u => [u 0, .int .i64 minor, .bool head, .bool last, .pointer (some ⟨b, 0, none⟩), u 5, u 6, u 7, u 8, .slice x.D x.ps.length x.dc, u 10, u 11, .slice y.D y.ps.length y.dc, u 13, u 14, .int .i64 (i : Nat), .int .i64 (s.1 : Nat), u 17, u 18, u 19, u 20, u 21, u 22, u 23, u 24, u 25, u 26, u 27, u 28, u 29, u 30, u 31, u 32, u 33, u 34, u 35, u 36, u 37, u 38, u 39, u 40, u 41, u 42, u 43, u 44, u 45, u 46, u 47, u 48, u 49, u 50, u 51, u 52, u 53, u 54, u 55, u 56, u 57, u 58, u 59, u 60, u 61, u 62, u 63, u 64, u 65, u 66, u 67, u 68, u 69, u 70, u 71, u 72, u 73, u 74, u 75, u 76, u 77, u 78, u 79, u 80, u 81, u 82, u 83, u 84, u 85, u 86, u 87, u 88, u 89, u 90, u 91, u 92, u 93, u 94, u 95, u 96, u 97, u 98, u 99, u 100, u 101, u 102, u 103, u 104])
      (fun s => .row (.slice q.A q.l.length q.cp) 5 1 q.l.length (s.2.map byteV) :: .row (.slice y.D y.ps.length y.dc) 37 2 y.ps.length (pcells y.ps) :: .row (.slice x.D x.ps.length x.dc) 37 2 x.ps.length (pcells x.ps) :: .box b [.int .i64 st, .slice FA F.length Fc, .slice QA ps.length Qc, .int .u8 cd.toNat, str tag, .bool press] 25 :: T9) (fun s => s.1 ≤ q.l.length ∧ s.2.length = q.l.length) (fun s => q.l.length - s.1) (0, l0) ⟨Nat.zero_le _, hl9⟩ rfl (Cv.into (by repeat (first | exact hout | refine Cv.bub ?_))) ?_
    rintro ⟨k, l1⟩ u ⟨hk, hl1⟩
    dsimp only at hk hl1 ⊢
    (conv => whnf); repeat ((first | refine tk1 ?_ | refine tk2 ?_ | refine tk3 ?_ | refine tk12 (fun _ => ?_) | refine tk4 ?_ | refine tk5 ?_ | refine tk6 ?_ | refine tk7 ?_ | refine tk8 ?_ | refine tk9 ?_ | refine tk10 (fun _ _ => ?_) | refine tk11 (fun _ => ?_) | refine tk13 ?_ | refine tk14 ?_); (conv => whnf))
    refine IdxA.tc (by rw [pcells_length]; omega) (by omega) (by omega) ?_
    (conv => whnf); repeat ((first | refine tk1 ?_ | refine tk2 ?_ | refine tk3 ?_ | refine tk12 (fun _ => ?_) | refine tk4 ?_ | refine tk5 ?_ | refine tk6 ?_ | refine tk7 ?_ | refine tk8 ?_ | refine tk9 ?_ | refine tk10 (fun _ _ => ?_) | refine tk11 (fun _ => ?_) | refine tk13 ?_ | refine tk14 ?_); (conv => whnf))
    refine Ld.taF (v := .slice q.A q.l.length q.cp) ga.1 ?_
    (conv => whnf); repeat ((first | refine tk1 ?_ | refine tk2 ?_ | refine tk3 ?_ | refine tk12 (fun _ => ?_) | refine tk4 ?_ | refine tk5 ?_ | refine tk6 ?_ | refine tk7 ?_ | refine tk8 ?_ | refine tk9 ?_ | refine tk10 (fun _ _ => ?_) | refine tk11 (fun _ => ?_) | refine tk13 ?_ | refine tk14 ?_); (conv => whnf))
    refine Cmp.cases (fun hlt2 => ?_) (fun hlt2 => ?_)
    · have hk2 : k < l1.length := by omega
      obtain ⟨x9, hx9⟩ : ∃ x9, l1[k] = x9 := ⟨_, rfl⟩
      have hxb : (l1.map byteV)[k]? = some (.int .u8 x9.toNat) := by rw [List.getElem?_map, List.getElem?_eq_getElem hk2, hx9]; rfl
      obtain ⟨y9, hy9⟩ := wrap_byte ((x9.toNat : Int) + 1)
      (conv => whnf); repeat ((first | refine tk1 ?_ | refine tk2 ?_ | refine tk3 ?_ | refine tk12 (fun _ => ?_) | refine tk4 ?_ | refine tk5 ?_ | refine tk6 ?_ | refine tk7 ?_ | refine tk8 ?_ | refine tk9 ?_ | refine tk10 (fun _ _ => ?_) | refine tk11 (fun _ => ?_) | refine tk13 ?_ | refine tk14 ?_); (conv => whnf))
      refine DrawS.go (qs 16 ++ [(16, false)]) tys_ok mixed (by kernel_rfl) ?_
      (conv => whnf); repeat ((first | refine tk1 ?_ | refine tk2 ?_ | refine tk3 ?_ | refine tk12 (fun _ => ?_) | refine tk4 ?_ | refine tk5 ?_ | refine tk6 ?_ | refine tk7 ?_ | refine tk8 ?_ | refine tk9 ?_ | refine tk10 (fun _ _ => ?_) | refine tk11 (fun _ => ?_) | refine tk13 ?_ | refine tk14 ?_); (conv => whnf))
      refine IdxA.tc (by rw [pcells_length]; omega) (by omega) (by omega) ?_
      (conv => whnf); repeat ((first | refine tk1 ?_ | refine tk2 ?_ | refine tk3 ?_ | refine tk12 (fun _ => ?_) | refine tk4 ?_ | refine tk5 ?_ | refine tk6 ?_ | refine tk7 ?_ | refine tk8 ?_ | refine tk9 ?_ | refine tk10 (fun _ _ => ?_) | refine tk11 (fun _ => ?_) | refine tk13 ?_ | refine tk14 ?_); (conv => whnf))
      refine Ld.taF (v := .slice q.A q.l.length q.cp) ga.1 ?_
      (conv => whnf); repeat ((first | refine tk1 ?_ | refine tk2 ?_ | refine tk3 ?_ | refine tk12 (fun _ => ?_) | refine tk4 ?_ | refine tk5 ?_ | refine tk6 ?_ | refine tk7 ?_ | refine tk8 ?_ | refine tk9 ?_ | refine tk10 (fun _ _ => ?_) | refine tk11 (fun _ => ?_) | refine tk13 ?_ | refine tk14 ?_); (conv => whnf))
      refine IdxA.tc (by rw [pcells_length]; omega) (by omega) (by omega) ?_
      (conv => whnf); repeat ((first | refine tk1 ?_ | refine tk2 ?_ | refine tk3 ?_ | refine tk12 (fun _ => ?_) | refine tk4 ?_ | refine tk5 ?_ | refine tk6 ?_ | refine tk7 ?_ | refine tk8 ?_ | refine tk9 ?_ | refine tk10 (fun _ _ => ?_) | refine tk11 (fun _ => ?_) | refine tk13 ?_ | refine tk14 ?_); (conv => whnf))
      refine Ld.taF (v := .slice q.A q.l.length q.cp) ga.1 ?_
      (conv => whnf); repeat ((first | refine tk1 ?_ | refine tk2 ?_ | refine tk3 ?_ | refine tk12 (fun _ => ?_) | refine tk4 ?_ | refine tk5 ?_ | refine tk6 ?_ | refine tk7 ?_ | refine tk8 ?_ | refine tk9 ?_ | refine tk10 (fun _ _ => ?_) | refine tk11 (fun _ => ?_) | refine tk13 ?_ | refine tk14 ?_); (conv => whnf))
      refine IdxA.tc (by rw [List.length_map]; omega) (by omega) (by omega) ?_
      (conv => whnf); repeat ((first | refine tk1 ?_ | refine tk2 ?_ | refine tk3 ?_ | refine tk12 (fun _ => ?_) | refine tk4 ?_ | refine tk5 ?_ | refine tk6 ?_ | refine tk7 ?_ | refine tk8 ?_ | refine tk9 ?_ | refine tk10 (fun _ _ => ?_) | refine tk11 (fun _ => ?_) | refine tk13 ?_ | refine tk14 ?_); (conv => whnf))
      refine Ld.ta (v := .int .u8 x9.toNat) (by rw [show ((k : Nat) : Int).toNat * 1 = k by omega]; exact hxb) ?_
      (conv => whnf); repeat ((first | refine tk1 ?_ | refine tk2 ?_ | refine tk3 ?_ | refine tk12 (fun _ => ?_) | refine tk4 ?_ | refine tk5 ?_ | refine tk6 ?_ | refine tk7 ?_ | refine tk8 ?_ | refine tk9 ?_ | refine tk10 (fun _ _ => ?_) | refine tk11 (fun _ => ?_) | refine tk13 ?_ | refine tk14 ?_); (conv => whnf))
      refine Ar.any ?_
      rw [hy9]
      (conv => whnf); repeat ((first | refine tk1 ?_ | refine tk2 ?_ | refine tk3 ?_ | refine tk12 (fun _ => ?_) | refine tk4 ?_ | refine tk5 ?_ | refine tk6 ?_ | refine tk7 ?_ | refine tk8 ?_ | refine tk9 ?_ | refine tk10 (fun _ _ => ?_) | refine tk11 (fun _ => ?_) | refine tk13 ?_ | refine tk14 ?_); (conv => whnf))
      refine IdxA.tc (by rw [List.length_map]; omega) (by omega) (by omega) ?_
      (conv => whnf); repeat ((first | refine tk1 ?_ | refine tk2 ?_ | refine tk3 ?_ | refine tk12 (fun _ => ?_) | refine tk4 ?_ | refine tk5 ?_ | refine tk6 ?_ | refine tk7 ?_ | refine tk8 ?_ | refine tk9 ?_ | refine tk10 (fun _ _ => ?_) | refine tk11 (fun _ => ?_) | refine tk13 ?_ | refine tk14 ?_); (conv => whnf))
      refine Sto.tr (xs' := (l1.set k y9).map byteV) (by rw [show ((k : Nat) : Int).toNat * 1 = k by omega, List.map_set]; rfl) (by rw [List.length_map]; omega) rfl ?_
      (conv => whnf); repeat ((first | refine tk1 ?_ | refine tk2 ?_ | refine tk3 ?_ | refine tk12 (fun _ => ?_) | refine tk4 ?_ | refine tk5 ?_ | refine tk6 ?_ | refine tk7 ?_ | refine tk8 ?_ | refine tk9 ?_ | refine tk10 (fun _ _ => ?_) | refine tk11 (fun _ => ?_) | refine tk13 ?_ | refine tk14 ?_); (conv => whnf))
      exact ⟨(k + 1, l1.set k y9), ⟨by dsimp only; omega, by dsimp only; rw [List.length_set]; exact hl1⟩, rfl, Into.refl, by dsimp only; omega⟩
    · (conv => whnf); repeat ((first | refine tk1 ?_ | refine tk2 ?_ | refine tk3 ?_ | refine tk12 (fun _ => ?_) | refine tk4 ?_ | refine tk5 ?_ | refine tk6 ?_ | refine tk7 ?_ | refine tk8 ?_ | refine tk9 ?_ | refine tk10 (fun _ _ => ?_) | refine tk11 (fun _ => ?_) | refine tk13 ?_ | refine tk14 ?_); (conv => whnf))
      exact ⟨(i + 1, zs.set i (q, l1)), ⟨by dsimp only; omega, by dsimp only; rw [List.map_set, hzs]; exact hset, fun z hz => by
        rcases List.mem_or_eq_of_mem_set hz with hz | rfl
        · exact hzl z hz
        · exact hl1⟩, rfl, Cv.into (by repeat (first | exact hin l1 | refine Cv.sink ?_)), by dsimp only; omega⟩
  (conv => whnf); repeat ((first | refine tk1 ?_ | refine tk2 ?_ | refine tk3 ?_ | refine tk12 (fun _ => ?_) | refine tk4 ?_ | refine tk5 ?_ | refine tk6 ?_ | refine tk7 ?_ | refine tk8 ?_ | refine tk9 ?_ | refine tk10 (fun _ _ => ?_) | refine tk11 (fun _ => ?_) | refine tk13 ?_ | refine tk14 ?_); (conv => whnf))
  refine CallK.fnT hw1 (fun w1 hw1 => ⟨(hRF _).ok w1 hw1, hPQ _ w1 hw1⟩) ?_
  rintro z hz
  dsimp only [PV.hd, List.cons_append, List.nil_append]
  (conv => whnf); repeat ((first | refine tk1 ?_ | refine tk2 ?_ | refine tk3 ?_ | refine tk12 (fun _ => ?_) | refine tk4 ?_ | refine tk5 ?_ | refine tk6 ?_ | refine tk7 ?_ | refine tk8 ?_ | refine tk9 ?_ | refine tk10 (fun _ _ => ?_) | refine tk11 (fun _ => ?_) | refine tk13 ?_ | refine tk14 ?_); (conv => whnf))
  have hz' : z.ps.map pure1 = Wl := hz
  have hzl : z.ps.length = Wl.length := by rw [← hz', List.length_map]
  refine CallK.fnEV (SameParts_r z.D y.D z.dc y.dc z.ps y.ps (by rw [hzl]; exact hWn) (by rw [hyl]; exact hWn)) (fun w1 hw1 => ⟨(prtsOk_st RdA.ok (fun q hq => RdS.sub (Prt.rd (e := 5) hq) (by repeat' (first | exact List.Sublist.refl _ | exact List.sublist_append_right _ _ | exact List.sublist_append_left _ _ | refine List.Sublist.trans ?_ (List.sublist_append_left _ _) | apply List.Sublist.cons)))) w1 hw1, (prtsOk_st RdA.ok (fun q hq => RdS.sub (Prt.rd (e := 5) hq) (by repeat' (first | exact List.Sublist.refl _ | exact List.sublist_append_right _ _ | exact List.sublist_append_left _ _ | refine List.Sublist.trans ?_ (List.sublist_append_left _ _) | apply List.Sublist.cons)))) w1 hw1⟩) ?_
  rw [decide_eq_true (hz'.trans hy'.symm)]
  (conv => whnf); repeat ((first | refine tk1 ?_ | refine tk2 ?_ | refine tk3 ?_ | refine tk12 (fun _ => ?_) | refine tk4 ?_ | refine tk5 ?_ | refine tk6 ?_ | refine tk7 ?_ | refine tk8 ?_ | refine tk9 ?_ | refine tk10 (fun _ _ => ?_) | refine tk11 (fun _ => ?_) | refine tk13 ?_ | refine tk14 ?_); (conv => whnf))
  exact fun w' _ => rfl
end Go.Proofs.YtnnpnkmdhfjccaaDoor.Vex
/- chunk.Check, reckoned. -/
namespace Go.Proofs.YtnnpnkmdhfjccaaDoor.Vex
open Go Go.RowKit
set_option maxRecDepth 100000
set_option linter.unusedSectionVars false
variable {gI : GI} [HasMax gI] [HasUtf gI]

/-- Where what is left of a line lies. -/
def sufA (cp : Nat) (A : Option Addr) (l : List UInt8) : Option Addr := if crB l then (if (cp : Int) = 0 then A else A.map (·.add (0 * 1))) else A
theorem bare_take (l : List UInt8) (h : crB l = true) : bare l = l.take (l.length - 1) ∧ 0 < l.length := by
  refine ⟨?_, ?_⟩
  · unfold bare
    rw [if_pos h, List.dropLast_eq_take]
  · cases l with
    | nil => exact absurd h (by decide)
    | cons x r => simp
theorem sufA_rd {c : Ctx} {H : Hp} {A : Option Addr} {cp : Nat} {l : List UInt8} (h : RdS c H A (l.map byteV)) (hl : l.length ≤ cp) : RdS c H (sufA cp A l) ((bare l).map byteV) := by
  unfold sufA
  cases hc : crB l with
  | false =>
    rw [bare_no hc]
    exact h
  | true =>
    have hb := bare_take l hc
    rw [hb.1, List.map_take]
    have hp := RdS.piece (cp := cp) (sz := 1) (lo := 0) h (by omega) (fun e => by omega)
    simp only [Int.toNat_zero, Nat.zero_mul, List.drop_zero] at hp
    exact hp.take _
theorem bare_le (l : List UInt8) : (bare l).length ≤ l.length := by
  unfold bare
  split
  · rw [List.length_dropLast]; omega
  · exact Nat.le_refl _
/-- A body under way, as a value. -/
def cV (c : CSt) (A : Option Addr) (cp : Nat) : Value := .agg ⟨[.int .u8 (c.ph : Nat), .int .i64 c.left, .slice A c.line.length cp, .int .i64 c.trail]⟩
end Go.Proofs.YtnnpnkmdhfjccaaDoor.Vex
/- Arguments that are bodies under way. -/
namespace Go.Proofs.YtnnpnkmdhfjccaaDoor.Vex
open Go Go.RowKit Go.ChangeShapes Go.WideShapes Go.Deep
set_option maxRecDepth 100000

structure ChA where
  ph : UInt8
  left : Int
  L : Sl UInt8
  trail : Int
def ChA.cells (x : ChA) : List Value := [byteV x.ph, .int .i64 x.left, .slice x.L.A x.L.l.length x.L.cp, .int .i64 x.trail]
def ChA.st (x : ChA) : CSt := ⟨x.ph.toNat, x.left, x.L.l, x.trail⟩
abbrev chShape : Shape := ⟨ChA, 4, ChA.cells, fun w x => bytesShape.ok w x.L ∧ (-9223372036854775808 ≤ x.left ∧ x.left ≤ 9223372036854775807) ∧ -9223372036854775808 ≤ x.trail ∧ x.trail ≤ 9223372036854775807, fun x => 3 + bytesShape.wt x.L⟩
abbrev cptShape : Shape := ⟨CPt, 1, fun x => [x.v], fun w x => x.l.length ≤ x.cp ∧ Rdw w x.A (x.l.map byteV), fun x => x.l.length⟩
theorem wt_bytes (l : List UInt8) : (l.map byteShape.wt).sum = l.length := by
  induction l with
  | nil => rfl
  | cons a r ih => rw [List.map_cons, List.sum_cons, ih, List.length_cons]; exact Nat.add_comm 1 _
theorem opens_cpt : Opens Tryd.prog 35 cptShape :=
  opens_map opens_bytes (fun x => CPt.mk x.A x.cp x.l) rfl (fun _ _ _ => rfl) (fun _ _ h => ⟨h.1, rd_bytes h⟩) (fun _ x _ => by show x.l.length ≤ (x.l.map byteShape.wt).sum + 1; rw [wt_bytes]; omega)
theorem opens_bytess : Opens Tryd.prog 134 (sliceShape cptShape) := opens_slice Tryd.underlying134 (by kernel_rfl) opens_cpt
theorem flat_cpts (l : List CPt) : l.flatMap (fun b => [b.v]) = l.map CPt.v := by
  induction l with
  | nil => rfl
  | cons a r ih => rw [List.flatMap_cons, ih]; rfl
theorem rd_cpts {W : World} {x : Sl CPt} (h : (sliceShape cptShape).ok W x) : Rdw W x.A (x.l.map CPt.v) ∧ ∀ e ∈ x.l, Rdw W e.A (e.l.map byteV) := ⟨flat_cpts x.l ▸ h.2.1, fun e he => (h.2.2 e he).2⟩
theorem bytes_wt (x : Sl UInt8) : x.l.length ≤ bytesShape.wt x := by show x.l.length ≤ (x.l.map byteShape.wt).sum + 1; rw [wt_bytes]; omega
end Go.Proofs.YtnnpnkmdhfjccaaDoor.Vex
/- Arguments that are answers. -/
namespace Go.Proofs.YtnnpnkmdhfjccaaDoor.Vex
open Go Go.RowKit Go.ChangeShapes Go.WideShapes Go.Deep
set_option maxRecDepth 100000

theorem flat_prts (l : List Prt) : l.flatMap (fun q => [.slice q.A q.l.length q.cp, .bool q.f]) = pcells l := by
  induction l with
  | nil => rfl
  | cons a r ih => rw [List.flatMap_cons, ih]; rfl
abbrev prtShape : Shape := ⟨Prt, 2, fun q => [.slice q.A q.l.length q.cp, .bool q.f], fun W q => q.l.length ≤ q.cp ∧ Rdw W q.A (q.l.map byteV), fun q => q.l.length + 1⟩
theorem opens_prt : Opens Tryd.prog 37 prtShape := by
  have h := opens_struct Tryd.underlying37 (by kernel_rfl) (opensL_cons rfl opens_bytes (opensL_cons rfl opens_tf (opensL_nil _)))
  exact opens_map h (fun x => Prt.mk x.1.A x.1.cp x.1.l x.2.1) rfl (fun _ _ _ => rfl) (fun _ _ h => ⟨h.1.1, rd_bytes h.1⟩) (fun _ x _ => by
    show x.1.l.length + 1 ≤ ((x.1.l.map byteShape.wt).sum + 1 + _) + 1
    rw [wt_bytes]; omega)
abbrev prtsShape : Shape := sliceShape prtShape
theorem opens_prts : Opens Tryd.prog 23 prtsShape := opens_slice Tryd.underlying23 (by kernel_rfl) opens_prt
/-- An answer that came in. -/
structure An where
  st : Int
  F : Sl Fld
  Ps : Sl Prt
  cd : UInt8
  tag : List UInt8
  press : Bool
def An.cells (x : An) : List Value := [.int .i64 x.st, .slice x.F.A x.F.l.length x.F.cp, .slice x.Ps.A x.Ps.l.length x.Ps.cp, .int .u8 x.cd.toNat, str x.tag, .bool x.press]
abbrev anShape : Shape := ⟨An, 6, An.cells, fun w x => (-9223372036854775808 ≤ x.st ∧ x.st ≤ 9223372036854775807) ∧ fieldsShape.ok w x.F ∧ prtsShape.ok w x.Ps ∧ x.tag.length ≤ 9223372036854775807,
  fun x => x.tag.length + fieldsShape.wt x.F + prtsShape.wt x.Ps⟩
theorem opens_answer : Opens Tryd.prog 25 anShape := by
  have h := opens_struct Tryd.underlying25 (by kernel_rfl) (opensL_cons rfl opens_i64 (opensL_cons rfl opens_fields (opensL_cons rfl opens_prts (opensL_cons rfl opens_u8 (opensL_cons rfl opens_string (opensL_cons rfl opens_tf (opensL_nil _)))))))
  exact opens_map h (fun x => An.mk x.1 x.2.1 x.2.2.1 x.2.2.2.1 x.2.2.2.2.1 x.2.2.2.2.2.1) rfl (fun _ _ _ => rfl) (fun _ _ h => ⟨h.1, h.2.1, h.2.2.1, h.2.2.2.2.1⟩) (fun _ _ _ => by dsimp only; omega)
theorem rd_prts {W : World} {x : Sl Prt} (h : prtsShape.ok W x) : PrtsOk W x.A x.l := ⟨flat_prts x.l ▸ h.2.1, fun q hm => (h.2.2 q hm).2⟩
end Go.Proofs.YtnnpnkmdhfjccaaDoor.Vex
/- The walk's variables where numbers are written, but none is read. -/
namespace Go.Proofs.YtnnpnkmdhfjccaaDoor.Vex
open Go Go.RowKit Go.ChangeShapes

theorem pow_name2 : Tryd.prog.globalNamed "internal/strconv.uint64pow10" = some 0 := by kernel_rfl
def gQ : GI where
  n := max gB.n (0 + 1)
  G w := gB.G w ∧ Lib.TabIs Tryd.prog w "internal/strconv.uint64pow10" .u64 Lib.pow10Tab
  keep w w' h := fun ⟨h1, h2⟩ => ⟨gB.keep w w' (fun k hk => h k (Nat.lt_of_lt_of_le hk (Nat.le_max_left _ _))) h1, by
    unfold Lib.TabIs World.var? at *
    rw [pow_name2] at *
    simp only [Option.bind_some] at *
    rw [h 0 (by omega)]
    exact h2⟩
  size w := fun ⟨h1, h2⟩ => Nat.max_le.2 ⟨gB.size w h1, by
    have := h2.cell pow_name2 0 (by decide)
    exact World.block_lt_of_cell? _ _ this⟩
instance : HasMax gQ := ⟨fun _ h => h.1⟩
instance : HasPow gQ := ⟨fun _ h => h.2⟩
theorem gQ_of {l : List (String × DataW Unit)} {W : World} (hL : laidMetH Tryd.prog l W) (hS : W.ShapedOpen Tryd.prog) (hp : (l.all fun x => x.2.handleName?.isNone) = true)
    (h3 : ("internal/strconv.uint64pow10", Rows.laid_internal_strconv_uint64pow10) ∈ l) : gQ.G W :=
  ⟨gB_of hS, tab_of (t := 165) (e := 147) (m := 20) (reads_of hL hp h3) pow_name2 (by kernel_rfl) Tryd.underlying165 Tryd.underlying147 (by kernel_rfl) (by kernel_rfl)⟩
end Go.Proofs.YtnnpnkmdhfjccaaDoor.Vex
/- The walk's variables where numbers are written to the bases of 10 and 16, but none is read. -/
namespace Go.Proofs.YtnnpnkmdhfjccaaDoor.Vex
open Go Go.RowKit Go.ChangeShapes

def gW : GI where
  n := max gQ.n (7 + 1)
  G w := gQ.G w ∧ w.cell? ⟨7, 15, none⟩ = some (.int .u8 4)
  keep w w' h := fun ⟨h1, h2⟩ => ⟨gQ.keep w w' (fun k hk => h k (Nat.lt_of_lt_of_le hk (Nat.le_max_left _ _))) h1, (World.cell?_of_block (h 7 (by omega))).trans h2⟩
  size w := fun ⟨h1, h2⟩ => Nat.max_le.2 ⟨gQ.size w h1, World.block_lt_of_cell? _ _ h2⟩
instance : HasMax gW := ⟨fun _ h => h.1.1⟩
instance : HasPow gW := ⟨fun _ h => h.1.2⟩
instance : HasTz gW := ⟨fun _ h => h.2⟩
theorem gW_of {l : List (String × DataW Unit)} {W : World} (hL : laidMetH Tryd.prog l W) (hS : W.ShapedOpen Tryd.prog) (hp : (l.all fun x => x.2.handleName?.isNone) = true)
    (h3 : ("internal/strconv.uint64pow10", Rows.laid_internal_strconv_uint64pow10) ∈ l) (h6 : ("math/bits.deBruijn64tab", Rows.laid_math_bits_deBruijn64tab) ∈ l) : gW.G W := by
  have e6 : (Rows.laid_math_bits_deBruijn64tab : DataW Unit) = Lib.tabData .u8 tzTab := by kernel_rfl
  rw [e6] at h6
  have ht := tab_of (t := 188) (e := 5) (m := 64) (reads_of hL hp h6) tz_name (by kernel_rfl) Tryd.underlying188 Tryd.underlying5 (by kernel_rfl) (by kernel_rfl)
  exact ⟨gQ_of hL hS hp h3, ht.cell tz_name 15 (by decide)⟩
end Go.Proofs.YtnnpnkmdhfjccaaDoor.Vex
namespace Go.Proofs.YtnnpnkmdhfjccaaDoor.replyWrites
open Go.ChangeShapes Go.WideShapes Go.ChangeAt Go.RowKit

set_option maxRecDepth 100000 in
theorem contract (H : Type) (enc : TypeId × Value → H) (W : World) (base : Nat) (args : Array Value) (ds gs : List (DataW H)) (before : List MemPlace)
    (hval : ∀ (j : Nat) t v, Tryd.f3.params[j]? = some t → args[j]? = some v → Value.okWide Tryd.prog W .any base t v)
    (hW : DataW.Whole enc Tryd.prog Tryd.f3.params.toList Rows.replyWritesSpec.vars false W args.toList ds gs before) (hL : laidMetH Tryd.prog Rows.replyWritesRow.laid W) (hS : W.ShapedOpen Tryd.prog) :
    Calls Tryd.prog 3 args W fun e W' => ∃ v, e = .returned v ∧ Rows.replyWritesSpec.post enc Tryd.prog Tryd.f3 false true false false W args v W' := by
  have hW' := hW
  obtain ⟨p, q, hA, hV, rfl, hfz, hnd⟩ := hW
  rw [Tryd.params3] at hA hval
  obtain ⟨v0, vs0, d0, ds0, p0, q0, hargs, rfl, rfl, h0, r0⟩ := trodAll_cons hA
  obtain ⟨v1, vs1, d1, ds1, p1, q1, rfl, rfl, rfl, h1, r1⟩ := trodAll_cons r0
  obtain ⟨v2, vs2, d2, ds2, p2, q2, rfl, rfl, rfl, h2, r2⟩ := trodAll_cons r1
  obtain ⟨v3, vs3, d3, ds3, p3, q3, rfl, rfl, rfl, h3, r3⟩ := trodAll_cons r2
  obtain ⟨rfl, rfl, rfl⟩ := trodAll_nil r3
  obtain rfl : args = #[v0, v1, v2, v3] := by rw [← Array.toList_inj]; exact hargs
  obtain ⟨rfl, rfl⟩ := trodVars_none hV
  obtain ⟨x0, rfl, k0, z0⟩ := Vex.open_whole Vex.opens_answer Tryd.underlying25 (hval 0 25 v0 rfl rfl) h0
  obtain ⟨x1, e1, k1, z1⟩ := Vex.open_cell Vex.opens_i64 (by rw [Tryd.underlying3]) (hval 1 3 v1 rfl rfl) h1
  obtain rfl := (List.cons.inj e1).1
  obtain ⟨x2, e2, k2, z2⟩ := Vex.open_cell Vex.opens_tf (by rw [Tryd.underlying4]) (hval 2 4 v2 rfl rfl) h2
  obtain rfl := (List.cons.inj e2).1
  obtain ⟨x3, e3, k3, z3⟩ := Vex.open_cell Vex.opens_tf (by rw [Tryd.underlying4]) (hval 3 4 v3 rfl rfl) h3
  obtain rfl := (List.cons.inj e3).1
  have hG := Vex.gW_of hL hS (by kernel_rfl) (List.mem_of_getElem? (i := 2) rfl) (List.mem_of_getElem? (i := 1) rfl)
  refine (Vex.done_E (Vex.ReplyWrites_v x0.st x0.F.A x0.F.cp x0.F.l x0.Ps.A x0.Ps.cp x0.Ps.l x0.cd x0.tag x0.press x1 x2 x3 (fun q hm => (k0.2.2.1.2.2 q hm).1)) hG ⟨Vex.rd_fields k0.2.1, Vex.rd_prts k0.2.2.1⟩).mono fun e W' ⟨he, hb⟩ => ?_
  exact ⟨_, he, law_post laidOut rfl hW' (by kernel_rfl) (by kernel_rfl) Tryd.underlying4 (by kernel_rfl) hb⟩

abbrev start : Array Value := #[.agg #[.int .i64 0, .slice none 0 0, .slice none 0 0, .int .u8 0, .string ⟨#[]⟩, .bool false], .int .i64 0, .bool false, .bool false]
theorem laid_met (os : Os) : laidMet Tryd.prog Rows.replyWritesRow.laid ((laidWorld os start).forCall (fun _ _ => 0) ⟨#[], start, []⟩).memory :=
  laidMet_of_run' 8 (by kernel_rfl) (by kernel_rfl)
theorem reads (os : Os) {H : Type} (enc : TypeId × Value → H) : ∃ places, DataW.whole enc Tryd.prog ((laidWorld os start).forCall (fun _ _ => 0) ⟨#[], start, []⟩).memory Tryd.f3.params.toList Rows.replyWritesSpec.vars false start.toList 8 = some ([.agg [.lit (.int .i64 0), .nil, .nil, .lit (.int .u8 0), .lit (.string []), .lit (.bool false)], .lit (.int .i64 0), .lit (.bool false), .lit (.bool false)], [], places) :=
  ⟨[], by kernel_rfl⟩

set_option maxRecDepth 100000 in
theorem lifted (os : Os) (started : os.Started) (H : Type) (enc : TypeId × Value → H) (F : Stop.Interp) :
    ReturnsInHanded {} Tryd.checked os 3 .any ((OpenSpec.ofChange Rows.replyWritesSpec).preRow enc Tryd.prog Tryd.f3 Rows.replyWritesRow.domain false Rows.replyWritesRow.laid) (((OpenSpec.ofChange Rows.replyWritesSpec).at F).post enc Tryd.prog Tryd.f3 false true false false) := by
  obtain ⟨places, hx⟩ := reads os enc
  refine returnsInHanded_of_row (C := Tryd.checked) (s := OpenSpec.ofChange Rows.replyWritesSpec) own started (by kernel_rfl) Tryd.func3
    (witness_row_atRef (enc := enc) (C := Tryd.checked) false (laidWorld os start) start rfl (by kernel_rfl) (by kernel_rfl) (by kernel_rfl)
      (OpenSpec.preRow_of_cond 8 hx (by kernel_rfl) (fun k hk => by cases hk) (by kernel_rfl) (laid_met os))) ?_
  intro W base args ds gs before hval hW _ _ _ hL hS _
  exact contract H enc W base args ds gs before hval hW hL hS

theorem said : Rows.ReplyWritesSaid :=
  OpenClaim.holds_of_cond 3 Tryd.f3 rfl rfl rfl rfl rfl rfl rfl ⟨rfl, rfl, rfl, rfl, rfl⟩ rfl rfl rfl rfl rfl (by kernel_rfl) Tryd.func3 (by kernel_rfl)
    (of_decide_eq_true (by kernel_rfl)) (by unfold Func.isWrapper; first | (rw [if_pos (by decide +kernel)]; kernel_rfl) | (rw [if_neg (by decide +kernel)]; exact ⟨rfl, rfl⟩))
    (fun os started H enc _ F => by rw [OpenClaim.pre_eq_preRow]; exact lifted os started H enc F)

/-- No parameter wants a stand-in; the program's own looks. -/
theorem plain (f : FuncId) (fn : Func) (hf : Tryd.pinned.checked.prog.funcNamed "bellows/bellowslaw29.ReplyWrites" = some f) (hfn : Tryd.pinned.checked.prog.funcs[f]? = some fn) :
    true = Tryd.pinned.checked.prog.looks [] ∧ ∀ (j : Nat) t, fn.params[j]? = some t → Tryd.pinned.checked.prog.wantsStandIn t = false := by
  obtain rfl : f = 3 := Option.some.inj ((show Tryd.prog.funcNamed "bellows/bellowslaw29.ReplyWrites" = some 3 by kernel_rfl).symm.trans hf) |>.symm
  obtain rfl : fn = Tryd.f3 := (Option.some.inj (Tryd.func3.symm.trans hfn)).symm
  refine ⟨by kernel_rfl, fun j t ht => ?_⟩
  have hall : (Tryd.f3.params.toList.all fun t => !Tryd.prog.wantsStandIn t) = true := by kernel_rfl
  have := List.all_eq_true.1 hall t (Array.mem_toList_iff.2 (Array.mem_of_getElem? ht))
  exact (show Tryd.prog.wantsStandIn t = false by simpa using this)

theorem proved : Rows.ReplyWritesCardSaid :=
  Claim7.holds_tied_plain_at .later [] _ _ _ _ said (fun _ h => by cases h) (by kernel_rfl) (fun _ h => by cases h) replyWrites_row_tie rfl ⟨rfl, rfl⟩ (by kernel_rfl) rfl plain (by kernel_rfl)
end Go.Proofs.YtnnpnkmdhfjccaaDoor.replyWrites
