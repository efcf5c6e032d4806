/- The statement ChunkFeeds: bodies under way are checked, and go on, and bytes are wrapped, as the document says; for any body and bytes. -/
import Derived.Test.YtbgnogdlkmhnkaaGreatDoorMChunkFeeds4
import Derived.Shelf.Spec.SlicesGrow
/- slices.Concat of three, chunk.Wrap, chunk.Last, reckoned. -/
namespace Go.Proofs.YtbgnogdlkmhnkaaGreatDoor.Vex
open Go Go.RowKit Go.ChangeShapes
set_option maxRecDepth 100000
set_option linter.unusedSectionVars false

def growRen : Go.Shelf.Ren := ⟨fun | 4 => 28 | n => n, fun | 0 => 0 | 3 => 3 | 4 => 4 | 9 => 9 | 20 => 20 | 22 => 22 | 25 => 5 | n => n, fun n => n⟩
theorem growLays : Go.Proofs.Lays8.n4 Tryz.prog growRen := {
  mixed := by kernel_rfl
  f4 := ⟨"slices.Grow[[]byte,byte]", by decide, Tryz.func28.trans (congrArg some (by kernel_rfl))⟩
  t0 := Tryz.underlying0
  a0 := Tryz.isAgg0
  z0 := Tryz.sizeOf0
  v0 := Tryz.zeroValue0
  t3 := Tryz.underlying3
  a3 := Tryz.isAgg3
  z3 := Tryz.sizeOf3
  v3 := Tryz.zeroValue3
  t4 := Tryz.underlying4
  a4 := Tryz.isAgg4
  z4 := Tryz.sizeOf4
  v4 := Tryz.zeroValue4
  t9 := Tryz.underlying9
  a9 := Tryz.isAgg9
  z9 := Tryz.sizeOf9
  v9 := Tryz.zeroValue9
  t20 := Tryz.underlying20
  a20 := Tryz.isAgg20
  z20 := Tryz.sizeOf20
  v20 := Tryz.zeroValue20
  t22 := Tryz.underlying22
  a22 := Tryz.isAgg22
  z22 := Tryz.sizeOf22
  v22 := Tryz.zeroValue22 }
theorem u8Info : ∃ i, Tryz.prog.info? 5 = some i ∧ i.zero = some (.int .u8 0) ∧ i.size = 1 ∧ i.bytes = 1 := by
  have h : (Tryz.prog.info? 5).map (fun i => (i.zero, i.size, i.bytes)) = some (some (Value.int .u8 0), 1, 1) := by kernel_rfl
  cases hi : Tryz.prog.info? 5 with
  | none => rw [hi] at h; cases h
  | some i =>
    rw [hi] at h
    simp only [Option.map_some, Option.some.injEq, Prod.mk.injEq] at h
    exact ⟨i, rfl, h.1, h.2.1, h.2.2⟩
variable {gI : GI}
/-- A nil slice, with room for some bytes. -/
theorem Grow_f (n : Nat) (h1 : 1 ≤ n) (h : n ≤ 1000000000) : FnS Tryz.prog gI 28 [.slice none 0 0, .int .i64 n] [] 5 1 0 [] :=
  ⟨callable Tryz.func28 rfl (by kernel_rfl), fun w hG _ => by
    obtain ⟨i0, hi, hz, hs, hb⟩ := u8Info
    refine (Any8.slices_Grow_grow growLays i0 (.int .u8 0) hi hz (by omega) none 0 0 n [] w (Nat.le_refl _) (by omega) (by rw [hb]; omega) (by omega) (by simp) (fun _ => rfl) (fun a ha => by cases ha)).mono fun e w' ⟨he, hw⟩ => ⟨_, he, ?_, ?_⟩
    · subst hw
      obtain ⟨G, hGe⟩ : ∃ G, grownCap w (0 + n) 0 (growRen.t 25) = G := ⟨_, rfl⟩
      have hg1 : n ≤ G := by have := grownCap_ge w (0 + n) 0 (growRen.t 25); omega
      have hg2 : G ≤ maxLen := by rw [← hGe]; exact grownCap_le_maxLen w (0 + n) 0 _ (by unfold maxLen; omega)
      rw [hGe]
      refine ⟨⟨rfl, .inr ⟨w.heap.size, G, _, (0, 0), rfl, heap_alloc_new w.drew _, Nat.zero_le _, hg2, ?_, ?_, .inl (Nat.le_refl _)⟩⟩, fun b hb => ?_⟩
      · simp only [Array.size_append, size_zeroCells, List.size_toArray, List.length_nil]
        show 0 + (0 + n - 0) * 1 + (G - (0 + n)) * 1 = G * 1
        omega
      · simp
      · cases hb
        exact ⟨Nat.le_refl _, by rw [World.size_alloc]; exact Nat.lt_succ_self _⟩
    · subst hw
      exact (R.drew w).alloc (Nat.le_refl _) _⟩
structure CPt where
  A : Option Addr
  cp : Nat
  l : List UInt8
def CPt.v (x : CPt) : Value := .slice x.A x.l.length x.cp
def sumC (a b c : CPt) : Nat → Int | 0 => 0 | 1 => 0 + a.l.length | 2 => 0 + a.l.length + b.l.length | _ => 0 + a.l.length + b.l.length + c.l.length
def catC (a b c : CPt) : Nat → List UInt8 | 0 => [] | 1 => a.l | 2 => a.l ++ b.l | _ => a.l ++ b.l ++ c.l
set_option maxHeartbeats 4000000 in
theorem Concat3_f (P : Option Addr) (pc : Nat) (a b c : CPt) (h1 : 1 ≤ a.l.length) (h : a.l.length + b.l.length + c.l.length ≤ 1000000000) :
    FnS Tryz.prog gI 17 [.slice P 3 pc] [(P, [a.v, b.v, c.v]), (a.A, a.l.map byteV), (b.A, b.l.map byteV), (c.A, c.l.map byteV)] 5 1 (a.l ++ b.l ++ c.l).length ((a.l ++ b.l ++ c.l).map byteV) := by
  have hg := Grow_f (gI := gI) (a.l.length + b.l.length + c.l.length) (by omega) h
  refine FnE.of tys_ok Tryz.func17 rfl (by kernel_rfl) rfl rfl ?_; intro w hG hP
  have hR : ∀ H, RdA (mkC Tryz.prog gI w hG) H P [a.v, b.v, c.v] := fun H => ⟨hP.1.now⟩
  have hA : ∀ H, RdA (mkC Tryz.prog gI w hG) H a.A (a.l.map byteV) := fun H => ⟨hP.2.1.now⟩
  have hB : ∀ H, RdA (mkC Tryz.prog gI w hG) H b.A (b.l.map byteV) := fun H => ⟨hP.2.2.1.now⟩
  have hC : ∀ H, RdA (mkC Tryz.prog gI w hG) H c.A (c.l.map byteV) := fun H => ⟨hP.2.2.2.1.now⟩
  clear hP
  (conv => whnf); repeat ((first | refine tk1 ?_ | refine tk2 ?_ | refine tk3 ?_ | refine tk12 (fun _ => ?_) | refine tk4 ?_ | refine tk5 ?_ | refine tk6 ?_ | refine tk7 ?_ | refine tk8 ?_ | refine tk9 ?_ | refine tk10 (fun _ _ => ?_) | refine tk11 (fun _ => ?_) | refine tk13 ?_ | refine tk14 ?_); (conv => whnf))
  refine LoopS.lp tys_ok (fun (k : Nat) u => [.slice P 3 pc, u 1, u 2, .int .i64 (sumC a b c k), u 4, u 5, u 6, u 7, u 8, .slice P 3 pc, .int .i64 3, .int .i64 (k : Nat), u 12, u 13, u 14, u 15, u 16, u 17, u 18, u 19, u 20, u 21, u 22, u 23, u 24, u 25, u 26, u 27, u 28, u 29, u 30, u 31, u 32, u 33, u 34, u 35]) (fun _ => []) (fun k => k ≤ 3) (fun k => 3 - k) 0 (by decide) rfl (by repeat' (first | exact List.Sublist.refl _ | exact List.nil_sublist _ | apply List.Sublist.cons_cons | apply List.Sublist.cons)) ?_
  intro k u hk
  have hk4 : k = 0 ∨ k = 1 ∨ k = 2 ∨ k = 3 := by omega
  rcases hk4 with rfl | rfl | rfl | rfl <;> dsimp only [sumC]
  · (conv => whnf); repeat ((first | refine tk1 ?_ | refine tk2 ?_ | refine tk3 ?_ | refine tk12 (fun _ => ?_) | refine tk4 ?_ | refine tk5 ?_ | refine tk6 ?_ | refine tk7 ?_ | refine tk8 ?_ | refine tk9 ?_ | refine tk10 (fun _ _ => ?_) | refine tk11 (fun _ => ?_) | refine tk13 ?_ | refine tk14 ?_); (conv => whnf))
    refine IdxA.tc (xs := [a.v, b.v, c.v]) (by simp) (by decide) (by decide) ?_
    (conv => whnf); repeat ((first | refine tk1 ?_ | refine tk2 ?_ | refine tk3 ?_ | refine tk12 (fun _ => ?_) | refine tk4 ?_ | refine tk5 ?_ | refine tk6 ?_ | refine tk7 ?_ | refine tk8 ?_ | refine tk9 ?_ | refine tk10 (fun _ _ => ?_) | refine tk11 (fun _ => ?_) | refine tk13 ?_ | refine tk14 ?_); (conv => whnf))
    refine Ld.ta (xs := [a.v, b.v, c.v]) (v := a.v) rfl ?_
    unfold CPt.v
    (conv => whnf); repeat ((first | refine tk1 ?_ | refine tk2 ?_ | refine tk3 ?_ | refine tk12 (fun _ => ?_) | refine tk4 ?_ | refine tk5 ?_ | refine tk6 ?_ | refine tk7 ?_ | refine tk8 ?_ | refine tk9 ?_ | refine tk10 (fun _ _ => ?_) | refine tk11 (fun _ => ?_) | refine tk13 ?_ | refine tk14 ?_); (conv => whnf))
    exact ⟨1, by decide, rfl, (by repeat' (first | exact List.Sublist.refl _ | exact List.nil_sublist _ | apply List.Sublist.cons_cons | apply List.Sublist.cons)), by decide⟩
  · (conv => whnf); repeat ((first | refine tk1 ?_ | refine tk2 ?_ | refine tk3 ?_ | refine tk12 (fun _ => ?_) | refine tk4 ?_ | refine tk5 ?_ | refine tk6 ?_ | refine tk7 ?_ | refine tk8 ?_ | refine tk9 ?_ | refine tk10 (fun _ _ => ?_) | refine tk11 (fun _ => ?_) | refine tk13 ?_ | refine tk14 ?_); (conv => whnf))
    refine IdxA.tc (xs := [a.v, b.v, c.v]) (by simp) (by decide) (by decide) ?_
    (conv => whnf); repeat ((first | refine tk1 ?_ | refine tk2 ?_ | refine tk3 ?_ | refine tk12 (fun _ => ?_) | refine tk4 ?_ | refine tk5 ?_ | refine tk6 ?_ | refine tk7 ?_ | refine tk8 ?_ | refine tk9 ?_ | refine tk10 (fun _ _ => ?_) | refine tk11 (fun _ => ?_) | refine tk13 ?_ | refine tk14 ?_); (conv => whnf))
    refine Ld.ta (xs := [a.v, b.v, c.v]) (v := b.v) rfl ?_
    unfold CPt.v
    (conv => whnf); repeat ((first | refine tk1 ?_ | refine tk2 ?_ | refine tk3 ?_ | refine tk12 (fun _ => ?_) | refine tk4 ?_ | refine tk5 ?_ | refine tk6 ?_ | refine tk7 ?_ | refine tk8 ?_ | refine tk9 ?_ | refine tk10 (fun _ _ => ?_) | refine tk11 (fun _ => ?_) | refine tk13 ?_ | refine tk14 ?_); (conv => whnf))
    exact ⟨2, by decide, rfl, (by repeat' (first | exact List.Sublist.refl _ | exact List.nil_sublist _ | apply List.Sublist.cons_cons | apply List.Sublist.cons)), by decide⟩
  · (conv => whnf); repeat ((first | refine tk1 ?_ | refine tk2 ?_ | refine tk3 ?_ | refine tk12 (fun _ => ?_) | refine tk4 ?_ | refine tk5 ?_ | refine tk6 ?_ | refine tk7 ?_ | refine tk8 ?_ | refine tk9 ?_ | refine tk10 (fun _ _ => ?_) | refine tk11 (fun _ => ?_) | refine tk13 ?_ | refine tk14 ?_); (conv => whnf))
    refine IdxA.tc (xs := [a.v, b.v, c.v]) (by simp) (by decide) (by decide) ?_
    (conv => whnf); repeat ((first | refine tk1 ?_ | refine tk2 ?_ | refine tk3 ?_ | refine tk12 (fun _ => ?_) | refine tk4 ?_ | refine tk5 ?_ | refine tk6 ?_ | refine tk7 ?_ | refine tk8 ?_ | refine tk9 ?_ | refine tk10 (fun _ _ => ?_) | refine tk11 (fun _ => ?_) | refine tk13 ?_ | refine tk14 ?_); (conv => whnf))
    refine Ld.ta (xs := [a.v, b.v, c.v]) (v := c.v) rfl ?_
    unfold CPt.v
    (conv => whnf); repeat ((first | refine tk1 ?_ | refine tk2 ?_ | refine tk3 ?_ | refine tk12 (fun _ => ?_) | refine tk4 ?_ | refine tk5 ?_ | refine tk6 ?_ | refine tk7 ?_ | refine tk8 ?_ | refine tk9 ?_ | refine tk10 (fun _ _ => ?_) | refine tk11 (fun _ => ?_) | refine tk13 ?_ | refine tk14 ?_); (conv => whnf))
    exact ⟨3, by decide, rfl, (by repeat' (first | exact List.Sublist.refl _ | exact List.nil_sublist _ | apply List.Sublist.cons_cons | apply List.Sublist.cons)), by decide⟩
  · rw [show (0 : Int) + a.l.length + b.l.length + c.l.length = ((a.l.length + b.l.length + c.l.length : Nat) : Int) by omega]
    (conv => whnf); repeat ((first | refine tk1 ?_ | refine tk2 ?_ | refine tk3 ?_ | refine tk12 (fun _ => ?_) | refine tk4 ?_ | refine tk5 ?_ | refine tk6 ?_ | refine tk7 ?_ | refine tk8 ?_ | refine tk9 ?_ | refine tk10 (fun _ _ => ?_) | refine tk11 (fun _ => ?_) | refine tk13 ?_ | refine tk14 ?_); (conv => whnf))
    refine CallK.fnS hg trivial (fun B bc => ?_)
    (conv => whnf); repeat ((first | refine tk1 ?_ | refine tk2 ?_ | refine tk3 ?_ | refine tk12 (fun _ => ?_) | refine tk4 ?_ | refine tk5 ?_ | refine tk6 ?_ | refine tk7 ?_ | refine tk8 ?_ | refine tk9 ?_ | refine tk10 (fun _ _ => ?_) | refine tk11 (fun _ => ?_) | refine tk13 ?_ | refine tk14 ?_); (conv => whnf))
    refine LoopS.lp tys_ok (fun (x : Nat × Option Addr × Nat) u => [u 0, u 1, u 2, u 3, u 4, u 5, .slice x.2.1 (catC a b c x.1).length x.2.2, u 7, u 8, u 9, u 10, u 11, u 12, u 13, u 14, u 15, u 16, u 17, u 18, u 19, u 20, u 21, u 22, u 23, u 24, .slice P 3 pc, .int .i64 3, .int .i64 (x.1 : Nat), u 28, u 29, u 30, u 31, u 32, u 33, u 34, u 35]) (fun x => [.row (.slice x.2.1 (catC a b c x.1).length x.2.2) 5 1 (catC a b c x.1).length ((catC a b c x.1).map byteV)]) (fun x => x.1 ≤ 3) (fun x => 3 - x.1) ⟨0, B, bc⟩ (by dsimp only; omega) rfl (by repeat' (first | exact List.Sublist.refl _ | exact List.nil_sublist _ | apply List.Sublist.cons_cons | apply List.Sublist.cons)) ?_
    rintro ⟨k, B, bc⟩ u hk
    dsimp only at hk ⊢
    have hk4 : k = 0 ∨ k = 1 ∨ k = 2 ∨ k = 3 := by omega
    rcases hk4 with rfl | rfl | rfl | rfl
    · have hl0 : (catC a b c 0).length + a.l.length = (catC a b c 1).length := by simp [catC]; try omega
      have hl1 : (catC a b c 1).length ≤ 1000000000 := by simp [catC]; omega
      (conv => whnf); repeat ((first | refine tk1 ?_ | refine tk2 ?_ | refine tk3 ?_ | refine tk12 (fun _ => ?_) | refine tk4 ?_ | refine tk5 ?_ | refine tk6 ?_ | refine tk7 ?_ | refine tk8 ?_ | refine tk9 ?_ | refine tk10 (fun _ _ => ?_) | refine tk11 (fun _ => ?_) | refine tk13 ?_ | refine tk14 ?_); (conv => whnf))
      refine IdxA.tc (xs := [a.v, b.v, c.v]) (by simp) (by decide) (by decide) ?_
      (conv => whnf); repeat ((first | refine tk1 ?_ | refine tk2 ?_ | refine tk3 ?_ | refine tk12 (fun _ => ?_) | refine tk4 ?_ | refine tk5 ?_ | refine tk6 ?_ | refine tk7 ?_ | refine tk8 ?_ | refine tk9 ?_ | refine tk10 (fun _ _ => ?_) | refine tk11 (fun _ => ?_) | refine tk13 ?_ | refine tk14 ?_); (conv => whnf))
      refine Ld.ta (xs := [a.v, b.v, c.v]) (v := a.v) rfl ?_
      unfold CPt.v
      (conv => whnf); repeat ((first | refine tk1 ?_ | refine tk2 ?_ | refine tk3 ?_ | refine tk12 (fun _ => ?_) | refine tk4 ?_ | refine tk5 ?_ | refine tk6 ?_ | refine tk7 ?_ | refine tk8 ?_ | refine tk9 ?_ | refine tk10 (fun _ _ => ?_) | refine tk11 (fun _ => ?_) | refine tk13 ?_ | refine tk14 ?_); (conv => whnf))
      refine AppS.tc SrcK.tc (by simp) (bytes_one a.l) (by decide) (by omega) (by omega) (zs := (catC a b c 1).map byteV) (by simp [catC]) (fun B' bc' => ?_)
      rw [hl0]
      (conv => whnf); repeat ((first | refine tk1 ?_ | refine tk2 ?_ | refine tk3 ?_ | refine tk12 (fun _ => ?_) | refine tk4 ?_ | refine tk5 ?_ | refine tk6 ?_ | refine tk7 ?_ | refine tk8 ?_ | refine tk9 ?_ | refine tk10 (fun _ _ => ?_) | refine tk11 (fun _ => ?_) | refine tk13 ?_ | refine tk14 ?_); (conv => whnf))
      exact ⟨(1, B', bc'), by dsimp only; omega, rfl, (by repeat' (first | exact List.Sublist.refl _ | exact List.nil_sublist _ | apply List.Sublist.cons_cons | apply List.Sublist.cons)), by dsimp only; omega⟩
    · have hl0 : (catC a b c 1).length + b.l.length = (catC a b c 2).length := by simp [catC]; try omega
      have hl1 : (catC a b c 2).length ≤ 1000000000 := by simp [catC]; omega
      (conv => whnf); repeat ((first | refine tk1 ?_ | refine tk2 ?_ | refine tk3 ?_ | refine tk12 (fun _ => ?_) | refine tk4 ?_ | refine tk5 ?_ | refine tk6 ?_ | refine tk7 ?_ | refine tk8 ?_ | refine tk9 ?_ | refine tk10 (fun _ _ => ?_) | refine tk11 (fun _ => ?_) | refine tk13 ?_ | refine tk14 ?_); (conv => whnf))
      refine IdxA.tc (xs := [a.v, b.v, c.v]) (by simp) (by decide) (by decide) ?_
      (conv => whnf); repeat ((first | refine tk1 ?_ | refine tk2 ?_ | refine tk3 ?_ | refine tk12 (fun _ => ?_) | refine tk4 ?_ | refine tk5 ?_ | refine tk6 ?_ | refine tk7 ?_ | refine tk8 ?_ | refine tk9 ?_ | refine tk10 (fun _ _ => ?_) | refine tk11 (fun _ => ?_) | refine tk13 ?_ | refine tk14 ?_); (conv => whnf))
      refine Ld.ta (xs := [a.v, b.v, c.v]) (v := b.v) rfl ?_
      unfold CPt.v
      (conv => whnf); repeat ((first | refine tk1 ?_ | refine tk2 ?_ | refine tk3 ?_ | refine tk12 (fun _ => ?_) | refine tk4 ?_ | refine tk5 ?_ | refine tk6 ?_ | refine tk7 ?_ | refine tk8 ?_ | refine tk9 ?_ | refine tk10 (fun _ _ => ?_) | refine tk11 (fun _ => ?_) | refine tk13 ?_ | refine tk14 ?_); (conv => whnf))
      refine AppS.tc SrcK.tc (by simp) (bytes_one b.l) (by decide) (by omega) (by omega) (zs := (catC a b c 2).map byteV) (by simp [catC]) (fun B' bc' => ?_)
      rw [hl0]
      (conv => whnf); repeat ((first | refine tk1 ?_ | refine tk2 ?_ | refine tk3 ?_ | refine tk12 (fun _ => ?_) | refine tk4 ?_ | refine tk5 ?_ | refine tk6 ?_ | refine tk7 ?_ | refine tk8 ?_ | refine tk9 ?_ | refine tk10 (fun _ _ => ?_) | refine tk11 (fun _ => ?_) | refine tk13 ?_ | refine tk14 ?_); (conv => whnf))
      exact ⟨(2, B', bc'), by dsimp only; omega, rfl, (by repeat' (first | exact List.Sublist.refl _ | exact List.nil_sublist _ | apply List.Sublist.cons_cons | apply List.Sublist.cons)), by dsimp only; omega⟩
    · have hl0 : (catC a b c 2).length + c.l.length = (catC a b c 3).length := by simp [catC]; try omega
      have hl1 : (catC a b c 3).length ≤ 1000000000 := by simp [catC]; omega
      (conv => whnf); repeat ((first | refine tk1 ?_ | refine tk2 ?_ | refine tk3 ?_ | refine tk12 (fun _ => ?_) | refine tk4 ?_ | refine tk5 ?_ | refine tk6 ?_ | refine tk7 ?_ | refine tk8 ?_ | refine tk9 ?_ | refine tk10 (fun _ _ => ?_) | refine tk11 (fun _ => ?_) | refine tk13 ?_ | refine tk14 ?_); (conv => whnf))
      refine IdxA.tc (xs := [a.v, b.v, c.v]) (by simp) (by decide) (by decide) ?_
      (conv => whnf); repeat ((first | refine tk1 ?_ | refine tk2 ?_ | refine tk3 ?_ | refine tk12 (fun _ => ?_) | refine tk4 ?_ | refine tk5 ?_ | refine tk6 ?_ | refine tk7 ?_ | refine tk8 ?_ | refine tk9 ?_ | refine tk10 (fun _ _ => ?_) | refine tk11 (fun _ => ?_) | refine tk13 ?_ | refine tk14 ?_); (conv => whnf))
      refine Ld.ta (xs := [a.v, b.v, c.v]) (v := c.v) rfl ?_
      unfold CPt.v
      (conv => whnf); repeat ((first | refine tk1 ?_ | refine tk2 ?_ | refine tk3 ?_ | refine tk12 (fun _ => ?_) | refine tk4 ?_ | refine tk5 ?_ | refine tk6 ?_ | refine tk7 ?_ | refine tk8 ?_ | refine tk9 ?_ | refine tk10 (fun _ _ => ?_) | refine tk11 (fun _ => ?_) | refine tk13 ?_ | refine tk14 ?_); (conv => whnf))
      refine AppS.tc SrcK.tc (by simp) (bytes_one c.l) (by decide) (by omega) (by omega) (zs := (catC a b c 3).map byteV) (by simp [catC]) (fun B' bc' => ?_)
      rw [hl0]
      (conv => whnf); repeat ((first | refine tk1 ?_ | refine tk2 ?_ | refine tk3 ?_ | refine tk12 (fun _ => ?_) | refine tk4 ?_ | refine tk5 ?_ | refine tk6 ?_ | refine tk7 ?_ | refine tk8 ?_ | refine tk9 ?_ | refine tk10 (fun _ _ => ?_) | refine tk11 (fun _ => ?_) | refine tk13 ?_ | refine tk14 ?_); (conv => whnf))
      exact ⟨(3, B', bc'), by dsimp only; omega, rfl, (by repeat' (first | exact List.Sublist.refl _ | exact List.nil_sublist _ | apply List.Sublist.cons_cons | apply List.Sublist.cons)), by dsimp only; omega⟩
    · (conv => whnf); repeat ((first | refine tk1 ?_ | refine tk2 ?_ | refine tk3 ?_ | refine tk12 (fun _ => ?_) | refine tk4 ?_ | refine tk5 ?_ | refine tk6 ?_ | refine tk7 ?_ | refine tk8 ?_ | refine tk9 ?_ | refine tk10 (fun _ _ => ?_) | refine tk11 (fun _ => ?_) | refine tk13 ?_ | refine tk14 ?_); (conv => whnf))
      exact rowPost.of (by simp [catC])
theorem Last_f : FnT Tryz.prog gI 7 [] (fun _ => True) (fun (x : Nat × Obj) => .slice (some ⟨x.1, 0, none⟩) 5 5) (fun x => RowO x.2 (lastC.map byteV)) (fun x => [.obj x.1 x.2]) (fun _ => []) := by
  refine FnE.of tys_ok Tryz.func7 rfl (by kernel_rfl) rfl rfl ?_; intro w hG hP
  (conv => whnf); repeat ((first | refine tk1 ?_ | refine tk2 ?_ | refine tk3 ?_ | refine tk12 (fun _ => ?_) | refine tk4 ?_ | refine tk5 ?_ | refine tk6 ?_ | refine tk7 ?_ | refine tk8 ?_ | refine tk9 ?_ | refine tk10 (fun _ _ => ?_) | refine tk11 (fun _ => ?_) | refine tk13 ?_ | refine tk14 ?_); (conv => whnf))
  refine Oth.same tys_ok rfl rfl rfl (fun o ho => ?_)
  (conv => whnf); repeat ((first | refine tk1 ?_ | refine tk2 ?_ | refine tk3 ?_ | refine tk12 (fun _ => ?_) | refine tk4 ?_ | refine tk5 ?_ | refine tk6 ?_ | refine tk7 ?_ | refine tk8 ?_ | refine tk9 ?_ | refine tk10 (fun _ _ => ?_) | refine tk11 (fun _ => ?_) | refine tk13 ?_ | refine tk14 ?_); (conv => whnf))
  exact fun w' hw' => ⟨(_, o), rfl, ho, newH.into hw' (Cv.into (by (try dsimp only); repeat' (first | with_reducible exact Cv.refl | with_reducible exact Cv.left | with_reducible exact Cv.right | with_reducible exact Cv.nil | (with_reducible apply Cv.cons; focus ((repeat (first | with_reducible exact Pick.here | with_reducible apply Pick.skip)); done)) | (apply Cv.cons; focus ((repeat (first | exact Pick.here | apply Pick.skip)); done)) | exact Cv.nil | exact Cv.refl | exact Cv.left | exact Cv.right | refine Cv.skip ?_)))⟩
def wrapV (b : List UInt8) : List UInt8 := if b.length ≤ 131072 then wrapG b else []
def wrapE (b : List UInt8) : Int := if b.length ≤ 131072 then 0 else 4
set_option maxHeartbeats 4000000 in
theorem Wrap_f [HasTz gI] (A : Option Addr) (cp : Nat) (b : List UInt8) (hb : b.length ≤ 1000000000) :
    FnT Tryz.prog gI 5 [.slice A b.length cp] (fun w => RdL w [(A, b.map byteV)]) (fun (x : Option Addr × Nat) => .tuple #[.slice x.1 (wrapV b).length x.2, .int .i64 (wrapE b)]) (fun _ => True) (fun x => [.row (.slice x.1 (wrapV b).length x.2) 5 1 (wrapV b).length ((wrapV b).map byteV)]) (fun _ => []) := by
  have hfi := FormatInt_f (gI := gI) b.length (by omega)
  refine FnE.of tys_ok Tryz.func5 rfl (by kernel_rfl) rfl rfl ?_; intro w hG hP
  have hA : ∀ H, RdA (mkC Tryz.prog gI w hG) H A (b.map byteV) := fun H => ⟨hP.1.now⟩
  by_cases h1 : b.length ≤ 131072
  rotate_left
  · have e1 : wrapV b = [] := if_neg h1
    have e2 : wrapE b = 4 := if_neg h1
    rw [e1, e2]
    (conv => whnf); repeat ((first | refine tk1 ?_ | refine tk2 ?_ | refine tk3 ?_ | refine tk12 (fun _ => ?_) | refine tk4 ?_ | refine tk5 ?_ | refine tk6 ?_ | refine tk7 ?_ | refine tk8 ?_ | refine tk9 ?_ | refine tk10 (fun _ _ => ?_) | refine tk11 (fun _ => ?_) | refine tk13 ?_ | refine tk14 ?_); (conv => whnf))
    exact fun w' hw' => ⟨(none, 0), rfl, trivial, newH.of (hw'.nilRow 5 1)⟩
  have e2 : wrapE b = 0 := if_pos h1
  rw [e2]
  by_cases h0 : b.length = 0
  · have e1 : wrapV b = [] := by unfold wrapV; rw [if_pos h1, List.eq_nil_of_length_eq_zero h0]; rfl
    rw [e1]
    (conv => whnf); repeat ((first | refine tk1 ?_ | refine tk2 ?_ | refine tk3 ?_ | refine tk12 (fun _ => ?_) | refine tk4 ?_ | refine tk5 ?_ | refine tk6 ?_ | refine tk7 ?_ | refine tk8 ?_ | refine tk9 ?_ | refine tk10 (fun _ _ => ?_) | refine tk11 (fun _ => ?_) | refine tk13 ?_ | refine tk14 ?_); (conv => whnf))
    exact fun w' hw' => ⟨(none, 0), rfl, trivial, newH.of (hw'.nilRow 5 1)⟩
  have e1 : wrapV b = (hxS b.length ++ [13, 10]) ++ b ++ [13, 10] := by unfold wrapV wrapG; rw [if_pos h1, if_neg (fun e => h0 (by rw [e]; rfl))]
  have hl : (hxS b.length).length ≤ 6 := hxF_long 16 5 b.length (by omega)
  have hs := hxF_some 16 b.length
  rw [e1]
  (conv => whnf); repeat ((first | refine tk1 ?_ | refine tk2 ?_ | refine tk3 ?_ | refine tk12 (fun _ => ?_) | refine tk4 ?_ | refine tk5 ?_ | refine tk6 ?_ | refine tk7 ?_ | refine tk8 ?_ | refine tk9 ?_ | refine tk10 (fun _ _ => ?_) | refine tk11 (fun _ => ?_) | refine tk13 ?_ | refine tk14 ?_); (conv => whnf))
  refine CallK.fn hfi ?_
  (conv => whnf); repeat ((first | refine tk1 ?_ | refine tk2 ?_ | refine tk3 ?_ | refine tk12 (fun _ => ?_) | refine tk4 ?_ | refine tk5 ?_ | refine tk6 ?_ | refine tk7 ?_ | refine tk8 ?_ | refine tk9 ?_ | refine tk10 (fun _ _ => ?_) | refine tk11 (fun _ => ?_) | refine tk13 ?_ | refine tk14 ?_); (conv => whnf))
  refine CatS.at (by simp; omega) ?_
  (conv => whnf); repeat ((first | refine tk1 ?_ | refine tk2 ?_ | refine tk3 ?_ | refine tk12 (fun _ => ?_) | refine tk4 ?_ | refine tk5 ?_ | refine tk6 ?_ | refine tk7 ?_ | refine tk8 ?_ | refine tk9 ?_ | refine tk10 (fun _ _ => ?_) | refine tk11 (fun _ => ?_) | refine tk13 ?_ | refine tk14 ?_); (conv => whnf))
  refine S2B.go (by rw [List.length_append]; simp only [List.length_cons, List.length_nil]; omega) (fun B1 c1 => ?_)
  (conv => whnf); repeat ((first | refine tk1 ?_ | refine tk2 ?_ | refine tk3 ?_ | refine tk12 (fun _ => ?_) | refine tk4 ?_ | refine tk5 ?_ | refine tk6 ?_ | refine tk7 ?_ | refine tk8 ?_ | refine tk9 ?_ | refine tk10 (fun _ _ => ?_) | refine tk11 (fun _ => ?_) | refine tk13 ?_ | refine tk14 ?_); (conv => whnf))
  rename_i b2
  refine Oth.same tys_ok rfl rfl rfl (fun o2 ho2 => ?_)
  have hR2 : ∀ H, RdA (mkC Tryz.prog gI w hG) (.obj b2 o2 :: H) (some ⟨b2, 0, none⟩) _ := ho2.rd
  (conv => whnf); repeat ((first | refine tk1 ?_ | refine tk2 ?_ | refine tk3 ?_ | refine tk12 (fun _ => ?_) | refine tk4 ?_ | refine tk5 ?_ | refine tk6 ?_ | refine tk7 ?_ | refine tk8 ?_ | refine tk9 ?_ | refine tk10 (fun _ _ => ?_) | refine tk11 (fun _ => ?_) | refine tk13 ?_ | refine tk14 ?_); (conv => whnf))
  refine CallK.fnS (Concat3_f (gI := gI) _ 3 ⟨_, c1, hxS b.length ++ [13, 10]⟩ ⟨A, cp, b⟩ ⟨_, 2, [13, 10]⟩ (by dsimp only; simp) (by dsimp only; simp; omega)) ⟨RdA.ok, RdA.ok, (hA _).ok, RdA.ok, trivial⟩ (fun C cc => ?_)
  (conv => whnf); repeat ((first | refine tk1 ?_ | refine tk2 ?_ | refine tk3 ?_ | refine tk12 (fun _ => ?_) | refine tk4 ?_ | refine tk5 ?_ | refine tk6 ?_ | refine tk7 ?_ | refine tk8 ?_ | refine tk9 ?_ | refine tk10 (fun _ _ => ?_) | refine tk11 (fun _ => ?_) | refine tk13 ?_ | refine tk14 ?_); (conv => whnf))
  exact fun w' hw' => ⟨(C, cc), rfl, trivial, newH.into hw' (Cv.into (by (try dsimp only); repeat' (first | with_reducible exact Cv.refl | with_reducible exact Cv.left | with_reducible exact Cv.right | with_reducible exact Cv.nil | (with_reducible apply Cv.cons; focus ((repeat (first | with_reducible exact Pick.here | with_reducible apply Pick.skip)); done)) | (apply Cv.cons; focus ((repeat (first | exact Pick.here | apply Pick.skip)); done)) | exact Cv.nil | exact Cv.refl | exact Cv.left | exact Cv.right | refine Cv.skip ?_)))⟩
end Go.Proofs.YtbgnogdlkmhnkaaGreatDoor.Vex
/- The document's own answer for chunks, reckoned: ended, One, Fed, Feed, Wrap. -/
namespace Go.Proofs.YtbgnogdlkmhnkaaGreatDoor.Vex
open Go Go.RowKit
set_option maxRecDepth 100000
set_option linter.unusedSectionVars false
variable {gI : GI} [HasMax gI] [HasErr gI]

theorem RWrap_f (A : Option Addr) (cp : Nat) (b : List UInt8) (hb : b.length ≤ 1000000000) :
    FnT Tryz.prog gI 12 [.slice A b.length cp] (fun w => RdL w [(A, b.map byteV)]) (fun (x : Option Addr × Nat) => .tuple #[.slice x.1 (wrapV b).length x.2, .int .i64 (wrapE b)]) (fun _ => True) (fun x => [.row (.slice x.1 (wrapV b).length x.2) 5 1 (wrapV b).length ((wrapV b).map byteV)]) (fun _ => []) := by
  have hw := Wrapped_f (gI := gI) A cp b hb
  refine FnE.of tys_ok Tryz.func12 rfl (by kernel_rfl) rfl rfl ?_; intro w hG hP
  have hA : ∀ H, RdA (mkC Tryz.prog gI w hG) H A (b.map byteV) := fun H => ⟨hP.1.now⟩
  by_cases h1 : b.length ≤ 131072
  rotate_left
  · have e1 : wrapV b = [] := if_neg h1
    have e2 : wrapE b = 4 := if_neg h1
    rw [e1, e2]
    (conv => whnf); repeat ((first | refine tk1 ?_ | refine tk2 ?_ | refine tk3 ?_ | refine tk12 (fun _ => ?_) | refine tk4 ?_ | refine tk5 ?_ | refine tk6 ?_ | refine tk7 ?_ | refine tk8 ?_ | refine tk9 ?_ | refine tk10 (fun _ _ => ?_) | refine tk11 (fun _ => ?_) | refine tk13 ?_ | refine tk14 ?_); (conv => whnf))
    exact fun w' hw' => ⟨(none, 0), rfl, trivial, newH.of (hw'.nilRow 5 1)⟩
  have e1 : wrapV b = wrapG b := if_pos h1
  have e2 : wrapE b = 0 := if_pos h1
  rw [e1, e2]
  (conv => whnf); repeat ((first | refine tk1 ?_ | refine tk2 ?_ | refine tk3 ?_ | refine tk12 (fun _ => ?_) | refine tk4 ?_ | refine tk5 ?_ | refine tk6 ?_ | refine tk7 ?_ | refine tk8 ?_ | refine tk9 ?_ | refine tk10 (fun _ _ => ?_) | refine tk11 (fun _ => ?_) | refine tk13 ?_ | refine tk14 ?_); (conv => whnf))
  refine CallK.fnS hw ⟨(hA _).ok, trivial⟩ (fun C cc => ?_)
  (conv => whnf); repeat ((first | refine tk1 ?_ | refine tk2 ?_ | refine tk3 ?_ | refine tk12 (fun _ => ?_) | refine tk4 ?_ | refine tk5 ?_ | refine tk6 ?_ | refine tk7 ?_ | refine tk8 ?_ | refine tk9 ?_ | refine tk10 (fun _ _ => ?_) | refine tk11 (fun _ => ?_) | refine tk13 ?_ | refine tk14 ?_); (conv => whnf))
  exact fun w' hw' => ⟨(C, cc), rfl, trivial, newH.into hw' (Cv.into (by (try dsimp only); repeat' (first | with_reducible exact Cv.refl | with_reducible exact Cv.left | with_reducible exact Cv.right | with_reducible exact Cv.nil | (with_reducible apply Cv.cons; focus ((repeat (first | with_reducible exact Pick.here | with_reducible apply Pick.skip)); done)) | (apply Cv.cons; focus ((repeat (first | exact Pick.here | apply Pick.skip)); done)) | exact Cv.nil | exact Cv.refl | exact Cv.left | exact Cv.right | refine Cv.skip ?_)))⟩
/-- A body at whose line's end something is told. -/
def endG (ph : Nat) (left trail : Int) (t : List UInt8) : CSt × Int :=
  if ph = 2 then (⟨0, left, [], trail⟩, 0)
  else if ph = 0 then (if numC t < 0 then (⟨0, left, [], trail⟩, 3) else if 0 < numC t then (⟨1, numC t, [], trail⟩, 0) else (⟨3, left, [], trail⟩, 0))
  else if t = [] then (⟨4, left, [], 0⟩, 0) else (⟨ph, left, [], trail⟩, parseE t)
theorem ended_f (ph : Nat) (left trail : Int) (v : Value) (t : List UInt8) (hv : v.oneCell' = true) (hp : ph ≤ 255) (ht : t.length ≤ 1000000) :
    Fn Tryz.prog gI 57 [.agg ⟨[.int .u8 (ph : Nat), .int .i64 left, v, .int .i64 trail]⟩, str t] (.tuple #[.agg ⟨[.int .u8 ((endG ph left trail t).1.ph : Nat), .int .i64 (endG ph left trail t).1.left, .slice none 0 0, .int .i64 (endG ph left trail t).1.trail]⟩, .int .i64 (endG ph left trail t).2]) := by
  have hn := Number_r (gI := gI) t (by omega)
  have hpa := Parse_r (gI := gI) t (by omega)
  have hnr := numC_range t
  refine Fn.of tys_ok Tryz.func57 rfl (by kernel_rfl) rfl rfl ?_; intro w hG
  unfold endG
  by_cases p2 : ph = 2
  · subst p2
    (conv => whnf); repeat ((first | refine tk1 ?_ | refine tk2 ?_ | refine tk3 ?_ | refine tk12 (fun _ => ?_) | refine tk4 ?_ | refine tk5 ?_ | refine tk6 ?_ | refine tk7 ?_ | refine tk8 ?_ | refine tk9 ?_ | refine tk10 (fun _ _ => ?_) | refine tk11 (fun _ => ?_) | refine tk13 ?_ | refine tk14 ?_); (conv => whnf))
    try rfl
  rw [if_neg p2]
  by_cases p0 : ph = 0
  · subst p0
    rw [if_pos rfl]
    (conv => whnf); repeat ((first | refine tk1 ?_ | refine tk2 ?_ | refine tk3 ?_ | refine tk12 (fun _ => ?_) | refine tk4 ?_ | refine tk5 ?_ | refine tk6 ?_ | refine tk7 ?_ | refine tk8 ?_ | refine tk9 ?_ | refine tk10 (fun _ _ => ?_) | refine tk11 (fun _ => ?_) | refine tk13 ?_ | refine tk14 ?_); (conv => whnf))
    refine CallK.fn hn ?_
    by_cases n1 : numC t < 0
    · rw [if_pos n1]
      (conv => whnf); repeat ((first | refine tk1 ?_ | refine tk2 ?_ | refine tk3 ?_ | refine tk12 (fun _ => ?_) | refine tk4 ?_ | refine tk5 ?_ | refine tk6 ?_ | refine tk7 ?_ | refine tk8 ?_ | refine tk9 ?_ | refine tk10 (fun _ _ => ?_) | refine tk11 (fun _ => ?_) | refine tk13 ?_ | refine tk14 ?_); (conv => whnf))
      try rfl
    rw [if_neg n1]
    by_cases n2 : 0 < numC t
    · rw [if_pos n2]
      (conv => whnf); repeat ((first | refine tk1 ?_ | refine tk2 ?_ | refine tk3 ?_ | refine tk12 (fun _ => ?_) | refine tk4 ?_ | refine tk5 ?_ | refine tk6 ?_ | refine tk7 ?_ | refine tk8 ?_ | refine tk9 ?_ | refine tk10 (fun _ _ => ?_) | refine tk11 (fun _ => ?_) | refine tk13 ?_ | refine tk14 ?_); (conv => whnf))
      try rfl
    · rw [if_neg n2]
      (conv => whnf); repeat ((first | refine tk1 ?_ | refine tk2 ?_ | refine tk3 ?_ | refine tk12 (fun _ => ?_) | refine tk4 ?_ | refine tk5 ?_ | refine tk6 ?_ | refine tk7 ?_ | refine tk8 ?_ | refine tk9 ?_ | refine tk10 (fun _ _ => ?_) | refine tk11 (fun _ => ?_) | refine tk13 ?_ | refine tk14 ?_); (conv => whnf))
      try rfl
  rw [if_neg p0]
  by_cases ht0 : t = []
  · subst ht0
    rw [if_pos rfl]
    (conv => whnf); repeat ((first | refine tk1 ?_ | refine tk2 ?_ | refine tk3 ?_ | refine tk12 (fun _ => ?_) | refine tk4 ?_ | refine tk5 ?_ | refine tk6 ?_ | refine tk7 ?_ | refine tk8 ?_ | refine tk9 ?_ | refine tk10 (fun _ _ => ?_) | refine tk11 (fun _ => ?_) | refine tk13 ?_ | refine tk14 ?_); (conv => whnf))
    try rfl
  · rw [if_neg ht0]
    (conv => whnf); repeat ((first | refine tk1 ?_ | refine tk2 ?_ | refine tk3 ?_ | refine tk12 (fun _ => ?_) | refine tk4 ?_ | refine tk5 ?_ | refine tk6 ?_ | refine tk7 ?_ | refine tk8 ?_ | refine tk9 ?_ | refine tk10 (fun _ _ => ?_) | refine tk11 (fun _ => ?_) | refine tk13 ?_ | refine tk14 ?_); (conv => whnf))
    refine CallK.fn hpa ?_
    (conv => whnf); repeat ((first | refine tk1 ?_ | refine tk2 ?_ | refine tk3 ?_ | refine tk12 (fun _ => ?_) | refine tk4 ?_ | refine tk5 ?_ | refine tk6 ?_ | refine tk7 ?_ | refine tk8 ?_ | refine tk9 ?_ | refine tk10 (fun _ _ => ?_) | refine tk11 (fun _ => ?_) | refine tk13 ?_ | refine tk14 ?_); (conv => whnf))
    try rfl
theorem oneG_facts (s : CSt) (x : UInt8) (h1 : s.ph = 0 ∧ s.left = 0 ∨ s.ph = 2 ∧ (crB s.line = false → s.line = []) ∨ s.ph = 3) :
    (s.ph = 3 ∧ s.trail = 256 → (oneG s x).2 = 3) ∧
    (¬ (s.ph = 3 ∧ s.trail = 256) → (crB s.line = true ∧ x ≠ 10 ∨ crB s.line = false ∧ x = 10) → (oneG s x).2 = 3) ∧
    (¬ (s.ph = 3 ∧ s.trail = 256) → crB s.line = true → x = 10 → (oneG s x).2 = (endG s.ph s.left (if s.ph = 3 then s.trail + 1 else s.trail) s.line.dropLast).2 ∧ ((oneG s x).2 = 0 → (oneG s x).1 = (endG s.ph s.left (if s.ph = 3 then s.trail + 1 else s.trail) s.line.dropLast).1)) ∧
    (¬ (s.ph = 3 ∧ s.trail = 256) → crB s.line = false → x ≠ 10 → (s.ph = 2 ∧ x ≠ 13 ∨ s.ph = 0 ∧ x ≠ 13 ∧ s.line.length = 64) → (oneG s x).2 = 3) ∧
    (¬ (s.ph = 3 ∧ s.trail = 256) → crB s.line = false → x ≠ 10 → ¬ (s.ph = 2 ∧ x ≠ 13 ∨ s.ph = 0 ∧ x ≠ 13 ∧ s.line.length = 64) → oneG s x = (⟨s.ph, s.left, s.line ++ [x], if s.ph = 3 then s.trail + 1 else s.trail⟩, 0)) := by
  obtain ⟨ph, left, line, trail⟩ := s
  dsimp only at h1 ⊢
  have hc2 : crB line = true → line ≠ [] := fun h e => by subst e; cases h
  have hc3 : crB line = false → x ≠ 13 → x ≠ 10 → True := fun _ _ _ => trivial
  rcases h1 with ⟨rfl, rfl⟩ | ⟨rfl, hb⟩ | rfl
  · refine ⟨fun h => absurd h.1 (by decide), fun _ h => ?_, fun _ hc hx => ?_, fun _ hc hx h => ?_, fun _ hc hx h => ?_⟩
    · rcases h with ⟨hc, hx⟩ | ⟨hc, hx⟩ <;> simp [oneG, lineG, hc, hx]
    · simp only [oneG, lineG, endG, hc, hx, if_true]
      simp
      by_cases n1 : numC line.dropLast < 0
      · simp [n1]
      · by_cases n2 : numC line.dropLast = 0
        · simp [n2]
        · have n3 : 0 < numC line.dropLast := by omega
          simp [n1, n2, n3]
    · rcases h with h | h
      · exact absurd h.1 (by decide)
      · simp [oneG, hc, hx, h.2.1, h.2.2]
    · have hg : ¬ (line.length = 64 ∧ x ≠ 13 ∧ x ≠ 10 ∧ crB line = false) := fun g => h (.inr ⟨rfl, g.2.1, g.1⟩)
      simp only [oneG, if_true, if_neg hg, lineG, hc]
      simp [hx]
      intro h64
      by_cases h13 : x = 13
      · exact h13
      · exact absurd ⟨h64, h13, hx, hc⟩ hg
  · refine ⟨fun h => absurd h.1 (by decide), fun _ h => ?_, fun _ hc hx => ?_, fun _ hc hx h => ?_, fun _ hc hx h => ?_⟩
    · rcases h with ⟨hc, hx⟩ | ⟨hc, hx⟩
      · have := hc2 hc
        simp [oneG, lineG, hc, hx, this]
      · subst hx
        by_cases hl : line = [] <;> simp [oneG, lineG, hc, hl]
    · have := hc2 hc
      simp [oneG, lineG, endG, hc, hx, this]
    · rcases h with h | h
      · simp [oneG, hb hc, h.2]
      · exact absurd h.1 (by decide)
    · have h13 : x = 13 := by
        by_cases e : x = 13
        · exact e
        · exact absurd (.inl ⟨rfl, e⟩) h
      subst h13
      rw [hb hc]
      simp [oneG, lineG, crB]
  · refine ⟨fun h => by simp [oneG, h.2], fun hn h => ?_, fun hn hc hx => ?_, fun _ hc hx h => ?_, fun hn hc hx h => ?_⟩
    · have ht : trail ≠ 256 := fun e => hn ⟨rfl, e⟩
      rcases h with ⟨hc, hx⟩ | ⟨hc, hx⟩ <;> simp [oneG, lineG, hc, hx, ht]
    · have ht : trail ≠ 256 := fun e => hn ⟨rfl, e⟩
      simp only [oneG, lineG, endG, hc, hx]
      by_cases hd : line.dropLast = []
      · simp [ht, hd]
      · simp [ht, hd]
    · rcases h with h | h
      · exact absurd h.1 (by decide)
      · exact absurd h.1 (by decide)
    · have ht : trail ≠ 256 := fun e => hn ⟨rfl, e⟩
      simp [oneG, lineG, hc, hx, ht]
end Go.Proofs.YtbgnogdlkmhnkaaGreatDoor.Vex
/- The document's own answer for chunks, reckoned: One. -/
namespace Go.Proofs.YtbgnogdlkmhnkaaGreatDoor.Vex
open Go Go.RowKit
set_option maxRecDepth 100000
set_option linter.unusedSectionVars false
variable {gI : GI} [HasMax gI] [HasErr gI]

/-- A body that comes out: its parts, the slice that it has, the row that is its own. -/
structure RM where
  s : CSt
  B : Option Addr
  n : Nat
  c : Nat
  A : Option Addr
  cp : Nat
  e : Int
def RM.v (y : RM) : Value := .tuple #[.agg ⟨[.int .u8 (y.s.ph : Nat), .int .i64 y.s.left, .slice y.B y.n y.c, .int .i64 y.s.trail]⟩, .int .i64 y.e]
def RM.hd (y : RM) : Hp := [.row (.slice y.A y.s.line.length y.cp) 5 1 y.s.line.length (y.s.line.map byteV)]
def RM.of (y : RM) (r : CSt × Int) : Prop := y.e = r.2 ∧ (y.e = 0 → y.s = r.1 ∧ y.B = y.A ∧ y.n = y.s.line.length ∧ y.c = y.cp)
theorem may_one {s : CSt} (hm : chMay s = true) (h1 : s.ph ≠ 1) (h4 : s.ph ≠ 4) : s.ph = 0 ∧ s.left = 0 ∨ s.ph = 2 ∧ (crB s.line = false → s.line = []) ∨ s.ph = 3 := by
  have hml := may_le hm
  obtain ⟨ph, left, line, trail⟩ := s
  dsimp only at *
  unfold chMay lineMay leftMay trailMay at hm
  dsimp only at hm
  rcases (show ph = 0 ∨ ph = 2 ∨ ph = 3 by omega) with rfl | rfl | rfl
  · left
    simp at hm
    exact ⟨rfl, hm.2.1⟩
  · right; left
    simp at hm
    refine ⟨rfl, fun hc => ?_⟩
    have := hm.1.2
    rwa [bare_no hc] at this
  · exact .inr (.inr rfl)
theorem endG_line (ph : Nat) (left trail : Int) (t : List UInt8) : (endG ph left trail t).1.line = [] := by
  unfold endG
  split
  · rfl
  split
  · split
    · rfl
    · split <;> rfl
  · split <;> rfl
theorem SlcV.upto {c : Ctx} {H : Hp} {A : Option Addr} {n cp sz : Nat} {h : Int} {K : Value → Prop} (h0 : 0 ≤ h) (h1 : h ≤ cp) (k : K (.slice A h.toNat cp)) : SlcV c H A n cp 0 (some h) sz K := by
  refine ⟨Int.le_refl _, h0, fun h' e w hw => by cases e; exact h1, ?_⟩
  have : A.map (·.add ((0 : Int).toNat * sz)) = A := by
    cases A with
    | none => rfl
    | some a =>
      simp only [Option.map_some, Int.toNat_zero, Nat.zero_mul, Option.some.injEq]
      unfold Addr.add
      split <;> simp_all
  simp only [this, ite_self, Option.getD_some]
  exact k
set_option maxHeartbeats 8000000 in
theorem One_f (s : CSt) (A : Option Addr) (cp : Nat) (x : UInt8) (hm : chMay s = true) (h1 : s.ph ≠ 1) (h4 : s.ph ≠ 4) :
    FnT Tryz.prog gI 35 [.agg ⟨[.int .u8 (s.ph : Nat), .int .i64 s.left, .slice A s.line.length cp, .int .i64 s.trail]⟩, .int .u8 x.toNat] (fun w => RdL w [(A, s.line.map byteV)] ∧ s.line.length ≤ cp) RM.v (fun y => y.of (oneG s x)) RM.hd (fun _ => []) := by
  have hmo := may_one hm h1 h4
  have hml := may_le hm
  obtain ⟨F1, F2, F3, F4, F5⟩ := oneG_facts s x hmo
  have hx10 : x = 10 ↔ x.toNat = 10 := by rw [← UInt8.toNat_inj]; rfl
  have hx13 : x = 13 ↔ x.toNat = 13 := by rw [← UInt8.toNat_inj]; rfl
  have hxb := x.toNat_lt
  have hdl : s.line.dropLast = s.line.take (s.line.length - 1) := List.dropLast_eq_take
  have hend := fun (t : Int) => ended_f (gI := gI) s.ph s.left t (.slice A s.line.length cp) s.line.dropLast rfl (by omega) (by rw [List.length_dropLast]; omega)
  obtain ⟨ph, left, line, trail⟩ := s
  dsimp only at *
  refine FnE.of tys_ok Tryz.func35 rfl (by kernel_rfl) rfl rfl ?_; intro w hG hP
  have hA : ∀ H, RdA (mkC Tryz.prog gI w hG) H A (line.map byteV) := fun H => ⟨hP.1.1.now⟩
  have hcp := hP.2
  clear hP
  have hRd : ∀ H, RdS (mkC Tryz.prog gI w hG) H A (line.dropLast.map byteV) := fun H => by rw [hdl, List.map_take]; exact (hA H).ok.take _
  have bad : ∀ (t : Int) (w w' : World) (hG : gI.G w), (oneG ⟨ph, left, line, trail⟩ x).2 = 3 → St (mkC Tryz.prog gI w hG) [] w' → ∃ y : RM, Value.tuple #[.agg ⟨[.int .u8 (ph : Nat), .int .i64 left, .slice A line.length cp, .int .i64 t]⟩, .int .i64 3] = y.v ∧ y.of (oneG ⟨ph, left, line, trail⟩ x) ∧ newH w w' (y.hd ++ []) := fun t w w' hG he hw' =>
    ⟨⟨⟨ph, left, [], t⟩, A, line.length, cp, none, 0, 3⟩, rfl, ⟨he.symm, fun h => absurd h (show ¬ (3 : Int) = 0 by decide)⟩, newH.of (hw'.nilRow 5 1)⟩
  have hlast : ∀ h : 0 < line.length, (line.map byteV)[((line.length : Int) - 1).toNat * 1]? = some (.int .u8 (line[line.length - 1]'(by omega)).toNat) := fun h => by
    rw [show ((line.length : Int) - 1).toNat * 1 = line.length - 1 by omega, List.getElem?_map, List.getElem?_eq_getElem (by omega)]; rfl
  have hcl := pl_last line
  cases hc : crB line
  · rw [hc] at F2 F3 F4 F5 hcl
    have hways : line.length = 0 ∨ 0 < line.length := by omega
    rcases hways with h0 | h0
    all_goals
      (conv => whnf); repeat ((first | refine tk1 ?_ | refine tk2 ?_ | refine tk3 ?_ | refine tk12 (fun _ => ?_) | refine tk4 ?_ | refine tk5 ?_ | refine tk6 ?_ | refine tk7 ?_ | refine tk8 ?_ | refine tk9 ?_ | refine tk10 (fun _ _ => ?_) | refine tk11 (fun _ => ?_) | refine tk13 ?_ | refine tk14 ?_); (conv => whnf))
      try (refine IdxA.tc (xs := line.map byteV) (by rw [List.length_map]; omega) (by omega) (by omega) ?_)
      try ((conv => whnf); repeat ((first | refine tk1 ?_ | refine tk2 ?_ | refine tk3 ?_ | refine tk12 (fun _ => ?_) | refine tk4 ?_ | refine tk5 ?_ | refine tk6 ?_ | refine tk7 ?_ | refine tk8 ?_ | refine tk9 ?_ | refine tk10 (fun _ _ => ?_) | refine tk11 (fun _ => ?_) | refine tk13 ?_ | refine tk14 ?_); (conv => whnf)))
      try (refine Ld.ta (xs := line.map byteV) (hlast h0) ?_)
      try ((conv => whnf); repeat ((first | refine tk1 ?_ | refine tk2 ?_ | refine tk3 ?_ | refine tk12 (fun _ => ?_) | refine tk4 ?_ | refine tk5 ?_ | refine tk6 ?_ | refine tk7 ?_ | refine tk8 ?_ | refine tk9 ?_ | refine tk10 (fun _ _ => ?_) | refine tk11 (fun _ => ?_) | refine tk13 ?_ | refine tk14 ?_); (conv => whnf)))
      try (refine Cmp.f (fun h => absurd (hcl h0) (by rw [decide_eq_true (by omega)]; decide)) ?_)
      try ((conv => whnf); repeat ((first | refine tk1 ?_ | refine tk2 ?_ | refine tk3 ?_ | refine tk12 (fun _ => ?_) | refine tk4 ?_ | refine tk5 ?_ | refine tk6 ?_ | refine tk7 ?_ | refine tk8 ?_ | refine tk9 ?_ | refine tk10 (fun _ _ => ?_) | refine tk11 (fun _ => ?_) | refine tk13 ?_ | refine tk14 ?_); (conv => whnf)))
    all_goals
      by_cases p3 : ph = 3
      · by_cases ht : trail = 256
        · (conv => whnf); repeat ((first | refine tk1 ?_ | refine tk2 ?_ | refine tk3 ?_ | refine tk12 (fun _ => ?_) | refine tk4 ?_ | refine tk5 ?_ | refine tk6 ?_ | refine tk7 ?_ | refine tk8 ?_ | refine tk9 ?_ | refine tk10 (fun _ _ => ?_) | refine tk11 (fun _ => ?_) | refine tk13 ?_ | refine tk14 ?_); (conv => whnf))
          exact fun w' hw' => bad trail w w' hG (F1 ⟨p3, ht⟩) (hw'.sub (List.nil_sublist _))
        have hn : ¬ (ph = 3 ∧ trail = 256) := fun h => ht h.2
        have F5' := F5 hn rfl
        rw [if_pos p3] at F5'
        by_cases x10 : x.toNat = 10
        · (conv => whnf); repeat ((first | refine tk1 ?_ | refine tk2 ?_ | refine tk3 ?_ | refine tk12 (fun _ => ?_) | refine tk4 ?_ | refine tk5 ?_ | refine tk6 ?_ | refine tk7 ?_ | refine tk8 ?_ | refine tk9 ?_ | refine tk10 (fun _ _ => ?_) | refine tk11 (fun _ => ?_) | refine tk13 ?_ | refine tk14 ?_); (conv => whnf))
          exact fun w' hw' => bad (trail + 1) w w' hG (F2 hn (.inr ⟨rfl, hx10.2 x10⟩)) (hw'.sub (List.nil_sublist _))
        have hx10' : x ≠ 10 := fun e => x10 (hx10.1 e)
        by_cases hbad : ph = 2 ∧ x.toNat ≠ 13 ∨ ph = 0 ∧ x.toNat ≠ 13 ∧ line.length = 64
        · have he : (oneG ⟨ph, left, line, trail⟩ x).2 = 3 := F4 hn rfl hx10' (by rcases hbad with ⟨a, b⟩ | ⟨a, b, c⟩; exact .inl ⟨a, fun e => b (hx13.1 e)⟩; exact .inr ⟨a, fun e => b (hx13.1 e), c⟩)
          rcases hbad with ⟨a, b⟩ | ⟨a, b, c⟩ <;> (try (exfalso; omega))
          all_goals
            (conv => whnf); repeat ((first | refine tk1 ?_ | refine tk2 ?_ | refine tk3 ?_ | refine tk12 (fun _ => ?_) | refine tk4 ?_ | refine tk5 ?_ | refine tk6 ?_ | refine tk7 ?_ | refine tk8 ?_ | refine tk9 ?_ | refine tk10 (fun _ _ => ?_) | refine tk11 (fun _ => ?_) | refine tk13 ?_ | refine tk14 ?_); (conv => whnf))
            exact fun w' hw' => bad (trail + 1) w w' hG he (hw'.sub (List.nil_sublist _))
        have hgood := F5' hx10' (fun h => hbad (by rcases h with ⟨a, b⟩ | ⟨a, b, c⟩; exact .inl ⟨a, fun e => b (hx13.2 e)⟩; exact .inr ⟨a, fun e => b (hx13.2 e), c⟩))
        rw [hgood]
        have hw3 : (x.toNat = 13) ∨ (x.toNat ≠ 13 ∧ ph ≠ 2 ∧ ph ≠ 0) ∨ (x.toNat ≠ 13 ∧ ph = 0 ∧ line.length ≠ 64) := by omega
        rcases hw3 with g | ⟨g1, g2, g3⟩ | ⟨g1, g2, g3⟩ <;> (try (exfalso; omega))
        all_goals
          (conv => whnf); repeat ((first | refine tk1 ?_ | refine tk2 ?_ | refine tk3 ?_ | refine tk12 (fun _ => ?_) | refine tk4 ?_ | refine tk5 ?_ | refine tk6 ?_ | refine tk7 ?_ | refine tk8 ?_ | refine tk9 ?_ | refine tk10 (fun _ _ => ?_) | refine tk11 (fun _ => ?_) | refine tk13 ?_ | refine tk14 ?_); (conv => whnf))
          try (refine Cmp.cases (fun c9 => ?_) (fun c9 => ?_))
        all_goals
          try ((conv => whnf); repeat ((first | refine tk1 ?_ | refine tk2 ?_ | refine tk3 ?_ | refine tk12 (fun _ => ?_) | refine tk4 ?_ | refine tk5 ?_ | refine tk6 ?_ | refine tk7 ?_ | refine tk8 ?_ | refine tk9 ?_ | refine tk10 (fun _ _ => ?_) | refine tk11 (fun _ => ?_) | refine tk13 ?_ | refine tk14 ?_); (conv => whnf)))
        all_goals
          refine AppS.t0 (m := line.length) (news := line.map byteV) (SrcK.rd (hA _).ok) (by simp) (bytes_one _) (by decide) (by omega) (by omega) (fun B1 c1 => ?_)
          (conv => whnf); repeat ((first | refine tk1 ?_ | refine tk2 ?_ | refine tk3 ?_ | refine tk12 (fun _ => ?_) | refine tk4 ?_ | refine tk5 ?_ | refine tk6 ?_ | refine tk7 ?_ | refine tk8 ?_ | refine tk9 ?_ | refine tk10 (fun _ _ => ?_) | refine tk11 (fun _ => ?_) | refine tk13 ?_ | refine tk14 ?_); (conv => whnf))
          refine AppS.tc (m := 1) (news := ([x] : List UInt8).map byteV) SrcK.tc rfl (bytes_one _) (by decide) (by omega) (by omega) (zs := (line ++ [x]).map byteV) List.map_append.symm (fun B2 c2 => ?_)
          rw [show line.length + 1 = (line ++ [x]).length by rw [List.length_append]; rfl]
          (conv => whnf); repeat ((first | refine tk1 ?_ | refine tk2 ?_ | refine tk3 ?_ | refine tk12 (fun _ => ?_) | refine tk4 ?_ | refine tk5 ?_ | refine tk6 ?_ | refine tk7 ?_ | refine tk8 ?_ | refine tk9 ?_ | refine tk10 (fun _ _ => ?_) | refine tk11 (fun _ => ?_) | refine tk13 ?_ | refine tk14 ?_); (conv => whnf))
          exact fun w' hw' => ⟨⟨⟨ph, left, line ++ [x], trail + 1⟩, B2, (line ++ [x]).length, c2, B2, c2, 0⟩, rfl, ⟨rfl, fun _ => ⟨rfl, rfl, rfl, rfl⟩⟩, newH.into hw' (Cv.into (by (try dsimp only); repeat' (first | with_reducible exact Cv.refl | with_reducible exact Cv.left | with_reducible exact Cv.right | with_reducible exact Cv.nil | (with_reducible apply Cv.cons; focus ((repeat (first | with_reducible exact Pick.here | with_reducible apply Pick.skip)); done)) | (apply Cv.cons; focus ((repeat (first | exact Pick.here | apply Pick.skip)); done)) | exact Cv.nil | exact Cv.refl | exact Cv.left | exact Cv.right | refine Cv.skip ?_)))⟩
      · have hn : ¬ (ph = 3 ∧ trail = 256) := fun h => p3 h.1
        have F5' := F5 hn rfl
        rw [if_neg p3] at F5'
        by_cases x10 : x.toNat = 10
        · (conv => whnf); repeat ((first | refine tk1 ?_ | refine tk2 ?_ | refine tk3 ?_ | refine tk12 (fun _ => ?_) | refine tk4 ?_ | refine tk5 ?_ | refine tk6 ?_ | refine tk7 ?_ | refine tk8 ?_ | refine tk9 ?_ | refine tk10 (fun _ _ => ?_) | refine tk11 (fun _ => ?_) | refine tk13 ?_ | refine tk14 ?_); (conv => whnf))
          exact fun w' hw' => bad (trail) w w' hG (F2 hn (.inr ⟨rfl, hx10.2 x10⟩)) (hw'.sub (List.nil_sublist _))
        have hx10' : x ≠ 10 := fun e => x10 (hx10.1 e)
        by_cases hbad : ph = 2 ∧ x.toNat ≠ 13 ∨ ph = 0 ∧ x.toNat ≠ 13 ∧ line.length = 64
        · have he : (oneG ⟨ph, left, line, trail⟩ x).2 = 3 := F4 hn rfl hx10' (by rcases hbad with ⟨a, b⟩ | ⟨a, b, c⟩; exact .inl ⟨a, fun e => b (hx13.1 e)⟩; exact .inr ⟨a, fun e => b (hx13.1 e), c⟩)
          rcases hbad with ⟨a, b⟩ | ⟨a, b, c⟩ <;> (try (exfalso; omega))
          all_goals
            (conv => whnf); repeat ((first | refine tk1 ?_ | refine tk2 ?_ | refine tk3 ?_ | refine tk12 (fun _ => ?_) | refine tk4 ?_ | refine tk5 ?_ | refine tk6 ?_ | refine tk7 ?_ | refine tk8 ?_ | refine tk9 ?_ | refine tk10 (fun _ _ => ?_) | refine tk11 (fun _ => ?_) | refine tk13 ?_ | refine tk14 ?_); (conv => whnf))
            exact fun w' hw' => bad (trail) w w' hG he (hw'.sub (List.nil_sublist _))
        have hgood := F5' hx10' (fun h => hbad (by rcases h with ⟨a, b⟩ | ⟨a, b, c⟩; exact .inl ⟨a, fun e => b (hx13.2 e)⟩; exact .inr ⟨a, fun e => b (hx13.2 e), c⟩))
        rw [hgood]
        have hw3 : (x.toNat = 13) ∨ (x.toNat ≠ 13 ∧ ph ≠ 2 ∧ ph ≠ 0) ∨ (x.toNat ≠ 13 ∧ ph = 0 ∧ line.length ≠ 64) := by omega
        rcases hw3 with g | ⟨g1, g2, g3⟩ | ⟨g1, g2, g3⟩ <;> (try (exfalso; omega))
        all_goals
          (conv => whnf); repeat ((first | refine tk1 ?_ | refine tk2 ?_ | refine tk3 ?_ | refine tk12 (fun _ => ?_) | refine tk4 ?_ | refine tk5 ?_ | refine tk6 ?_ | refine tk7 ?_ | refine tk8 ?_ | refine tk9 ?_ | refine tk10 (fun _ _ => ?_) | refine tk11 (fun _ => ?_) | refine tk13 ?_ | refine tk14 ?_); (conv => whnf))
          try (refine Cmp.cases (fun c9 => ?_) (fun c9 => ?_))
        all_goals
          try ((conv => whnf); repeat ((first | refine tk1 ?_ | refine tk2 ?_ | refine tk3 ?_ | refine tk12 (fun _ => ?_) | refine tk4 ?_ | refine tk5 ?_ | refine tk6 ?_ | refine tk7 ?_ | refine tk8 ?_ | refine tk9 ?_ | refine tk10 (fun _ _ => ?_) | refine tk11 (fun _ => ?_) | refine tk13 ?_ | refine tk14 ?_); (conv => whnf)))
        all_goals
          refine AppS.t0 (m := line.length) (news := line.map byteV) (SrcK.rd (hA _).ok) (by simp) (bytes_one _) (by decide) (by omega) (by omega) (fun B1 c1 => ?_)
          (conv => whnf); repeat ((first | refine tk1 ?_ | refine tk2 ?_ | refine tk3 ?_ | refine tk12 (fun _ => ?_) | refine tk4 ?_ | refine tk5 ?_ | refine tk6 ?_ | refine tk7 ?_ | refine tk8 ?_ | refine tk9 ?_ | refine tk10 (fun _ _ => ?_) | refine tk11 (fun _ => ?_) | refine tk13 ?_ | refine tk14 ?_); (conv => whnf))
          refine AppS.tc (m := 1) (news := ([x] : List UInt8).map byteV) SrcK.tc rfl (bytes_one _) (by decide) (by omega) (by omega) (zs := (line ++ [x]).map byteV) List.map_append.symm (fun B2 c2 => ?_)
          rw [show line.length + 1 = (line ++ [x]).length by rw [List.length_append]; rfl]
          (conv => whnf); repeat ((first | refine tk1 ?_ | refine tk2 ?_ | refine tk3 ?_ | refine tk12 (fun _ => ?_) | refine tk4 ?_ | refine tk5 ?_ | refine tk6 ?_ | refine tk7 ?_ | refine tk8 ?_ | refine tk9 ?_ | refine tk10 (fun _ _ => ?_) | refine tk11 (fun _ => ?_) | refine tk13 ?_ | refine tk14 ?_); (conv => whnf))
          exact fun w' hw' => ⟨⟨⟨ph, left, line ++ [x], trail⟩, B2, (line ++ [x]).length, c2, B2, c2, 0⟩, rfl, ⟨rfl, fun _ => ⟨rfl, rfl, rfl, rfl⟩⟩, newH.into hw' (Cv.into (by (try dsimp only); repeat' (first | with_reducible exact Cv.refl | with_reducible exact Cv.left | with_reducible exact Cv.right | with_reducible exact Cv.nil | (with_reducible apply Cv.cons; focus ((repeat (first | with_reducible exact Pick.here | with_reducible apply Pick.skip)); done)) | (apply Cv.cons; focus ((repeat (first | exact Pick.here | apply Pick.skip)); done)) | exact Cv.nil | exact Cv.refl | exact Cv.left | exact Cv.right | refine Cv.skip ?_)))⟩
  · rw [hc] at F2 F3 F4 F5 hcl
    have h0 : 0 < line.length := by
      rcases (show line.length = 0 ∨ 0 < line.length by omega) with h | h
      · rw [List.eq_nil_of_length_eq_zero h] at hc; cases hc
      · exact h
    have h13 : (line[line.length - 1]'(by omega)).toNat = 13 := of_decide_eq_true (hcl h0).symm
    (conv => whnf); repeat ((first | refine tk1 ?_ | refine tk2 ?_ | refine tk3 ?_ | refine tk12 (fun _ => ?_) | refine tk4 ?_ | refine tk5 ?_ | refine tk6 ?_ | refine tk7 ?_ | refine tk8 ?_ | refine tk9 ?_ | refine tk10 (fun _ _ => ?_) | refine tk11 (fun _ => ?_) | refine tk13 ?_ | refine tk14 ?_); (conv => whnf))
    refine IdxA.tc (xs := line.map byteV) (by rw [List.length_map]; omega) (by omega) (by omega) ?_
    (conv => whnf); repeat ((first | refine tk1 ?_ | refine tk2 ?_ | refine tk3 ?_ | refine tk12 (fun _ => ?_) | refine tk4 ?_ | refine tk5 ?_ | refine tk6 ?_ | refine tk7 ?_ | refine tk8 ?_ | refine tk9 ?_ | refine tk10 (fun _ _ => ?_) | refine tk11 (fun _ => ?_) | refine tk13 ?_ | refine tk14 ?_); (conv => whnf))
    refine Ld.ta (xs := line.map byteV) (hlast h0) ?_
    rw [h13]
    (conv => whnf); repeat ((first | refine tk1 ?_ | refine tk2 ?_ | refine tk3 ?_ | refine tk12 (fun _ => ?_) | refine tk4 ?_ | refine tk5 ?_ | refine tk6 ?_ | refine tk7 ?_ | refine tk8 ?_ | refine tk9 ?_ | refine tk10 (fun _ _ => ?_) | refine tk11 (fun _ => ?_) | refine tk13 ?_ | refine tk14 ?_); (conv => whnf))
    by_cases p3 : ph = 3
    · by_cases ht : trail = 256
      · (conv => whnf); repeat ((first | refine tk1 ?_ | refine tk2 ?_ | refine tk3 ?_ | refine tk12 (fun _ => ?_) | refine tk4 ?_ | refine tk5 ?_ | refine tk6 ?_ | refine tk7 ?_ | refine tk8 ?_ | refine tk9 ?_ | refine tk10 (fun _ _ => ?_) | refine tk11 (fun _ => ?_) | refine tk13 ?_ | refine tk14 ?_); (conv => whnf))
        exact fun w' hw' => bad trail w w' hG (F1 ⟨p3, ht⟩) (hw'.sub (List.nil_sublist _))
      have hn : ¬ (ph = 3 ∧ trail = 256) := fun h => ht h.2
      have F3' := F3 hn rfl
      rw [if_pos p3] at F3'
      by_cases x10 : x.toNat = 10
      rotate_left
      · (conv => whnf); repeat ((first | refine tk1 ?_ | refine tk2 ?_ | refine tk3 ?_ | refine tk12 (fun _ => ?_) | refine tk4 ?_ | refine tk5 ?_ | refine tk6 ?_ | refine tk7 ?_ | refine tk8 ?_ | refine tk9 ?_ | refine tk10 (fun _ _ => ?_) | refine tk11 (fun _ => ?_) | refine tk13 ?_ | refine tk14 ?_); (conv => whnf))
        exact fun w' hw' => bad (trail + 1) w w' hG (F2 hn (.inl ⟨rfl, fun e => x10 (hx10.1 e)⟩)) (hw'.sub (List.nil_sublist _))
      obtain ⟨g1, g2⟩ := F3' (hx10.2 x10)
      have he := hend (trail + 1)
      have hel := endG_line ph left (trail + 1) line.dropLast
      generalize endG ph left (trail + 1) line.dropLast = q at g1 g2 he hel
      obtain ⟨⟨qp, ql, qn, qt⟩, qe⟩ := q
      dsimp only at g1 g2 he hel
      subst hel
      (conv => whnf); repeat ((first | refine tk1 ?_ | refine tk2 ?_ | refine tk3 ?_ | refine tk12 (fun _ => ?_) | refine tk4 ?_ | refine tk5 ?_ | refine tk6 ?_ | refine tk7 ?_ | refine tk8 ?_ | refine tk9 ?_ | refine tk10 (fun _ _ => ?_) | refine tk11 (fun _ => ?_) | refine tk13 ?_ | refine tk14 ?_); (conv => whnf))
      refine DrawS.fork [] (.q 0 (.q 1 (.q 2 (.q 3 (.q 4 (.q 5 (.q 6 (.q 7 (.q 8 (.ch 9 (.q 10 (.q 11 (.q 12 (.a 13 (.a 14 (.q 15 (.nil))))))) (.ch 13 (.a 9 (.q 10 (.q 11 (.q 12 (.a 14 (.q 15 (.nil))))))) (.stop)))))))))))) tys_ok mixed (by kernel_rfl) ?_
      (repeat' ((conv => whnf); first | (first | refine tk1 ?_ | refine tk2 ?_ | refine tk3 ?_ | refine tk12 (fun _ => ?_) | refine tk4 ?_ | refine tk5 ?_ | refine tk6 ?_ | refine tk7 ?_ | refine tk8 ?_ | refine tk9 ?_ | refine tk10 (fun _ _ => ?_) | refine tk11 (fun _ => ?_) | refine tk13 ?_ | refine tk14 ?_) | refine And.intro ?_ ?_ | exact trivial | (refine SlcV.upto (by omega) (by omega) ?_) | (refine B2S.rd (l := line.dropLast) (hRd _) (by rw [List.length_dropLast]; omega) ?_) | (refine CallK.fn he ?_) | exact fun w' hw' => ⟨⟨⟨qp, ql, [], qt⟩, none, 0, 0, none, 0, qe⟩, rfl, ⟨g1.symm, fun h => ⟨(g2 (g1.trans h)).symm, rfl, rfl, rfl⟩⟩, newH.of ((hw'.sub (List.nil_sublist _)).nilRow 5 1)⟩))
    · have hn : ¬ (ph = 3 ∧ trail = 256) := fun h => p3 h.1
      have F3' := F3 hn rfl
      rw [if_neg p3] at F3'
      by_cases x10 : x.toNat = 10
      rotate_left
      · (conv => whnf); repeat ((first | refine tk1 ?_ | refine tk2 ?_ | refine tk3 ?_ | refine tk12 (fun _ => ?_) | refine tk4 ?_ | refine tk5 ?_ | refine tk6 ?_ | refine tk7 ?_ | refine tk8 ?_ | refine tk9 ?_ | refine tk10 (fun _ _ => ?_) | refine tk11 (fun _ => ?_) | refine tk13 ?_ | refine tk14 ?_); (conv => whnf))
        exact fun w' hw' => bad (trail) w w' hG (F2 hn (.inl ⟨rfl, fun e => x10 (hx10.1 e)⟩)) (hw'.sub (List.nil_sublist _))
      obtain ⟨g1, g2⟩ := F3' (hx10.2 x10)
      have he := hend (trail)
      have hel := endG_line ph left (trail) line.dropLast
      generalize endG ph left (trail) line.dropLast = q at g1 g2 he hel
      obtain ⟨⟨qp, ql, qn, qt⟩, qe⟩ := q
      dsimp only at g1 g2 he hel
      subst hel
      (conv => whnf); repeat ((first | refine tk1 ?_ | refine tk2 ?_ | refine tk3 ?_ | refine tk12 (fun _ => ?_) | refine tk4 ?_ | refine tk5 ?_ | refine tk6 ?_ | refine tk7 ?_ | refine tk8 ?_ | refine tk9 ?_ | refine tk10 (fun _ _ => ?_) | refine tk11 (fun _ => ?_) | refine tk13 ?_ | refine tk14 ?_); (conv => whnf))
      refine DrawS.fork [] (.q 0 (.q 1 (.q 2 (.q 3 (.q 4 (.q 5 (.q 6 (.q 7 (.q 8 (.ch 9 (.q 10 (.q 11 (.q 12 (.a 13 (.a 14 (.q 15 (.nil))))))) (.ch 13 (.a 9 (.q 10 (.q 11 (.q 12 (.a 14 (.q 15 (.nil))))))) (.stop)))))))))))) tys_ok mixed (by kernel_rfl) ?_
      (repeat' ((conv => whnf); first | (first | refine tk1 ?_ | refine tk2 ?_ | refine tk3 ?_ | refine tk12 (fun _ => ?_) | refine tk4 ?_ | refine tk5 ?_ | refine tk6 ?_ | refine tk7 ?_ | refine tk8 ?_ | refine tk9 ?_ | refine tk10 (fun _ _ => ?_) | refine tk11 (fun _ => ?_) | refine tk13 ?_ | refine tk14 ?_) | refine And.intro ?_ ?_ | exact trivial | (refine SlcV.upto (by omega) (by omega) ?_) | (refine B2S.rd (l := line.dropLast) (hRd _) (by rw [List.length_dropLast]; omega) ?_) | (refine CallK.fn he ?_) | exact fun w' hw' => ⟨⟨⟨qp, ql, [], qt⟩, none, 0, 0, none, 0, qe⟩, rfl, ⟨g1.symm, fun h => ⟨(g2 (g1.trans h)).symm, rfl, rfl, rfl⟩⟩, newH.of ((hw'.sub (List.nil_sublist _)).nilRow 5 1)⟩))
end Go.Proofs.YtbgnogdlkmhnkaaGreatDoor.Vex
/- The document's own answer for chunks, reckoned: Feed. -/
namespace Go.Proofs.YtbgnogdlkmhnkaaGreatDoor.Vex
open Go Go.RowKit
set_option maxRecDepth 100000
set_option linter.unusedSectionVars false
variable {gI : GI} [HasMax gI] [HasErr gI]

set_option maxHeartbeats 8000000 in
theorem RFeed_f (s0 : CSt) (A : Option Addr) (cp : Nat) (BA : Option Addr) (Bc : Nat) (b : List UInt8) (hl : s0.line.length ≤ 1000000000) (hb : b.length ≤ 1000000000) :
    FnT Tryz.prog gI 11 [cV s0 A cp, .slice BA b.length Bc] (fun w => RdL w [(A, s0.line.map byteV), (BA, b.map byteV)] ∧ s0.line.length ≤ cp ∧ b.length ≤ Bc) (FeedV (feedG s0 b)) (fun _ => True) (FeedH (feedG s0 b)) (fun _ => []) := by
  have hmay := CMay_r (gI := gI) s0 A cp hl
  unfold cV
  refine FnE.of tys_ok Tryz.func11 rfl (by kernel_rfl) rfl rfl ?_; intro w hG hP
  have hA : ∀ H, RdA (mkC Tryz.prog gI w hG) H A (s0.line.map byteV) := fun H => ⟨hP.1.1.now⟩
  have hRB : ∀ H, RdA (mkC Tryz.prog gI w hG) H BA (b.map byteV) := fun H => ⟨hP.1.2.1.now⟩
  clear hP
  have hfail : ∀ (e : Int) (r : CRes) (w w' : World) (hG : gI.G w), r = ⟨cst0, [], 0, e⟩ → St (mkC Tryz.prog gI w hG) [] w' → ∃ x, Value.tuple #[.agg ⟨[.int .u8 0, .int .i64 0, .slice none 0 0, .int .i64 0]⟩, .slice none 0 0, .int .i64 0, .int .i64 e] = FeedV r x ∧ True ∧ newH w w' (FeedH r x ++ []) := fun e r w w' hG hr hw' => by
    subst hr
    exact ⟨⟨none, 0, none, 0⟩, rfl, trivial, newH.of ((hw'.nilRow 5 1).nilRow 5 1)⟩
  (conv => whnf); repeat ((first | refine tk1 ?_ | refine tk2 ?_ | refine tk3 ?_ | refine tk12 (fun _ => ?_) | refine tk4 ?_ | refine tk5 ?_ | refine tk6 ?_ | refine tk7 ?_ | refine tk8 ?_ | refine tk9 ?_ | refine tk10 (fun _ _ => ?_) | refine tk11 (fun _ => ?_) | refine tk13 ?_ | refine tk14 ?_); (conv => whnf))
  rename_i bo bp
  refine CallK.fnR hmay ⟨(hA _).ok, trivial⟩ ?_
  unfold feedG
  cases hm : chMay s0
  · simp only [Bool.false_eq_true, if_false]
    (conv => whnf); repeat ((first | refine tk1 ?_ | refine tk2 ?_ | refine tk3 ?_ | refine tk12 (fun _ => ?_) | refine tk4 ?_ | refine tk5 ?_ | refine tk6 ?_ | refine tk7 ?_ | refine tk8 ?_ | refine tk9 ?_ | refine tk10 (fun _ _ => ?_) | refine tk11 (fun _ => ?_) | refine tk13 ?_ | refine tk14 ?_); (conv => whnf))
    exact fun w' hw' => hfail 8 _ w w' hG rfl (hw'.sub (List.nil_sublist _))
  simp only [if_true]
  by_cases h4 : s0.ph = 4
  · rw [if_pos h4]
    (conv => whnf); repeat ((first | refine tk1 ?_ | refine tk2 ?_ | refine tk3 ?_ | refine tk12 (fun _ => ?_) | refine tk4 ?_ | refine tk5 ?_ | refine tk6 ?_ | refine tk7 ?_ | refine tk8 ?_ | refine tk9 ?_ | refine tk10 (fun _ _ => ?_) | refine tk11 (fun _ => ?_) | refine tk13 ?_ | refine tk14 ?_); (conv => whnf))
    exact fun w' hw' => hfail 6 _ w w' hG rfl (hw'.sub (List.nil_sublist _))
  rw [if_neg h4]
  by_cases h1 : b.length ≤ 131072
  rotate_left
  · rw [if_neg h1]
    (conv => whnf); repeat ((first | refine tk1 ?_ | refine tk2 ?_ | refine tk3 ?_ | refine tk12 (fun _ => ?_) | refine tk4 ?_ | refine tk5 ?_ | refine tk6 ?_ | refine tk7 ?_ | refine tk8 ?_ | refine tk9 ?_ | refine tk10 (fun _ _ => ?_) | refine tk11 (fun _ => ?_) | refine tk13 ?_ | refine tk14 ?_); (conv => whnf))
    exact fun w' hw' => hfail 4 _ w w' hG rfl (hw'.sub (List.nil_sublist _))
  rw [if_pos h1]
  have hml0 := may_le hm
  (conv => whnf); repeat ((first | refine tk1 ?_ | refine tk2 ?_ | refine tk3 ?_ | refine tk12 (fun _ => ?_) | refine tk4 ?_ | refine tk5 ?_ | refine tk6 ?_ | refine tk7 ?_ | refine tk8 ?_ | refine tk9 ?_ | refine tk10 (fun _ _ => ?_) | refine tk11 (fun _ => ?_) | refine tk13 ?_ | refine tk14 ?_); (conv => whnf))
  refine AppS.t0 (m := s0.line.length) (news := s0.line.map byteV) (SrcK.rd (hA _).ok) (by simp) (bytes_one _) (by decide) (by omega) (by omega) (fun LA lc => ?_)
  (conv => whnf); repeat ((first | refine tk1 ?_ | refine tk2 ?_ | refine tk3 ?_ | refine tk12 (fun _ => ?_) | refine tk4 ?_ | refine tk5 ?_ | refine tk6 ?_ | refine tk7 ?_ | refine tk8 ?_ | refine tk9 ?_ | refine tk10 (fun _ _ => ?_) | refine tk11 (fun _ => ?_) | refine tk13 ?_ | refine tk14 ?_); (conv => whnf))
  refine CallK.inl tys_ok Tryz.func25 rfl (by kernel_rfl) rfl rfl ?_
  (conv => whnf); repeat ((first | refine tk1 ?_ | refine tk2 ?_ | refine tk3 ?_ | refine tk12 (fun _ => ?_) | refine tk4 ?_ | refine tk5 ?_ | refine tk6 ?_ | refine tk7 ?_ | refine tk8 ?_ | refine tk9 ?_ | refine tk10 (fun _ _ => ?_) | refine tk11 (fun _ => ?_) | refine tk13 ?_ | refine tk14 ?_); (conv => whnf))
  rename_i b2 b4
  refine LoopS.nilRow 5 1 ?_
  refine LoopS.lpT tys_ok (fun (x : FL) u => [u 0, .slice BA b.length Bc, .pointer (some ⟨b2, 0, none⟩), u 3, .pointer (some ⟨b4, 0, none⟩), u 5, u 6, u 7, .slice x.y.dA x.d.length x.y.dc, .int .i64 (x.k : Nat), u 10, u 11, u 12, u 13, u 14, u 15, u 16, u 17, u 18, u 19, u 20, u 21, u 22, u 23, u 24, u 25, u 26, u 27, u 28, u 29, u 30, u 31, u 32, u 33, u 34, u 35, u 36, u 37, u 38, u 39, u 40, u 41, u 42, u 43, u 44, u 45, u 46, u 47, u 48, u 49, u 50, u 51, u 52, u 53, u 54, u 55, u 56, u 57])
    (fun x => [.box b2 [.int .u8 (x.s.ph : Nat), .int .i64 x.s.left, .slice x.y.lA x.s.line.length x.y.lc, .int .i64 x.s.trail] 27, .row (.slice x.y.lA x.s.line.length x.y.lc) 5 1 x.s.line.length (x.s.line.map byteV), .row (.slice x.y.dA x.d.length x.y.dc) 5 1 x.d.length (x.d.map byteV),
      .box b4 [.int .u8 0, .int .i64 0, .slice none 0 0, .int .i64 0] 27, .box bp [.int .u8 0, .int .i64 0, .slice none 0 0, .int .i64 0] 27])
    (fun x => x.k ≤ b.length ∧ chMay x.s = true ∧ fedG s0 [] 0 b = fedG x.s x.d x.k (b.drop x.k) ∧ x.d.length ≤ x.k) (fun x => b.length - x.k) ⟨0, s0, [], ⟨LA, lc, none, 0⟩⟩ ⟨Nat.zero_le _, hm, rfl, Nat.le_refl _⟩ rfl (Cv.into (by (try dsimp only); repeat' (first | with_reducible exact Cv.refl | with_reducible exact Cv.left | with_reducible exact Cv.right | with_reducible exact Cv.nil | (with_reducible apply Cv.cons; focus ((repeat (first | with_reducible exact Pick.here | with_reducible apply Pick.skip)); done)) | (apply Cv.cons; focus ((repeat (first | exact Pick.here | apply Pick.skip)); done)) | exact Cv.nil | exact Cv.refl | exact Cv.left | exact Cv.right | refine Cv.skip ?_))) ?_
  rintro ⟨k, s, d, y⟩ u ⟨hk, hm, hI, hd⟩
  dsimp only at hk hm hI hd ⊢
  have hml := may_le hm
  by_cases hlt : k < b.length
  rotate_left
  · as_aux_lemma =>
    have hr : fedG s0 [] 0 b = ⟨s, d, k, 0⟩ := by rw [hI, List.drop_eq_nil_of_le (by omega)]; rfl
    rw [hr]
    (conv => whnf); repeat ((first | refine tk1 ?_ | refine tk2 ?_ | refine tk3 ?_ | refine tk12 (fun _ => ?_) | refine tk4 ?_ | refine tk5 ?_ | refine tk6 ?_ | refine tk7 ?_ | refine tk8 ?_ | refine tk9 ?_ | refine tk10 (fun _ _ => ?_) | refine tk11 (fun _ => ?_) | refine tk13 ?_ | refine tk14 ?_); (conv => whnf))
    exact fun w' hw' => ⟨y, rfl, trivial, newH.into hw' (Cv.into (by (try dsimp only); repeat' (first | with_reducible exact Cv.refl | with_reducible exact Cv.left | with_reducible exact Cv.right | with_reducible exact Cv.nil | (with_reducible apply Cv.cons; focus ((repeat (first | with_reducible exact Pick.here | with_reducible apply Pick.skip)); done)) | (apply Cv.cons; focus ((repeat (first | exact Pick.here | apply Pick.skip)); done)) | exact Cv.nil | exact Cv.refl | exact Cv.left | exact Cv.right | refine Cv.skip ?_)))⟩
  by_cases hp4 : s.ph = 4
  · as_aux_lemma =>
    have hr : fedG s0 [] 0 b = ⟨s, d, k, 0⟩ := by rw [hI, fed_over _ _ _ _ hp4]
    rw [hr]
    (conv => whnf); repeat ((first | refine tk1 ?_ | refine tk2 ?_ | refine tk3 ?_ | refine tk12 (fun _ => ?_) | refine tk4 ?_ | refine tk5 ?_ | refine tk6 ?_ | refine tk7 ?_ | refine tk8 ?_ | refine tk9 ?_ | refine tk10 (fun _ _ => ?_) | refine tk11 (fun _ => ?_) | refine tk13 ?_ | refine tk14 ?_); (conv => whnf))
    exact fun w' hw' => ⟨y, rfl, trivial, newH.into hw' (Cv.into (by (try dsimp only); repeat' (first | with_reducible exact Cv.refl | with_reducible exact Cv.left | with_reducible exact Cv.right | with_reducible exact Cv.nil | (with_reducible apply Cv.cons; focus ((repeat (first | with_reducible exact Pick.here | with_reducible apply Pick.skip)); done)) | (apply Cv.cons; focus ((repeat (first | exact Pick.here | apply Pick.skip)); done)) | exact Cv.nil | exact Cv.refl | exact Cv.left | exact Cv.right | refine Cv.skip ?_)))⟩
  have hxb : (b.map byteV)[((k : Nat) : Int).toNat * 1]? = some (byteV b[k]) := by rw [Int.toNat_natCast, Nat.mul_one, List.getElem?_map, List.getElem?_eq_getElem hlt]; rfl
  rw [List.drop_eq_getElem_cons hlt, fed_cons, if_neg hp4] at hI
  obtain ⟨x, hx⟩ : ∃ x, b[k] = x := ⟨_, rfl⟩
  rw [hx] at hI hxb
  by_cases hp1 : s.ph = 1
  · as_aux_lemma =>
    rw [if_pos hp1] at hI
    have hln : s.line = [] ∧ 1 ≤ s.left := by
      obtain ⟨ph, left, line, trail⟩ := s
      dsimp only at hp1
      subst hp1
      simp [chMay, lineMay, leftMay, trailMay] at hm
      exact ⟨hm.1, hm.2.1.1⟩
    have hk2 : chMay { s with left := s.left - 1, ph := if s.left - 1 = 0 then 2 else 1 } = true := by
      obtain ⟨ph, left, line, trail⟩ := s
      dsimp only at hp1 hln
      subst hp1
      obtain ⟨rfl, _⟩ := hln
      simp [chMay, lineMay, leftMay, trailMay] at hm ⊢
      by_cases hz : left - 1 = 0
      · simp [hz, noEnd, bare, crB, hm]
      · simp [hz, hm]
        omega
    rw [hp1]
    (conv => whnf); repeat ((first | refine tk1 ?_ | refine tk2 ?_ | refine tk3 ?_ | refine tk12 (fun _ => ?_) | refine tk4 ?_ | refine tk5 ?_ | refine tk6 ?_ | refine tk7 ?_ | refine tk8 ?_ | refine tk9 ?_ | refine tk10 (fun _ _ => ?_) | refine tk11 (fun _ => ?_) | refine tk13 ?_ | refine tk14 ?_); (conv => whnf))
    refine IdxA.tc (xs := b.map byteV) (by rw [List.length_map]; omega) (by omega) (by omega) ?_
    (conv => whnf); repeat ((first | refine tk1 ?_ | refine tk2 ?_ | refine tk3 ?_ | refine tk12 (fun _ => ?_) | refine tk4 ?_ | refine tk5 ?_ | refine tk6 ?_ | refine tk7 ?_ | refine tk8 ?_ | refine tk9 ?_ | refine tk10 (fun _ _ => ?_) | refine tk11 (fun _ => ?_) | refine tk13 ?_ | refine tk14 ?_); (conv => whnf))
    refine Ld.ta (xs := b.map byteV) hxb ?_
    unfold byteV
    (conv => whnf); repeat ((first | refine tk1 ?_ | refine tk2 ?_ | refine tk3 ?_ | refine tk12 (fun _ => ?_) | refine tk4 ?_ | refine tk5 ?_ | refine tk6 ?_ | refine tk7 ?_ | refine tk8 ?_ | refine tk9 ?_ | refine tk10 (fun _ _ => ?_) | refine tk11 (fun _ => ?_) | refine tk13 ?_ | refine tk14 ?_); (conv => whnf))
    refine AppS.tc (m := 1) (news := ([x] : List UInt8).map byteV) SrcK.tc rfl (bytes_one _) (by decide) (by omega) (by omega) (zs := (d ++ [x]).map byteV) List.map_append.symm (fun dA dc => ?_)
    rw [show d.length + 1 = (d ++ [x]).length by rw [List.length_append]; rfl]
    by_cases hz : s.left - 1 = 0
    · rw [if_pos hz] at hI hk2
      (conv => whnf); repeat ((first | refine tk1 ?_ | refine tk2 ?_ | refine tk3 ?_ | refine tk12 (fun _ => ?_) | refine tk4 ?_ | refine tk5 ?_ | refine tk6 ?_ | refine tk7 ?_ | refine tk8 ?_ | refine tk9 ?_ | refine tk10 (fun _ _ => ?_) | refine tk11 (fun _ => ?_) | refine tk13 ?_ | refine tk14 ?_); (conv => whnf))
      exact ⟨⟨k + 1, ⟨2, s.left - 1, s.line, s.trail⟩, d ++ [x], ⟨y.lA, y.lc, dA, dc⟩⟩, ⟨by dsimp only; omega, hk2, hI, by dsimp only; rw [List.length_append]; simp only [List.length_singleton]; omega⟩, rfl, Cv.into (by (try dsimp only); repeat' (first | with_reducible exact Cv.refl | with_reducible exact Cv.left | with_reducible exact Cv.right | with_reducible exact Cv.nil | (with_reducible apply Cv.cons; focus ((repeat (first | with_reducible exact Pick.here | with_reducible apply Pick.skip)); done)) | (apply Cv.cons; focus ((repeat (first | exact Pick.here | apply Pick.skip)); done)) | exact Cv.nil | exact Cv.refl | exact Cv.left | exact Cv.right | refine Cv.skip ?_)), by dsimp only; omega⟩
    · rw [if_neg hz] at hI hk2
      (conv => whnf); repeat ((first | refine tk1 ?_ | refine tk2 ?_ | refine tk3 ?_ | refine tk12 (fun _ => ?_) | refine tk4 ?_ | refine tk5 ?_ | refine tk6 ?_ | refine tk7 ?_ | refine tk8 ?_ | refine tk9 ?_ | refine tk10 (fun _ _ => ?_) | refine tk11 (fun _ => ?_) | refine tk13 ?_ | refine tk14 ?_); (conv => whnf))
      exact ⟨⟨k + 1, ⟨1, s.left - 1, s.line, s.trail⟩, d ++ [x], ⟨y.lA, y.lc, dA, dc⟩⟩, ⟨by dsimp only; omega, hk2, hI, by dsimp only; rw [List.length_append]; simp only [List.length_singleton]; omega⟩, rfl, Cv.into (by (try dsimp only); repeat' (first | with_reducible exact Cv.refl | with_reducible exact Cv.left | with_reducible exact Cv.right | with_reducible exact Cv.nil | (with_reducible apply Cv.cons; focus ((repeat (first | with_reducible exact Pick.here | with_reducible apply Pick.skip)); done)) | (apply Cv.cons; focus ((repeat (first | exact Pick.here | apply Pick.skip)); done)) | exact Cv.nil | exact Cv.refl | exact Cv.left | exact Cv.right | refine Cv.skip ?_)), by dsimp only; omega⟩
  · rw [if_neg hp1] at hI
    have hkeep := one_keeps (x := x) hm hp1 hp4
    have hone := fun OA Oc => One_f (gI := gI) s OA Oc x hm hp1 hp4
    obtain ⟨r, hr⟩ : ∃ r, oneG s x = r := ⟨_, rfl⟩
    rw [hr] at hI hkeep hone
    (conv => whnf); repeat ((first | refine tk1 ?_ | refine tk2 ?_ | refine tk3 ?_ | refine tk12 (fun _ => ?_) | refine tk4 ?_ | refine tk5 ?_ | refine tk6 ?_ | refine tk7 ?_ | refine tk8 ?_ | refine tk9 ?_ | refine tk10 (fun _ _ => ?_) | refine tk11 (fun _ => ?_) | refine tk13 ?_ | refine tk14 ?_); (conv => whnf))
    refine DrawS.joinI (fun (z : {z : RM // z.of r} × Nat) u => [u 0, .slice BA b.length Bc, .pointer (some ⟨b2, 0, none⟩), u 3, .pointer (some ⟨b4, 0, none⟩), u 5, u 6, u 7, .slice y.dA d.length y.dc, .int .i64 (k : Nat), .pointer (some ⟨z.2, 0, none⟩), .int .i64 z.1.1.e, u 12, u 13, u 14, u 15, u 16, u 17, u 18, u 19, u 20, u 21, u 22, u 23, u 24, u 25, u 26, u 27, u 28, u 29, u 30, u 31, u 32, u 33, u 34, u 35, u 36, u 37, u 38, u 39, u 40, u 41, u 42, u 43, u 44, u 45, u 46, u 47, u 48, u 49, u 50, u 51, u 52, u 53, u 54, u 55, u 56, u 57])
      (fun z => [.box z.2 [.int .u8 (z.1.1.s.ph : Nat), .int .i64 z.1.1.s.left, .slice z.1.1.B z.1.1.n z.1.1.c, .int .i64 z.1.1.s.trail] 27, .row (.slice z.1.1.A z.1.1.s.line.length z.1.1.cp) 5 1 z.1.1.s.line.length (z.1.1.s.line.map byteV),
        .box b2 [.int .u8 (s.ph : Nat), .int .i64 s.left, .slice y.lA s.line.length y.lc, .int .i64 s.trail] 27, .row (.slice y.dA d.length y.dc) 5 1 d.length (d.map byteV),
        .box b4 [.int .u8 0, .int .i64 0, .slice none 0 0, .int .i64 0] 27, .box bp [.int .u8 0, .int .i64 0, .slice none 0 0, .int .i64 0] 27])
      [] (.q 0 (.q 1 (.q 2 (.q 3 (.q 4 (.ch 5 (.q 6 (.q 7 (.q 8 (.a 9 (.a 10 (.q 11 (.nil))))))) (.ch 9 (.a 5 (.q 6 (.q 7 (.q 8 (.a 10 (.q 11 (.nil))))))) (.stop)))))))) tys_ok mixed (by as_aux_lemma => kernel_rfl) ?_ ?_
    · (repeat' ((conv => whnf); first | (first | refine tk1 ?_ | refine tk2 ?_ | refine tk3 ?_ | refine tk12 (fun _ => ?_) | refine tk4 ?_ | refine tk5 ?_ | refine tk6 ?_ | refine tk7 ?_ | refine tk8 ?_ | refine tk9 ?_ | refine tk10 (fun _ _ => ?_) | refine tk11 (fun _ => ?_) | refine tk13 ?_ | refine tk14 ?_) | refine And.intro ?_ ?_ | exact trivial | exact ⟨(⟨_, hy⟩, _), rfl, Cv.into (by (try dsimp only); repeat' (first | with_reducible exact Cv.refl | with_reducible exact Cv.left | with_reducible exact Cv.right | with_reducible exact Cv.nil | (with_reducible apply Cv.cons; focus ((repeat (first | with_reducible exact Pick.here | with_reducible apply Pick.skip)); done)) | (apply Cv.cons; focus ((repeat (first | exact Pick.here | apply Pick.skip)); done)) | exact Cv.nil | exact Cv.refl | exact Cv.left | exact Cv.right | refine Cv.skip ?_))⟩ | (refine IdxA.tc (xs := b.map byteV) (by rw [List.length_map]; omega) (by omega) (by omega) ?_) | (refine Ld.ta (xs := b.map byteV) hxb ?_; unfold byteV) | (refine CallK.fnT (hone y.lA y.lc) (fun w1 hw1 => ⟨⟨RdA.ok (xs := s.line.map byteV) w1 hw1, trivial⟩, row_cap (A := y.lA) (e := 5) (sz := 1) (n' := s.line.length) (xs := s.line.map byteV) hw1⟩) ?_; intro z hy; dsimp only [RM.v, RM.hd, List.cons_append, List.nil_append, List.append_nil])))
    rintro ⟨⟨⟨zs, zB, zn, zc, zA, zp, ze⟩, hz1, hz2⟩, b10⟩ u
    dsimp only at hz1 hz2 ⊢
    by_cases he : ze = 0
    · as_aux_lemma =>
      obtain ⟨g1, g2, g3, g4⟩ := hz2 he
      subst g1
      rw [he] at hz1
      rw [if_pos hz1.symm] at hI
      rw [he, g2, g3, g4]
      (conv => whnf); repeat ((first | refine tk1 ?_ | refine tk2 ?_ | refine tk3 ?_ | refine tk12 (fun _ => ?_) | refine tk4 ?_ | refine tk5 ?_ | refine tk6 ?_ | refine tk7 ?_ | refine tk8 ?_ | refine tk9 ?_ | refine tk10 (fun _ _ => ?_) | refine tk11 (fun _ => ?_) | refine tk13 ?_ | refine tk14 ?_); (conv => whnf))
      exact ⟨⟨k + 1, r.1, d, ⟨zA, zp, y.dA, y.dc⟩⟩, ⟨by dsimp only; omega, hkeep hz1.symm, hI, by dsimp only; omega⟩, rfl, Cv.into (by (try dsimp only); repeat' (first | with_reducible exact Cv.refl | with_reducible exact Cv.left | with_reducible exact Cv.right | with_reducible exact Cv.nil | (with_reducible apply Cv.cons; focus ((repeat (first | with_reducible exact Pick.here | with_reducible apply Pick.skip)); done)) | (apply Cv.cons; focus ((repeat (first | exact Pick.here | apply Pick.skip)); done)) | exact Cv.nil | exact Cv.refl | exact Cv.left | exact Cv.right | refine Cv.skip ?_)), by dsimp only; omega⟩
    · as_aux_lemma =>
      rw [if_neg (fun e => he (hz1.trans e))] at hI
      rw [hI, ← hz1]
      (conv => whnf); repeat ((first | refine tk1 ?_ | refine tk2 ?_ | refine tk3 ?_ | refine tk12 (fun _ => ?_) | refine tk4 ?_ | refine tk5 ?_ | refine tk6 ?_ | refine tk7 ?_ | refine tk8 ?_ | refine tk9 ?_ | refine tk10 (fun _ _ => ?_) | refine tk11 (fun _ => ?_) | refine tk13 ?_ | refine tk14 ?_); (conv => whnf))
      exact fun w' hw' => hfail ze _ w w' hG rfl (hw'.sub (List.nil_sublist _))
end Go.Proofs.YtbgnogdlkmhnkaaGreatDoor.Vex
/- The statement ChunkFeeds, reckoned. -/
namespace Go.Proofs.YtbgnogdlkmhnkaaGreatDoor.Vex
open Go Go.RowKit
set_option maxRecDepth 100000
set_option linter.unusedSectionVars false
variable {gI : GI} [HasMax gI] [HasUtf gI] [HasErr gI] [HasTz gI]

theorem wrap_byte2 (z : Int) : ∃ y : UInt8, IntKind.u8.wrap z = (y.toNat : Int) := by
  have h : 0 ≤ IntKind.u8.wrap z ∧ IntKind.u8.wrap z < 256 := by rw [IntKind.wrap_u8]; omega
  refine ⟨UInt8.ofNat (IntKind.u8.wrap z).toNat, ?_⟩
  rw [UInt8.toNat_ofNat_of_lt' (by show _ < 256; omega), Int.toNat_of_nonneg h.1]
theorem CallQ.fnEV {c : Ctx} {H : Hp} {f : Nat} {args : List Value} {pre : World → Prop} {v : Value} {K : Value → Prop} (h : FnE c.P c.g f args pre fun _ u _ => u = v) (hp : ∀ w, St c H w → pre w) (k : K v) : CallQ c f args H K :=
  ⟨h.can, v, k, fun w hw => (h.ok w hw.glob (hp w hw)).mono fun _ w' ⟨v', he, hv, hR⟩ => ⟨by rw [he, hv], hR⟩⟩
set_option maxHeartbeats 8000000 in
theorem ChunkFeeds_v (s : CSt) (A : Option Addr) (cp : Nat) (BA : Option Addr) (Bc : Nat) (b : List UInt8) (hcp : s.line.length ≤ cp) (hbc : b.length ≤ Bc) :
    FnR Tryz.prog gI 4 [cV s A cp, .slice BA b.length Bc] [(A, s.line.map byteV), (BA, b.map byteV)] (.bool true) := by
  unfold cV
  refine FnE.of tys_ok Tryz.func4 rfl (by kernel_rfl) rfl rfl ?_; intro w hG hP
  have hA : ∀ H, RdA (mkC Tryz.prog gI w hG) H A (s.line.map byteV) := fun H => ⟨hP.1.now⟩
  have hRB : ∀ H, RdA (mkC Tryz.prog gI w hG) H BA (b.map byteV) := fun H => ⟨hP.2.1.now⟩
  clear hP
  (conv => whnf); repeat ((first | refine tk1 ?_ | refine tk2 ?_ | refine tk3 ?_ | refine tk12 (fun _ => ?_) | refine tk4 ?_ | refine tk5 ?_ | refine tk6 ?_ | refine tk7 ?_ | refine tk8 ?_ | refine tk9 ?_ | refine tk10 (fun _ _ => ?_) | refine tk11 (fun _ => ?_) | refine tk13 ?_ | refine tk14 ?_); (conv => whnf))
  rename_i b2
  refine Cmp.cases (fun c1 => ?_) (fun c1 => ?_)
  · (conv => whnf); repeat ((first | refine tk1 ?_ | refine tk2 ?_ | refine tk3 ?_ | refine tk12 (fun _ => ?_) | refine tk4 ?_ | refine tk5 ?_ | refine tk6 ?_ | refine tk7 ?_ | refine tk8 ?_ | refine tk9 ?_ | refine tk10 (fun _ _ => ?_) | refine tk11 (fun _ => ?_) | refine tk13 ?_ | refine tk14 ?_); (conv => whnf))
    exact fun w' _ => rfl
  (conv => whnf); repeat ((first | refine tk1 ?_ | refine tk2 ?_ | refine tk3 ?_ | refine tk12 (fun _ => ?_) | refine tk4 ?_ | refine tk5 ?_ | refine tk6 ?_ | refine tk7 ?_ | refine tk8 ?_ | refine tk9 ?_ | refine tk10 (fun _ _ => ?_) | refine tk11 (fun _ => ?_) | refine tk13 ?_ | refine tk14 ?_); (conv => whnf))
  refine Cmp.cases (fun c2 => ?_) (fun c2 => ?_)
  · (conv => whnf); repeat ((first | refine tk1 ?_ | refine tk2 ?_ | refine tk3 ?_ | refine tk12 (fun _ => ?_) | refine tk4 ?_ | refine tk5 ?_ | refine tk6 ?_ | refine tk7 ?_ | refine tk8 ?_ | refine tk9 ?_ | refine tk10 (fun _ _ => ?_) | refine tk11 (fun _ => ?_) | refine tk13 ?_ | refine tk14 ?_); (conv => whnf))
    exact fun w' _ => rfl
  have hf1 := fun XA Xc YA Yc => Feed_f (gI := gI) s XA Xc YA Yc b (by omega) (by omega)
  have hf2 := RFeed_f (gI := gI) s A cp BA Bc b (by omega) (by omega)
  have hw1 := fun XA Xc => Wrap_f (gI := gI) XA Xc b (by omega)
  have hw2 := RWrap_f (gI := gI) BA Bc b (by omega)
  have hfo := feed_ok s b
  have hwl : (wrapV b).length ≤ 3000 := by
    have e : wrapV b = wrapG b := if_pos (by omega)
    rw [e]
    have := wrapG_long b (by omega)
    omega
  have hrl : (feedG s b).c.line.length ≤ 1000 ∧ (feedG s b).data.length ≤ 2000 := by
    rcases hfo with ⟨_, a2, a3, _, a5, _⟩ | ⟨_, h⟩
    · have := may_257 a5
      omega
    · rw [h]; exact ⟨Nat.zero_le _, Nat.zero_le _⟩
  clear hfo
  obtain ⟨r, hr⟩ : ∃ r, feedG s b = r := ⟨_, rfl⟩
  obtain ⟨v, hv⟩ : ∃ v, wrapV b = v := ⟨_, rfl⟩
  obtain ⟨g, hg⟩ : ∃ g, wrapE b = g := ⟨_, rfl⟩
  rw [hr] at hf1 hf2 hrl
  rw [hv, hg] at hw1 hw2
  rw [hv] at hwl
  clear hr hv hg
  unfold cV at hf1 hf2
  (conv => whnf); repeat ((first | refine tk1 ?_ | refine tk2 ?_ | refine tk3 ?_ | refine tk12 (fun _ => ?_) | refine tk4 ?_ | refine tk5 ?_ | refine tk6 ?_ | refine tk7 ?_ | refine tk8 ?_ | refine tk9 ?_ | refine tk10 (fun _ _ => ?_) | refine tk11 (fun _ => ?_) | refine tk13 ?_ | refine tk14 ?_); (conv => whnf))
  rename_i b5
  refine AppS.t0 (m := s.line.length) (news := s.line.map byteV) (SrcK.rd (hA _).ok) (by simp) (bytes_one _) (by decide) (by omega) (by omega) (fun OA Oc => ?_)
  (conv => whnf); repeat ((first | refine tk1 ?_ | refine tk2 ?_ | refine tk3 ?_ | refine tk12 (fun _ => ?_) | refine tk4 ?_ | refine tk5 ?_ | refine tk6 ?_ | refine tk7 ?_ | refine tk8 ?_ | refine tk9 ?_ | refine tk10 (fun _ _ => ?_) | refine tk11 (fun _ => ?_) | refine tk13 ?_ | refine tk14 ?_); (conv => whnf))
  refine AppS.t0 (m := b.length) (news := b.map byteV) (SrcK.rd (hRB _).ok) (by simp) (bytes_one _) (by decide) (by omega) (by omega) (fun IA Ic => ?_)
  (conv => whnf); repeat ((first | refine tk1 ?_ | refine tk2 ?_ | refine tk3 ?_ | refine tk12 (fun _ => ?_) | refine tk4 ?_ | refine tk5 ?_ | refine tk6 ?_ | refine tk7 ?_ | refine tk8 ?_ | refine tk9 ?_ | refine tk10 (fun _ _ => ?_) | refine tk11 (fun _ => ?_) | refine tk13 ?_ | refine tk14 ?_); (conv => whnf))
  refine CallK.fnT (hf1 OA Oc IA Ic) (fun w1 hw1 => ⟨⟨RdA.ok (xs := s.line.map byteV) w1 hw1, RdA.ok (xs := b.map byteV) w1 hw1, trivial⟩, row_cap (A := OA) (e := 5) (sz := 1) (n' := s.line.length) (xs := s.line.map byteV) hw1, row_cap (A := IA) (e := 5) (sz := 1) (n' := b.length) (xs := b.map byteV) hw1⟩) ?_
  intro y _
  dsimp only [FeedV, FeedH, cV, List.cons_append, List.nil_append, List.append_nil]
  (conv => whnf); repeat ((first | refine tk1 ?_ | refine tk2 ?_ | refine tk3 ?_ | refine tk12 (fun _ => ?_) | refine tk4 ?_ | refine tk5 ?_ | refine tk6 ?_ | refine tk7 ?_ | refine tk8 ?_ | refine tk9 ?_ | refine tk10 (fun _ _ => ?_) | refine tk11 (fun _ => ?_) | refine tk13 ?_ | refine tk14 ?_); (conv => whnf))
  rename_i b7
  refine CallK.fnT hf2 (fun w1 hw1 => ⟨⟨(hA _).ok w1 hw1, (hRB _).ok w1 hw1, trivial⟩, hcp, hbc⟩) ?_
  intro z _
  dsimp only [FeedV, FeedH, cV, List.cons_append, List.nil_append, List.append_nil]
  (conv => whnf); repeat ((first | refine tk1 ?_ | refine tk2 ?_ | refine tk3 ?_ | refine tk12 (fun _ => ?_) | refine tk4 ?_ | refine tk5 ?_ | refine tk6 ?_ | refine tk7 ?_ | refine tk8 ?_ | refine tk9 ?_ | refine tk10 (fun _ _ => ?_) | refine tk11 (fun _ => ?_) | refine tk13 ?_ | refine tk14 ?_); (conv => whnf))
  rename_i b11
  refine CallK.fnT (hw1 IA Ic) (fun w1 hw1 => ⟨RdA.ok (xs := b.map byteV) w1 hw1, trivial⟩) ?_
  rintro ⟨vA, vc⟩ _
  dsimp only [List.cons_append, List.nil_append, List.append_nil]
  (conv => whnf); repeat ((first | refine tk1 ?_ | refine tk2 ?_ | refine tk3 ?_ | refine tk12 (fun _ => ?_) | refine tk4 ?_ | refine tk5 ?_ | refine tk6 ?_ | refine tk7 ?_ | refine tk8 ?_ | refine tk9 ?_ | refine tk10 (fun _ _ => ?_) | refine tk11 (fun _ => ?_) | refine tk13 ?_ | refine tk14 ?_); (conv => whnf))
  refine CallK.fnT hw2 (fun w1 hw1 => ⟨(hRB _).ok w1 hw1, trivial⟩) ?_
  rintro ⟨tA, tc⟩ _
  dsimp only [List.cons_append, List.nil_append, List.append_nil]
  (conv => whnf); repeat ((first | refine tk1 ?_ | refine tk2 ?_ | refine tk3 ?_ | refine tk12 (fun _ => ?_) | refine tk4 ?_ | refine tk5 ?_ | refine tk6 ?_ | refine tk7 ?_ | refine tk8 ?_ | refine tk9 ?_ | refine tk10 (fun _ _ => ?_) | refine tk11 (fun _ => ?_) | refine tk13 ?_ | refine tk14 ?_); (conv => whnf))
  refine DrawS.go [(0, true), (1, true), (2, true), (3, true), (4, true), (5, true), (6, true), (7, true), (8, true), (9, true), (10, true), (11, true), (12, true), (13, true), (14, true), (15, true), (16, true), (17, true), (18, true), (19, true), (20, true), (21, true), (22, true), (23, true), (24, true), (25, true), (26, true), (27, true), (28, true), (29, true), (30, true), (31, true), (32, true), (33, false), (34, true), (35, false), (36, true), (37, true), (38, true), (39, true)] tys_ok mixed (by as_aux_lemma => kernel_rfl) ?_
  (conv => whnf); repeat ((first | refine tk1 ?_ | refine tk2 ?_ | refine tk3 ?_ | refine tk12 (fun _ => ?_) | refine tk4 ?_ | refine tk5 ?_ | refine tk6 ?_ | refine tk7 ?_ | refine tk8 ?_ | refine tk9 ?_ | refine tk10 (fun _ _ => ?_) | refine tk11 (fun _ => ?_) | refine tk13 ?_ | refine tk14 ?_); (conv => whnf))
  refine CallQ.fnR (CSame_r r.c r.c y.lA z.lA y.lc z.lc (by omega) (by omega)) ⟨RdA.ok, RdA.ok, trivial⟩ ?_
  rw [decide_eq_true (rfl : r.c = r.c)]
  (conv => whnf); repeat ((first | refine tk1 ?_ | refine tk2 ?_ | refine tk3 ?_ | refine tk12 (fun _ => ?_) | refine tk4 ?_ | refine tk5 ?_ | refine tk6 ?_ | refine tk7 ?_ | refine tk8 ?_ | refine tk9 ?_ | refine tk10 (fun _ _ => ?_) | refine tk11 (fun _ => ?_) | refine tk13 ?_ | refine tk14 ?_); (conv => whnf))
  refine B2S.tc (xs := r.data.map byteV) (l := r.data) rfl rfl ?_
  (conv => whnf); repeat ((first | refine tk1 ?_ | refine tk2 ?_ | refine tk3 ?_ | refine tk12 (fun _ => ?_) | refine tk4 ?_ | refine tk5 ?_ | refine tk6 ?_ | refine tk7 ?_ | refine tk8 ?_ | refine tk9 ?_ | refine tk10 (fun _ _ => ?_) | refine tk11 (fun _ => ?_) | refine tk13 ?_ | refine tk14 ?_); (conv => whnf))
  refine B2S.tc (xs := r.data.map byteV) (l := r.data) rfl rfl ?_
  (conv => whnf); repeat ((first | refine tk1 ?_ | refine tk2 ?_ | refine tk3 ?_ | refine tk12 (fun _ => ?_) | refine tk4 ?_ | refine tk5 ?_ | refine tk6 ?_ | refine tk7 ?_ | refine tk8 ?_ | refine tk9 ?_ | refine tk10 (fun _ _ => ?_) | refine tk11 (fun _ => ?_) | refine tk13 ?_ | refine tk14 ?_); (conv => whnf))
  refine Cmp.t rfl ?_
  (conv => whnf); repeat ((first | refine tk1 ?_ | refine tk2 ?_ | refine tk3 ?_ | refine tk12 (fun _ => ?_) | refine tk4 ?_ | refine tk5 ?_ | refine tk6 ?_ | refine tk7 ?_ | refine tk8 ?_ | refine tk9 ?_ | refine tk10 (fun _ _ => ?_) | refine tk11 (fun _ => ?_) | refine tk13 ?_ | refine tk14 ?_); (conv => whnf))
  refine B2S.tc (xs := v.map byteV) (l := v) rfl rfl ?_
  (conv => whnf); repeat ((first | refine tk1 ?_ | refine tk2 ?_ | refine tk3 ?_ | refine tk12 (fun _ => ?_) | refine tk4 ?_ | refine tk5 ?_ | refine tk6 ?_ | refine tk7 ?_ | refine tk8 ?_ | refine tk9 ?_ | refine tk10 (fun _ _ => ?_) | refine tk11 (fun _ => ?_) | refine tk13 ?_ | refine tk14 ?_); (conv => whnf))
  refine B2S.tc (xs := v.map byteV) (l := v) rfl rfl ?_
  (conv => whnf); repeat ((first | refine tk1 ?_ | refine tk2 ?_ | refine tk3 ?_ | refine tk12 (fun _ => ?_) | refine tk4 ?_ | refine tk5 ?_ | refine tk6 ?_ | refine tk7 ?_ | refine tk8 ?_ | refine tk9 ?_ | refine tk10 (fun _ _ => ?_) | refine tk11 (fun _ => ?_) | refine tk13 ?_ | refine tk14 ?_); (conv => whnf))
  refine Cmp.t rfl ?_
  (conv => whnf); repeat ((first | refine tk1 ?_ | refine tk2 ?_ | refine tk3 ?_ | refine tk12 (fun _ => ?_) | refine tk4 ?_ | refine tk5 ?_ | refine tk6 ?_ | refine tk7 ?_ | refine tk8 ?_ | refine tk9 ?_ | refine tk10 (fun _ _ => ?_) | refine tk11 (fun _ => ?_) | refine tk13 ?_ | refine tk14 ?_); (conv => whnf))
  refine CallK.fnT Last_f (fun _ _ => trivial) ?_
  rintro ⟨lb, lo⟩ hlo
  have hRl : ∀ H, RdA (mkC Tryz.prog gI w hG) (.obj lb lo :: H) (some ⟨lb, 0, none⟩) _ := hlo.rd
  dsimp only [List.cons_append, List.nil_append, List.append_nil]
  (conv => whnf); repeat ((first | refine tk1 ?_ | refine tk2 ?_ | refine tk3 ?_ | refine tk12 (fun _ => ?_) | refine tk4 ?_ | refine tk5 ?_ | refine tk6 ?_ | refine tk7 ?_ | refine tk8 ?_ | refine tk9 ?_ | refine tk10 (fun _ _ => ?_) | refine tk11 (fun _ => ?_) | refine tk13 ?_ | refine tk14 ?_); (conv => whnf))
  refine B2S.tc (xs := lastC.map byteV) (l := lastC) rfl rfl ?_
  (conv => whnf); repeat ((first | refine tk1 ?_ | refine tk2 ?_ | refine tk3 ?_ | refine tk12 (fun _ => ?_) | refine tk4 ?_ | refine tk5 ?_ | refine tk6 ?_ | refine tk7 ?_ | refine tk8 ?_ | refine tk9 ?_ | refine tk10 (fun _ _ => ?_) | refine tk11 (fun _ => ?_) | refine tk13 ?_ | refine tk14 ?_); (conv => whnf))
  refine CallK.fnS (RLast_f (gI := gI)) trivial (fun MA mc => ?_)
  (conv => whnf); repeat ((first | refine tk1 ?_ | refine tk2 ?_ | refine tk3 ?_ | refine tk12 (fun _ => ?_) | refine tk4 ?_ | refine tk5 ?_ | refine tk6 ?_ | refine tk7 ?_ | refine tk8 ?_ | refine tk9 ?_ | refine tk10 (fun _ _ => ?_) | refine tk11 (fun _ => ?_) | refine tk13 ?_ | refine tk14 ?_); (conv => whnf))
  refine B2S.tc (xs := lastC.map byteV) (l := lastC) rfl rfl ?_
  (conv => whnf); repeat ((first | refine tk1 ?_ | refine tk2 ?_ | refine tk3 ?_ | refine tk12 (fun _ => ?_) | refine tk4 ?_ | refine tk5 ?_ | refine tk6 ?_ | refine tk7 ?_ | refine tk8 ?_ | refine tk9 ?_ | refine tk10 (fun _ _ => ?_) | refine tk11 (fun _ => ?_) | refine tk13 ?_ | refine tk14 ?_); (conv => whnf))
  refine LoopS.lpT tys_ok (fun (x : Nat × List UInt8) u => [u 0, .slice BA b.length Bc, .pointer (some ⟨b2, 0, none⟩), u 3, u 4, .pointer (some ⟨b5, 0, none⟩), .slice IA b.length Ic, .pointer (some ⟨b7, 0, none⟩), .slice y.dA r.data.length y.dc, u 9, u 10, u 11, u 12, u 13, u 14, .slice vA v.length vc, u 16, u 17, u 18, .bool true, .int .i64 (x.1 : Nat), u 21, u 22, u 23, u 24, u 25, u 26, u 27, u 28, u 29, u 30, u 31, u 32, u 33, u 34, u 35, u 36, u 37, u 38, u 39, u 40, u 41, u 42, u 43, u 44, u 45, u 46, u 47, u 48, u 49, u 50, u 51, u 52, u 53, u 54, u 55, u 56, u 57, u 58, u 59, u 60, u 61, u 62, u 63, u 64, u 65, u 66, u 67, u 68, u 69, u 70, u 71, u 72, u 73, u 74, u 75, u 76, u 77, u 78, u 79, u 80, u 81, u 82, u 83, u 84, u 85, u 86, u 87, u 88, u 89, u 90, u 91, u 92, u 93, u 94, u 95, u 96, u 97, u 98, u 99, u 100, u 101, u 102, u 103, u 104, u 105, u 106, u 107, u 108, u 109, u 110, u 111, u 112, u 113, u 114, u 115, u 116, u 117, u 118, u 119, u 120, u 121, u 122, u 123, u 124, u 125, u 126, u 127, u 128, u 129, u 130, u 131, u 132, u 133, u 134, u 135, u 136, u 137, u 138, u 139, u 140, u 141, u 142, u 143, u 144, u 145, u 146, u 147, u 148, u 149, u 150, u 151, u 152, u 153, u 154, u 155, u 156, u 157, u 158, u 159, u 160, u 161, u 162, u 163, u 164, u 165, u 166, u 167, u 168])
    (fun x => [.row (.slice y.lA r.c.line.length y.lc) 5 1 r.c.line.length (x.2.map byteV), .box b7 [.int .u8 (r.c.ph : Nat), .int .i64 r.c.left, .slice y.lA r.c.line.length y.lc, .int .i64 r.c.trail] 27, .row (.slice y.dA r.data.length y.dc) 5 1 r.data.length (r.data.map byteV), .row (.slice vA v.length vc) 5 1 v.length (v.map byteV), .row (.slice IA b.length Ic) 5 1 b.length (b.map byteV), .row (.slice OA s.line.length Oc) 5 1 s.line.length (s.line.map byteV), .box b5 [.int .u8 (s.ph : Nat), .int .i64 s.left, .slice OA s.line.length Oc, .int .i64 s.trail] 27, .box b2 [.int .u8 (s.ph : Nat), .int .i64 s.left, .slice A s.line.length cp, .int .i64 s.trail] 27]) (fun x => x.1 ≤ r.c.line.length ∧ x.2.length = r.c.line.length) (fun x => r.c.line.length - x.1) (0, r.c.line) ⟨Nat.zero_le _, rfl⟩ rfl (Cv.into (by (try dsimp only); repeat' (first | with_reducible exact Cv.refl | with_reducible exact Cv.left | with_reducible exact Cv.right | with_reducible exact Cv.nil | (with_reducible apply Cv.cons; focus ((repeat (first | with_reducible exact Pick.here | with_reducible apply Pick.skip)); done)) | (apply Cv.cons; focus ((repeat (first | exact Pick.here | apply Pick.skip)); done)) | exact Cv.nil | exact Cv.refl | exact Cv.left | exact Cv.right | refine Cv.skip ?_))) ?_
  rintro ⟨k, l1⟩ u ⟨hk, hl1⟩
  dsimp only at hk hl1 ⊢
  (conv => whnf); repeat ((first | refine tk1 ?_ | refine tk2 ?_ | refine tk3 ?_ | refine tk12 (fun _ => ?_) | refine tk4 ?_ | refine tk5 ?_ | refine tk6 ?_ | refine tk7 ?_ | refine tk8 ?_ | refine tk9 ?_ | refine tk10 (fun _ _ => ?_) | refine tk11 (fun _ => ?_) | refine tk13 ?_ | refine tk14 ?_); (conv => whnf))
  refine Cmp.cases (fun hlt => ?_) (fun hlt => ?_)
  · as_aux_lemma =>
    have hk2 : k < l1.length := by omega
    obtain ⟨x9, hx9⟩ : ∃ x9, l1[k] = x9 := ⟨_, rfl⟩
    have hxb : (l1.map byteV)[((k : Nat) : Int).toNat * 1]? = some (.int .u8 x9.toNat) := by rw [Int.toNat_natCast, Nat.mul_one, List.getElem?_map, List.getElem?_eq_getElem hk2, hx9]; rfl
    obtain ⟨y9, hy9⟩ := wrap_byte2 ((x9.toNat : Int) + 1)
    (conv => whnf); repeat ((first | refine tk1 ?_ | refine tk2 ?_ | refine tk3 ?_ | refine tk12 (fun _ => ?_) | refine tk4 ?_ | refine tk5 ?_ | refine tk6 ?_ | refine tk7 ?_ | refine tk8 ?_ | refine tk9 ?_ | refine tk10 (fun _ _ => ?_) | refine tk11 (fun _ => ?_) | refine tk13 ?_ | refine tk14 ?_); (conv => whnf))
    refine DrawS.go [(0, true), (1, true), (2, true), (3, true), (4, true), (5, true), (6, true), (7, true), (8, true), (9, true), (10, false)] tys_ok mixed (by kernel_rfl) ?_
    (conv => whnf); repeat ((first | refine tk1 ?_ | refine tk2 ?_ | refine tk3 ?_ | refine tk12 (fun _ => ?_) | refine tk4 ?_ | refine tk5 ?_ | refine tk6 ?_ | refine tk7 ?_ | refine tk8 ?_ | refine tk9 ?_ | refine tk10 (fun _ _ => ?_) | refine tk11 (fun _ => ?_) | refine tk13 ?_ | refine tk14 ?_); (conv => whnf))
    refine IdxA.tc (xs := l1.map byteV) (by rw [List.length_map]; omega) (by omega) (by omega) ?_
    (conv => whnf); repeat ((first | refine tk1 ?_ | refine tk2 ?_ | refine tk3 ?_ | refine tk12 (fun _ => ?_) | refine tk4 ?_ | refine tk5 ?_ | refine tk6 ?_ | refine tk7 ?_ | refine tk8 ?_ | refine tk9 ?_ | refine tk10 (fun _ _ => ?_) | refine tk11 (fun _ => ?_) | refine tk13 ?_ | refine tk14 ?_); (conv => whnf))
    refine Ld.ta (xs := l1.map byteV) hxb ?_
    (conv => whnf); repeat ((first | refine tk1 ?_ | refine tk2 ?_ | refine tk3 ?_ | refine tk12 (fun _ => ?_) | refine tk4 ?_ | refine tk5 ?_ | refine tk6 ?_ | refine tk7 ?_ | refine tk8 ?_ | refine tk9 ?_ | refine tk10 (fun _ _ => ?_) | refine tk11 (fun _ => ?_) | refine tk13 ?_ | refine tk14 ?_); (conv => whnf))
    refine Ar.any ?_
    rw [hy9]
    (conv => whnf); repeat ((first | refine tk1 ?_ | refine tk2 ?_ | refine tk3 ?_ | refine tk12 (fun _ => ?_) | refine tk4 ?_ | refine tk5 ?_ | refine tk6 ?_ | refine tk7 ?_ | refine tk8 ?_ | refine tk9 ?_ | refine tk10 (fun _ _ => ?_) | refine tk11 (fun _ => ?_) | refine tk13 ?_ | refine tk14 ?_); (conv => whnf))
    refine IdxA.tc (xs := l1.map byteV) (by rw [List.length_map]; omega) (by omega) (by omega) ?_
    (conv => whnf); repeat ((first | refine tk1 ?_ | refine tk2 ?_ | refine tk3 ?_ | refine tk12 (fun _ => ?_) | refine tk4 ?_ | refine tk5 ?_ | refine tk6 ?_ | refine tk7 ?_ | refine tk8 ?_ | refine tk9 ?_ | refine tk10 (fun _ _ => ?_) | refine tk11 (fun _ => ?_) | refine tk13 ?_ | refine tk14 ?_); (conv => whnf))
    refine Sto.tr (xs' := (l1.set k y9).map byteV) (by rw [show ((k : Nat) : Int).toNat * 1 = k by omega, List.map_set]; rfl) (by rw [List.length_map]; omega) rfl ?_
    (conv => whnf); repeat ((first | refine tk1 ?_ | refine tk2 ?_ | refine tk3 ?_ | refine tk12 (fun _ => ?_) | refine tk4 ?_ | refine tk5 ?_ | refine tk6 ?_ | refine tk7 ?_ | refine tk8 ?_ | refine tk9 ?_ | refine tk10 (fun _ _ => ?_) | refine tk11 (fun _ => ?_) | refine tk13 ?_ | refine tk14 ?_); (conv => whnf))
    exact ⟨(k + 1, l1.set k y9), ⟨by dsimp only; omega, by dsimp only; rw [List.length_set]; exact hl1⟩, rfl, Cv.into (by (try dsimp only); repeat' (first | with_reducible exact Cv.refl | with_reducible exact Cv.left | with_reducible exact Cv.right | with_reducible exact Cv.nil | (with_reducible apply Cv.cons; focus ((repeat (first | with_reducible exact Pick.here | with_reducible apply Pick.skip)); done)) | (apply Cv.cons; focus ((repeat (first | exact Pick.here | apply Pick.skip)); done)) | exact Cv.nil | exact Cv.refl | exact Cv.left | exact Cv.right | refine Cv.skip ?_)), by dsimp only; omega⟩
  clear hlt hk
  (conv => whnf); repeat ((first | refine tk1 ?_ | refine tk2 ?_ | refine tk3 ?_ | refine tk12 (fun _ => ?_) | refine tk4 ?_ | refine tk5 ?_ | refine tk6 ?_ | refine tk7 ?_ | refine tk8 ?_ | refine tk9 ?_ | refine tk10 (fun _ _ => ?_) | refine tk11 (fun _ => ?_) | refine tk13 ?_ | refine tk14 ?_); (conv => whnf))
  refine LoopS.lpT tys_ok (fun (x : Nat × List UInt8) u => [u 0, .slice BA b.length Bc, .pointer (some ⟨b2, 0, none⟩), u 3, u 4, .pointer (some ⟨b5, 0, none⟩), .slice IA b.length Ic, u 7, .slice y.dA r.data.length y.dc, u 9, u 10, u 11, u 12, u 13, u 14, .slice vA v.length vc, u 16, u 17, u 18, .bool true, u 20, .int .i64 (x.1 : Nat), u 22, u 23, u 24, u 25, u 26, u 27, u 28, u 29, u 30, u 31, u 32, u 33, u 34, u 35, u 36, u 37, u 38, u 39, u 40, u 41, u 42, u 43, u 44, u 45, u 46, u 47, u 48, u 49, u 50, u 51, u 52, u 53, u 54, u 55, u 56, u 57, u 58, u 59, u 60, u 61, u 62, u 63, u 64, u 65, u 66, u 67, u 68, u 69, u 70, u 71, u 72, u 73, u 74, u 75, u 76, u 77, u 78, u 79, u 80, u 81, u 82, u 83, u 84, u 85, u 86, u 87, u 88, u 89, u 90, u 91, u 92, u 93, u 94, u 95, u 96, u 97, u 98, u 99, u 100, u 101, u 102, u 103, u 104, u 105, u 106, u 107, u 108, u 109, u 110, u 111, u 112, u 113, u 114, u 115, u 116, u 117, u 118, u 119, u 120, u 121, u 122, u 123, u 124, u 125, u 126, u 127, u 128, u 129, u 130, u 131, u 132, u 133, u 134, u 135, u 136, u 137, u 138, u 139, u 140, u 141, u 142, u 143, u 144, u 145, u 146, u 147, u 148, u 149, u 150, u 151, u 152, u 153, u 154, u 155, u 156, u 157, u 158, u 159, u 160, u 161, u 162, u 163, u 164, u 165, u 166, u 167, u 168])
    (fun x => [.row (.slice y.dA r.data.length y.dc) 5 1 r.data.length (x.2.map byteV), .row (.slice vA v.length vc) 5 1 v.length (v.map byteV), .row (.slice IA b.length Ic) 5 1 b.length (b.map byteV), .row (.slice OA s.line.length Oc) 5 1 s.line.length (s.line.map byteV), .box b5 [.int .u8 (s.ph : Nat), .int .i64 s.left, .slice OA s.line.length Oc, .int .i64 s.trail] 27, .box b2 [.int .u8 (s.ph : Nat), .int .i64 s.left, .slice A s.line.length cp, .int .i64 s.trail] 27]) (fun x => x.1 ≤ r.data.length ∧ x.2.length = r.data.length) (fun x => r.data.length - x.1) (0, r.data) ⟨Nat.zero_le _, rfl⟩ rfl (Cv.into (by (try dsimp only); repeat' (first | with_reducible exact Cv.refl | with_reducible exact Cv.left | with_reducible exact Cv.right | with_reducible exact Cv.nil | (with_reducible apply Cv.cons; focus ((repeat (first | with_reducible exact Pick.here | with_reducible apply Pick.skip)); done)) | (apply Cv.cons; focus ((repeat (first | exact Pick.here | apply Pick.skip)); done)) | exact Cv.nil | exact Cv.refl | exact Cv.left | exact Cv.right | refine Cv.skip ?_))) ?_
  rintro ⟨k, l1⟩ u ⟨hk, hl1⟩
  dsimp only at hk hl1 ⊢
  (conv => whnf); repeat ((first | refine tk1 ?_ | refine tk2 ?_ | refine tk3 ?_ | refine tk12 (fun _ => ?_) | refine tk4 ?_ | refine tk5 ?_ | refine tk6 ?_ | refine tk7 ?_ | refine tk8 ?_ | refine tk9 ?_ | refine tk10 (fun _ _ => ?_) | refine tk11 (fun _ => ?_) | refine tk13 ?_ | refine tk14 ?_); (conv => whnf))
  refine Cmp.cases (fun hlt => ?_) (fun hlt => ?_)
  · as_aux_lemma =>
    have hk2 : k < l1.length := by omega
    obtain ⟨x9, hx9⟩ : ∃ x9, l1[k] = x9 := ⟨_, rfl⟩
    have hxb : (l1.map byteV)[((k : Nat) : Int).toNat * 1]? = some (.int .u8 x9.toNat) := by rw [Int.toNat_natCast, Nat.mul_one, List.getElem?_map, List.getElem?_eq_getElem hk2, hx9]; rfl
    obtain ⟨y9, hy9⟩ := wrap_byte2 ((x9.toNat : Int) + 1)
    (conv => whnf); repeat ((first | refine tk1 ?_ | refine tk2 ?_ | refine tk3 ?_ | refine tk12 (fun _ => ?_) | refine tk4 ?_ | refine tk5 ?_ | refine tk6 ?_ | refine tk7 ?_ | refine tk8 ?_ | refine tk9 ?_ | refine tk10 (fun _ _ => ?_) | refine tk11 (fun _ => ?_) | refine tk13 ?_ | refine tk14 ?_); (conv => whnf))
    refine IdxA.tc (xs := l1.map byteV) (by rw [List.length_map]; omega) (by omega) (by omega) ?_
    (conv => whnf); repeat ((first | refine tk1 ?_ | refine tk2 ?_ | refine tk3 ?_ | refine tk12 (fun _ => ?_) | refine tk4 ?_ | refine tk5 ?_ | refine tk6 ?_ | refine tk7 ?_ | refine tk8 ?_ | refine tk9 ?_ | refine tk10 (fun _ _ => ?_) | refine tk11 (fun _ => ?_) | refine tk13 ?_ | refine tk14 ?_); (conv => whnf))
    refine Ld.ta (xs := l1.map byteV) hxb ?_
    (conv => whnf); repeat ((first | refine tk1 ?_ | refine tk2 ?_ | refine tk3 ?_ | refine tk12 (fun _ => ?_) | refine tk4 ?_ | refine tk5 ?_ | refine tk6 ?_ | refine tk7 ?_ | refine tk8 ?_ | refine tk9 ?_ | refine tk10 (fun _ _ => ?_) | refine tk11 (fun _ => ?_) | refine tk13 ?_ | refine tk14 ?_); (conv => whnf))
    refine Ar.any ?_
    rw [hy9]
    (conv => whnf); repeat ((first | refine tk1 ?_ | refine tk2 ?_ | refine tk3 ?_ | refine tk12 (fun _ => ?_) | refine tk4 ?_ | refine tk5 ?_ | refine tk6 ?_ | refine tk7 ?_ | refine tk8 ?_ | refine tk9 ?_ | refine tk10 (fun _ _ => ?_) | refine tk11 (fun _ => ?_) | refine tk13 ?_ | refine tk14 ?_); (conv => whnf))
    refine IdxA.tc (xs := l1.map byteV) (by rw [List.length_map]; omega) (by omega) (by omega) ?_
    (conv => whnf); repeat ((first | refine tk1 ?_ | refine tk2 ?_ | refine tk3 ?_ | refine tk12 (fun _ => ?_) | refine tk4 ?_ | refine tk5 ?_ | refine tk6 ?_ | refine tk7 ?_ | refine tk8 ?_ | refine tk9 ?_ | refine tk10 (fun _ _ => ?_) | refine tk11 (fun _ => ?_) | refine tk13 ?_ | refine tk14 ?_); (conv => whnf))
    refine Sto.tr (xs' := (l1.set k y9).map byteV) (by rw [show ((k : Nat) : Int).toNat * 1 = k by omega, List.map_set]; rfl) (by rw [List.length_map]; omega) rfl ?_
    (conv => whnf); repeat ((first | refine tk1 ?_ | refine tk2 ?_ | refine tk3 ?_ | refine tk12 (fun _ => ?_) | refine tk4 ?_ | refine tk5 ?_ | refine tk6 ?_ | refine tk7 ?_ | refine tk8 ?_ | refine tk9 ?_ | refine tk10 (fun _ _ => ?_) | refine tk11 (fun _ => ?_) | refine tk13 ?_ | refine tk14 ?_); (conv => whnf))
    exact ⟨(k + 1, l1.set k y9), ⟨by dsimp only; omega, by dsimp only; rw [List.length_set]; exact hl1⟩, rfl, Cv.into (by (try dsimp only); repeat' (first | with_reducible exact Cv.refl | with_reducible exact Cv.left | with_reducible exact Cv.right | with_reducible exact Cv.nil | (with_reducible apply Cv.cons; focus ((repeat (first | with_reducible exact Pick.here | with_reducible apply Pick.skip)); done)) | (apply Cv.cons; focus ((repeat (first | exact Pick.here | apply Pick.skip)); done)) | exact Cv.nil | exact Cv.refl | exact Cv.left | exact Cv.right | refine Cv.skip ?_)), by dsimp only; omega⟩
  clear hlt hk
  (conv => whnf); repeat ((first | refine tk1 ?_ | refine tk2 ?_ | refine tk3 ?_ | refine tk12 (fun _ => ?_) | refine tk4 ?_ | refine tk5 ?_ | refine tk6 ?_ | refine tk7 ?_ | refine tk8 ?_ | refine tk9 ?_ | refine tk10 (fun _ _ => ?_) | refine tk11 (fun _ => ?_) | refine tk13 ?_ | refine tk14 ?_); (conv => whnf))
  refine LoopS.lpT tys_ok (fun (x : Nat × List UInt8) u => [u 0, .slice BA b.length Bc, .pointer (some ⟨b2, 0, none⟩), u 3, u 4, .pointer (some ⟨b5, 0, none⟩), .slice IA b.length Ic, u 7, u 8, u 9, u 10, u 11, u 12, u 13, u 14, .slice vA v.length vc, u 16, u 17, u 18, .bool true, u 20, u 21, .int .i64 (x.1 : Nat), u 23, u 24, u 25, u 26, u 27, u 28, u 29, u 30, u 31, u 32, u 33, u 34, u 35, u 36, u 37, u 38, u 39, u 40, u 41, u 42, u 43, u 44, u 45, u 46, u 47, u 48, u 49, u 50, u 51, u 52, u 53, u 54, u 55, u 56, u 57, u 58, u 59, u 60, u 61, u 62, u 63, u 64, u 65, u 66, u 67, u 68, u 69, u 70, u 71, u 72, u 73, u 74, u 75, u 76, u 77, u 78, u 79, u 80, u 81, u 82, u 83, u 84, u 85, u 86, u 87, u 88, u 89, u 90, u 91, u 92, u 93, u 94, u 95, u 96, u 97, u 98, u 99, u 100, u 101, u 102, u 103, u 104, u 105, u 106, u 107, u 108, u 109, u 110, u 111, u 112, u 113, u 114, u 115, u 116, u 117, u 118, u 119, u 120, u 121, u 122, u 123, u 124, u 125, u 126, u 127, u 128, u 129, u 130, u 131, u 132, u 133, u 134, u 135, u 136, u 137, u 138, u 139, u 140, u 141, u 142, u 143, u 144, u 145, u 146, u 147, u 148, u 149, u 150, u 151, u 152, u 153, u 154, u 155, u 156, u 157, u 158, u 159, u 160, u 161, u 162, u 163, u 164, u 165, u 166, u 167, u 168])
    (fun x => [.row (.slice vA v.length vc) 5 1 v.length (x.2.map byteV), .row (.slice IA b.length Ic) 5 1 b.length (b.map byteV), .row (.slice OA s.line.length Oc) 5 1 s.line.length (s.line.map byteV), .box b5 [.int .u8 (s.ph : Nat), .int .i64 s.left, .slice OA s.line.length Oc, .int .i64 s.trail] 27, .box b2 [.int .u8 (s.ph : Nat), .int .i64 s.left, .slice A s.line.length cp, .int .i64 s.trail] 27]) (fun x => x.1 ≤ v.length ∧ x.2.length = v.length) (fun x => v.length - x.1) (0, v) ⟨Nat.zero_le _, rfl⟩ rfl (Cv.into (by (try dsimp only); repeat' (first | with_reducible exact Cv.refl | with_reducible exact Cv.left | with_reducible exact Cv.right | with_reducible exact Cv.nil | (with_reducible apply Cv.cons; focus ((repeat (first | with_reducible exact Pick.here | with_reducible apply Pick.skip)); done)) | (apply Cv.cons; focus ((repeat (first | exact Pick.here | apply Pick.skip)); done)) | exact Cv.nil | exact Cv.refl | exact Cv.left | exact Cv.right | refine Cv.skip ?_))) ?_
  rintro ⟨k, l1⟩ u ⟨hk, hl1⟩
  dsimp only at hk hl1 ⊢
  (conv => whnf); repeat ((first | refine tk1 ?_ | refine tk2 ?_ | refine tk3 ?_ | refine tk12 (fun _ => ?_) | refine tk4 ?_ | refine tk5 ?_ | refine tk6 ?_ | refine tk7 ?_ | refine tk8 ?_ | refine tk9 ?_ | refine tk10 (fun _ _ => ?_) | refine tk11 (fun _ => ?_) | refine tk13 ?_ | refine tk14 ?_); (conv => whnf))
  refine Cmp.cases (fun hlt => ?_) (fun hlt => ?_)
  · as_aux_lemma =>
    have hk2 : k < l1.length := by omega
    obtain ⟨x9, hx9⟩ : ∃ x9, l1[k] = x9 := ⟨_, rfl⟩
    have hxb : (l1.map byteV)[((k : Nat) : Int).toNat * 1]? = some (.int .u8 x9.toNat) := by rw [Int.toNat_natCast, Nat.mul_one, List.getElem?_map, List.getElem?_eq_getElem hk2, hx9]; rfl
    obtain ⟨y9, hy9⟩ := wrap_byte2 ((x9.toNat : Int) + 1)
    (conv => whnf); repeat ((first | refine tk1 ?_ | refine tk2 ?_ | refine tk3 ?_ | refine tk12 (fun _ => ?_) | refine tk4 ?_ | refine tk5 ?_ | refine tk6 ?_ | refine tk7 ?_ | refine tk8 ?_ | refine tk9 ?_ | refine tk10 (fun _ _ => ?_) | refine tk11 (fun _ => ?_) | refine tk13 ?_ | refine tk14 ?_); (conv => whnf))
    refine IdxA.tc (xs := l1.map byteV) (by rw [List.length_map]; omega) (by omega) (by omega) ?_
    (conv => whnf); repeat ((first | refine tk1 ?_ | refine tk2 ?_ | refine tk3 ?_ | refine tk12 (fun _ => ?_) | refine tk4 ?_ | refine tk5 ?_ | refine tk6 ?_ | refine tk7 ?_ | refine tk8 ?_ | refine tk9 ?_ | refine tk10 (fun _ _ => ?_) | refine tk11 (fun _ => ?_) | refine tk13 ?_ | refine tk14 ?_); (conv => whnf))
    refine Ld.ta (xs := l1.map byteV) hxb ?_
    (conv => whnf); repeat ((first | refine tk1 ?_ | refine tk2 ?_ | refine tk3 ?_ | refine tk12 (fun _ => ?_) | refine tk4 ?_ | refine tk5 ?_ | refine tk6 ?_ | refine tk7 ?_ | refine tk8 ?_ | refine tk9 ?_ | refine tk10 (fun _ _ => ?_) | refine tk11 (fun _ => ?_) | refine tk13 ?_ | refine tk14 ?_); (conv => whnf))
    refine Ar.any ?_
    rw [hy9]
    (conv => whnf); repeat ((first | refine tk1 ?_ | refine tk2 ?_ | refine tk3 ?_ | refine tk12 (fun _ => ?_) | refine tk4 ?_ | refine tk5 ?_ | refine tk6 ?_ | refine tk7 ?_ | refine tk8 ?_ | refine tk9 ?_ | refine tk10 (fun _ _ => ?_) | refine tk11 (fun _ => ?_) | refine tk13 ?_ | refine tk14 ?_); (conv => whnf))
    refine IdxA.tc (xs := l1.map byteV) (by rw [List.length_map]; omega) (by omega) (by omega) ?_
    (conv => whnf); repeat ((first | refine tk1 ?_ | refine tk2 ?_ | refine tk3 ?_ | refine tk12 (fun _ => ?_) | refine tk4 ?_ | refine tk5 ?_ | refine tk6 ?_ | refine tk7 ?_ | refine tk8 ?_ | refine tk9 ?_ | refine tk10 (fun _ _ => ?_) | refine tk11 (fun _ => ?_) | refine tk13 ?_ | refine tk14 ?_); (conv => whnf))
    refine Sto.tr (xs' := (l1.set k y9).map byteV) (by rw [show ((k : Nat) : Int).toNat * 1 = k by omega, List.map_set]; rfl) (by rw [List.length_map]; omega) rfl ?_
    (conv => whnf); repeat ((first | refine tk1 ?_ | refine tk2 ?_ | refine tk3 ?_ | refine tk12 (fun _ => ?_) | refine tk4 ?_ | refine tk5 ?_ | refine tk6 ?_ | refine tk7 ?_ | refine tk8 ?_ | refine tk9 ?_ | refine tk10 (fun _ _ => ?_) | refine tk11 (fun _ => ?_) | refine tk13 ?_ | refine tk14 ?_); (conv => whnf))
    exact ⟨(k + 1, l1.set k y9), ⟨by dsimp only; omega, by dsimp only; rw [List.length_set]; exact hl1⟩, rfl, Cv.into (by (try dsimp only); repeat' (first | with_reducible exact Cv.refl | with_reducible exact Cv.left | with_reducible exact Cv.right | with_reducible exact Cv.nil | (with_reducible apply Cv.cons; focus ((repeat (first | with_reducible exact Pick.here | with_reducible apply Pick.skip)); done)) | (apply Cv.cons; focus ((repeat (first | exact Pick.here | apply Pick.skip)); done)) | exact Cv.nil | exact Cv.refl | exact Cv.left | exact Cv.right | refine Cv.skip ?_)), by dsimp only; omega⟩
  clear hlt hk
  (conv => whnf); repeat ((first | refine tk1 ?_ | refine tk2 ?_ | refine tk3 ?_ | refine tk12 (fun _ => ?_) | refine tk4 ?_ | refine tk5 ?_ | refine tk6 ?_ | refine tk7 ?_ | refine tk8 ?_ | refine tk9 ?_ | refine tk10 (fun _ _ => ?_) | refine tk11 (fun _ => ?_) | refine tk13 ?_ | refine tk14 ?_); (conv => whnf))
  refine DrawS.go (qs 21) tys_ok mixed (by as_aux_lemma => kernel_rfl) ?_
  (conv => whnf); repeat ((first | refine tk1 ?_ | refine tk2 ?_ | refine tk3 ?_ | refine tk12 (fun _ => ?_) | refine tk4 ?_ | refine tk5 ?_ | refine tk6 ?_ | refine tk7 ?_ | refine tk8 ?_ | refine tk9 ?_ | refine tk10 (fun _ _ => ?_) | refine tk11 (fun _ => ?_) | refine tk13 ?_ | refine tk14 ?_); (conv => whnf))
  refine CallQ.fnR (CSame_r s s OA A Oc cp (by omega) (by omega)) ⟨RdA.ok, (hA _).ok, trivial⟩ ?_
  rw [decide_eq_true (rfl : s = s)]
  (conv => whnf); repeat ((first | refine tk1 ?_ | refine tk2 ?_ | refine tk3 ?_ | refine tk12 (fun _ => ?_) | refine tk4 ?_ | refine tk5 ?_ | refine tk6 ?_ | refine tk7 ?_ | refine tk8 ?_ | refine tk9 ?_ | refine tk10 (fun _ _ => ?_) | refine tk11 (fun _ => ?_) | refine tk13 ?_ | refine tk14 ?_); (conv => whnf))
  refine B2S.tc (xs := b.map byteV) (l := b) rfl rfl ?_
  (conv => whnf); repeat ((first | refine tk1 ?_ | refine tk2 ?_ | refine tk3 ?_ | refine tk12 (fun _ => ?_) | refine tk4 ?_ | refine tk5 ?_ | refine tk6 ?_ | refine tk7 ?_ | refine tk8 ?_ | refine tk9 ?_ | refine tk10 (fun _ _ => ?_) | refine tk11 (fun _ => ?_) | refine tk13 ?_ | refine tk14 ?_); (conv => whnf))
  refine B2S.rd (l := b) (hRB _).ok rfl ?_
  (conv => whnf); repeat ((first | refine tk1 ?_ | refine tk2 ?_ | refine tk3 ?_ | refine tk12 (fun _ => ?_) | refine tk4 ?_ | refine tk5 ?_ | refine tk6 ?_ | refine tk7 ?_ | refine tk8 ?_ | refine tk9 ?_ | refine tk10 (fun _ _ => ?_) | refine tk11 (fun _ => ?_) | refine tk13 ?_ | refine tk14 ?_); (conv => whnf))
  refine Cmp.t rfl ?_
  have hck := CCheck_f (gI := gI) s OA Oc (by omega)
  have hrk := RCheck_r (gI := gI) s A cp (by omega)
  unfold cV at hck
  (conv => whnf); repeat ((first | refine tk1 ?_ | refine tk2 ?_ | refine tk3 ?_ | refine tk12 (fun _ => ?_) | refine tk4 ?_ | refine tk5 ?_ | refine tk6 ?_ | refine tk7 ?_ | refine tk8 ?_ | refine tk9 ?_ | refine tk10 (fun _ _ => ?_) | refine tk11 (fun _ => ?_) | refine tk13 ?_ | refine tk14 ?_); (conv => whnf))
  refine CallQ.fnEV hck (fun w1 hw1 => ⟨⟨RdA.ok (xs := s.line.map byteV) w1 hw1, trivial⟩, row_cap (A := OA) (e := 5) (sz := 1) (n' := s.line.length) (xs := s.line.map byteV) hw1⟩) ?_
  (conv => whnf); repeat ((first | refine tk1 ?_ | refine tk2 ?_ | refine tk3 ?_ | refine tk12 (fun _ => ?_) | refine tk4 ?_ | refine tk5 ?_ | refine tk6 ?_ | refine tk7 ?_ | refine tk8 ?_ | refine tk9 ?_ | refine tk10 (fun _ _ => ?_) | refine tk11 (fun _ => ?_) | refine tk13 ?_ | refine tk14 ?_); (conv => whnf))
  refine CallQ.fnR hrk ⟨(hA _).ok, trivial⟩ ?_
  (conv => whnf); repeat ((first | refine tk1 ?_ | refine tk2 ?_ | refine tk3 ?_ | refine tk12 (fun _ => ?_) | refine tk4 ?_ | refine tk5 ?_ | refine tk6 ?_ | refine tk7 ?_ | refine tk8 ?_ | refine tk9 ?_ | refine tk10 (fun _ _ => ?_) | refine tk11 (fun _ => ?_) | refine tk13 ?_ | refine tk14 ?_); (conv => whnf))
  exact fun w' _ => rfl
end Go.Proofs.YtbgnogdlkmhnkaaGreatDoor.Vex
/- Arguments that are bodies under way. -/
namespace Go.Proofs.YtbgnogdlkmhnkaaGreatDoor.Vex
open Go Go.RowKit Go.ChangeShapes Go.WideShapes Go.Deep
set_option maxRecDepth 100000

structure ChA where
  ph : UInt8
  left : Int
  L : Sl UInt8
  trail : Int
def ChA.cells (x : ChA) : List Value := [byteV x.ph, .int .i64 x.left, .slice x.L.A x.L.l.length x.L.cp, .int .i64 x.trail]
def ChA.st (x : ChA) : CSt := ⟨x.ph.toNat, x.left, x.L.l, x.trail⟩
abbrev chShape : Shape := ⟨ChA, 4, ChA.cells, fun w x => bytesShape.ok w x.L ∧ (-9223372036854775808 ≤ x.left ∧ x.left ≤ 9223372036854775807) ∧ -9223372036854775808 ≤ x.trail ∧ x.trail ≤ 9223372036854775807, fun x => 3 + bytesShape.wt x.L⟩
theorem opens_chunks : Opens Tryz.prog 27 chShape := by
  have h := opens_struct Tryz.underlying27 (by kernel_rfl) (opensL_cons rfl opens_u8 (opensL_cons rfl opens_i64 (opensL_cons rfl opens_bytes (opensL_cons rfl opens_i64 (opensL_nil _)))))
  exact opens_map h (fun x => ChA.mk x.1 x.2.1 x.2.2.1 x.2.2.2.1) rfl (fun _ _ _ => rfl) (fun _ _ h => ⟨h.2.2.1, h.2.1, h.2.2.2.1⟩) (fun _ _ _ => by dsimp only; omega)
abbrev cptShape : Shape := ⟨CPt, 1, fun x => [x.v], fun w x => x.l.length ≤ x.cp ∧ Rdw w x.A (x.l.map byteV), fun x => x.l.length⟩
theorem wt_bytes (l : List UInt8) : (l.map byteShape.wt).sum = l.length := by
  induction l with
  | nil => rfl
  | cons a r ih => rw [List.map_cons, List.sum_cons, ih, List.length_cons]; exact Nat.add_comm 1 _
theorem opens_cpt : Opens Tryz.prog 22 cptShape :=
  opens_map opens_bytes (fun x => CPt.mk x.A x.cp x.l) rfl (fun _ _ _ => rfl) (fun _ _ h => ⟨h.1, rd_bytes h⟩) (fun _ x _ => by show x.l.length ≤ (x.l.map byteShape.wt).sum + 1; rw [wt_bytes]; omega)
theorem opens_bytess : Opens Tryz.prog 54 (sliceShape cptShape) := opens_slice Tryz.underlying54 (by kernel_rfl) opens_cpt
theorem flat_cpts (l : List CPt) : l.flatMap (fun b => [b.v]) = l.map CPt.v := by
  induction l with
  | nil => rfl
  | cons a r ih => rw [List.flatMap_cons, ih]; rfl
theorem rd_cpts {W : World} {x : Sl CPt} (h : (sliceShape cptShape).ok W x) : Rdw W x.A (x.l.map CPt.v) ∧ ∀ e ∈ x.l, Rdw W e.A (e.l.map byteV) := ⟨flat_cpts x.l ▸ h.2.1, fun e he => (h.2.2 e he).2⟩
theorem bytes_wt (x : Sl UInt8) : x.l.length ≤ bytesShape.wt x := by show x.l.length ≤ (x.l.map byteShape.wt).sum + 1; rw [wt_bytes]; omega
end Go.Proofs.YtbgnogdlkmhnkaaGreatDoor.Vex
namespace Go.Proofs.YtbgnogdlkmhnkaaGreatDoor.chunkFeeds
open Go.ChangeShapes Go.WideShapes Go.ChangeAt Go.RowKit

set_option maxRecDepth 100000 in
theorem contract (H : Type) (enc : TypeId × Value → H) (W : World) (base : Nat) (args : Array Value) (ds gs : List (DataW H)) (before : List MemPlace)
    (hval : ∀ (j : Nat) t v, Tryz.f4.params[j]? = some t → args[j]? = some v → Value.okWide Tryz.prog W .any base t v)
    (hW : DataW.Whole enc Tryz.prog Tryz.f4.params.toList Rows.chunkFeedsSpec.vars false W args.toList ds gs before) (hL : laidMetH Tryz.prog Rows.chunkFeedsRow.laid W) (hS : W.ShapedOpen Tryz.prog) :
    Calls Tryz.prog 4 args W fun e W' => ∃ v, e = .returned v ∧ Rows.chunkFeedsSpec.post enc Tryz.prog Tryz.f4 false true false false W args v W' := by
  have hW' := hW
  obtain ⟨p, q, hA, hV, rfl, hfz, hnd⟩ := hW
  rw [Tryz.params4] at hA hval
  obtain ⟨v0, vs0, d0, ds0, p0, q0, hargs, rfl, rfl, h0, r0⟩ := trodAll_cons hA
  obtain ⟨v1, vs1, d1, ds1, p1, q1, rfl, rfl, rfl, h1, r1⟩ := trodAll_cons r0
  obtain ⟨rfl, rfl, rfl⟩ := trodAll_nil r1
  obtain rfl : args = #[v0, v1] := by rw [← Array.toList_inj]; exact hargs
  obtain ⟨rfl, rfl⟩ := trodVars_none hV
  obtain ⟨x0, rfl, k0, z0⟩ := Vex.open_whole Vex.opens_chunks Tryz.underlying27 (hval 0 27 v0 rfl rfl) h0
  obtain ⟨x1, e1, k1, z1⟩ := Vex.open_cell Vex.opens_bytes (by rw [Tryz.underlying22]) (hval 1 22 v1 rfl rfl) h1
  obtain rfl := (List.cons.inj e1).1
  have hG := Vex.gV_of hL hS (by kernel_rfl) (List.mem_of_getElem? (i := 5) rfl) (List.mem_of_getElem? (i := 4) rfl) (List.mem_of_getElem? (i := 2) rfl) (List.mem_of_getElem? (i := 6) rfl) (List.mem_of_getElem? (i := 3) rfl) (List.mem_of_getElem? (i := 1) rfl)
  refine (Vex.done_E (Vex.ChunkFeeds_v x0.st x0.L.A x0.L.cp x1.A x1.cp x1.l k0.1.1 k1.1) hG ⟨Vex.rd_bytes k0.1, Vex.rd_bytes k1, trivial⟩).mono fun e W' ⟨he, hb⟩ => ?_
  exact ⟨_, he, law_post laidOut rfl hW' (by kernel_rfl) (by kernel_rfl) Tryz.underlying4 (by kernel_rfl) hb⟩

abbrev start : Array Value := #[.agg #[.int .u8 0, .int .i64 0, .slice none 0 0, .int .i64 0], .slice none 0 0]
theorem laid_met (os : Os) : laidMet Tryz.prog Rows.chunkFeedsRow.laid ((laidWorld os start).forCall (fun _ _ => 0) ⟨#[], start, []⟩).memory :=
  laidMet_of_run' 8 (by kernel_rfl) (by kernel_rfl)
theorem reads (os : Os) {H : Type} (enc : TypeId × Value → H) : ∃ places, DataW.whole enc Tryz.prog ((laidWorld os start).forCall (fun _ _ => 0) ⟨#[], start, []⟩).memory Tryz.f4.params.toList Rows.chunkFeedsSpec.vars false start.toList 8 = some ([.agg [.lit (.int .u8 0), .lit (.int .i64 0), .nil, .lit (.int .i64 0)], .nil], [], places) :=
  ⟨[], by kernel_rfl⟩

set_option maxRecDepth 100000 in
theorem lifted (os : Os) (started : os.Started) (H : Type) (enc : TypeId × Value → H) (F : Stop.Interp) :
    ReturnsInHanded {} Tryz.checked os 4 .any ((OpenSpec.ofChange Rows.chunkFeedsSpec).preRow enc Tryz.prog Tryz.f4 Rows.chunkFeedsRow.domain false Rows.chunkFeedsRow.laid) (((OpenSpec.ofChange Rows.chunkFeedsSpec).at F).post enc Tryz.prog Tryz.f4 false true false false) := by
  obtain ⟨places, hx⟩ := reads os enc
  refine returnsInHanded_of_row (C := Tryz.checked) (s := OpenSpec.ofChange Rows.chunkFeedsSpec) own started (by kernel_rfl) Tryz.func4
    (witness_row_atRef (enc := enc) (C := Tryz.checked) false (laidWorld os start) start rfl (by kernel_rfl) (by kernel_rfl) (by kernel_rfl)
      (OpenSpec.preRow_of_cond 8 hx (by kernel_rfl) (fun k hk => by cases hk) (by kernel_rfl) (laid_met os))) ?_
  intro W base args ds gs before hval hW _ _ _ hL hS _
  exact contract H enc W base args ds gs before hval hW hL hS

theorem said : Rows.ChunkFeedsSaid :=
  OpenClaim.holds_of_cond 4 Tryz.f4 rfl rfl rfl rfl rfl rfl rfl ⟨rfl, rfl, rfl, rfl, rfl⟩ rfl rfl rfl rfl rfl (by kernel_rfl) Tryz.func4 (by kernel_rfl)
    (of_decide_eq_true (by kernel_rfl)) (by unfold Func.isWrapper; first | (rw [if_pos (by decide +kernel)]; kernel_rfl) | (rw [if_neg (by decide +kernel)]; exact ⟨rfl, rfl⟩))
    (fun os started H enc _ F => by rw [OpenClaim.pre_eq_preRow]; exact lifted os started H enc F)

/-- No parameter wants a stand-in; the program's own looks. -/
theorem plain (f : FuncId) (fn : Func) (hf : Tryz.pinned.checked.prog.funcNamed "bellows/bellowslaw22.ChunkFeeds" = some f) (hfn : Tryz.pinned.checked.prog.funcs[f]? = some fn) :
    true = Tryz.pinned.checked.prog.looks [] ∧ ∀ (j : Nat) t, fn.params[j]? = some t → Tryz.pinned.checked.prog.wantsStandIn t = false := by
  obtain rfl : f = 4 := Option.some.inj ((show Tryz.prog.funcNamed "bellows/bellowslaw22.ChunkFeeds" = some 4 by kernel_rfl).symm.trans hf) |>.symm
  obtain rfl : fn = Tryz.f4 := (Option.some.inj (Tryz.func4.symm.trans hfn)).symm
  refine ⟨by kernel_rfl, fun j t ht => ?_⟩
  have hall : (Tryz.f4.params.toList.all fun t => !Tryz.prog.wantsStandIn t) = true := by kernel_rfl
  have := List.all_eq_true.1 hall t (Array.mem_toList_iff.2 (Array.mem_of_getElem? ht))
  exact (show Tryz.prog.wantsStandIn t = false by simpa using this)

theorem proved : Rows.ChunkFeedsCardSaid :=
  Claim7.holds_tied_plain_at .later [] _ _ _ _ said (fun _ h => by cases h) (by kernel_rfl) (fun _ h => by cases h) chunkFeeds_row_tie rfl ⟨rfl, rfl⟩ (by kernel_rfl) rfl plain (by kernel_rfl)
end Go.Proofs.YtbgnogdlkmhnkaaGreatDoor.chunkFeeds
