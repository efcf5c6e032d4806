/- For every list of preferences, value, yes or no, text and coding, AcceptTells returns true; the arguments read behind the call as they read before. -/
import Derived.Test.YtggokigjnaiokaaGreatDoorMAcceptTells3
import Derived.Lib.Join
/- Weights, read digit by digit. No program in sight. -/
namespace Go.Proofs.YtggokigjnaiokaaGreatDoor
/-- The three digits behind a weight's point. -/
def ppOf (s : List UInt8) : List UInt8 := (s.drop 2) ++ ([48, 48, 48] : List UInt8).drop (s.drop 2).length
theorem cut_form (a : UInt8) (t : List UInt8) (ha : a = 48 ∨ a = 49) : (t = [] ∨ ∃ p, t = 46 :: p) → (cutB 46 (a :: t)).1 = [a] ∧ (cutB 46 (a :: t)).2.1 = (a :: t).drop 2 := by
  have h46 : ¬ a = 46 := by rcases ha with rfl | rfl <;> decide
  rintro (rfl | ⟨p, rfl⟩)
  · simp [cutB, h46]
  · simp [cutB, h46]
theorem wtPre_form {s : List UInt8} (h : wtPre s = true) : ∃ a t, s = a :: t ∧ (a = 48 ∨ a = 49) ∧ (t = [] ∨ ∃ p, t = 46 :: p) ∧ s.length ≤ 5 := by
  unfold wtPre at h
  simp only [Bool.and_eq_true, decide_eq_true_eq] at h
  obtain ⟨h1, h2, _⟩ := h
  cases s with
  | nil => rcases h1 with h | h <;> simp [cutB] at h
  | cons a t =>
    by_cases h46 : a = 46
    · subst h46
      rcases h1 with h | h <;> simp [cutB] at h
    · rw [cutB, if_neg h46] at h1 h2
      dsimp only at h1 h2
      have ht : t = [] ∨ ∃ p, t = 46 :: p := by
        cases t with
        | nil => exact .inl rfl
        | cons b p =>
          by_cases hb : b = 46
          · exact .inr ⟨p, by rw [hb]⟩
          · rw [cutB, if_neg hb] at h1
            dsimp only at h1
            rcases h1 with h | h <;> simp at h
      have ha : a = 48 ∨ a = 49 := by rcases h1 with h | h <;> simp at h <;> simp [h.1]
      refine ⟨a, t, rfl, ha, ht, ?_⟩
      have hf := (cut_form a t ha ht).2
      rw [cutB, if_neg h46] at hf
      dsimp only at hf
      rw [hf, List.length_drop] at h2
      omega
theorem wt_is {s : List UInt8} (a : UInt8) (t : List UInt8) (hs : s = a :: t) (ha : a = 48 ∨ a = 49) (ht : t = [] ∨ ∃ p, t = 46 :: p) (h5 : s.length ≤ 5) :
    ∃ x y z, ppOf s = [x, y, z] ∧ (wtB s = true ↔ (digB x = true ∧ digB y = true ∧ digB z = true) ∧ (a = 49 → x = 48 ∧ y = 48 ∧ z = 48)) ∧ ((digB x = true ∧ digB y = true ∧ digB z = true) → wtI s = (numF (a.toNat - 48) [x, y, z] : Nat)) := by
  obtain ⟨h1, h2⟩ := cut_form a t ha ht
  rw [← hs] at h1 h2
  have hl : (s.drop 2).length ≤ 3 := by rw [List.length_drop]; omega
  have hpl : (ppOf s).length = 3 := by
    unfold ppOf
    rw [List.length_append, List.length_drop (l := [48, 48, 48])]
    show (s.drop 2).length + (3 - (s.drop 2).length) = 3
    omega
  obtain ⟨x, y, z, hp⟩ : ∃ x y z, ppOf s = [x, y, z] := by
    match h : ppOf s, hpl with
    | [x, y, z], _ => exact ⟨x, y, z, rfl⟩
  have hz : (([48, 48, 48] : List UInt8).drop (s.drop 2).length).all digB = true := by
    rw [List.all_eq_true]
    intro x hx
    have := List.mem_of_mem_drop hx
    simp only [List.mem_cons, List.not_mem_nil, or_false, or_self] at this
    subst this
    rfl
  have hall : (s.drop 2).all digB = (ppOf s).all digB := by
    unfold ppOf
    rw [List.all_append, hz, Bool.and_true]
  have hpre : wtPre s = (ppOf s).all digB := by
    unfold wtPre
    rw [h1, h2, decide_eq_true (show [a] = [48] ∨ [a] = [49] by rcases ha with h | h <;> simp [h]), decide_eq_true hl, hall]
    rfl
  have hN : wtN s = numF (a.toNat - 48) (ppOf s) := by
    unfold wtN
    rw [h1, h2, List.append_assoc]
    show numF 0 ([a] ++ ppOf s) = _
    unfold numF
    rw [List.foldl_append]
    simp [numStep]
  refine ⟨x, y, z, hp, ?_, fun hd => ?_⟩
  · unfold wtB
    rw [hpre, hN, hp]
    simp only [List.all_cons, List.all_nil, Bool.and_true, Bool.and_eq_true, decide_eq_true_eq]
    constructor
    · rintro ⟨⟨d1, d2, d3⟩, hle⟩
      refine ⟨⟨d1, d2, d3⟩, fun h49 => ?_⟩
      subst h49
      unfold digB at d1 d2 d3
      simp only [Bool.and_eq_true, decide_eq_true_eq] at d1 d2 d3
      simp only [numF, List.foldl_cons, List.foldl_nil, numStep, UInt8.reduceToNat] at hle
      have e1 : x.toNat = 48 := by omega
      have e2 : y.toNat = 48 := by omega
      have e3 : z.toNat = 48 := by omega
      exact ⟨UInt8.toNat_inj.1 e1, UInt8.toNat_inj.1 e2, UInt8.toNat_inj.1 e3⟩
    · rintro ⟨⟨d1, d2, d3⟩, h49⟩
      refine ⟨⟨d1, d2, d3⟩, ?_⟩
      unfold digB at d1 d2 d3
      simp only [Bool.and_eq_true, decide_eq_true_eq] at d1 d2 d3
      simp only [numF, List.foldl_cons, List.foldl_nil, numStep]
      rcases ha with rfl | rfl
      · simp only [UInt8.reduceToNat]; omega
      · obtain ⟨rfl, rfl, rfl⟩ := h49 rfl
        decide
  · have : wtPre s = true := by
      rw [hpre, hp]
      simp [hd.1, hd.2.1, hd.2.2]
    unfold wtI
    rw [if_pos this, hN, hp]
def wD (a c : UInt8) : Prop := digB c = true ∧ (a = 49 → c = 48)
theorem wt_all {s : List UInt8} (a : UInt8) (t : List UInt8) (hs : s = a :: t) (ha : a = 48 ∨ a = 49) (ht : t = [] ∨ ∃ p, t = 46 :: p) (h5 : s.length ≤ 5) :
    (wtB s = true ↔ ∀ c ∈ ppOf s, wD a c) ∧ ((∀ c ∈ ppOf s, wD a c) → wtI s = (numF (a.toNat - 48) (ppOf s) : Nat)) ∧ (ppOf s).length = 3 := by
  obtain ⟨x, y, z, hp, h1, h2⟩ := wt_is a t hs ha ht h5
  have e : (∀ c ∈ ppOf s, wD a c) ↔ ((digB x = true ∧ digB y = true ∧ digB z = true) ∧ (a = 49 → x = 48 ∧ y = 48 ∧ z = 48)) := by
    rw [hp]
    simp only [List.mem_cons, List.not_mem_nil, or_false, forall_eq_or_imp, forall_eq, wD]
    constructor
    · rintro ⟨⟨a1, b1⟩, ⟨a2, b2⟩, ⟨a3, b3⟩⟩
      exact ⟨⟨a1, a2, a3⟩, fun h => ⟨b1 h, b2 h, b3 h⟩⟩
    · rintro ⟨⟨a1, a2, a3⟩, h⟩
      exact ⟨⟨a1, fun e => (h e).1⟩, ⟨a2, fun e => (h e).2.1⟩, ⟨a3, fun e => (h e).2.2⟩⟩
  exact ⟨h1.trans e.symm, fun h => by rw [h2 (e.1 h).1, hp], by rw [hp]; rfl⟩
theorem pp_get (s : List UInt8) (h5 : s.length ≤ 5) (k : Nat) (hk : k < 3) : (ppOf s)[k]? = if h : k + 2 < s.length then some s[k + 2] else some 48 := by
  unfold ppOf
  split
  · rename_i h
    rw [List.getElem?_append_left (by rw [List.length_drop]; omega), List.getElem?_drop, List.getElem?_eq_getElem (by omega)]
    congr 2; omega
  · rename_i h
    rw [List.getElem?_append_right (by rw [List.length_drop]; omega), List.getElem?_drop]
    have hj : (s.drop 2).length + (k - (s.drop 2).length) = k := by rw [List.length_drop]; omega
    rw [hj]
    rcases (show k = 0 ∨ k = 1 ∨ k = 2 by omega) with rfl | rfl | rfl <;> rfl
theorem numF_snoc (n : Nat) (l : List UInt8) (c : UInt8) : numF n (l ++ [c]) = 10 * numF n l + (c.toNat - 48) := by
  unfold numF
  rw [List.foldl_append]
  rfl
theorem wt_one {s : List UInt8} (h : wtB s = true) : ∃ a t, s = a :: t ∧ s.length ≤ 5 ∧ 0 ≤ wtI s ∧ wtI s ≤ 1000 ∧ (a = 49 ↔ wtI s = 1000) := by
  have h0 := h
  unfold wtB at h0
  simp only [Bool.and_eq_true] at h0
  obtain ⟨a, t, hs, ha, ht, h5⟩ := wtPre_form h0.1
  obtain ⟨h1, h2, h3⟩ := wt_all a t hs ha ht h5
  have hall := h1.1 h
  have hI := h2 hall
  refine ⟨a, t, hs, h5, (wtI_range s).1, wtB_le h, ?_⟩
  obtain ⟨x, y, z, hp⟩ : ∃ x y z, ppOf s = [x, y, z] := by
    match hq : ppOf s, h3 with
    | [x, y, z], _ => exact ⟨x, y, z, rfl⟩
  rw [hp] at hall hI
  have hx := hall x (by simp)
  have hy := hall y (by simp)
  have hz := hall z (by simp)
  have bd : ∀ c : UInt8, digB c = true → 48 ≤ c.toNat ∧ c.toNat ≤ 57 := fun c hc => by
    unfold digB at hc
    simpa using hc
  have bx := bd x hx.1
  have by' := bd y hy.1
  have bz := bd z hz.1
  simp only [numF, List.foldl_cons, List.foldl_nil, numStep] at hI
  rcases ha with rfl | rfl
  · simp only [UInt8.reduceToNat] at hI
    constructor
    · intro h; cases h
    · intro h; omega
  · rw [hx.2 rfl, hy.2 rfl, hz.2 rfl] at hI
    simp only [UInt8.reduceToNat] at hI
    exact ⟨fun _ => by rw [hI]; rfl, fun _ => rfl⟩
end Go.Proofs.YtggokigjnaiokaaGreatDoor
/- The reference's functions on weights, reckoned. -/
namespace Go.Proofs.YtggokigjnaiokaaGreatDoor.Vex
open Go Go.RowKit
set_option maxRecDepth 100000
set_option linter.unusedSectionVars false
variable {gI : GI} [HasMax gI]

theorem RWeight_f (s : List UInt8) (hs : s.length ≤ 1000000) : Fn Tryz.prog gI 16 [str s] (.tuple #[.int .i64 (if wtB s then wtI s else 0), .bool (wtB s)]) := by
  have bad : wtB s = false → Value.tuple #[.int .i64 (if wtB s then wtI s else 0), .bool (wtB s)] = .tuple #[.int .i64 0, .bool false] := fun h => by rw [h]; rfl
  have form : wtB s = true → ∃ a t, s = a :: t ∧ (a = 48 ∨ a = 49) ∧ (t = [] ∨ ∃ p, t = 46 :: p) ∧ s.length ≤ 5 := fun h => by
    unfold wtB at h
    simp only [Bool.and_eq_true] at h
    exact wtPre_form h.1
  refine Fn.of tys_ok Tryz.func16 rfl (by kernel_rfl) rfl rfl ?_; intro w hG
  (conv => whnf); repeat ((first | refine tk1 ?_ | refine tk2 ?_ | refine tk3 ?_ | refine tk12 (fun _ => ?_) | refine tk4 ?_ | refine tk5 ?_ | refine tk6 ?_ | refine tk7 ?_ | refine tk8 ?_ | refine tk9 ?_ | refine tk10 (fun _ _ => ?_) | refine tk11 (fun _ => ?_)); (conv => whnf))
  refine Cmp.cases (fun q1 => ?_) (fun q1 => ?_)
  · have h9 : ¬ wtB s = true := fun h => by
      obtain ⟨a, t, hs2, _⟩ := form h
      rw [hs2] at q1
      simp at q1
      omega
    rw [bad (by simpa using h9)]
    (conv => whnf); repeat ((first | refine tk1 ?_ | refine tk2 ?_ | refine tk3 ?_ | refine tk12 (fun _ => ?_) | refine tk4 ?_ | refine tk5 ?_ | refine tk6 ?_ | refine tk7 ?_ | refine tk8 ?_ | refine tk9 ?_ | refine tk10 (fun _ _ => ?_) | refine tk11 (fun _ => ?_)); (conv => whnf))
  obtain ⟨a, t, hat⟩ := List.exists_cons_of_ne_nil (show s ≠ [] from fun e => by rw [e] at q1; exact q1 (by decide))
  (conv => whnf); repeat ((first | refine tk1 ?_ | refine tk2 ?_ | refine tk3 ?_ | refine tk12 (fun _ => ?_) | refine tk4 ?_ | refine tk5 ?_ | refine tk6 ?_ | refine tk7 ?_ | refine tk8 ?_ | refine tk9 ?_ | refine tk10 (fun _ _ => ?_) | refine tk11 (fun _ => ?_)); (conv => whnf))
  refine Cmp.cases (fun q2 => ?_) (fun q2 => ?_)
  · have h9 : ¬ wtB s = true := fun h => by
      obtain ⟨_, _, _, _, _, h5⟩ := form h
      omega
    rw [bad (by simpa using h9)]
    (conv => whnf); repeat ((first | refine tk1 ?_ | refine tk2 ?_ | refine tk3 ?_ | refine tk12 (fun _ => ?_) | refine tk4 ?_ | refine tk5 ?_ | refine tk6 ?_ | refine tk7 ?_ | refine tk8 ?_ | refine tk9 ?_ | refine tk10 (fun _ _ => ?_) | refine tk11 (fun _ => ?_)); (conv => whnf))
  have h0 : s[(0 : Int).toNat]? = some a := by rw [hat]; rfl
  have hat2 := a.toNat_lt
  have h48 : (a.toNat : Int) = 48 ↔ a = 48 := ⟨fun h => UInt8.toNat_inj.1 (by show a.toNat = 48; omega), fun h => by rw [h]; rfl⟩
  have h49 : (a.toNat : Int) = 49 ↔ a = 49 := ⟨fun h => UInt8.toNat_inj.1 (by show a.toNat = 49; omega), fun h => by rw [h]; rfl⟩
  have fa : wtB s = true → a = 48 ∨ a = 49 := fun h => by
    obtain ⟨a', t', hs2, ha, _⟩ := form h
    rw [hat] at hs2
    obtain ⟨rfl, rfl⟩ := List.cons.inj hs2
    exact ha
  have ft : wtB s = true → t = [] ∨ ∃ p, t = 46 :: p := fun h => by
    obtain ⟨a', t', hs2, _, ht, _⟩ := form h
    rw [hat] at hs2
    obtain ⟨rfl, rfl⟩ := List.cons.inj hs2
    exact ht
  (conv => whnf); repeat ((first | refine tk1 ?_ | refine tk2 ?_ | refine tk3 ?_ | refine tk12 (fun _ => ?_) | refine tk4 ?_ | refine tk5 ?_ | refine tk6 ?_ | refine tk7 ?_ | refine tk8 ?_ | refine tk9 ?_ | refine tk10 (fun _ _ => ?_) | refine tk11 (fun _ => ?_)); (conv => whnf))
  refine IdxS.at a h0 (by decide) ?_
  (conv => whnf); repeat ((first | refine tk1 ?_ | refine tk2 ?_ | refine tk3 ?_ | refine tk12 (fun _ => ?_) | refine tk4 ?_ | refine tk5 ?_ | refine tk6 ?_ | refine tk7 ?_ | refine tk8 ?_ | refine tk9 ?_ | refine tk10 (fun _ _ => ?_) | refine tk11 (fun _ => ?_)); (conv => whnf))
  refine Cmp.cases (fun q3 => ?_) (fun q3 => ?_)
  · (conv => whnf); repeat ((first | refine tk1 ?_ | refine tk2 ?_ | refine tk3 ?_ | refine tk12 (fun _ => ?_) | refine tk4 ?_ | refine tk5 ?_ | refine tk6 ?_ | refine tk7 ?_ | refine tk8 ?_ | refine tk9 ?_ | refine tk10 (fun _ _ => ?_) | refine tk11 (fun _ => ?_)); (conv => whnf))
    refine IdxS.at a h0 (by decide) ?_
    (conv => whnf); repeat ((first | refine tk1 ?_ | refine tk2 ?_ | refine tk3 ?_ | refine tk12 (fun _ => ?_) | refine tk4 ?_ | refine tk5 ?_ | refine tk6 ?_ | refine tk7 ?_ | refine tk8 ?_ | refine tk9 ?_ | refine tk10 (fun _ _ => ?_) | refine tk11 (fun _ => ?_)); (conv => whnf))
    refine Cmp.cases (fun q4 => ?_) (fun q4 => ?_)
    · have h9 : ¬ wtB s = true := fun h => by
        rcases fa h with h | h
        · exact q3 (h48.2 h)
        · exact q4 (h49.2 h)
      rw [bad (by simpa using h9)]
      (conv => whnf); repeat ((first | refine tk1 ?_ | refine tk2 ?_ | refine tk3 ?_ | refine tk12 (fun _ => ?_) | refine tk4 ?_ | refine tk5 ?_ | refine tk6 ?_ | refine tk7 ?_ | refine tk8 ?_ | refine tk9 ?_ | refine tk10 (fun _ _ => ?_) | refine tk11 (fun _ => ?_)); (conv => whnf))
    · have ha : a = 48 ∨ a = 49 := .inr (h49.1 (by omega))
      (conv => whnf); repeat ((first | refine tk1 ?_ | refine tk2 ?_ | refine tk3 ?_ | refine tk12 (fun _ => ?_) | refine tk4 ?_ | refine tk5 ?_ | refine tk6 ?_ | refine tk7 ?_ | refine tk8 ?_ | refine tk9 ?_ | refine tk10 (fun _ _ => ?_) | refine tk11 (fun _ => ?_)); (conv => whnf))
      clear q3 q4
      refine Cmp.cases (fun r1 => ?_) (fun r1 => ?_)
      · obtain ⟨b, p, hbp⟩ := List.exists_cons_of_ne_nil (show t ≠ [] from fun e => by rw [hat, e] at r1; simp at r1)
        have hg1 : s[(1 : Int).toNat]? = some b := by rw [hat, hbp]; rfl
        have hb2 := b.toNat_lt
        (conv => whnf); repeat ((first | refine tk1 ?_ | refine tk2 ?_ | refine tk3 ?_ | refine tk12 (fun _ => ?_) | refine tk4 ?_ | refine tk5 ?_ | refine tk6 ?_ | refine tk7 ?_ | refine tk8 ?_ | refine tk9 ?_ | refine tk10 (fun _ _ => ?_) | refine tk11 (fun _ => ?_)); (conv => whnf))
        refine IdxS.at b hg1 (by decide) ?_
        (conv => whnf); repeat ((first | refine tk1 ?_ | refine tk2 ?_ | refine tk3 ?_ | refine tk12 (fun _ => ?_) | refine tk4 ?_ | refine tk5 ?_ | refine tk6 ?_ | refine tk7 ?_ | refine tk8 ?_ | refine tk9 ?_ | refine tk10 (fun _ _ => ?_) | refine tk11 (fun _ => ?_)); (conv => whnf))
        refine Cmp.cases (fun r2 => ?_) (fun r2 => ?_)
        · have h9 : ¬ wtB s = true := fun h => by
            rcases ft h with h | ⟨p2, h⟩
            · rw [hbp] at h; cases h
            · rw [hbp] at h
              exact r2 (by rw [(List.cons.inj h).1]; rfl)
          rw [bad (by simpa using h9)]
          (conv => whnf); repeat ((first | refine tk1 ?_ | refine tk2 ?_ | refine tk3 ?_ | refine tk12 (fun _ => ?_) | refine tk4 ?_ | refine tk5 ?_ | refine tk6 ?_ | refine tk7 ?_ | refine tk8 ?_ | refine tk9 ?_ | refine tk10 (fun _ _ => ?_) | refine tk11 (fun _ => ?_)); (conv => whnf))
        · have hb46 : b = 46 := UInt8.toNat_inj.1 (by show b.toNat = 46; omega)
          have ht : t = [] ∨ ∃ p, t = 46 :: p := .inr ⟨p, by rw [hbp, hb46]⟩
          (conv => whnf); repeat ((first | refine tk1 ?_ | refine tk2 ?_ | refine tk3 ?_ | refine tk12 (fun _ => ?_) | refine tk4 ?_ | refine tk5 ?_ | refine tk6 ?_ | refine tk7 ?_ | refine tk8 ?_ | refine tk9 ?_ | refine tk10 (fun _ _ => ?_) | refine tk11 (fun _ => ?_)); (conv => whnf))
          clear r1 r2 hb2
          have h5 : s.length ≤ 5 := by omega
          obtain ⟨w1, w2, w3⟩ := wt_all a t hat ha ht h5
          refine LoopS.lp tys_ok (fun (x : Nat × Nat) u => [str s, u 1, u 2, u 3, .int .i64 (x.2 : Nat), .int .i64 ((x.1 : Nat) + 2), u 6, u 7, u 8, u 9, u 10, u 11, u 12, u 13, u 14, u 15, u 16, u 17, u 18, u 19, u 20, u 21, u 22, u 23, u 24, u 25, u 26, u 27, u 28, u 29, u 30, u 31, u 32, u 33, u 34, u 35, u 36, u 37, u 38, u 39, u 40, u 41, u 42, u 43, u 44, u 45, u 46, u 47, u 48, u 49, u 50, u 51, u 52, u 53, u 54, u 55, u 56, u 57, u 58, u 59, u 60, u 61, u 62, u 63, u 64, u 65, u 66, u 67, u 68, u 69, u 70]) (fun _ => [])
            (fun x => x.1 ≤ 3 ∧ (∀ c ∈ (ppOf s).take x.1, wD a c) ∧ x.2 = numF 0 ((ppOf s).take x.1) ∧ x.2 < 10 ^ x.1) (fun x => 3 - x.1) (0, 0) ⟨by decide, by simp, rfl, by decide⟩ rfl (by repeat' (first | exact List.Sublist.refl _ | exact List.nil_sublist _ | apply List.Sublist.cons_cons | apply List.Sublist.cons)) ?_
          rintro ⟨k, n⟩ u ⟨hk, hd, hn, hlt⟩
          dsimp only at hk hd hn hlt ⊢
          have hn9 : n < 1000 := Nat.lt_of_lt_of_le hlt (by rcases (show k = 0 ∨ k = 1 ∨ k = 2 ∨ k = 3 by omega) with rfl | rfl | rfl | rfl <;> decide)
          (conv => whnf); repeat ((first | refine tk1 ?_ | refine tk2 ?_ | refine tk3 ?_ | refine tk12 (fun _ => ?_) | refine tk4 ?_ | refine tk5 ?_ | refine tk6 ?_ | refine tk7 ?_ | refine tk8 ?_ | refine tk9 ?_ | refine tk10 (fun _ _ => ?_) | refine tk11 (fun _ => ?_)); (conv => whnf))
          refine Cmp.cases (fun c1 => ?_) (fun c1 => ?_)
          · have hk3 : k < 3 := by omega
            have hg := pp_get s h5 k hk3
            have hpl : k < (ppOf s).length := by omega
            have htk : (ppOf s).take (k + 1) = (ppOf s).take k ++ [(ppOf s)[k]] := List.take_succ_eq_append_getElem hpl
            obtain ⟨c, hc⟩ : ∃ c, (ppOf s)[k] = c := ⟨_, rfl⟩
            rw [List.getElem?_eq_getElem hpl, hc] at hg
            rw [hc] at htk
            have hcm : c ∈ ppOf s := by rw [← hc]; exact List.getElem_mem hpl
            have hct := c.toNat_lt
            have fin : ∀ K : Nat → Prop, True := fun _ => trivial
            have nx : wD a c → (∀ c' ∈ (ppOf s).take (k + 1), wD a c') ∧ 10 * n + (c.toNat - 48) = numF 0 ((ppOf s).take (k + 1)) ∧ 10 * n + (c.toNat - 48) < 10 ^ (k + 1) := fun hw => by
              have h57 : c.toNat ≤ 57 := by
                have := hw.1
                unfold digB at this
                simp only [Bool.and_eq_true, decide_eq_true_eq] at this
                omega
              refine ⟨fun c' h' => ?_, ?_, ?_⟩
              · rw [htk] at h'
                rcases List.mem_append.1 h' with h | h
                · exact hd c' h
                · simp at h; subst h; exact hw
              · rw [htk, numF_snoc, ← hn]
              · rw [Nat.pow_succ]; omega
            (conv => whnf); repeat ((first | refine tk1 ?_ | refine tk2 ?_ | refine tk3 ?_ | refine tk12 (fun _ => ?_) | refine tk4 ?_ | refine tk5 ?_ | refine tk6 ?_ | refine tk7 ?_ | refine tk8 ?_ | refine tk9 ?_ | refine tk10 (fun _ _ => ?_) | refine tk11 (fun _ => ?_)); (conv => whnf))
            refine Cmp.cases (fun c2 => ?_) (fun c2 => ?_)
            · have hgs : s[(((k : Nat) : Int) + 2).toNat]? = some c := by
                rw [dif_pos (by omega)] at hg
                rw [show (((k : Nat) : Int) + 2).toNat = k + 2 by omega, List.getElem?_eq_getElem (by omega)]
                exact hg.symm
              (conv => whnf); repeat ((first | refine tk1 ?_ | refine tk2 ?_ | refine tk3 ?_ | refine tk12 (fun _ => ?_) | refine tk4 ?_ | refine tk5 ?_ | refine tk6 ?_ | refine tk7 ?_ | refine tk8 ?_ | refine tk9 ?_ | refine tk10 (fun _ _ => ?_) | refine tk11 (fun _ => ?_)); (conv => whnf))
              refine IdxS.at c hgs (by omega) ?_
              (conv => whnf); repeat ((first | refine tk1 ?_ | refine tk2 ?_ | refine tk3 ?_ | refine tk12 (fun _ => ?_) | refine tk4 ?_ | refine tk5 ?_ | refine tk6 ?_ | refine tk7 ?_ | refine tk8 ?_ | refine tk9 ?_ | refine tk10 (fun _ _ => ?_) | refine tk11 (fun _ => ?_)); (conv => whnf))
              refine Cmp.cases (fun e1 => ?_) (fun e1 => ?_)
              · have hb : ¬ wtB s = true := fun h => by
                  have := (w1.1 h c hcm).1
                  unfold digB at this
                  simp only [Bool.and_eq_true, decide_eq_true_eq] at this
                  omega
                rw [bad (by simpa using hb)]
                (conv => whnf); repeat ((first | refine tk1 ?_ | refine tk2 ?_ | refine tk3 ?_ | refine tk12 (fun _ => ?_) | refine tk4 ?_ | refine tk5 ?_ | refine tk6 ?_ | refine tk7 ?_ | refine tk8 ?_ | refine tk9 ?_ | refine tk10 (fun _ _ => ?_) | refine tk11 (fun _ => ?_)); (conv => whnf))
              (conv => whnf); repeat ((first | refine tk1 ?_ | refine tk2 ?_ | refine tk3 ?_ | refine tk12 (fun _ => ?_) | refine tk4 ?_ | refine tk5 ?_ | refine tk6 ?_ | refine tk7 ?_ | refine tk8 ?_ | refine tk9 ?_ | refine tk10 (fun _ _ => ?_) | refine tk11 (fun _ => ?_)); (conv => whnf))
              refine Cmp.cases (fun e2 => ?_) (fun e2 => ?_)
              · have hb : ¬ wtB s = true := fun h => by
                  have := (w1.1 h c hcm).1
                  unfold digB at this
                  simp only [Bool.and_eq_true, decide_eq_true_eq] at this
                  omega
                rw [bad (by simpa using hb)]
                (conv => whnf); repeat ((first | refine tk1 ?_ | refine tk2 ?_ | refine tk3 ?_ | refine tk12 (fun _ => ?_) | refine tk4 ?_ | refine tk5 ?_ | refine tk6 ?_ | refine tk7 ?_ | refine tk8 ?_ | refine tk9 ?_ | refine tk10 (fun _ _ => ?_) | refine tk11 (fun _ => ?_)); (conv => whnf))
              have hdc : digB c = true := by
                unfold digB
                simp only [Bool.and_eq_true, decide_eq_true_eq]
                omega
              (conv => whnf); repeat ((first | refine tk1 ?_ | refine tk2 ?_ | refine tk3 ?_ | refine tk12 (fun _ => ?_) | refine tk4 ?_ | refine tk5 ?_ | refine tk6 ?_ | refine tk7 ?_ | refine tk8 ?_ | refine tk9 ?_ | refine tk10 (fun _ _ => ?_) | refine tk11 (fun _ => ?_)); (conv => whnf))
              refine IdxS.at a h0 (by decide) ?_
              (conv => whnf); repeat ((first | refine tk1 ?_ | refine tk2 ?_ | refine tk3 ?_ | refine tk12 (fun _ => ?_) | refine tk4 ?_ | refine tk5 ?_ | refine tk6 ?_ | refine tk7 ?_ | refine tk8 ?_ | refine tk9 ?_ | refine tk10 (fun _ _ => ?_) | refine tk11 (fun _ => ?_)); (conv => whnf))
              refine Cmp.cases (fun e3 => ?_) (fun e3 => ?_)
              · (conv => whnf); repeat ((first | refine tk1 ?_ | refine tk2 ?_ | refine tk3 ?_ | refine tk12 (fun _ => ?_) | refine tk4 ?_ | refine tk5 ?_ | refine tk6 ?_ | refine tk7 ?_ | refine tk8 ?_ | refine tk9 ?_ | refine tk10 (fun _ _ => ?_) | refine tk11 (fun _ => ?_)); (conv => whnf))
                refine Cmp.cases (fun e4 => ?_) (fun e4 => ?_)
                · have hb : ¬ wtB s = true := fun h => by
                    have := (w1.1 h c hcm).2 (h49.1 e3)
                    subst this
                    exact e4 rfl
                  rw [bad (by simpa using hb)]
                  (conv => whnf); repeat ((first | refine tk1 ?_ | refine tk2 ?_ | refine tk3 ?_ | refine tk12 (fun _ => ?_) | refine tk4 ?_ | refine tk5 ?_ | refine tk6 ?_ | refine tk7 ?_ | refine tk8 ?_ | refine tk9 ?_ | refine tk10 (fun _ _ => ?_) | refine tk11 (fun _ => ?_)); (conv => whnf))
                · obtain ⟨n1, n2, n3⟩ := nx ⟨hdc, fun _ => UInt8.toNat_inj.1 (by show c.toNat = 48; omega)⟩
                  (conv => whnf); repeat ((first | refine tk1 ?_ | refine tk2 ?_ | refine tk3 ?_ | refine tk12 (fun _ => ?_) | refine tk4 ?_ | refine tk5 ?_ | refine tk6 ?_ | refine tk7 ?_ | refine tk8 ?_ | refine tk9 ?_ | refine tk10 (fun _ _ => ?_) | refine tk11 (fun _ => ?_)); (conv => whnf))
                  exact ⟨(k + 1, 10 * n + (c.toNat - 48)), ⟨by dsimp only; omega, n1, n2, n3⟩, (by dsimp only; rw [show (10 : Int) * (n : Nat) + ((c.toNat : Int) - 48) = ((10 * n + (c.toNat - 48) : Nat) : Int) by omega, show (((k : Nat) : Int) + 2 + 1) = (((k + 1 : Nat) : Nat) : Int) + 2 by omega]; rfl), (by repeat' (first | exact List.Sublist.refl _ | exact List.nil_sublist _ | apply List.Sublist.cons_cons | apply List.Sublist.cons)), by dsimp only; omega⟩
              · obtain ⟨n1, n2, n3⟩ := nx ⟨hdc, fun h => absurd (h49.2 h) e3⟩
                (conv => whnf); repeat ((first | refine tk1 ?_ | refine tk2 ?_ | refine tk3 ?_ | refine tk12 (fun _ => ?_) | refine tk4 ?_ | refine tk5 ?_ | refine tk6 ?_ | refine tk7 ?_ | refine tk8 ?_ | refine tk9 ?_ | refine tk10 (fun _ _ => ?_) | refine tk11 (fun _ => ?_)); (conv => whnf))
                exact ⟨(k + 1, 10 * n + (c.toNat - 48)), ⟨by dsimp only; omega, n1, n2, n3⟩, (by dsimp only; rw [show (10 : Int) * (n : Nat) + ((c.toNat : Int) - 48) = ((10 * n + (c.toNat - 48) : Nat) : Int) by omega, show (((k : Nat) : Int) + 2 + 1) = (((k + 1 : Nat) : Nat) : Int) + 2 by omega]; rfl), (by repeat' (first | exact List.Sublist.refl _ | exact List.nil_sublist _ | apply List.Sublist.cons_cons | apply List.Sublist.cons)), by dsimp only; omega⟩
            · have hc48 : c = 48 := by
                rw [dif_neg (by omega)] at hg
                exact Option.some.inj hg
              subst hc48
              (conv => whnf); repeat ((first | refine tk1 ?_ | refine tk2 ?_ | refine tk3 ?_ | refine tk12 (fun _ => ?_) | refine tk4 ?_ | refine tk5 ?_ | refine tk6 ?_ | refine tk7 ?_ | refine tk8 ?_ | refine tk9 ?_ | refine tk10 (fun _ _ => ?_) | refine tk11 (fun _ => ?_)); (conv => whnf))
              refine IdxS.at a h0 (by decide) ?_
              (conv => whnf); repeat ((first | refine tk1 ?_ | refine tk2 ?_ | refine tk3 ?_ | refine tk12 (fun _ => ?_) | refine tk4 ?_ | refine tk5 ?_ | refine tk6 ?_ | refine tk7 ?_ | refine tk8 ?_ | refine tk9 ?_ | refine tk10 (fun _ _ => ?_) | refine tk11 (fun _ => ?_)); (conv => whnf))
              obtain ⟨n1, n2, n3⟩ := nx ⟨by decide, fun _ => rfl⟩
              refine Cmp.cases (fun e3 => ?_) (fun e3 => ?_)
              · (conv => whnf); repeat ((first | refine tk1 ?_ | refine tk2 ?_ | refine tk3 ?_ | refine tk12 (fun _ => ?_) | refine tk4 ?_ | refine tk5 ?_ | refine tk6 ?_ | refine tk7 ?_ | refine tk8 ?_ | refine tk9 ?_ | refine tk10 (fun _ _ => ?_) | refine tk11 (fun _ => ?_)); (conv => whnf))
                exact ⟨(k + 1, 10 * n), ⟨by dsimp only; omega, n1, n2, n3⟩, (by dsimp only; rw [show (10 : Int) * (n : Nat) + 0 = ((10 * n : Nat) : Int) by omega, show (((k : Nat) : Int) + 2 + 1) = (((k + 1 : Nat) : Nat) : Int) + 2 by omega]; rfl), (by repeat' (first | exact List.Sublist.refl _ | exact List.nil_sublist _ | apply List.Sublist.cons_cons | apply List.Sublist.cons)), by dsimp only; omega⟩
              · (conv => whnf); repeat ((first | refine tk1 ?_ | refine tk2 ?_ | refine tk3 ?_ | refine tk12 (fun _ => ?_) | refine tk4 ?_ | refine tk5 ?_ | refine tk6 ?_ | refine tk7 ?_ | refine tk8 ?_ | refine tk9 ?_ | refine tk10 (fun _ _ => ?_) | refine tk11 (fun _ => ?_)); (conv => whnf))
                exact ⟨(k + 1, 10 * n), ⟨by dsimp only; omega, n1, n2, n3⟩, (by dsimp only; rw [show (10 : Int) * (n : Nat) + 0 = ((10 * n : Nat) : Int) by omega, show (((k : Nat) : Int) + 2 + 1) = (((k + 1 : Nat) : Nat) : Int) + 2 by omega]; rfl), (by repeat' (first | exact List.Sublist.refl _ | exact List.nil_sublist _ | apply List.Sublist.cons_cons | apply List.Sublist.cons)), by dsimp only; omega⟩
          · have hk3 : k = 3 := by omega
            subst hk3
            rw [List.take_of_length_le (by omega)] at hd hn
            have hw := w1.2 hd
            have hI := w2 hd
            rw [hw]
            (conv => whnf); repeat ((first | refine tk1 ?_ | refine tk2 ?_ | refine tk3 ?_ | refine tk12 (fun _ => ?_) | refine tk4 ?_ | refine tk5 ?_ | refine tk6 ?_ | refine tk7 ?_ | refine tk8 ?_ | refine tk9 ?_ | refine tk10 (fun _ _ => ?_) | refine tk11 (fun _ => ?_)); (conv => whnf))
            refine IdxS.at a h0 (by decide) ?_
            (conv => whnf); repeat ((first | refine tk1 ?_ | refine tk2 ?_ | refine tk3 ?_ | refine tk12 (fun _ => ?_) | refine tk4 ?_ | refine tk5 ?_ | refine tk6 ?_ | refine tk7 ?_ | refine tk8 ?_ | refine tk9 ?_ | refine tk10 (fun _ _ => ?_) | refine tk11 (fun _ => ?_)); (conv => whnf))
            refine Cmp.cases (fun c3 => ?_) (fun c3 => ?_)
            · have e : wtI s = 1000 := by
                have := (wt_one hw)
                obtain ⟨a', t', hs2, _, _, _, h⟩ := this
                rw [hat] at hs2
                obtain ⟨rfl, rfl⟩ := List.cons.inj hs2
                exact h.1 (h49.1 c3)
              (conv => whnf); repeat ((first | refine tk1 ?_ | refine tk2 ?_ | refine tk3 ?_ | refine tk12 (fun _ => ?_) | refine tk4 ?_ | refine tk5 ?_ | refine tk6 ?_ | refine tk7 ?_ | refine tk8 ?_ | refine tk9 ?_ | refine tk10 (fun _ _ => ?_) | refine tk11 (fun _ => ?_)); (conv => whnf))
              rw [e]; rfl
            · have ha8 : a = 48 := ha.resolve_right (fun h => c3 (h49.2 h))
              have e : wtI s = (n : Nat) := by rw [hI, ha8, hn]; rfl
              (conv => whnf); repeat ((first | refine tk1 ?_ | refine tk2 ?_ | refine tk3 ?_ | refine tk12 (fun _ => ?_) | refine tk4 ?_ | refine tk5 ?_ | refine tk6 ?_ | refine tk7 ?_ | refine tk8 ?_ | refine tk9 ?_ | refine tk10 (fun _ _ => ?_) | refine tk11 (fun _ => ?_)); (conv => whnf))
              rw [e]; rfl
      · have ht : t = [] ∨ ∃ p, t = 46 :: p := .inl (List.eq_nil_of_length_eq_zero (by rw [hat, List.length_cons] at r1; omega))
        (conv => whnf); repeat ((first | refine tk1 ?_ | refine tk2 ?_ | refine tk3 ?_ | refine tk12 (fun _ => ?_) | refine tk4 ?_ | refine tk5 ?_ | refine tk6 ?_ | refine tk7 ?_ | refine tk8 ?_ | refine tk9 ?_ | refine tk10 (fun _ _ => ?_) | refine tk11 (fun _ => ?_)); (conv => whnf))
        clear r1
        have h5 : s.length ≤ 5 := by omega
        obtain ⟨w1, w2, w3⟩ := wt_all a t hat ha ht h5
        refine LoopS.lp tys_ok (fun (x : Nat × Nat) u => [str s, u 1, u 2, u 3, .int .i64 (x.2 : Nat), .int .i64 ((x.1 : Nat) + 2), u 6, u 7, u 8, u 9, u 10, u 11, u 12, u 13, u 14, u 15, u 16, u 17, u 18, u 19, u 20, u 21, u 22, u 23, u 24, u 25, u 26, u 27, u 28, u 29, u 30, u 31, u 32, u 33, u 34, u 35, u 36, u 37, u 38, u 39, u 40, u 41, u 42, u 43, u 44, u 45, u 46, u 47, u 48, u 49, u 50, u 51, u 52, u 53, u 54, u 55, u 56, u 57, u 58, u 59, u 60, u 61, u 62, u 63, u 64, u 65, u 66, u 67, u 68, u 69, u 70]) (fun _ => [])
          (fun x => x.1 ≤ 3 ∧ (∀ c ∈ (ppOf s).take x.1, wD a c) ∧ x.2 = numF 0 ((ppOf s).take x.1) ∧ x.2 < 10 ^ x.1) (fun x => 3 - x.1) (0, 0) ⟨by decide, by simp, rfl, by decide⟩ rfl (by repeat' (first | exact List.Sublist.refl _ | exact List.nil_sublist _ | apply List.Sublist.cons_cons | apply List.Sublist.cons)) ?_
        rintro ⟨k, n⟩ u ⟨hk, hd, hn, hlt⟩
        dsimp only at hk hd hn hlt ⊢
        have hn9 : n < 1000 := Nat.lt_of_lt_of_le hlt (by rcases (show k = 0 ∨ k = 1 ∨ k = 2 ∨ k = 3 by omega) with rfl | rfl | rfl | rfl <;> decide)
        (conv => whnf); repeat ((first | refine tk1 ?_ | refine tk2 ?_ | refine tk3 ?_ | refine tk12 (fun _ => ?_) | refine tk4 ?_ | refine tk5 ?_ | refine tk6 ?_ | refine tk7 ?_ | refine tk8 ?_ | refine tk9 ?_ | refine tk10 (fun _ _ => ?_) | refine tk11 (fun _ => ?_)); (conv => whnf))
        refine Cmp.cases (fun c1 => ?_) (fun c1 => ?_)
        · have hk3 : k < 3 := by omega
          have hg := pp_get s h5 k hk3
          have hpl : k < (ppOf s).length := by omega
          have htk : (ppOf s).take (k + 1) = (ppOf s).take k ++ [(ppOf s)[k]] := List.take_succ_eq_append_getElem hpl
          obtain ⟨c, hc⟩ : ∃ c, (ppOf s)[k] = c := ⟨_, rfl⟩
          rw [List.getElem?_eq_getElem hpl, hc] at hg
          rw [hc] at htk
          have hcm : c ∈ ppOf s := by rw [← hc]; exact List.getElem_mem hpl
          have hct := c.toNat_lt
          have fin : ∀ K : Nat → Prop, True := fun _ => trivial
          have nx : wD a c → (∀ c' ∈ (ppOf s).take (k + 1), wD a c') ∧ 10 * n + (c.toNat - 48) = numF 0 ((ppOf s).take (k + 1)) ∧ 10 * n + (c.toNat - 48) < 10 ^ (k + 1) := fun hw => by
            have h57 : c.toNat ≤ 57 := by
              have := hw.1
              unfold digB at this
              simp only [Bool.and_eq_true, decide_eq_true_eq] at this
              omega
            refine ⟨fun c' h' => ?_, ?_, ?_⟩
            · rw [htk] at h'
              rcases List.mem_append.1 h' with h | h
              · exact hd c' h
              · simp at h; subst h; exact hw
            · rw [htk, numF_snoc, ← hn]
            · rw [Nat.pow_succ]; omega
          (conv => whnf); repeat ((first | refine tk1 ?_ | refine tk2 ?_ | refine tk3 ?_ | refine tk12 (fun _ => ?_) | refine tk4 ?_ | refine tk5 ?_ | refine tk6 ?_ | refine tk7 ?_ | refine tk8 ?_ | refine tk9 ?_ | refine tk10 (fun _ _ => ?_) | refine tk11 (fun _ => ?_)); (conv => whnf))
          refine Cmp.cases (fun c2 => ?_) (fun c2 => ?_)
          · have hgs : s[(((k : Nat) : Int) + 2).toNat]? = some c := by
              rw [dif_pos (by omega)] at hg
              rw [show (((k : Nat) : Int) + 2).toNat = k + 2 by omega, List.getElem?_eq_getElem (by omega)]
              exact hg.symm
            (conv => whnf); repeat ((first | refine tk1 ?_ | refine tk2 ?_ | refine tk3 ?_ | refine tk12 (fun _ => ?_) | refine tk4 ?_ | refine tk5 ?_ | refine tk6 ?_ | refine tk7 ?_ | refine tk8 ?_ | refine tk9 ?_ | refine tk10 (fun _ _ => ?_) | refine tk11 (fun _ => ?_)); (conv => whnf))
            refine IdxS.at c hgs (by omega) ?_
            (conv => whnf); repeat ((first | refine tk1 ?_ | refine tk2 ?_ | refine tk3 ?_ | refine tk12 (fun _ => ?_) | refine tk4 ?_ | refine tk5 ?_ | refine tk6 ?_ | refine tk7 ?_ | refine tk8 ?_ | refine tk9 ?_ | refine tk10 (fun _ _ => ?_) | refine tk11 (fun _ => ?_)); (conv => whnf))
            refine Cmp.cases (fun e1 => ?_) (fun e1 => ?_)
            · have hb : ¬ wtB s = true := fun h => by
                have := (w1.1 h c hcm).1
                unfold digB at this
                simp only [Bool.and_eq_true, decide_eq_true_eq] at this
                omega
              rw [bad (by simpa using hb)]
              (conv => whnf); repeat ((first | refine tk1 ?_ | refine tk2 ?_ | refine tk3 ?_ | refine tk12 (fun _ => ?_) | refine tk4 ?_ | refine tk5 ?_ | refine tk6 ?_ | refine tk7 ?_ | refine tk8 ?_ | refine tk9 ?_ | refine tk10 (fun _ _ => ?_) | refine tk11 (fun _ => ?_)); (conv => whnf))
            (conv => whnf); repeat ((first | refine tk1 ?_ | refine tk2 ?_ | refine tk3 ?_ | refine tk12 (fun _ => ?_) | refine tk4 ?_ | refine tk5 ?_ | refine tk6 ?_ | refine tk7 ?_ | refine tk8 ?_ | refine tk9 ?_ | refine tk10 (fun _ _ => ?_) | refine tk11 (fun _ => ?_)); (conv => whnf))
            refine Cmp.cases (fun e2 => ?_) (fun e2 => ?_)
            · have hb : ¬ wtB s = true := fun h => by
                have := (w1.1 h c hcm).1
                unfold digB at this
                simp only [Bool.and_eq_true, decide_eq_true_eq] at this
                omega
              rw [bad (by simpa using hb)]
              (conv => whnf); repeat ((first | refine tk1 ?_ | refine tk2 ?_ | refine tk3 ?_ | refine tk12 (fun _ => ?_) | refine tk4 ?_ | refine tk5 ?_ | refine tk6 ?_ | refine tk7 ?_ | refine tk8 ?_ | refine tk9 ?_ | refine tk10 (fun _ _ => ?_) | refine tk11 (fun _ => ?_)); (conv => whnf))
            have hdc : digB c = true := by
              unfold digB
              simp only [Bool.and_eq_true, decide_eq_true_eq]
              omega
            (conv => whnf); repeat ((first | refine tk1 ?_ | refine tk2 ?_ | refine tk3 ?_ | refine tk12 (fun _ => ?_) | refine tk4 ?_ | refine tk5 ?_ | refine tk6 ?_ | refine tk7 ?_ | refine tk8 ?_ | refine tk9 ?_ | refine tk10 (fun _ _ => ?_) | refine tk11 (fun _ => ?_)); (conv => whnf))
            refine IdxS.at a h0 (by decide) ?_
            (conv => whnf); repeat ((first | refine tk1 ?_ | refine tk2 ?_ | refine tk3 ?_ | refine tk12 (fun _ => ?_) | refine tk4 ?_ | refine tk5 ?_ | refine tk6 ?_ | refine tk7 ?_ | refine tk8 ?_ | refine tk9 ?_ | refine tk10 (fun _ _ => ?_) | refine tk11 (fun _ => ?_)); (conv => whnf))
            refine Cmp.cases (fun e3 => ?_) (fun e3 => ?_)
            · (conv => whnf); repeat ((first | refine tk1 ?_ | refine tk2 ?_ | refine tk3 ?_ | refine tk12 (fun _ => ?_) | refine tk4 ?_ | refine tk5 ?_ | refine tk6 ?_ | refine tk7 ?_ | refine tk8 ?_ | refine tk9 ?_ | refine tk10 (fun _ _ => ?_) | refine tk11 (fun _ => ?_)); (conv => whnf))
              refine Cmp.cases (fun e4 => ?_) (fun e4 => ?_)
              · have hb : ¬ wtB s = true := fun h => by
                  have := (w1.1 h c hcm).2 (h49.1 e3)
                  subst this
                  exact e4 rfl
                rw [bad (by simpa using hb)]
                (conv => whnf); repeat ((first | refine tk1 ?_ | refine tk2 ?_ | refine tk3 ?_ | refine tk12 (fun _ => ?_) | refine tk4 ?_ | refine tk5 ?_ | refine tk6 ?_ | refine tk7 ?_ | refine tk8 ?_ | refine tk9 ?_ | refine tk10 (fun _ _ => ?_) | refine tk11 (fun _ => ?_)); (conv => whnf))
              · obtain ⟨n1, n2, n3⟩ := nx ⟨hdc, fun _ => UInt8.toNat_inj.1 (by show c.toNat = 48; omega)⟩
                (conv => whnf); repeat ((first | refine tk1 ?_ | refine tk2 ?_ | refine tk3 ?_ | refine tk12 (fun _ => ?_) | refine tk4 ?_ | refine tk5 ?_ | refine tk6 ?_ | refine tk7 ?_ | refine tk8 ?_ | refine tk9 ?_ | refine tk10 (fun _ _ => ?_) | refine tk11 (fun _ => ?_)); (conv => whnf))
                exact ⟨(k + 1, 10 * n + (c.toNat - 48)), ⟨by dsimp only; omega, n1, n2, n3⟩, (by dsimp only; rw [show (10 : Int) * (n : Nat) + ((c.toNat : Int) - 48) = ((10 * n + (c.toNat - 48) : Nat) : Int) by omega, show (((k : Nat) : Int) + 2 + 1) = (((k + 1 : Nat) : Nat) : Int) + 2 by omega]; rfl), (by repeat' (first | exact List.Sublist.refl _ | exact List.nil_sublist _ | apply List.Sublist.cons_cons | apply List.Sublist.cons)), by dsimp only; omega⟩
            · obtain ⟨n1, n2, n3⟩ := nx ⟨hdc, fun h => absurd (h49.2 h) e3⟩
              (conv => whnf); repeat ((first | refine tk1 ?_ | refine tk2 ?_ | refine tk3 ?_ | refine tk12 (fun _ => ?_) | refine tk4 ?_ | refine tk5 ?_ | refine tk6 ?_ | refine tk7 ?_ | refine tk8 ?_ | refine tk9 ?_ | refine tk10 (fun _ _ => ?_) | refine tk11 (fun _ => ?_)); (conv => whnf))
              exact ⟨(k + 1, 10 * n + (c.toNat - 48)), ⟨by dsimp only; omega, n1, n2, n3⟩, (by dsimp only; rw [show (10 : Int) * (n : Nat) + ((c.toNat : Int) - 48) = ((10 * n + (c.toNat - 48) : Nat) : Int) by omega, show (((k : Nat) : Int) + 2 + 1) = (((k + 1 : Nat) : Nat) : Int) + 2 by omega]; rfl), (by repeat' (first | exact List.Sublist.refl _ | exact List.nil_sublist _ | apply List.Sublist.cons_cons | apply List.Sublist.cons)), by dsimp only; omega⟩
          · have hc48 : c = 48 := by
              rw [dif_neg (by omega)] at hg
              exact Option.some.inj hg
            subst hc48
            (conv => whnf); repeat ((first | refine tk1 ?_ | refine tk2 ?_ | refine tk3 ?_ | refine tk12 (fun _ => ?_) | refine tk4 ?_ | refine tk5 ?_ | refine tk6 ?_ | refine tk7 ?_ | refine tk8 ?_ | refine tk9 ?_ | refine tk10 (fun _ _ => ?_) | refine tk11 (fun _ => ?_)); (conv => whnf))
            refine IdxS.at a h0 (by decide) ?_
            (conv => whnf); repeat ((first | refine tk1 ?_ | refine tk2 ?_ | refine tk3 ?_ | refine tk12 (fun _ => ?_) | refine tk4 ?_ | refine tk5 ?_ | refine tk6 ?_ | refine tk7 ?_ | refine tk8 ?_ | refine tk9 ?_ | refine tk10 (fun _ _ => ?_) | refine tk11 (fun _ => ?_)); (conv => whnf))
            obtain ⟨n1, n2, n3⟩ := nx ⟨by decide, fun _ => rfl⟩
            refine Cmp.cases (fun e3 => ?_) (fun e3 => ?_)
            · (conv => whnf); repeat ((first | refine tk1 ?_ | refine tk2 ?_ | refine tk3 ?_ | refine tk12 (fun _ => ?_) | refine tk4 ?_ | refine tk5 ?_ | refine tk6 ?_ | refine tk7 ?_ | refine tk8 ?_ | refine tk9 ?_ | refine tk10 (fun _ _ => ?_) | refine tk11 (fun _ => ?_)); (conv => whnf))
              exact ⟨(k + 1, 10 * n), ⟨by dsimp only; omega, n1, n2, n3⟩, (by dsimp only; rw [show (10 : Int) * (n : Nat) + 0 = ((10 * n : Nat) : Int) by omega, show (((k : Nat) : Int) + 2 + 1) = (((k + 1 : Nat) : Nat) : Int) + 2 by omega]; rfl), (by repeat' (first | exact List.Sublist.refl _ | exact List.nil_sublist _ | apply List.Sublist.cons_cons | apply List.Sublist.cons)), by dsimp only; omega⟩
            · (conv => whnf); repeat ((first | refine tk1 ?_ | refine tk2 ?_ | refine tk3 ?_ | refine tk12 (fun _ => ?_) | refine tk4 ?_ | refine tk5 ?_ | refine tk6 ?_ | refine tk7 ?_ | refine tk8 ?_ | refine tk9 ?_ | refine tk10 (fun _ _ => ?_) | refine tk11 (fun _ => ?_)); (conv => whnf))
              exact ⟨(k + 1, 10 * n), ⟨by dsimp only; omega, n1, n2, n3⟩, (by dsimp only; rw [show (10 : Int) * (n : Nat) + 0 = ((10 * n : Nat) : Int) by omega, show (((k : Nat) : Int) + 2 + 1) = (((k + 1 : Nat) : Nat) : Int) + 2 by omega]; rfl), (by repeat' (first | exact List.Sublist.refl _ | exact List.nil_sublist _ | apply List.Sublist.cons_cons | apply List.Sublist.cons)), by dsimp only; omega⟩
        · have hk3 : k = 3 := by omega
          subst hk3
          rw [List.take_of_length_le (by omega)] at hd hn
          have hw := w1.2 hd
          have hI := w2 hd
          rw [hw]
          (conv => whnf); repeat ((first | refine tk1 ?_ | refine tk2 ?_ | refine tk3 ?_ | refine tk12 (fun _ => ?_) | refine tk4 ?_ | refine tk5 ?_ | refine tk6 ?_ | refine tk7 ?_ | refine tk8 ?_ | refine tk9 ?_ | refine tk10 (fun _ _ => ?_) | refine tk11 (fun _ => ?_)); (conv => whnf))
          refine IdxS.at a h0 (by decide) ?_
          (conv => whnf); repeat ((first | refine tk1 ?_ | refine tk2 ?_ | refine tk3 ?_ | refine tk12 (fun _ => ?_) | refine tk4 ?_ | refine tk5 ?_ | refine tk6 ?_ | refine tk7 ?_ | refine tk8 ?_ | refine tk9 ?_ | refine tk10 (fun _ _ => ?_) | refine tk11 (fun _ => ?_)); (conv => whnf))
          refine Cmp.cases (fun c3 => ?_) (fun c3 => ?_)
          · have e : wtI s = 1000 := by
              have := (wt_one hw)
              obtain ⟨a', t', hs2, _, _, _, h⟩ := this
              rw [hat] at hs2
              obtain ⟨rfl, rfl⟩ := List.cons.inj hs2
              exact h.1 (h49.1 c3)
            (conv => whnf); repeat ((first | refine tk1 ?_ | refine tk2 ?_ | refine tk3 ?_ | refine tk12 (fun _ => ?_) | refine tk4 ?_ | refine tk5 ?_ | refine tk6 ?_ | refine tk7 ?_ | refine tk8 ?_ | refine tk9 ?_ | refine tk10 (fun _ _ => ?_) | refine tk11 (fun _ => ?_)); (conv => whnf))
            rw [e]; rfl
          · have ha8 : a = 48 := ha.resolve_right (fun h => c3 (h49.2 h))
            have e : wtI s = (n : Nat) := by rw [hI, ha8, hn]; rfl
            (conv => whnf); repeat ((first | refine tk1 ?_ | refine tk2 ?_ | refine tk3 ?_ | refine tk12 (fun _ => ?_) | refine tk4 ?_ | refine tk5 ?_ | refine tk6 ?_ | refine tk7 ?_ | refine tk8 ?_ | refine tk9 ?_ | refine tk10 (fun _ _ => ?_) | refine tk11 (fun _ => ?_)); (conv => whnf))
            rw [e]; rfl
  · have ha : a = 48 ∨ a = 49 := .inl (h48.1 (by omega))
    (conv => whnf); repeat ((first | refine tk1 ?_ | refine tk2 ?_ | refine tk3 ?_ | refine tk12 (fun _ => ?_) | refine tk4 ?_ | refine tk5 ?_ | refine tk6 ?_ | refine tk7 ?_ | refine tk8 ?_ | refine tk9 ?_ | refine tk10 (fun _ _ => ?_) | refine tk11 (fun _ => ?_)); (conv => whnf))
    clear q3
    refine Cmp.cases (fun r1 => ?_) (fun r1 => ?_)
    · obtain ⟨b, p, hbp⟩ := List.exists_cons_of_ne_nil (show t ≠ [] from fun e => by rw [hat, e] at r1; simp at r1)
      have hg1 : s[(1 : Int).toNat]? = some b := by rw [hat, hbp]; rfl
      have hb2 := b.toNat_lt
      (conv => whnf); repeat ((first | refine tk1 ?_ | refine tk2 ?_ | refine tk3 ?_ | refine tk12 (fun _ => ?_) | refine tk4 ?_ | refine tk5 ?_ | refine tk6 ?_ | refine tk7 ?_ | refine tk8 ?_ | refine tk9 ?_ | refine tk10 (fun _ _ => ?_) | refine tk11 (fun _ => ?_)); (conv => whnf))
      refine IdxS.at b hg1 (by decide) ?_
      (conv => whnf); repeat ((first | refine tk1 ?_ | refine tk2 ?_ | refine tk3 ?_ | refine tk12 (fun _ => ?_) | refine tk4 ?_ | refine tk5 ?_ | refine tk6 ?_ | refine tk7 ?_ | refine tk8 ?_ | refine tk9 ?_ | refine tk10 (fun _ _ => ?_) | refine tk11 (fun _ => ?_)); (conv => whnf))
      refine Cmp.cases (fun r2 => ?_) (fun r2 => ?_)
      · have h9 : ¬ wtB s = true := fun h => by
          rcases ft h with h | ⟨p2, h⟩
          · rw [hbp] at h; cases h
          · rw [hbp] at h
            exact r2 (by rw [(List.cons.inj h).1]; rfl)
        rw [bad (by simpa using h9)]
        (conv => whnf); repeat ((first | refine tk1 ?_ | refine tk2 ?_ | refine tk3 ?_ | refine tk12 (fun _ => ?_) | refine tk4 ?_ | refine tk5 ?_ | refine tk6 ?_ | refine tk7 ?_ | refine tk8 ?_ | refine tk9 ?_ | refine tk10 (fun _ _ => ?_) | refine tk11 (fun _ => ?_)); (conv => whnf))
      · have hb46 : b = 46 := UInt8.toNat_inj.1 (by show b.toNat = 46; omega)
        have ht : t = [] ∨ ∃ p, t = 46 :: p := .inr ⟨p, by rw [hbp, hb46]⟩
        (conv => whnf); repeat ((first | refine tk1 ?_ | refine tk2 ?_ | refine tk3 ?_ | refine tk12 (fun _ => ?_) | refine tk4 ?_ | refine tk5 ?_ | refine tk6 ?_ | refine tk7 ?_ | refine tk8 ?_ | refine tk9 ?_ | refine tk10 (fun _ _ => ?_) | refine tk11 (fun _ => ?_)); (conv => whnf))
        clear r1 r2 hb2
        have h5 : s.length ≤ 5 := by omega
        obtain ⟨w1, w2, w3⟩ := wt_all a t hat ha ht h5
        refine LoopS.lp tys_ok (fun (x : Nat × Nat) u => [str s, u 1, u 2, u 3, .int .i64 (x.2 : Nat), .int .i64 ((x.1 : Nat) + 2), u 6, u 7, u 8, u 9, u 10, u 11, u 12, u 13, u 14, u 15, u 16, u 17, u 18, u 19, u 20, u 21, u 22, u 23, u 24, u 25, u 26, u 27, u 28, u 29, u 30, u 31, u 32, u 33, u 34, u 35, u 36, u 37, u 38, u 39, u 40, u 41, u 42, u 43, u 44, u 45, u 46, u 47, u 48, u 49, u 50, u 51, u 52, u 53, u 54, u 55, u 56, u 57, u 58, u 59, u 60, u 61, u 62, u 63, u 64, u 65, u 66, u 67, u 68, u 69, u 70]) (fun _ => [])
          (fun x => x.1 ≤ 3 ∧ (∀ c ∈ (ppOf s).take x.1, wD a c) ∧ x.2 = numF 0 ((ppOf s).take x.1) ∧ x.2 < 10 ^ x.1) (fun x => 3 - x.1) (0, 0) ⟨by decide, by simp, rfl, by decide⟩ rfl (by repeat' (first | exact List.Sublist.refl _ | exact List.nil_sublist _ | apply List.Sublist.cons_cons | apply List.Sublist.cons)) ?_
        rintro ⟨k, n⟩ u ⟨hk, hd, hn, hlt⟩
        dsimp only at hk hd hn hlt ⊢
        have hn9 : n < 1000 := Nat.lt_of_lt_of_le hlt (by rcases (show k = 0 ∨ k = 1 ∨ k = 2 ∨ k = 3 by omega) with rfl | rfl | rfl | rfl <;> decide)
        (conv => whnf); repeat ((first | refine tk1 ?_ | refine tk2 ?_ | refine tk3 ?_ | refine tk12 (fun _ => ?_) | refine tk4 ?_ | refine tk5 ?_ | refine tk6 ?_ | refine tk7 ?_ | refine tk8 ?_ | refine tk9 ?_ | refine tk10 (fun _ _ => ?_) | refine tk11 (fun _ => ?_)); (conv => whnf))
        refine Cmp.cases (fun c1 => ?_) (fun c1 => ?_)
        · have hk3 : k < 3 := by omega
          have hg := pp_get s h5 k hk3
          have hpl : k < (ppOf s).length := by omega
          have htk : (ppOf s).take (k + 1) = (ppOf s).take k ++ [(ppOf s)[k]] := List.take_succ_eq_append_getElem hpl
          obtain ⟨c, hc⟩ : ∃ c, (ppOf s)[k] = c := ⟨_, rfl⟩
          rw [List.getElem?_eq_getElem hpl, hc] at hg
          rw [hc] at htk
          have hcm : c ∈ ppOf s := by rw [← hc]; exact List.getElem_mem hpl
          have hct := c.toNat_lt
          have fin : ∀ K : Nat → Prop, True := fun _ => trivial
          have nx : wD a c → (∀ c' ∈ (ppOf s).take (k + 1), wD a c') ∧ 10 * n + (c.toNat - 48) = numF 0 ((ppOf s).take (k + 1)) ∧ 10 * n + (c.toNat - 48) < 10 ^ (k + 1) := fun hw => by
            have h57 : c.toNat ≤ 57 := by
              have := hw.1
              unfold digB at this
              simp only [Bool.and_eq_true, decide_eq_true_eq] at this
              omega
            refine ⟨fun c' h' => ?_, ?_, ?_⟩
            · rw [htk] at h'
              rcases List.mem_append.1 h' with h | h
              · exact hd c' h
              · simp at h; subst h; exact hw
            · rw [htk, numF_snoc, ← hn]
            · rw [Nat.pow_succ]; omega
          (conv => whnf); repeat ((first | refine tk1 ?_ | refine tk2 ?_ | refine tk3 ?_ | refine tk12 (fun _ => ?_) | refine tk4 ?_ | refine tk5 ?_ | refine tk6 ?_ | refine tk7 ?_ | refine tk8 ?_ | refine tk9 ?_ | refine tk10 (fun _ _ => ?_) | refine tk11 (fun _ => ?_)); (conv => whnf))
          refine Cmp.cases (fun c2 => ?_) (fun c2 => ?_)
          · have hgs : s[(((k : Nat) : Int) + 2).toNat]? = some c := by
              rw [dif_pos (by omega)] at hg
              rw [show (((k : Nat) : Int) + 2).toNat = k + 2 by omega, List.getElem?_eq_getElem (by omega)]
              exact hg.symm
            (conv => whnf); repeat ((first | refine tk1 ?_ | refine tk2 ?_ | refine tk3 ?_ | refine tk12 (fun _ => ?_) | refine tk4 ?_ | refine tk5 ?_ | refine tk6 ?_ | refine tk7 ?_ | refine tk8 ?_ | refine tk9 ?_ | refine tk10 (fun _ _ => ?_) | refine tk11 (fun _ => ?_)); (conv => whnf))
            refine IdxS.at c hgs (by omega) ?_
            (conv => whnf); repeat ((first | refine tk1 ?_ | refine tk2 ?_ | refine tk3 ?_ | refine tk12 (fun _ => ?_) | refine tk4 ?_ | refine tk5 ?_ | refine tk6 ?_ | refine tk7 ?_ | refine tk8 ?_ | refine tk9 ?_ | refine tk10 (fun _ _ => ?_) | refine tk11 (fun _ => ?_)); (conv => whnf))
            refine Cmp.cases (fun e1 => ?_) (fun e1 => ?_)
            · have hb : ¬ wtB s = true := fun h => by
                have := (w1.1 h c hcm).1
                unfold digB at this
                simp only [Bool.and_eq_true, decide_eq_true_eq] at this
                omega
              rw [bad (by simpa using hb)]
              (conv => whnf); repeat ((first | refine tk1 ?_ | refine tk2 ?_ | refine tk3 ?_ | refine tk12 (fun _ => ?_) | refine tk4 ?_ | refine tk5 ?_ | refine tk6 ?_ | refine tk7 ?_ | refine tk8 ?_ | refine tk9 ?_ | refine tk10 (fun _ _ => ?_) | refine tk11 (fun _ => ?_)); (conv => whnf))
            (conv => whnf); repeat ((first | refine tk1 ?_ | refine tk2 ?_ | refine tk3 ?_ | refine tk12 (fun _ => ?_) | refine tk4 ?_ | refine tk5 ?_ | refine tk6 ?_ | refine tk7 ?_ | refine tk8 ?_ | refine tk9 ?_ | refine tk10 (fun _ _ => ?_) | refine tk11 (fun _ => ?_)); (conv => whnf))
            refine Cmp.cases (fun e2 => ?_) (fun e2 => ?_)
            · have hb : ¬ wtB s = true := fun h => by
                have := (w1.1 h c hcm).1
                unfold digB at this
                simp only [Bool.and_eq_true, decide_eq_true_eq] at this
                omega
              rw [bad (by simpa using hb)]
              (conv => whnf); repeat ((first | refine tk1 ?_ | refine tk2 ?_ | refine tk3 ?_ | refine tk12 (fun _ => ?_) | refine tk4 ?_ | refine tk5 ?_ | refine tk6 ?_ | refine tk7 ?_ | refine tk8 ?_ | refine tk9 ?_ | refine tk10 (fun _ _ => ?_) | refine tk11 (fun _ => ?_)); (conv => whnf))
            have hdc : digB c = true := by
              unfold digB
              simp only [Bool.and_eq_true, decide_eq_true_eq]
              omega
            (conv => whnf); repeat ((first | refine tk1 ?_ | refine tk2 ?_ | refine tk3 ?_ | refine tk12 (fun _ => ?_) | refine tk4 ?_ | refine tk5 ?_ | refine tk6 ?_ | refine tk7 ?_ | refine tk8 ?_ | refine tk9 ?_ | refine tk10 (fun _ _ => ?_) | refine tk11 (fun _ => ?_)); (conv => whnf))
            refine IdxS.at a h0 (by decide) ?_
            (conv => whnf); repeat ((first | refine tk1 ?_ | refine tk2 ?_ | refine tk3 ?_ | refine tk12 (fun _ => ?_) | refine tk4 ?_ | refine tk5 ?_ | refine tk6 ?_ | refine tk7 ?_ | refine tk8 ?_ | refine tk9 ?_ | refine tk10 (fun _ _ => ?_) | refine tk11 (fun _ => ?_)); (conv => whnf))
            refine Cmp.cases (fun e3 => ?_) (fun e3 => ?_)
            · (conv => whnf); repeat ((first | refine tk1 ?_ | refine tk2 ?_ | refine tk3 ?_ | refine tk12 (fun _ => ?_) | refine tk4 ?_ | refine tk5 ?_ | refine tk6 ?_ | refine tk7 ?_ | refine tk8 ?_ | refine tk9 ?_ | refine tk10 (fun _ _ => ?_) | refine tk11 (fun _ => ?_)); (conv => whnf))
              refine Cmp.cases (fun e4 => ?_) (fun e4 => ?_)
              · have hb : ¬ wtB s = true := fun h => by
                  have := (w1.1 h c hcm).2 (h49.1 e3)
                  subst this
                  exact e4 rfl
                rw [bad (by simpa using hb)]
                (conv => whnf); repeat ((first | refine tk1 ?_ | refine tk2 ?_ | refine tk3 ?_ | refine tk12 (fun _ => ?_) | refine tk4 ?_ | refine tk5 ?_ | refine tk6 ?_ | refine tk7 ?_ | refine tk8 ?_ | refine tk9 ?_ | refine tk10 (fun _ _ => ?_) | refine tk11 (fun _ => ?_)); (conv => whnf))
              · obtain ⟨n1, n2, n3⟩ := nx ⟨hdc, fun _ => UInt8.toNat_inj.1 (by show c.toNat = 48; omega)⟩
                (conv => whnf); repeat ((first | refine tk1 ?_ | refine tk2 ?_ | refine tk3 ?_ | refine tk12 (fun _ => ?_) | refine tk4 ?_ | refine tk5 ?_ | refine tk6 ?_ | refine tk7 ?_ | refine tk8 ?_ | refine tk9 ?_ | refine tk10 (fun _ _ => ?_) | refine tk11 (fun _ => ?_)); (conv => whnf))
                exact ⟨(k + 1, 10 * n + (c.toNat - 48)), ⟨by dsimp only; omega, n1, n2, n3⟩, (by dsimp only; rw [show (10 : Int) * (n : Nat) + ((c.toNat : Int) - 48) = ((10 * n + (c.toNat - 48) : Nat) : Int) by omega, show (((k : Nat) : Int) + 2 + 1) = (((k + 1 : Nat) : Nat) : Int) + 2 by omega]; rfl), (by repeat' (first | exact List.Sublist.refl _ | exact List.nil_sublist _ | apply List.Sublist.cons_cons | apply List.Sublist.cons)), by dsimp only; omega⟩
            · obtain ⟨n1, n2, n3⟩ := nx ⟨hdc, fun h => absurd (h49.2 h) e3⟩
              (conv => whnf); repeat ((first | refine tk1 ?_ | refine tk2 ?_ | refine tk3 ?_ | refine tk12 (fun _ => ?_) | refine tk4 ?_ | refine tk5 ?_ | refine tk6 ?_ | refine tk7 ?_ | refine tk8 ?_ | refine tk9 ?_ | refine tk10 (fun _ _ => ?_) | refine tk11 (fun _ => ?_)); (conv => whnf))
              exact ⟨(k + 1, 10 * n + (c.toNat - 48)), ⟨by dsimp only; omega, n1, n2, n3⟩, (by dsimp only; rw [show (10 : Int) * (n : Nat) + ((c.toNat : Int) - 48) = ((10 * n + (c.toNat - 48) : Nat) : Int) by omega, show (((k : Nat) : Int) + 2 + 1) = (((k + 1 : Nat) : Nat) : Int) + 2 by omega]; rfl), (by repeat' (first | exact List.Sublist.refl _ | exact List.nil_sublist _ | apply List.Sublist.cons_cons | apply List.Sublist.cons)), by dsimp only; omega⟩
          · have hc48 : c = 48 := by
              rw [dif_neg (by omega)] at hg
              exact Option.some.inj hg
            subst hc48
            (conv => whnf); repeat ((first | refine tk1 ?_ | refine tk2 ?_ | refine tk3 ?_ | refine tk12 (fun _ => ?_) | refine tk4 ?_ | refine tk5 ?_ | refine tk6 ?_ | refine tk7 ?_ | refine tk8 ?_ | refine tk9 ?_ | refine tk10 (fun _ _ => ?_) | refine tk11 (fun _ => ?_)); (conv => whnf))
            refine IdxS.at a h0 (by decide) ?_
            (conv => whnf); repeat ((first | refine tk1 ?_ | refine tk2 ?_ | refine tk3 ?_ | refine tk12 (fun _ => ?_) | refine tk4 ?_ | refine tk5 ?_ | refine tk6 ?_ | refine tk7 ?_ | refine tk8 ?_ | refine tk9 ?_ | refine tk10 (fun _ _ => ?_) | refine tk11 (fun _ => ?_)); (conv => whnf))
            obtain ⟨n1, n2, n3⟩ := nx ⟨by decide, fun _ => rfl⟩
            refine Cmp.cases (fun e3 => ?_) (fun e3 => ?_)
            · (conv => whnf); repeat ((first | refine tk1 ?_ | refine tk2 ?_ | refine tk3 ?_ | refine tk12 (fun _ => ?_) | refine tk4 ?_ | refine tk5 ?_ | refine tk6 ?_ | refine tk7 ?_ | refine tk8 ?_ | refine tk9 ?_ | refine tk10 (fun _ _ => ?_) | refine tk11 (fun _ => ?_)); (conv => whnf))
              exact ⟨(k + 1, 10 * n), ⟨by dsimp only; omega, n1, n2, n3⟩, (by dsimp only; rw [show (10 : Int) * (n : Nat) + 0 = ((10 * n : Nat) : Int) by omega, show (((k : Nat) : Int) + 2 + 1) = (((k + 1 : Nat) : Nat) : Int) + 2 by omega]; rfl), (by repeat' (first | exact List.Sublist.refl _ | exact List.nil_sublist _ | apply List.Sublist.cons_cons | apply List.Sublist.cons)), by dsimp only; omega⟩
            · (conv => whnf); repeat ((first | refine tk1 ?_ | refine tk2 ?_ | refine tk3 ?_ | refine tk12 (fun _ => ?_) | refine tk4 ?_ | refine tk5 ?_ | refine tk6 ?_ | refine tk7 ?_ | refine tk8 ?_ | refine tk9 ?_ | refine tk10 (fun _ _ => ?_) | refine tk11 (fun _ => ?_)); (conv => whnf))
              exact ⟨(k + 1, 10 * n), ⟨by dsimp only; omega, n1, n2, n3⟩, (by dsimp only; rw [show (10 : Int) * (n : Nat) + 0 = ((10 * n : Nat) : Int) by omega, show (((k : Nat) : Int) + 2 + 1) = (((k + 1 : Nat) : Nat) : Int) + 2 by omega]; rfl), (by repeat' (first | exact List.Sublist.refl _ | exact List.nil_sublist _ | apply List.Sublist.cons_cons | apply List.Sublist.cons)), by dsimp only; omega⟩
        · have hk3 : k = 3 := by omega
          subst hk3
          rw [List.take_of_length_le (by omega)] at hd hn
          have hw := w1.2 hd
          have hI := w2 hd
          rw [hw]
          (conv => whnf); repeat ((first | refine tk1 ?_ | refine tk2 ?_ | refine tk3 ?_ | refine tk12 (fun _ => ?_) | refine tk4 ?_ | refine tk5 ?_ | refine tk6 ?_ | refine tk7 ?_ | refine tk8 ?_ | refine tk9 ?_ | refine tk10 (fun _ _ => ?_) | refine tk11 (fun _ => ?_)); (conv => whnf))
          refine IdxS.at a h0 (by decide) ?_
          (conv => whnf); repeat ((first | refine tk1 ?_ | refine tk2 ?_ | refine tk3 ?_ | refine tk12 (fun _ => ?_) | refine tk4 ?_ | refine tk5 ?_ | refine tk6 ?_ | refine tk7 ?_ | refine tk8 ?_ | refine tk9 ?_ | refine tk10 (fun _ _ => ?_) | refine tk11 (fun _ => ?_)); (conv => whnf))
          refine Cmp.cases (fun c3 => ?_) (fun c3 => ?_)
          · have e : wtI s = 1000 := by
              have := (wt_one hw)
              obtain ⟨a', t', hs2, _, _, _, h⟩ := this
              rw [hat] at hs2
              obtain ⟨rfl, rfl⟩ := List.cons.inj hs2
              exact h.1 (h49.1 c3)
            (conv => whnf); repeat ((first | refine tk1 ?_ | refine tk2 ?_ | refine tk3 ?_ | refine tk12 (fun _ => ?_) | refine tk4 ?_ | refine tk5 ?_ | refine tk6 ?_ | refine tk7 ?_ | refine tk8 ?_ | refine tk9 ?_ | refine tk10 (fun _ _ => ?_) | refine tk11 (fun _ => ?_)); (conv => whnf))
            rw [e]; rfl
          · have ha8 : a = 48 := ha.resolve_right (fun h => c3 (h49.2 h))
            have e : wtI s = (n : Nat) := by rw [hI, ha8, hn]; rfl
            (conv => whnf); repeat ((first | refine tk1 ?_ | refine tk2 ?_ | refine tk3 ?_ | refine tk12 (fun _ => ?_) | refine tk4 ?_ | refine tk5 ?_ | refine tk6 ?_ | refine tk7 ?_ | refine tk8 ?_ | refine tk9 ?_ | refine tk10 (fun _ _ => ?_) | refine tk11 (fun _ => ?_)); (conv => whnf))
            rw [e]; rfl
    · have ht : t = [] ∨ ∃ p, t = 46 :: p := .inl (List.eq_nil_of_length_eq_zero (by rw [hat, List.length_cons] at r1; omega))
      (conv => whnf); repeat ((first | refine tk1 ?_ | refine tk2 ?_ | refine tk3 ?_ | refine tk12 (fun _ => ?_) | refine tk4 ?_ | refine tk5 ?_ | refine tk6 ?_ | refine tk7 ?_ | refine tk8 ?_ | refine tk9 ?_ | refine tk10 (fun _ _ => ?_) | refine tk11 (fun _ => ?_)); (conv => whnf))
      clear r1
      have h5 : s.length ≤ 5 := by omega
      obtain ⟨w1, w2, w3⟩ := wt_all a t hat ha ht h5
      refine LoopS.lp tys_ok (fun (x : Nat × Nat) u => [str s, u 1, u 2, u 3, .int .i64 (x.2 : Nat), .int .i64 ((x.1 : Nat) + 2), u 6, u 7, u 8, u 9, u 10, u 11, u 12, u 13, u 14, u 15, u 16, u 17, u 18, u 19, u 20, u 21, u 22, u 23, u 24, u 25, u 26, u 27, u 28, u 29, u 30, u 31, u 32, u 33, u 34, u 35, u 36, u 37, u 38, u 39, u 40, u 41, u 42, u 43, u 44, u 45, u 46, u 47, u 48, u 49, u 50, u 51, u 52, u 53, u 54, u 55, u 56, u 57, u 58, u 59, u 60, u 61, u 62, u 63, u 64, u 65, u 66, u 67, u 68, u 69, u 70]) (fun _ => [])
        (fun x => x.1 ≤ 3 ∧ (∀ c ∈ (ppOf s).take x.1, wD a c) ∧ x.2 = numF 0 ((ppOf s).take x.1) ∧ x.2 < 10 ^ x.1) (fun x => 3 - x.1) (0, 0) ⟨by decide, by simp, rfl, by decide⟩ rfl (by repeat' (first | exact List.Sublist.refl _ | exact List.nil_sublist _ | apply List.Sublist.cons_cons | apply List.Sublist.cons)) ?_
      rintro ⟨k, n⟩ u ⟨hk, hd, hn, hlt⟩
      dsimp only at hk hd hn hlt ⊢
      have hn9 : n < 1000 := Nat.lt_of_lt_of_le hlt (by rcases (show k = 0 ∨ k = 1 ∨ k = 2 ∨ k = 3 by omega) with rfl | rfl | rfl | rfl <;> decide)
      (conv => whnf); repeat ((first | refine tk1 ?_ | refine tk2 ?_ | refine tk3 ?_ | refine tk12 (fun _ => ?_) | refine tk4 ?_ | refine tk5 ?_ | refine tk6 ?_ | refine tk7 ?_ | refine tk8 ?_ | refine tk9 ?_ | refine tk10 (fun _ _ => ?_) | refine tk11 (fun _ => ?_)); (conv => whnf))
      refine Cmp.cases (fun c1 => ?_) (fun c1 => ?_)
      · have hk3 : k < 3 := by omega
        have hg := pp_get s h5 k hk3
        have hpl : k < (ppOf s).length := by omega
        have htk : (ppOf s).take (k + 1) = (ppOf s).take k ++ [(ppOf s)[k]] := List.take_succ_eq_append_getElem hpl
        obtain ⟨c, hc⟩ : ∃ c, (ppOf s)[k] = c := ⟨_, rfl⟩
        rw [List.getElem?_eq_getElem hpl, hc] at hg
        rw [hc] at htk
        have hcm : c ∈ ppOf s := by rw [← hc]; exact List.getElem_mem hpl
        have hct := c.toNat_lt
        have fin : ∀ K : Nat → Prop, True := fun _ => trivial
        have nx : wD a c → (∀ c' ∈ (ppOf s).take (k + 1), wD a c') ∧ 10 * n + (c.toNat - 48) = numF 0 ((ppOf s).take (k + 1)) ∧ 10 * n + (c.toNat - 48) < 10 ^ (k + 1) := fun hw => by
          have h57 : c.toNat ≤ 57 := by
            have := hw.1
            unfold digB at this
            simp only [Bool.and_eq_true, decide_eq_true_eq] at this
            omega
          refine ⟨fun c' h' => ?_, ?_, ?_⟩
          · rw [htk] at h'
            rcases List.mem_append.1 h' with h | h
            · exact hd c' h
            · simp at h; subst h; exact hw
          · rw [htk, numF_snoc, ← hn]
          · rw [Nat.pow_succ]; omega
        (conv => whnf); repeat ((first | refine tk1 ?_ | refine tk2 ?_ | refine tk3 ?_ | refine tk12 (fun _ => ?_) | refine tk4 ?_ | refine tk5 ?_ | refine tk6 ?_ | refine tk7 ?_ | refine tk8 ?_ | refine tk9 ?_ | refine tk10 (fun _ _ => ?_) | refine tk11 (fun _ => ?_)); (conv => whnf))
        refine Cmp.cases (fun c2 => ?_) (fun c2 => ?_)
        · have hgs : s[(((k : Nat) : Int) + 2).toNat]? = some c := by
            rw [dif_pos (by omega)] at hg
            rw [show (((k : Nat) : Int) + 2).toNat = k + 2 by omega, List.getElem?_eq_getElem (by omega)]
            exact hg.symm
          (conv => whnf); repeat ((first | refine tk1 ?_ | refine tk2 ?_ | refine tk3 ?_ | refine tk12 (fun _ => ?_) | refine tk4 ?_ | refine tk5 ?_ | refine tk6 ?_ | refine tk7 ?_ | refine tk8 ?_ | refine tk9 ?_ | refine tk10 (fun _ _ => ?_) | refine tk11 (fun _ => ?_)); (conv => whnf))
          refine IdxS.at c hgs (by omega) ?_
          (conv => whnf); repeat ((first | refine tk1 ?_ | refine tk2 ?_ | refine tk3 ?_ | refine tk12 (fun _ => ?_) | refine tk4 ?_ | refine tk5 ?_ | refine tk6 ?_ | refine tk7 ?_ | refine tk8 ?_ | refine tk9 ?_ | refine tk10 (fun _ _ => ?_) | refine tk11 (fun _ => ?_)); (conv => whnf))
          refine Cmp.cases (fun e1 => ?_) (fun e1 => ?_)
          · have hb : ¬ wtB s = true := fun h => by
              have := (w1.1 h c hcm).1
              unfold digB at this
              simp only [Bool.and_eq_true, decide_eq_true_eq] at this
              omega
            rw [bad (by simpa using hb)]
            (conv => whnf); repeat ((first | refine tk1 ?_ | refine tk2 ?_ | refine tk3 ?_ | refine tk12 (fun _ => ?_) | refine tk4 ?_ | refine tk5 ?_ | refine tk6 ?_ | refine tk7 ?_ | refine tk8 ?_ | refine tk9 ?_ | refine tk10 (fun _ _ => ?_) | refine tk11 (fun _ => ?_)); (conv => whnf))
          (conv => whnf); repeat ((first | refine tk1 ?_ | refine tk2 ?_ | refine tk3 ?_ | refine tk12 (fun _ => ?_) | refine tk4 ?_ | refine tk5 ?_ | refine tk6 ?_ | refine tk7 ?_ | refine tk8 ?_ | refine tk9 ?_ | refine tk10 (fun _ _ => ?_) | refine tk11 (fun _ => ?_)); (conv => whnf))
          refine Cmp.cases (fun e2 => ?_) (fun e2 => ?_)
          · have hb : ¬ wtB s = true := fun h => by
              have := (w1.1 h c hcm).1
              unfold digB at this
              simp only [Bool.and_eq_true, decide_eq_true_eq] at this
              omega
            rw [bad (by simpa using hb)]
            (conv => whnf); repeat ((first | refine tk1 ?_ | refine tk2 ?_ | refine tk3 ?_ | refine tk12 (fun _ => ?_) | refine tk4 ?_ | refine tk5 ?_ | refine tk6 ?_ | refine tk7 ?_ | refine tk8 ?_ | refine tk9 ?_ | refine tk10 (fun _ _ => ?_) | refine tk11 (fun _ => ?_)); (conv => whnf))
          have hdc : digB c = true := by
            unfold digB
            simp only [Bool.and_eq_true, decide_eq_true_eq]
            omega
          (conv => whnf); repeat ((first | refine tk1 ?_ | refine tk2 ?_ | refine tk3 ?_ | refine tk12 (fun _ => ?_) | refine tk4 ?_ | refine tk5 ?_ | refine tk6 ?_ | refine tk7 ?_ | refine tk8 ?_ | refine tk9 ?_ | refine tk10 (fun _ _ => ?_) | refine tk11 (fun _ => ?_)); (conv => whnf))
          refine IdxS.at a h0 (by decide) ?_
          (conv => whnf); repeat ((first | refine tk1 ?_ | refine tk2 ?_ | refine tk3 ?_ | refine tk12 (fun _ => ?_) | refine tk4 ?_ | refine tk5 ?_ | refine tk6 ?_ | refine tk7 ?_ | refine tk8 ?_ | refine tk9 ?_ | refine tk10 (fun _ _ => ?_) | refine tk11 (fun _ => ?_)); (conv => whnf))
          refine Cmp.cases (fun e3 => ?_) (fun e3 => ?_)
          · (conv => whnf); repeat ((first | refine tk1 ?_ | refine tk2 ?_ | refine tk3 ?_ | refine tk12 (fun _ => ?_) | refine tk4 ?_ | refine tk5 ?_ | refine tk6 ?_ | refine tk7 ?_ | refine tk8 ?_ | refine tk9 ?_ | refine tk10 (fun _ _ => ?_) | refine tk11 (fun _ => ?_)); (conv => whnf))
            refine Cmp.cases (fun e4 => ?_) (fun e4 => ?_)
            · have hb : ¬ wtB s = true := fun h => by
                have := (w1.1 h c hcm).2 (h49.1 e3)
                subst this
                exact e4 rfl
              rw [bad (by simpa using hb)]
              (conv => whnf); repeat ((first | refine tk1 ?_ | refine tk2 ?_ | refine tk3 ?_ | refine tk12 (fun _ => ?_) | refine tk4 ?_ | refine tk5 ?_ | refine tk6 ?_ | refine tk7 ?_ | refine tk8 ?_ | refine tk9 ?_ | refine tk10 (fun _ _ => ?_) | refine tk11 (fun _ => ?_)); (conv => whnf))
            · obtain ⟨n1, n2, n3⟩ := nx ⟨hdc, fun _ => UInt8.toNat_inj.1 (by show c.toNat = 48; omega)⟩
              (conv => whnf); repeat ((first | refine tk1 ?_ | refine tk2 ?_ | refine tk3 ?_ | refine tk12 (fun _ => ?_) | refine tk4 ?_ | refine tk5 ?_ | refine tk6 ?_ | refine tk7 ?_ | refine tk8 ?_ | refine tk9 ?_ | refine tk10 (fun _ _ => ?_) | refine tk11 (fun _ => ?_)); (conv => whnf))
              exact ⟨(k + 1, 10 * n + (c.toNat - 48)), ⟨by dsimp only; omega, n1, n2, n3⟩, (by dsimp only; rw [show (10 : Int) * (n : Nat) + ((c.toNat : Int) - 48) = ((10 * n + (c.toNat - 48) : Nat) : Int) by omega, show (((k : Nat) : Int) + 2 + 1) = (((k + 1 : Nat) : Nat) : Int) + 2 by omega]; rfl), (by repeat' (first | exact List.Sublist.refl _ | exact List.nil_sublist _ | apply List.Sublist.cons_cons | apply List.Sublist.cons)), by dsimp only; omega⟩
          · obtain ⟨n1, n2, n3⟩ := nx ⟨hdc, fun h => absurd (h49.2 h) e3⟩
            (conv => whnf); repeat ((first | refine tk1 ?_ | refine tk2 ?_ | refine tk3 ?_ | refine tk12 (fun _ => ?_) | refine tk4 ?_ | refine tk5 ?_ | refine tk6 ?_ | refine tk7 ?_ | refine tk8 ?_ | refine tk9 ?_ | refine tk10 (fun _ _ => ?_) | refine tk11 (fun _ => ?_)); (conv => whnf))
            exact ⟨(k + 1, 10 * n + (c.toNat - 48)), ⟨by dsimp only; omega, n1, n2, n3⟩, (by dsimp only; rw [show (10 : Int) * (n : Nat) + ((c.toNat : Int) - 48) = ((10 * n + (c.toNat - 48) : Nat) : Int) by omega, show (((k : Nat) : Int) + 2 + 1) = (((k + 1 : Nat) : Nat) : Int) + 2 by omega]; rfl), (by repeat' (first | exact List.Sublist.refl _ | exact List.nil_sublist _ | apply List.Sublist.cons_cons | apply List.Sublist.cons)), by dsimp only; omega⟩
        · have hc48 : c = 48 := by
            rw [dif_neg (by omega)] at hg
            exact Option.some.inj hg
          subst hc48
          (conv => whnf); repeat ((first | refine tk1 ?_ | refine tk2 ?_ | refine tk3 ?_ | refine tk12 (fun _ => ?_) | refine tk4 ?_ | refine tk5 ?_ | refine tk6 ?_ | refine tk7 ?_ | refine tk8 ?_ | refine tk9 ?_ | refine tk10 (fun _ _ => ?_) | refine tk11 (fun _ => ?_)); (conv => whnf))
          refine IdxS.at a h0 (by decide) ?_
          (conv => whnf); repeat ((first | refine tk1 ?_ | refine tk2 ?_ | refine tk3 ?_ | refine tk12 (fun _ => ?_) | refine tk4 ?_ | refine tk5 ?_ | refine tk6 ?_ | refine tk7 ?_ | refine tk8 ?_ | refine tk9 ?_ | refine tk10 (fun _ _ => ?_) | refine tk11 (fun _ => ?_)); (conv => whnf))
          obtain ⟨n1, n2, n3⟩ := nx ⟨by decide, fun _ => rfl⟩
          refine Cmp.cases (fun e3 => ?_) (fun e3 => ?_)
          · (conv => whnf); repeat ((first | refine tk1 ?_ | refine tk2 ?_ | refine tk3 ?_ | refine tk12 (fun _ => ?_) | refine tk4 ?_ | refine tk5 ?_ | refine tk6 ?_ | refine tk7 ?_ | refine tk8 ?_ | refine tk9 ?_ | refine tk10 (fun _ _ => ?_) | refine tk11 (fun _ => ?_)); (conv => whnf))
            exact ⟨(k + 1, 10 * n), ⟨by dsimp only; omega, n1, n2, n3⟩, (by dsimp only; rw [show (10 : Int) * (n : Nat) + 0 = ((10 * n : Nat) : Int) by omega, show (((k : Nat) : Int) + 2 + 1) = (((k + 1 : Nat) : Nat) : Int) + 2 by omega]; rfl), (by repeat' (first | exact List.Sublist.refl _ | exact List.nil_sublist _ | apply List.Sublist.cons_cons | apply List.Sublist.cons)), by dsimp only; omega⟩
          · (conv => whnf); repeat ((first | refine tk1 ?_ | refine tk2 ?_ | refine tk3 ?_ | refine tk12 (fun _ => ?_) | refine tk4 ?_ | refine tk5 ?_ | refine tk6 ?_ | refine tk7 ?_ | refine tk8 ?_ | refine tk9 ?_ | refine tk10 (fun _ _ => ?_) | refine tk11 (fun _ => ?_)); (conv => whnf))
            exact ⟨(k + 1, 10 * n), ⟨by dsimp only; omega, n1, n2, n3⟩, (by dsimp only; rw [show (10 : Int) * (n : Nat) + 0 = ((10 * n : Nat) : Int) by omega, show (((k : Nat) : Int) + 2 + 1) = (((k + 1 : Nat) : Nat) : Int) + 2 by omega]; rfl), (by repeat' (first | exact List.Sublist.refl _ | exact List.nil_sublist _ | apply List.Sublist.cons_cons | apply List.Sublist.cons)), by dsimp only; omega⟩
      · have hk3 : k = 3 := by omega
        subst hk3
        rw [List.take_of_length_le (by omega)] at hd hn
        have hw := w1.2 hd
        have hI := w2 hd
        rw [hw]
        (conv => whnf); repeat ((first | refine tk1 ?_ | refine tk2 ?_ | refine tk3 ?_ | refine tk12 (fun _ => ?_) | refine tk4 ?_ | refine tk5 ?_ | refine tk6 ?_ | refine tk7 ?_ | refine tk8 ?_ | refine tk9 ?_ | refine tk10 (fun _ _ => ?_) | refine tk11 (fun _ => ?_)); (conv => whnf))
        refine IdxS.at a h0 (by decide) ?_
        (conv => whnf); repeat ((first | refine tk1 ?_ | refine tk2 ?_ | refine tk3 ?_ | refine tk12 (fun _ => ?_) | refine tk4 ?_ | refine tk5 ?_ | refine tk6 ?_ | refine tk7 ?_ | refine tk8 ?_ | refine tk9 ?_ | refine tk10 (fun _ _ => ?_) | refine tk11 (fun _ => ?_)); (conv => whnf))
        refine Cmp.cases (fun c3 => ?_) (fun c3 => ?_)
        · have e : wtI s = 1000 := by
            have := (wt_one hw)
            obtain ⟨a', t', hs2, _, _, _, h⟩ := this
            rw [hat] at hs2
            obtain ⟨rfl, rfl⟩ := List.cons.inj hs2
            exact h.1 (h49.1 c3)
          (conv => whnf); repeat ((first | refine tk1 ?_ | refine tk2 ?_ | refine tk3 ?_ | refine tk12 (fun _ => ?_) | refine tk4 ?_ | refine tk5 ?_ | refine tk6 ?_ | refine tk7 ?_ | refine tk8 ?_ | refine tk9 ?_ | refine tk10 (fun _ _ => ?_) | refine tk11 (fun _ => ?_)); (conv => whnf))
          rw [e]; rfl
        · have ha8 : a = 48 := ha.resolve_right (fun h => c3 (h49.2 h))
          have e : wtI s = (n : Nat) := by rw [hI, ha8, hn]; rfl
          (conv => whnf); repeat ((first | refine tk1 ?_ | refine tk2 ?_ | refine tk3 ?_ | refine tk12 (fun _ => ?_) | refine tk4 ?_ | refine tk5 ?_ | refine tk6 ?_ | refine tk7 ?_ | refine tk8 ?_ | refine tk9 ?_ | refine tk10 (fun _ _ => ?_) | refine tk11 (fun _ => ?_)); (conv => whnf))
          rw [e]; rfl
end Go.Proofs.YtggokigjnaiokaaGreatDoor.Vex
/- What vary tells, as byte lists. No program in sight. -/
namespace Go.Proofs.YtggokigjnaiokaaGreatDoor

/-- Is a text one of some, in small letters? -/
def inS (l : List (List UInt8)) (s : List UInt8) : Bool := l.any fun x => smallOf x == smallOf s
def namesOf (v n : List UInt8) : Bool := (itemsOf v).any fun s => smallOf s == [42] || smallOf s == smallOf n
/-- Each text once, in small letters, in the order of their coming. -/
def dedup : List (List UInt8) → List (List UInt8) → List (List UInt8)
  | out, [] => out
  | out, s :: r => dedup (if inS out s then out else out ++ [s]) r
def allV (values : List (List UInt8)) (name : List UInt8) : List (List UInt8) := values.flatMap itemsOf ++ [name]
def mergeOK (values : List (List UInt8)) (name : List UInt8) : Bool := (allV values name).all tokenOf
def mergeO (values : List (List UInt8)) (name : List UInt8) : List (List UInt8) := dedup [] (allV values name)
def mergeS (values : List (List UInt8)) (name : List UInt8) : List UInt8 :=
  if mergeOK values name then (if inS (mergeO values name) [42] then [42] else Lib.join (mergeO values name) [44, 32]) else []
def mergeE (values : List (List UInt8)) (name : List UInt8) : Int := if mergeOK values name then 0 else 3
theorem small_star : smallOf [42] = [42] := by decide
theorem small_eq_star {s : List UInt8} : smallOf s = [42] ↔ s = [42] := by
  constructor
  · intro h
    have hl : s.length = 1 := by rw [← smallOf_length s, h]; rfl
    match s, hl with
    | [x], _ =>
      have h1 : lowB x = 42 := by simpa [smallOf] using h
      have h2 : ∀ n : Fin 256, lowB n.val.toUInt8 = 42 → n.val.toUInt8 = 42 := by decide +kernel
      have h3 := h2 ⟨x.toNat, x.toNat_lt⟩
      simp at h3
      rw [h3 h1]
  · rintro rfl; decide
theorem names_in (v n : List UInt8) : namesOf v n = (inS (itemsOf v) [42] || inS (itemsOf v) n) := by
  unfold namesOf inS
  rw [small_star]
  induction itemsOf v with
  | nil => rfl
  | cons x r ih => simp only [List.any_cons, ih]; cases smallOf x == [42] <;> cases smallOf x == smallOf n <;> simp
/-- Items of values that are put behind one another. -/
theorem join_cons (x y : List UInt8) (r : List (List UInt8)) (sep : List UInt8) : Lib.join (x :: y :: r) sep = x ++ sep ++ Lib.join (y :: r) sep := by
  simp [Lib.join, List.intercalate]
theorem items_of_join : ∀ values : List (List UInt8), itemsOf (Lib.join values [44]) = values.flatMap itemsOf
  | [] => by decide
  | [x] => by simp [Lib.join_one]
  | x :: y :: r => by
    rw [join_cons, List.flatMap_cons, ← items_of_join (y :: r), List.append_assoc]
    exact items_join x _
theorem join_length : ∀ (values : List (List UInt8)) (sep : List UInt8), (Lib.join values sep).length ≤ (values.map fun v => v.length + sep.length).sum
  | [], sep => by simp [Lib.join, List.intercalate]
  | [x], sep => by simp [Lib.join_one]
  | x :: y :: r, sep => by
    have := join_length (y :: r) sep
    rw [join_cons, List.map_cons, List.sum_cons, List.length_append, List.length_append]
    omega
theorem dedup_length : ∀ (l out : List (List UInt8)), (dedup out l).length ≤ out.length + l.length
  | [], out => by simp [dedup]
  | s :: r, out => by
    cases h : inS out s with
    | true =>
      have := dedup_length r out
      simp only [dedup, h, if_true, List.length_cons]
      omega
    | false =>
      have := dedup_length r (out ++ [s])
      simp only [List.length_append, List.length_singleton] at this
      simp only [dedup, h, Bool.false_eq_true, if_false, List.length_cons]
      omega
theorem dedup_mem : ∀ (l out : List (List UInt8)) (x : List UInt8), x ∈ dedup out l → x ∈ out ∨ x ∈ l
  | [], out, x, h => .inl h
  | s :: r, out, x, h => by
    unfold dedup at h
    rcases dedup_mem r _ x h with h | h
    · split at h
      · exact .inl h
      · rcases List.mem_append.1 h with h | h
        · exact .inl h
        · rw [List.mem_singleton] at h
          exact .inr (by rw [h]; exact List.mem_cons_self ..)
    · exact .inr (List.mem_cons_of_mem _ h)
theorem inS_append (a b : List (List UInt8)) (s : List UInt8) : inS (a ++ b) s = (inS a s || inS b s) := by simp [inS]
/-- What is put together names all that was named. -/
theorem inS_dedup (s : List UInt8) : ∀ (l out : List (List UInt8)), inS (dedup out l) s = (inS out s || inS l s)
  | [], out => by simp [dedup, inS]
  | x :: r, out => by
    have ih := inS_dedup s r (if inS out x then out else out ++ [x])
    unfold dedup
    rw [ih]
    have hc : inS (x :: r) s = (smallOf x == smallOf s || inS r s) := by simp [inS]
    rw [hc]
    split
    · rename_i h
      cases hx : smallOf x == smallOf s with
      | false => simp
      | true =>
        have hx : smallOf x = smallOf s := by simpa using hx
        have : inS out s = true := by unfold inS at h ⊢; rw [← hx]; exact h
        simp [this]
    · rw [inS_append]
      simp [inS, Bool.or_assoc]
end Go.Proofs.YtggokigjnaiokaaGreatDoor
/- Library functions on lists of texts and of fields, and the references' ones, reckoned. -/
namespace Go.Proofs.YtggokigjnaiokaaGreatDoor.Vex
open Go Go.RowKit
set_option maxRecDepth 100000
set_option linter.unusedSectionVars false
variable {gI : GI} [HasMax gI]

theorem rdw_addr {w : World} {A : Option Addr} {x : Value} {xs : List Value} (h : Rdw w A (x :: xs)) : ∃ b o, A = some ⟨b, o, none⟩ ∧ b < w.heap.size := by
  obtain ⟨a, ha, hc⟩ := h 0 x rfl
  obtain ⟨b, o, sp⟩ := a
  have hs : sp = none := by
    cases sp with
    | none => rfl
    | some s =>
      exfalso
      have : (⟨b, o, some s⟩ : Addr).add 0 = ⟨b, o, some s⟩ ∨ ((⟨b, o, some s⟩ : Addr).add 0).spot.isSome = true := by
        right; unfold Addr.add; split <;> simp_all
      unfold World.cell? at hc
      rcases this with h | h <;> simp [h] at hc <;> split at hc <;> simp_all
  subst hs
  refine ⟨b, o, ha, ?_⟩
  have := World.block_lt_of_cell? _ _ hc
  rwa [add_block] at this
theorem Items_r (l : List UInt8) (hl : l.length ≤ 1000000000000) : FnS Tryz.prog gI 117 [str l] [] 9 1 (itemsOf l).length ((itemsOf l).map str) := by
  refine FnE.of tys_ok Tryz.func117 rfl (by kernel_rfl) rfl rfl ?_; intro w hG hP
  (conv => whnf); repeat ((first | refine tk1 ?_ | refine tk2 ?_ | refine tk3 ?_ | refine tk12 (fun _ => ?_) | refine tk4 ?_ | refine tk5 ?_ | refine tk6 ?_ | refine tk7 ?_ | refine tk8 ?_ | refine tk9 ?_ | refine tk10 (fun _ _ => ?_) | refine tk11 (fun _ => ?_)); (conv => whnf))
  refine LoopS.nilRow 9 1 ?_
  refine LoopS.lp tys_ok (fun (x : Nat × Nat × List (List UInt8) × Option Addr × Nat) u => [str l, u 1, u 2, .slice x.2.2.2.1 x.2.2.1.length x.2.2.2.2, .int .i64 (x.1 : Nat), .int .i64 (x.2.1 : Nat), u 6, u 7, u 8, u 9, u 10, u 11, u 12, u 13, u 14, u 15, u 16, u 17, u 18, u 19, u 20, u 21, u 22, u 23, u 24, u 25, u 26, u 27, u 28, u 29, u 30, u 31, u 32, u 33, u 34, u 35, u 36])
    (fun x => [.row (.slice x.2.2.2.1 x.2.2.1.length x.2.2.2.2) 9 1 x.2.2.1.length (x.2.2.1.map str)])
    (fun x => x.1 ≤ x.2.1 ∧ x.2.1 ≤ l.length + 1 ∧ (x.2.1 = l.length + 1 → x.1 = x.2.1) ∧ 44 ∉ (l.take x.2.1).drop x.1 ∧ x.2.2.1 ++ itemsOf (l.drop x.1) = itemsOf l) (fun x => l.length + 1 - x.2.1) (0, 0, [], none, 0) ⟨Nat.le_refl _, Nat.zero_le _, fun _ => rfl, by simp, rfl⟩ rfl (by repeat' (first | exact List.Sublist.refl _ | exact List.nil_sublist _ | apply List.Sublist.cons_cons | apply List.Sublist.cons)) ?_
  rintro ⟨f, i, out, A, cp⟩ u ⟨h1, h2, h3, h4, hI⟩
  dsimp only at h1 h2 h3 h4 hI ⊢
  have hn := itemsLeft hI
  (conv => whnf); repeat ((first | refine tk1 ?_ | refine tk2 ?_ | refine tk3 ?_ | refine tk12 (fun _ => ?_) | refine tk4 ?_ | refine tk5 ?_ | refine tk6 ?_ | refine tk7 ?_ | refine tk8 ?_ | refine tk9 ?_ | refine tk10 (fun _ _ => ?_) | refine tk11 (fun _ => ?_)); (conv => whnf))
  refine Cmp.cases (fun hle => ?_) (fun hle => ?_)
  · have hdt : ∀ n, (l.drop f).take (n - f) = (l.take n).drop f := fun n => by rw [List.drop_take]
    have hp := trimB_length ((l.take i).drop f)
    have hpl : ((l.take i).drop f).length = i - f := by rw [List.length_drop, List.length_take]; omega
    (conv => whnf); repeat ((first | refine tk1 ?_ | refine tk2 ?_ | refine tk3 ?_ | refine tk12 (fun _ => ?_) | refine tk4 ?_ | refine tk5 ?_ | refine tk6 ?_ | refine tk7 ?_ | refine tk8 ?_ | refine tk9 ?_ | refine tk10 (fun _ _ => ?_) | refine tk11 (fun _ => ?_)); (conv => whnf))
    refine Cmp.cases (fun hlt => ?_) (fun hlt => ?_)
    · (conv => whnf); repeat ((first | refine tk1 ?_ | refine tk2 ?_ | refine tk3 ?_ | refine tk12 (fun _ => ?_) | refine tk4 ?_ | refine tk5 ?_ | refine tk6 ?_ | refine tk7 ?_ | refine tk8 ?_ | refine tk9 ?_ | refine tk10 (fun _ _ => ?_) | refine tk11 (fun _ => ?_)); (conv => whnf))
      refine IdxS.nat (i := i) (by omega) ?_
      (conv => whnf); repeat ((first | refine tk1 ?_ | refine tk2 ?_ | refine tk3 ?_ | refine tk12 (fun _ => ?_) | refine tk4 ?_ | refine tk5 ?_ | refine tk6 ?_ | refine tk7 ?_ | refine tk8 ?_ | refine tk9 ?_ | refine tk10 (fun _ _ => ?_) | refine tk11 (fun _ => ?_)); (conv => whnf))
      refine Cmp.cases (fun hq => ?_) (fun hq => ?_)
      · -- no comma: on
        (conv => whnf); repeat ((first | refine tk1 ?_ | refine tk2 ?_ | refine tk3 ?_ | refine tk12 (fun _ => ?_) | refine tk4 ?_ | refine tk5 ?_ | refine tk6 ?_ | refine tk7 ?_ | refine tk8 ?_ | refine tk9 ?_ | refine tk10 (fun _ _ => ?_) | refine tk11 (fun _ => ?_)); (conv => whnf))
        refine ⟨(f, i + 1, out, A, cp), ⟨by dsimp only; omega, by dsimp only; omega, fun h => by dsimp only at h ⊢; omega, ?_, hI⟩, rfl, (by repeat' (first | exact List.Sublist.refl _ | exact List.nil_sublist _ | apply List.Sublist.cons_cons | apply List.Sublist.cons)), by dsimp only; omega⟩
        dsimp only
        rw [List.take_succ_eq_append_getElem (by omega), List.drop_append_of_le_length (by rw [List.length_take]; omega), List.mem_append]
        rintro (h | h)
        · exact h4 h
        · rw [List.mem_singleton] at h
          exact hq (by rw [← h]; rfl)
      · have hc : l[i]? = some 44 := by
          rw [List.getElem?_eq_getElem (by omega), b8 (n := 44) (by decide) (show (l[i]'(by omega)).toNat = 44 by omega)]
          rfl
        have hit : itemsOf (l.drop f) = itemOf ((l.take i).drop f) ++ itemsOf (l.drop (i + 1)) := by
          have := items_at (l.drop f) (i - f) (by rw [hdt]; exact h4) (by rw [List.getElem?_drop, show f + (i - f) = i by omega]; exact hc)
          rw [hdt, List.drop_drop, show f + (i - f + 1) = i + 1 by omega] at this
          exact this
        (conv => whnf); repeat ((first | refine tk1 ?_ | refine tk2 ?_ | refine tk3 ?_ | refine tk12 (fun _ => ?_) | refine tk4 ?_ | refine tk5 ?_ | refine tk6 ?_ | refine tk7 ?_ | refine tk8 ?_ | refine tk9 ?_ | refine tk10 (fun _ _ => ?_) | refine tk11 (fun _ => ?_)); (conv => whnf))
        refine slc ?_
        rw [show (List.take (i : Int).toNat l).drop (f : Int).toNat = (l.take i).drop f by simp]
        (conv => whnf); repeat ((first | refine tk1 ?_ | refine tk2 ?_ | refine tk3 ?_ | refine tk12 (fun _ => ?_) | refine tk4 ?_ | refine tk5 ?_ | refine tk6 ?_ | refine tk7 ?_ | refine tk8 ?_ | refine tk9 ?_ | refine tk10 (fun _ _ => ?_) | refine tk11 (fun _ => ?_)); (conv => whnf))
        refine CallK.fn (Trim_r _ (by omega)) ?_
        (conv => whnf); repeat ((first | refine tk1 ?_ | refine tk2 ?_ | refine tk3 ?_ | refine tk12 (fun _ => ?_) | refine tk4 ?_ | refine tk5 ?_ | refine tk6 ?_ | refine tk7 ?_ | refine tk8 ?_ | refine tk9 ?_ | refine tk10 (fun _ _ => ?_) | refine tk11 (fun _ => ?_)); (conv => whnf))
        refine Cmp.cases (fun h0 => ?_) (fun h0 => ?_)
        · have hi1 : itemOf ((l.take i).drop f) = [trimB ((l.take i).drop f)] := by unfold itemOf; rw [if_neg h0]
          (conv => whnf); repeat ((first | refine tk1 ?_ | refine tk2 ?_ | refine tk3 ?_ | refine tk12 (fun _ => ?_) | refine tk4 ?_ | refine tk5 ?_ | refine tk6 ?_ | refine tk7 ?_ | refine tk8 ?_ | refine tk9 ?_ | refine tk10 (fun _ _ => ?_) | refine tk11 (fun _ => ?_)); (conv => whnf))
          refine AppS.tc SrcK.tc rfl (by simp [Value.oneCell']) (by decide) (by omega) (by omega) (zs := (out ++ [trimB ((l.take i).drop f)]).map str) (by simp) (fun A' cp' => ?_)
          rw [show out.length + 1 = (out ++ [trimB ((l.take i).drop f)]).length by simp]
          (conv => whnf); repeat ((first | refine tk1 ?_ | refine tk2 ?_ | refine tk3 ?_ | refine tk12 (fun _ => ?_) | refine tk4 ?_ | refine tk5 ?_ | refine tk6 ?_ | refine tk7 ?_ | refine tk8 ?_ | refine tk9 ?_ | refine tk10 (fun _ _ => ?_) | refine tk11 (fun _ => ?_)); (conv => whnf))
          refine ⟨(i + 1, i + 1, out ++ [trimB ((l.take i).drop f)], A', cp'), ⟨Nat.le_refl _, by dsimp only; omega, fun _ => rfl, by simp, ?_⟩, rfl, (by repeat' (first | exact List.Sublist.refl _ | exact List.nil_sublist _ | apply List.Sublist.cons_cons | apply List.Sublist.cons)), by dsimp only; omega⟩
          dsimp only
          rw [← hI, hit, hi1, List.append_assoc]
        · have hi1 : itemOf ((l.take i).drop f) = [] := by unfold itemOf; rw [if_pos (by simpa using h0)]
          (conv => whnf); repeat ((first | refine tk1 ?_ | refine tk2 ?_ | refine tk3 ?_ | refine tk12 (fun _ => ?_) | refine tk4 ?_ | refine tk5 ?_ | refine tk6 ?_ | refine tk7 ?_ | refine tk8 ?_ | refine tk9 ?_ | refine tk10 (fun _ _ => ?_) | refine tk11 (fun _ => ?_)); (conv => whnf))
          refine ⟨(i + 1, i + 1, out, A, cp), ⟨Nat.le_refl _, by dsimp only; omega, fun _ => rfl, by simp, ?_⟩, rfl, (by repeat' (first | exact List.Sublist.refl _ | exact List.nil_sublist _ | apply List.Sublist.cons_cons | apply List.Sublist.cons)), by dsimp only; omega⟩
          dsimp only
          rw [← hI, hit, hi1, List.nil_append]
    · have hi : i = l.length := by omega
      have hit : itemsOf (l.drop f) = itemOf ((l.take i).drop f) ++ itemsOf (l.drop (i + 1)) := by
        rw [show (l.take i).drop f = l.drop f by rw [hi, List.take_length], List.drop_eq_nil_of_le (show l.length ≤ i + 1 by omega), items_none (l.drop f) (by rw [hi, List.take_length] at h4; exact h4)]
        simp [itemsOf, splitB, trimB, Lib.trimS, Lib.trimLeftS, Lib.trimRightS]
      (conv => whnf); repeat ((first | refine tk1 ?_ | refine tk2 ?_ | refine tk3 ?_ | refine tk12 (fun _ => ?_) | refine tk4 ?_ | refine tk5 ?_ | refine tk6 ?_ | refine tk7 ?_ | refine tk8 ?_ | refine tk9 ?_ | refine tk10 (fun _ _ => ?_) | refine tk11 (fun _ => ?_)); (conv => whnf))
      refine slc ?_
      rw [show (List.take (i : Int).toNat l).drop (f : Int).toNat = (l.take i).drop f by simp]
      (conv => whnf); repeat ((first | refine tk1 ?_ | refine tk2 ?_ | refine tk3 ?_ | refine tk12 (fun _ => ?_) | refine tk4 ?_ | refine tk5 ?_ | refine tk6 ?_ | refine tk7 ?_ | refine tk8 ?_ | refine tk9 ?_ | refine tk10 (fun _ _ => ?_) | refine tk11 (fun _ => ?_)); (conv => whnf))
      refine CallK.fn (Trim_r _ (by omega)) ?_
      (conv => whnf); repeat ((first | refine tk1 ?_ | refine tk2 ?_ | refine tk3 ?_ | refine tk12 (fun _ => ?_) | refine tk4 ?_ | refine tk5 ?_ | refine tk6 ?_ | refine tk7 ?_ | refine tk8 ?_ | refine tk9 ?_ | refine tk10 (fun _ _ => ?_) | refine tk11 (fun _ => ?_)); (conv => whnf))
      refine Cmp.cases (fun h0 => ?_) (fun h0 => ?_)
      · have hi1 : itemOf ((l.take i).drop f) = [trimB ((l.take i).drop f)] := by unfold itemOf; rw [if_neg h0]
        (conv => whnf); repeat ((first | refine tk1 ?_ | refine tk2 ?_ | refine tk3 ?_ | refine tk12 (fun _ => ?_) | refine tk4 ?_ | refine tk5 ?_ | refine tk6 ?_ | refine tk7 ?_ | refine tk8 ?_ | refine tk9 ?_ | refine tk10 (fun _ _ => ?_) | refine tk11 (fun _ => ?_)); (conv => whnf))
        refine AppS.tc SrcK.tc rfl (by simp [Value.oneCell']) (by decide) (by omega) (by omega) (zs := (out ++ [trimB ((l.take i).drop f)]).map str) (by simp) (fun A' cp' => ?_)
        rw [show out.length + 1 = (out ++ [trimB ((l.take i).drop f)]).length by simp]
        (conv => whnf); repeat ((first | refine tk1 ?_ | refine tk2 ?_ | refine tk3 ?_ | refine tk12 (fun _ => ?_) | refine tk4 ?_ | refine tk5 ?_ | refine tk6 ?_ | refine tk7 ?_ | refine tk8 ?_ | refine tk9 ?_ | refine tk10 (fun _ _ => ?_) | refine tk11 (fun _ => ?_)); (conv => whnf))
        refine ⟨(i + 1, i + 1, out ++ [trimB ((l.take i).drop f)], A', cp'), ⟨Nat.le_refl _, by dsimp only; omega, fun _ => rfl, by simp, ?_⟩, rfl, (by repeat' (first | exact List.Sublist.refl _ | exact List.nil_sublist _ | apply List.Sublist.cons_cons | apply List.Sublist.cons)), by dsimp only; omega⟩
        dsimp only
        rw [← hI, hit, hi1, List.append_assoc]
      · have hi1 : itemOf ((l.take i).drop f) = [] := by unfold itemOf; rw [if_pos (by simpa using h0)]
        (conv => whnf); repeat ((first | refine tk1 ?_ | refine tk2 ?_ | refine tk3 ?_ | refine tk12 (fun _ => ?_) | refine tk4 ?_ | refine tk5 ?_ | refine tk6 ?_ | refine tk7 ?_ | refine tk8 ?_ | refine tk9 ?_ | refine tk10 (fun _ _ => ?_) | refine tk11 (fun _ => ?_)); (conv => whnf))
        refine ⟨(i + 1, i + 1, out, A, cp), ⟨Nat.le_refl _, by dsimp only; omega, fun _ => rfl, by simp, ?_⟩, rfl, (by repeat' (first | exact List.Sublist.refl _ | exact List.nil_sublist _ | apply List.Sublist.cons_cons | apply List.Sublist.cons)), by dsimp only; omega⟩
        dsimp only
        rw [← hI, hit, hi1, List.nil_append]
  · have hf := h3 (by omega)
    have hI' : out = itemsOf l := by
      rw [← hI, List.drop_eq_nil_of_le (by omega)]
      simp [itemsOf, splitB, trimB, Lib.trimS, Lib.trimLeftS, Lib.trimRightS]
    rw [hI']
    (conv => whnf); repeat ((first | refine tk1 ?_ | refine tk2 ?_ | refine tk3 ?_ | refine tk12 (fun _ => ?_) | refine tk4 ?_ | refine tk5 ?_ | refine tk6 ?_ | refine tk7 ?_ | refine tk8 ?_ | refine tk9 ?_ | refine tk10 (fun _ _ => ?_) | refine tk11 (fun _ => ?_)); (conv => whnf))
    exact rowPost.of (by simp)
end Go.Proofs.YtggokigjnaiokaaGreatDoor.Vex
/- The reference's functions on items and choices, reckoned. -/
namespace Go.Proofs.YtggokigjnaiokaaGreatDoor
theorem low_q (x : UInt8) : lowB x = 113 ↔ x.toNat = 113 ∨ x.toNat = 81 := by
  have : ∀ n : Fin 256, (lowB (UInt8.ofNat n.val) = 113 ↔ n.val = 113 ∨ n.val = 81) := by decide +kernel
  have h := this ⟨x.toNat, x.toNat_lt⟩
  simpa using h
theorem low_eq (x : UInt8) : lowB x = 61 ↔ x.toNat = 61 := by
  have : ∀ n : Fin 256, (lowB (UInt8.ofNat n.val) = 61 ↔ n.val = 61) := by decide +kernel
  have h := this ⟨x.toNat, x.toNat_lt⟩
  simpa using h
end Go.Proofs.YtggokigjnaiokaaGreatDoor
namespace Go.Proofs.YtggokigjnaiokaaGreatDoor.Vex
open Go Go.RowKit
set_option maxRecDepth 100000
set_option linter.unusedSectionVars false
variable {gI : GI} [HasMax gI]

def itemN (s : List UInt8) : List UInt8 := if (itemR s).2.2 then (itemR s).1 else []
def itemI (s : List UInt8) : Int := if (itemR s).2.2 then (itemR s).2.1 else -1
theorem RItem_f (s : List UInt8) (hs : s.length ≤ 1000000) : Fn Tryz.prog gI 118 [str s] (.tuple #[str (itemN s), .int .i64 (itemI s)]) := by
  refine Fn.of tys_ok Tryz.func118 rfl (by kernel_rfl) rfl rfl ?_; intro w hG
  (conv => whnf); repeat ((first | refine tk1 ?_ | refine tk2 ?_ | refine tk3 ?_ | refine tk12 (fun _ => ?_) | refine tk4 ?_ | refine tk5 ?_ | refine tk6 ?_ | refine tk7 ?_ | refine tk8 ?_ | refine tk9 ?_ | refine tk10 (fun _ _ => ?_) | refine tk11 (fun _ => ?_)); (conv => whnf))
  refine LoopS.lp tys_ok (fun (k : Nat) u => [str s, u 1, u 2, u 3, .int .i64 (k : Nat), u 5, u 6, u 7, u 8, u 9, u 10, u 11, u 12, u 13, u 14, u 15, u 16, u 17, u 18, u 19, u 20, u 21, u 22, u 23, u 24, u 25, u 26, u 27, u 28, u 29, u 30, u 31, u 32, u 33, u 34, u 35, u 36, u 37, u 38, u 39, u 40, u 41, u 42, u 43, u 44, u 45, u 46, u 47, u 48, u 49, u 50, u 51, u 52, u 53, u 54, u 55, u 56, u 57, u 58, u 59, u 60, u 61, u 62, u 63, u 64, u 65, u 66, u 67, u 68, u 69, u 70, u 71, u 72, u 73, u 74, u 75, u 76, u 77, u 78, u 79, u 80, u 81, u 82, u 83]) (fun _ => []) (fun k => k ≤ s.length ∧ (59 : UInt8) ∉ s.take k) (fun k => s.length - k) 0 ⟨Nat.zero_le _, by simp⟩ rfl (by repeat' (first | exact List.Sublist.refl _ | exact List.nil_sublist _ | apply List.Sublist.cons_cons | apply List.Sublist.cons)) ?_
  rintro k u ⟨hk, hn⟩
  have hres : ∀ is nm w, itemR s = (nm, w, is) → Value.tuple #[str (itemN s), .int .i64 (itemI s)] = .tuple #[str (if is then nm else []), .int .i64 (if is then w else -1)] := fun is nm w h => by
    unfold itemN itemI; rw [h]
  (conv => whnf); repeat ((first | refine tk1 ?_ | refine tk2 ?_ | refine tk3 ?_ | refine tk12 (fun _ => ?_) | refine tk4 ?_ | refine tk5 ?_ | refine tk6 ?_ | refine tk7 ?_ | refine tk8 ?_ | refine tk9 ?_ | refine tk10 (fun _ _ => ?_) | refine tk11 (fun _ => ?_)); (conv => whnf))
  refine Cmp.cases (fun hlt => ?_) (fun hlt => ?_)
  · have hlt' : k < s.length := by omega
    have hx2 := (s[k]'hlt').toNat_lt
    (conv => whnf); repeat ((first | refine tk1 ?_ | refine tk2 ?_ | refine tk3 ?_ | refine tk12 (fun _ => ?_) | refine tk4 ?_ | refine tk5 ?_ | refine tk6 ?_ | refine tk7 ?_ | refine tk8 ?_ | refine tk9 ?_ | refine tk10 (fun _ _ => ?_) | refine tk11 (fun _ => ?_)); (conv => whnf))
    refine IdxS.nat hlt' ?_
    (conv => whnf); repeat ((first | refine tk1 ?_ | refine tk2 ?_ | refine tk3 ?_ | refine tk12 (fun _ => ?_) | refine tk4 ?_ | refine tk5 ?_ | refine tk6 ?_ | refine tk7 ?_ | refine tk8 ?_ | refine tk9 ?_ | refine tk10 (fun _ _ => ?_) | refine tk11 (fun _ => ?_)); (conv => whnf))
    refine Cmp.cases (fun q1 => ?_) (fun q1 => ?_)
    · have hne : ¬ s[k] = 59 := fun h => q1 (by rw [h]; rfl)
      (conv => whnf); repeat ((first | refine tk1 ?_ | refine tk2 ?_ | refine tk3 ?_ | refine tk12 (fun _ => ?_) | refine tk4 ?_ | refine tk5 ?_ | refine tk6 ?_ | refine tk7 ?_ | refine tk8 ?_ | refine tk9 ?_ | refine tk10 (fun _ _ => ?_) | refine tk11 (fun _ => ?_)); (conv => whnf))
      exact ⟨k + 1, ⟨by omega, by
        rw [List.take_succ_eq_append_getElem hlt', List.mem_append]
        rintro (h | h)
        · exact hn h
        · simp at h; exact hne h.symm⟩, rfl, (by repeat' (first | exact List.Sublist.refl _ | exact List.nil_sublist _ | apply List.Sublist.cons_cons | apply List.Sublist.cons)), by dsimp only; omega⟩
    · have h59 : s[k] = 59 := UInt8.toNat_inj.1 (by show _ = 59; omega)
      have hcut := cutB_at 59 s k hn (by rw [List.getElem?_eq_getElem hlt', h59])
      have hI : itemR s = if tokenOf (trimB (s.take k)) then (if 2 ≤ (trimLB (s.drop (k + 1))).length ∧ smallOf ((trimLB (s.drop (k + 1))).take 2) = [113, 61] then (smallOf (trimB (s.take k)), wtI ((trimLB (s.drop (k + 1))).drop 2), wtB ((trimLB (s.drop (k + 1))).drop 2)) else ([], 0, false)) else ([], 0, false) := by
        unfold itemR; rw [hcut]; rfl
      have hzk : (trimB (s.take k)).length ≤ 1000000 := by
        have h1 := trimB_le (s.take k)
        rw [List.length_take] at h1
        omega
      (conv => whnf); repeat ((first | refine tk1 ?_ | refine tk2 ?_ | refine tk3 ?_ | refine tk12 (fun _ => ?_) | refine tk4 ?_ | refine tk5 ?_ | refine tk6 ?_ | refine tk7 ?_ | refine tk8 ?_ | refine tk9 ?_ | refine tk10 (fun _ _ => ?_) | refine tk11 (fun _ => ?_)); (conv => whnf))
      refine SlcS.at (by omega) (by omega) (by omega) ?_
      rw [show (List.take ((k : Nat) : Int).toNat s).drop (0 : Int).toNat = s.take k by simp]
      (conv => whnf); repeat ((first | refine tk1 ?_ | refine tk2 ?_ | refine tk3 ?_ | refine tk12 (fun _ => ?_) | refine tk4 ?_ | refine tk5 ?_ | refine tk6 ?_ | refine tk7 ?_ | refine tk8 ?_ | refine tk9 ?_ | refine tk10 (fun _ _ => ?_) | refine tk11 (fun _ => ?_)); (conv => whnf))
      refine CallK.fn (Trim_r (s.take k) (by rw [List.length_take]; omega)) ?_
      (conv => whnf); repeat ((first | refine tk1 ?_ | refine tk2 ?_ | refine tk3 ?_ | refine tk12 (fun _ => ?_) | refine tk4 ?_ | refine tk5 ?_ | refine tk6 ?_ | refine tk7 ?_ | refine tk8 ?_ | refine tk9 ?_ | refine tk10 (fun _ _ => ?_) | refine tk11 (fun _ => ?_)); (conv => whnf))
      refine CallK.fn (Token_r (trimB (s.take k)) (by omega)) ?_
      cases ht : tokenOf (trimB (s.take k))
      · rw [hres false [] 0 (by rw [hI, ht]; rfl)]
        (conv => whnf); repeat ((first | refine tk1 ?_ | refine tk2 ?_ | refine tk3 ?_ | refine tk12 (fun _ => ?_) | refine tk4 ?_ | refine tk5 ?_ | refine tk6 ?_ | refine tk7 ?_ | refine tk8 ?_ | refine tk9 ?_ | refine tk10 (fun _ _ => ?_) | refine tk11 (fun _ => ?_)); (conv => whnf))
        rfl
      rw [ht] at hI
      simp only [if_true] at hI
      (conv => whnf); repeat ((first | refine tk1 ?_ | refine tk2 ?_ | refine tk3 ?_ | refine tk12 (fun _ => ?_) | refine tk4 ?_ | refine tk5 ?_ | refine tk6 ?_ | refine tk7 ?_ | refine tk8 ?_ | refine tk9 ?_ | refine tk10 (fun _ _ => ?_) | refine tk11 (fun _ => ?_)); (conv => whnf))
      refine LoopS.lp tys_ok (fun (j : Nat) u => [str s, u 1, u 2, u 3, .int .i64 (j : Nat), str (trimB (s.take k)), u 6, u 7, u 8, u 9, u 10, u 11, u 12, u 13, u 14, u 15, u 16, u 17, u 18, u 19, u 20, u 21, u 22, u 23, u 24, u 25, u 26, u 27, u 28, u 29, u 30, u 31, u 32, u 33, u 34, u 35, u 36, u 37, u 38, u 39, u 40, u 41, u 42, u 43, u 44, u 45, u 46, u 47, u 48, u 49, u 50, u 51, u 52, u 53, u 54, u 55, u 56, u 57, u 58, u 59, u 60, u 61, u 62, u 63, u 64, u 65, u 66, u 67, u 68, u 69, u 70, u 71, u 72, u 73, u 74, u 75, u 76, u 77, u 78, u 79, u 80, u 81, u 82, u 83]) (fun _ => []) (fun j => j ≤ s.length ∧ trimLB (s.drop (k + 1)) = trimLB (s.drop j)) (fun j => s.length - j) (k + 1) ⟨by omega, rfl⟩ rfl (by repeat' (first | exact List.Sublist.refl _ | exact List.nil_sublist _ | apply List.Sublist.cons_cons | apply List.Sublist.cons)) ?_
      rintro j v ⟨hj, hT⟩
      (conv => whnf); repeat ((first | refine tk1 ?_ | refine tk2 ?_ | refine tk3 ?_ | refine tk12 (fun _ => ?_) | refine tk4 ?_ | refine tk5 ?_ | refine tk6 ?_ | refine tk7 ?_ | refine tk8 ?_ | refine tk9 ?_ | refine tk10 (fun _ _ => ?_) | refine tk11 (fun _ => ?_)); (conv => whnf))
      refine Cmp.cases (fun q2 => ?_) (fun q2 => ?_)
      · have hjl : j < s.length := by omega
        have hd := List.drop_eq_getElem_cons hjl
        (conv => whnf); repeat ((first | refine tk1 ?_ | refine tk2 ?_ | refine tk3 ?_ | refine tk12 (fun _ => ?_) | refine tk4 ?_ | refine tk5 ?_ | refine tk6 ?_ | refine tk7 ?_ | refine tk8 ?_ | refine tk9 ?_ | refine tk10 (fun _ _ => ?_) | refine tk11 (fun _ => ?_)); (conv => whnf))
        refine IdxS.nat hjl ?_
        (conv => whnf); repeat ((first | refine tk1 ?_ | refine tk2 ?_ | refine tk3 ?_ | refine tk12 (fun _ => ?_) | refine tk4 ?_ | refine tk5 ?_ | refine tk6 ?_ | refine tk7 ?_ | refine tk8 ?_ | refine tk9 ?_ | refine tk10 (fun _ _ => ?_) | refine tk11 (fun _ => ?_)); (conv => whnf))
        refine CallK.fn (Blank_r _) ?_
        rw [blank_is]
        cases hb : blankB s[j]
        · rw [hd, trimLB_other _ _ hb, ← hd] at hT
          rw [hT] at hI
          (conv => whnf); repeat ((first | refine tk1 ?_ | refine tk2 ?_ | refine tk3 ?_ | refine tk12 (fun _ => ?_) | refine tk4 ?_ | refine tk5 ?_ | refine tk6 ?_ | refine tk7 ?_ | refine tk8 ?_ | refine tk9 ?_ | refine tk10 (fun _ _ => ?_) | refine tk11 (fun _ => ?_)); (conv => whnf))
          refine Cmp.cases (fun y1 => ?_) (fun y1 => ?_)
          · rw [if_neg (fun h => by have := h.1; rw [List.length_drop] at this; omega)] at hI
            rw [hres false [] 0 hI]
            (conv => whnf); repeat ((first | refine tk1 ?_ | refine tk2 ?_ | refine tk3 ?_ | refine tk12 (fun _ => ?_) | refine tk4 ?_ | refine tk5 ?_ | refine tk6 ?_ | refine tk7 ?_ | refine tk8 ?_ | refine tk9 ?_ | refine tk10 (fun _ _ => ?_) | refine tk11 (fun _ => ?_)); (conv => whnf))
            rfl
          have hj2 : j + 1 < s.length := by omega
          have hx9 := (s[j]'hjl).toNat_lt
          have hx8 := (s[j + 1]'hj2).toNat_lt
          have htk : (s.drop j).take 2 = [s[j], s[j + 1]] := by
            rw [hd, List.take_succ_cons, List.drop_eq_getElem_cons hj2, List.take_succ_cons, List.take_zero]
          have hcond : (2 ≤ (s.drop j).length ∧ smallOf ((s.drop j).take 2) = [113, 61]) ↔ ((s[j].toNat = 113 ∨ s[j].toNat = 81) ∧ s[j + 1].toNat = 61) := by
            rw [htk, List.length_drop]
            simp only [smallOf, List.map_cons, List.map_nil, List.cons.injEq, and_true, low_q, low_eq]
            constructor
            · exact fun h => h.2
            · exact fun h => ⟨by omega, h⟩
          have hdd : (s.drop j).drop 2 = s.drop (j + 2) := by rw [List.drop_drop]
          have hIx : ∀ P : Prop, [Decidable P] → (P ↔ ((s[j].toNat = 113 ∨ s[j].toNat = 81) ∧ s[j + 1].toNat = 61)) → True := fun _ _ _ => trivial
          have no : ¬ ((s[j].toNat = 113 ∨ s[j].toNat = 81) ∧ s[j + 1].toNat = 61) → itemR s = ([], 0, false) := fun h => by rw [hI, if_neg (fun h2 => h (hcond.1 h2))]
          have yes : ((s[j].toNat = 113 ∨ s[j].toNat = 81) ∧ s[j + 1].toNat = 61) → itemR s = (smallOf (trimB (s.take k)), wtI (s.drop (j + 2)), wtB (s.drop (j + 2))) := fun h => by rw [hI, if_pos (hcond.2 h), hdd]
          (conv => whnf); repeat ((first | refine tk1 ?_ | refine tk2 ?_ | refine tk3 ?_ | refine tk12 (fun _ => ?_) | refine tk4 ?_ | refine tk5 ?_ | refine tk6 ?_ | refine tk7 ?_ | refine tk8 ?_ | refine tk9 ?_ | refine tk10 (fun _ _ => ?_) | refine tk11 (fun _ => ?_)); (conv => whnf))
          refine IdxS.nat hjl ?_
          (conv => whnf); repeat ((first | refine tk1 ?_ | refine tk2 ?_ | refine tk3 ?_ | refine tk12 (fun _ => ?_) | refine tk4 ?_ | refine tk5 ?_ | refine tk6 ?_ | refine tk7 ?_ | refine tk8 ?_ | refine tk9 ?_ | refine tk10 (fun _ _ => ?_) | refine tk11 (fun _ => ?_)); (conv => whnf))
          refine Cmp.cases (fun y2 => ?_) (fun y2 => ?_)
          · (conv => whnf); repeat ((first | refine tk1 ?_ | refine tk2 ?_ | refine tk3 ?_ | refine tk12 (fun _ => ?_) | refine tk4 ?_ | refine tk5 ?_ | refine tk6 ?_ | refine tk7 ?_ | refine tk8 ?_ | refine tk9 ?_ | refine tk10 (fun _ _ => ?_) | refine tk11 (fun _ => ?_)); (conv => whnf))
            refine IdxS.nat hjl ?_
            (conv => whnf); repeat ((first | refine tk1 ?_ | refine tk2 ?_ | refine tk3 ?_ | refine tk12 (fun _ => ?_) | refine tk4 ?_ | refine tk5 ?_ | refine tk6 ?_ | refine tk7 ?_ | refine tk8 ?_ | refine tk9 ?_ | refine tk10 (fun _ _ => ?_) | refine tk11 (fun _ => ?_)); (conv => whnf))
            refine Cmp.cases (fun y3 => ?_) (fun y3 => ?_)
            · rw [hres false [] 0 (no (by omega))]
              (conv => whnf); repeat ((first | refine tk1 ?_ | refine tk2 ?_ | refine tk3 ?_ | refine tk12 (fun _ => ?_) | refine tk4 ?_ | refine tk5 ?_ | refine tk6 ?_ | refine tk7 ?_ | refine tk8 ?_ | refine tk9 ?_ | refine tk10 (fun _ _ => ?_) | refine tk11 (fun _ => ?_)); (conv => whnf))
              rfl
            · (conv => whnf); repeat ((first | refine tk1 ?_ | refine tk2 ?_ | refine tk3 ?_ | refine tk12 (fun _ => ?_) | refine tk4 ?_ | refine tk5 ?_ | refine tk6 ?_ | refine tk7 ?_ | refine tk8 ?_ | refine tk9 ?_ | refine tk10 (fun _ _ => ?_) | refine tk11 (fun _ => ?_)); (conv => whnf))
              refine IdxS.at s[j + 1] (by rw [show (((j : Nat) : Int) + 1).toNat = j + 1 by omega]; exact List.getElem?_eq_getElem hj2) (by omega) ?_
              (conv => whnf); repeat ((first | refine tk1 ?_ | refine tk2 ?_ | refine tk3 ?_ | refine tk12 (fun _ => ?_) | refine tk4 ?_ | refine tk5 ?_ | refine tk6 ?_ | refine tk7 ?_ | refine tk8 ?_ | refine tk9 ?_ | refine tk10 (fun _ _ => ?_) | refine tk11 (fun _ => ?_)); (conv => whnf))
              refine Cmp.cases (fun y4 => ?_) (fun y4 => ?_)
              · rw [hres false [] 0 (no (by omega))]
                (conv => whnf); repeat ((first | refine tk1 ?_ | refine tk2 ?_ | refine tk3 ?_ | refine tk12 (fun _ => ?_) | refine tk4 ?_ | refine tk5 ?_ | refine tk6 ?_ | refine tk7 ?_ | refine tk8 ?_ | refine tk9 ?_ | refine tk10 (fun _ _ => ?_) | refine tk11 (fun _ => ?_)); (conv => whnf))
                rfl
              have hy := yes (by omega)
              (conv => whnf); repeat ((first | refine tk1 ?_ | refine tk2 ?_ | refine tk3 ?_ | refine tk12 (fun _ => ?_) | refine tk4 ?_ | refine tk5 ?_ | refine tk6 ?_ | refine tk7 ?_ | refine tk8 ?_ | refine tk9 ?_ | refine tk10 (fun _ _ => ?_) | refine tk11 (fun _ => ?_)); (conv => whnf))
              refine SlcS.at (by omega) (by omega) (by omega) ?_
              rw [show (List.take ((s.length : Nat) : Int).toNat s).drop (((j : Nat) : Int) + 2).toNat = s.drop (j + 2) by rw [show (((j : Nat) : Int) + 2).toNat = j + 2 by omega]; simp]
              (conv => whnf); repeat ((first | refine tk1 ?_ | refine tk2 ?_ | refine tk3 ?_ | refine tk12 (fun _ => ?_) | refine tk4 ?_ | refine tk5 ?_ | refine tk6 ?_ | refine tk7 ?_ | refine tk8 ?_ | refine tk9 ?_ | refine tk10 (fun _ _ => ?_) | refine tk11 (fun _ => ?_)); (conv => whnf))
              refine CallK.fn (RWeight_f (s.drop (j + 2)) (by rw [List.length_drop]; omega)) ?_
              cases hw : wtB (s.drop (j + 2))
              · rw [hw] at hy
                rw [hres false _ _ hy]
                (conv => whnf); repeat ((first | refine tk1 ?_ | refine tk2 ?_ | refine tk3 ?_ | refine tk12 (fun _ => ?_) | refine tk4 ?_ | refine tk5 ?_ | refine tk6 ?_ | refine tk7 ?_ | refine tk8 ?_ | refine tk9 ?_ | refine tk10 (fun _ _ => ?_) | refine tk11 (fun _ => ?_)); (conv => whnf))
                rfl
              · rw [hw] at hy
                rw [hres true _ _ hy]
                (conv => whnf); repeat ((first | refine tk1 ?_ | refine tk2 ?_ | refine tk3 ?_ | refine tk12 (fun _ => ?_) | refine tk4 ?_ | refine tk5 ?_ | refine tk6 ?_ | refine tk7 ?_ | refine tk8 ?_ | refine tk9 ?_ | refine tk10 (fun _ _ => ?_) | refine tk11 (fun _ => ?_)); (conv => whnf))
                refine CallK.fn (Small_r (trimB (s.take k)) (by omega)) ?_
                (conv => whnf); repeat ((first | refine tk1 ?_ | refine tk2 ?_ | refine tk3 ?_ | refine tk12 (fun _ => ?_) | refine tk4 ?_ | refine tk5 ?_ | refine tk6 ?_ | refine tk7 ?_ | refine tk8 ?_ | refine tk9 ?_ | refine tk10 (fun _ _ => ?_) | refine tk11 (fun _ => ?_)); (conv => whnf))
                rfl
          · (conv => whnf); repeat ((first | refine tk1 ?_ | refine tk2 ?_ | refine tk3 ?_ | refine tk12 (fun _ => ?_) | refine tk4 ?_ | refine tk5 ?_ | refine tk6 ?_ | refine tk7 ?_ | refine tk8 ?_ | refine tk9 ?_ | refine tk10 (fun _ _ => ?_) | refine tk11 (fun _ => ?_)); (conv => whnf))
            refine IdxS.at s[j + 1] (by rw [show (((j : Nat) : Int) + 1).toNat = j + 1 by omega]; exact List.getElem?_eq_getElem hj2) (by omega) ?_
            (conv => whnf); repeat ((first | refine tk1 ?_ | refine tk2 ?_ | refine tk3 ?_ | refine tk12 (fun _ => ?_) | refine tk4 ?_ | refine tk5 ?_ | refine tk6 ?_ | refine tk7 ?_ | refine tk8 ?_ | refine tk9 ?_ | refine tk10 (fun _ _ => ?_) | refine tk11 (fun _ => ?_)); (conv => whnf))
            refine Cmp.cases (fun y4 => ?_) (fun y4 => ?_)
            · rw [hres false [] 0 (no (by omega))]
              (conv => whnf); repeat ((first | refine tk1 ?_ | refine tk2 ?_ | refine tk3 ?_ | refine tk12 (fun _ => ?_) | refine tk4 ?_ | refine tk5 ?_ | refine tk6 ?_ | refine tk7 ?_ | refine tk8 ?_ | refine tk9 ?_ | refine tk10 (fun _ _ => ?_) | refine tk11 (fun _ => ?_)); (conv => whnf))
              rfl
            have hy := yes (by omega)
            (conv => whnf); repeat ((first | refine tk1 ?_ | refine tk2 ?_ | refine tk3 ?_ | refine tk12 (fun _ => ?_) | refine tk4 ?_ | refine tk5 ?_ | refine tk6 ?_ | refine tk7 ?_ | refine tk8 ?_ | refine tk9 ?_ | refine tk10 (fun _ _ => ?_) | refine tk11 (fun _ => ?_)); (conv => whnf))
            refine SlcS.at (by omega) (by omega) (by omega) ?_
            rw [show (List.take ((s.length : Nat) : Int).toNat s).drop (((j : Nat) : Int) + 2).toNat = s.drop (j + 2) by rw [show (((j : Nat) : Int) + 2).toNat = j + 2 by omega]; simp]
            (conv => whnf); repeat ((first | refine tk1 ?_ | refine tk2 ?_ | refine tk3 ?_ | refine tk12 (fun _ => ?_) | refine tk4 ?_ | refine tk5 ?_ | refine tk6 ?_ | refine tk7 ?_ | refine tk8 ?_ | refine tk9 ?_ | refine tk10 (fun _ _ => ?_) | refine tk11 (fun _ => ?_)); (conv => whnf))
            refine CallK.fn (RWeight_f (s.drop (j + 2)) (by rw [List.length_drop]; omega)) ?_
            cases hw : wtB (s.drop (j + 2))
            · rw [hw] at hy
              rw [hres false _ _ hy]
              (conv => whnf); repeat ((first | refine tk1 ?_ | refine tk2 ?_ | refine tk3 ?_ | refine tk12 (fun _ => ?_) | refine tk4 ?_ | refine tk5 ?_ | refine tk6 ?_ | refine tk7 ?_ | refine tk8 ?_ | refine tk9 ?_ | refine tk10 (fun _ _ => ?_) | refine tk11 (fun _ => ?_)); (conv => whnf))
              rfl
            · rw [hw] at hy
              rw [hres true _ _ hy]
              (conv => whnf); repeat ((first | refine tk1 ?_ | refine tk2 ?_ | refine tk3 ?_ | refine tk12 (fun _ => ?_) | refine tk4 ?_ | refine tk5 ?_ | refine tk6 ?_ | refine tk7 ?_ | refine tk8 ?_ | refine tk9 ?_ | refine tk10 (fun _ _ => ?_) | refine tk11 (fun _ => ?_)); (conv => whnf))
              refine CallK.fn (Small_r (trimB (s.take k)) (by omega)) ?_
              (conv => whnf); repeat ((first | refine tk1 ?_ | refine tk2 ?_ | refine tk3 ?_ | refine tk12 (fun _ => ?_) | refine tk4 ?_ | refine tk5 ?_ | refine tk6 ?_ | refine tk7 ?_ | refine tk8 ?_ | refine tk9 ?_ | refine tk10 (fun _ _ => ?_) | refine tk11 (fun _ => ?_)); (conv => whnf))
              rfl
        · (conv => whnf); repeat ((first | refine tk1 ?_ | refine tk2 ?_ | refine tk3 ?_ | refine tk12 (fun _ => ?_) | refine tk4 ?_ | refine tk5 ?_ | refine tk6 ?_ | refine tk7 ?_ | refine tk8 ?_ | refine tk9 ?_ | refine tk10 (fun _ _ => ?_) | refine tk11 (fun _ => ?_)); (conv => whnf))
          exact ⟨j + 1, ⟨by omega, by rw [hT, hd, trimLB_blank _ _ hb]⟩, rfl, (by repeat' (first | exact List.Sublist.refl _ | exact List.nil_sublist _ | apply List.Sublist.cons_cons | apply List.Sublist.cons)), by dsimp only; omega⟩
      · rw [List.drop_eq_nil_of_le (show s.length ≤ j by omega)] at hT
        have hT2 : trimLB (s.drop (k + 1)) = [] := hT
        rw [hT2, if_neg (fun h => absurd h.1 (by decide))] at hI
        rw [hres false [] 0 hI]
        (conv => whnf); repeat ((first | refine tk1 ?_ | refine tk2 ?_ | refine tk3 ?_ | refine tk12 (fun _ => ?_) | refine tk4 ?_ | refine tk5 ?_ | refine tk6 ?_ | refine tk7 ?_ | refine tk8 ?_ | refine tk9 ?_ | refine tk10 (fun _ _ => ?_) | refine tk11 (fun _ => ?_)); (conv => whnf))
        rfl
  · have hcut := cutB_none 59 s (by rw [List.take_of_length_le (by omega)] at hn; exact hn)
    have hI : itemR s = if tokenOf (trimB s) then (smallOf (trimB s), 1000, true) else ([], 0, false) := by
      unfold itemR; rw [hcut]; rfl
    have hzk := trimB_le s
    (conv => whnf); repeat ((first | refine tk1 ?_ | refine tk2 ?_ | refine tk3 ?_ | refine tk12 (fun _ => ?_) | refine tk4 ?_ | refine tk5 ?_ | refine tk6 ?_ | refine tk7 ?_ | refine tk8 ?_ | refine tk9 ?_ | refine tk10 (fun _ _ => ?_) | refine tk11 (fun _ => ?_)); (conv => whnf))
    refine SlcS.at (by omega) (by omega) (by omega) ?_
    rw [show (List.take ((k : Nat) : Int).toNat s).drop (0 : Int).toNat = s by rw [List.take_of_length_le (by omega)]; rfl]
    (conv => whnf); repeat ((first | refine tk1 ?_ | refine tk2 ?_ | refine tk3 ?_ | refine tk12 (fun _ => ?_) | refine tk4 ?_ | refine tk5 ?_ | refine tk6 ?_ | refine tk7 ?_ | refine tk8 ?_ | refine tk9 ?_ | refine tk10 (fun _ _ => ?_) | refine tk11 (fun _ => ?_)); (conv => whnf))
    refine CallK.fn (Trim_r s (by omega)) ?_
    (conv => whnf); repeat ((first | refine tk1 ?_ | refine tk2 ?_ | refine tk3 ?_ | refine tk12 (fun _ => ?_) | refine tk4 ?_ | refine tk5 ?_ | refine tk6 ?_ | refine tk7 ?_ | refine tk8 ?_ | refine tk9 ?_ | refine tk10 (fun _ _ => ?_) | refine tk11 (fun _ => ?_)); (conv => whnf))
    refine CallK.fn (Token_r (trimB s) (by omega)) ?_
    cases ht : tokenOf (trimB s)
    · rw [hres false [] 0 (by rw [hI, ht]; rfl)]
      (conv => whnf); repeat ((first | refine tk1 ?_ | refine tk2 ?_ | refine tk3 ?_ | refine tk12 (fun _ => ?_) | refine tk4 ?_ | refine tk5 ?_ | refine tk6 ?_ | refine tk7 ?_ | refine tk8 ?_ | refine tk9 ?_ | refine tk10 (fun _ _ => ?_) | refine tk11 (fun _ => ?_)); (conv => whnf))
      rfl
    · rw [hres true _ _ (by rw [hI, ht]; rfl)]
      (conv => whnf); repeat ((first | refine tk1 ?_ | refine tk2 ?_ | refine tk3 ?_ | refine tk12 (fun _ => ?_) | refine tk4 ?_ | refine tk5 ?_ | refine tk6 ?_ | refine tk7 ?_ | refine tk8 ?_ | refine tk9 ?_ | refine tk10 (fun _ _ => ?_) | refine tk11 (fun _ => ?_)); (conv => whnf))
      refine CallK.fn (Small_r (trimB s) (by omega)) ?_
      (conv => whnf); repeat ((first | refine tk1 ?_ | refine tk2 ?_ | refine tk3 ?_ | refine tk12 (fun _ => ?_) | refine tk4 ?_ | refine tk5 ?_ | refine tk6 ?_ | refine tk7 ?_ | refine tk8 ?_ | refine tk9 ?_ | refine tk10 (fun _ _ => ?_) | refine tk11 (fun _ => ?_)); (conv => whnf))
      rfl
end Go.Proofs.YtggokigjnaiokaaGreatDoor.Vex
/- The reference's functions on choices, reckoned. -/
namespace Go.Proofs.YtggokigjnaiokaaGreatDoor.Vex
open Go Go.RowKit
set_option maxRecDepth 100000
set_option linter.unusedSectionVars false
variable {gI : GI} [HasMax gI]

theorem Rfind_f (v nm : List UInt8) (hv : v.length ≤ 1000000) : Fn Tryz.prog gI 87 [str v, str nm] (.int .i64 ((findW nm (itemsOf v)).getD (-1))) := by
  have hil := items_length v
  refine Fn.of tys_ok Tryz.func87 rfl (by kernel_rfl) rfl rfl ?_; intro w hG
  (conv => whnf); repeat ((first | refine tk1 ?_ | refine tk2 ?_ | refine tk3 ?_ | refine tk12 (fun _ => ?_) | refine tk4 ?_ | refine tk5 ?_ | refine tk6 ?_ | refine tk7 ?_ | refine tk8 ?_ | refine tk9 ?_ | refine tk10 (fun _ _ => ?_) | refine tk11 (fun _ => ?_)); (conv => whnf))
  refine CallK.fnS (Items_r v (by omega)) trivial (fun A cp => ?_)
  (conv => whnf); repeat ((first | refine tk1 ?_ | refine tk2 ?_ | refine tk3 ?_ | refine tk12 (fun _ => ?_) | refine tk4 ?_ | refine tk5 ?_ | refine tk6 ?_ | refine tk7 ?_ | refine tk8 ?_ | refine tk9 ?_ | refine tk10 (fun _ _ => ?_) | refine tk11 (fun _ => ?_)); (conv => whnf))
  refine LoopS.lp tys_ok (fun (k : Nat) u => [u 0, str nm, u 2, u 3, u 4, .slice A (itemsOf v).length cp, .int .i64 (k : Nat), u 7, u 8, u 9, u 10, u 11, u 12, u 13, u 14, u 15, u 16, u 17, u 18, u 19, u 20, u 21, u 22, u 23, u 24, u 25, u 26, u 27, u 28, u 29, u 30, u 31, u 32])
    (fun _ => [.row (.slice A (itemsOf v).length cp) 9 1 (itemsOf v).length ((itemsOf v).map str)])
    (fun k => k ≤ (itemsOf v).length ∧ findW nm (itemsOf v) = findW nm ((itemsOf v).drop k)) (fun k => (itemsOf v).length - k) 0 ⟨Nat.zero_le _, rfl⟩ rfl (by repeat' (first | exact List.Sublist.refl _ | exact List.nil_sublist _ | apply List.Sublist.cons_cons | apply List.Sublist.cons)) ?_
  rintro k u ⟨hk, hI⟩
  (conv => whnf); repeat ((first | refine tk1 ?_ | refine tk2 ?_ | refine tk3 ?_ | refine tk12 (fun _ => ?_) | refine tk4 ?_ | refine tk5 ?_ | refine tk6 ?_ | refine tk7 ?_ | refine tk8 ?_ | refine tk9 ?_ | refine tk10 (fun _ _ => ?_) | refine tk11 (fun _ => ?_)); (conv => whnf))
  refine Cmp.cases (fun hlt => ?_) (fun hlt => ?_)
  · have hlt' : k < (itemsOf v).length := by omega
    have hiz := (items_mem (List.getElem_mem hlt')).2.2.2
    rw [List.drop_eq_getElem_cons hlt', findW] at hI
    obtain ⟨x, hx⟩ : ∃ x, (itemsOf v)[k] = x := ⟨_, rfl⟩
    have hxs : ((itemsOf v).map str)[k]? = some (str x) := by rw [List.getElem?_map, List.getElem?_eq_getElem hlt', hx]; rfl
    rw [hx] at hiz hI
    have hwr := itemR_range x
    (conv => whnf); repeat ((first | refine tk1 ?_ | refine tk2 ?_ | refine tk3 ?_ | refine tk12 (fun _ => ?_) | refine tk4 ?_ | refine tk5 ?_ | refine tk6 ?_ | refine tk7 ?_ | refine tk8 ?_ | refine tk9 ?_ | refine tk10 (fun _ _ => ?_) | refine tk11 (fun _ => ?_)); (conv => whnf))
    refine IdxA.tc (xs := (itemsOf v).map str) (by rw [List.length_map]; omega) (by omega) (by omega) ?_
    (conv => whnf); repeat ((first | refine tk1 ?_ | refine tk2 ?_ | refine tk3 ?_ | refine tk12 (fun _ => ?_) | refine tk4 ?_ | refine tk5 ?_ | refine tk6 ?_ | refine tk7 ?_ | refine tk8 ?_ | refine tk9 ?_ | refine tk10 (fun _ _ => ?_) | refine tk11 (fun _ => ?_)); (conv => whnf))
    refine Ld.ta (xs := (itemsOf v).map str) (v := str x) (by simpa using hxs) ?_
    (conv => whnf); repeat ((first | refine tk1 ?_ | refine tk2 ?_ | refine tk3 ?_ | refine tk12 (fun _ => ?_) | refine tk4 ?_ | refine tk5 ?_ | refine tk6 ?_ | refine tk7 ?_ | refine tk8 ?_ | refine tk9 ?_ | refine tk10 (fun _ _ => ?_) | refine tk11 (fun _ => ?_)); (conv => whnf))
    refine CallK.fn (RItem_f x (by omega)) ?_
    unfold itemN itemI
    cases his : (itemR x).2.2
    · rw [if_neg (by simp [his])] at hI
      rw [if_neg (by simp), if_neg (by simp)]
      (conv => whnf); repeat ((first | refine tk1 ?_ | refine tk2 ?_ | refine tk3 ?_ | refine tk12 (fun _ => ?_) | refine tk4 ?_ | refine tk5 ?_ | refine tk6 ?_ | refine tk7 ?_ | refine tk8 ?_ | refine tk9 ?_ | refine tk10 (fun _ _ => ?_) | refine tk11 (fun _ => ?_)); (conv => whnf))
      exact ⟨k + 1, ⟨by omega, hI⟩, rfl, (by repeat' (first | exact List.Sublist.refl _ | exact List.nil_sublist _ | apply List.Sublist.cons_cons | apply List.Sublist.cons)), by dsimp only; omega⟩
    · rw [if_pos rfl, if_pos rfl]
      (conv => whnf); repeat ((first | refine tk1 ?_ | refine tk2 ?_ | refine tk3 ?_ | refine tk12 (fun _ => ?_) | refine tk4 ?_ | refine tk5 ?_ | refine tk6 ?_ | refine tk7 ?_ | refine tk8 ?_ | refine tk9 ?_ | refine tk10 (fun _ _ => ?_) | refine tk11 (fun _ => ?_)); (conv => whnf))
      refine Cmp.cases (fun q => ?_) (fun q => ?_)
      · rw [if_pos ⟨his, q⟩] at hI
        rw [hI]
        (conv => whnf); repeat ((first | refine tk1 ?_ | refine tk2 ?_ | refine tk3 ?_ | refine tk12 (fun _ => ?_) | refine tk4 ?_ | refine tk5 ?_ | refine tk6 ?_ | refine tk7 ?_ | refine tk8 ?_ | refine tk9 ?_ | refine tk10 (fun _ _ => ?_) | refine tk11 (fun _ => ?_)); (conv => whnf))
        rfl
      · rw [if_neg (fun h => q h.2)] at hI
        (conv => whnf); repeat ((first | refine tk1 ?_ | refine tk2 ?_ | refine tk3 ?_ | refine tk12 (fun _ => ?_) | refine tk4 ?_ | refine tk5 ?_ | refine tk6 ?_ | refine tk7 ?_ | refine tk8 ?_ | refine tk9 ?_ | refine tk10 (fun _ _ => ?_) | refine tk11 (fun _ => ?_)); (conv => whnf))
        exact ⟨k + 1, ⟨by omega, hI⟩, rfl, (by repeat' (first | exact List.Sublist.refl _ | exact List.nil_sublist _ | apply List.Sublist.cons_cons | apply List.Sublist.cons)), by dsimp only; omega⟩
  · rw [List.drop_eq_nil_of_le (by omega)] at hI
    rw [hI]
    (conv => whnf); repeat ((first | refine tk1 ?_ | refine tk2 ?_ | refine tk3 ?_ | refine tk12 (fun _ => ?_) | refine tk4 ?_ | refine tk5 ?_ | refine tk6 ?_ | refine tk7 ?_ | refine tk8 ?_ | refine tk9 ?_ | refine tk10 (fun _ _ => ?_) | refine tk11 (fun _ => ?_)); (conv => whnf))
    rfl
theorem RNamed_f (c : UInt8) : Fn Tryz.prog gI 49 [.int .u8 c.toNat] (str (codNm c.toNat)) := by
  refine Fn.of tys_ok Tryz.func49 rfl (by kernel_rfl) rfl rfl ?_; intro w hG
  (conv => whnf); repeat ((first | refine tk1 ?_ | refine tk2 ?_ | refine tk3 ?_ | refine tk12 (fun _ => ?_) | refine tk4 ?_ | refine tk5 ?_ | refine tk6 ?_ | refine tk7 ?_ | refine tk8 ?_ | refine tk9 ?_ | refine tk10 (fun _ _ => ?_) | refine tk11 (fun _ => ?_)); (conv => whnf))
  refine Cmp.cases (fun q => ?_) (fun q => ?_)
  · have e : codNm c.toNat = [103, 122, 105, 112] := by unfold codNm; rw [if_pos (by omega)]
    rw [e]
    (conv => whnf); repeat ((first | refine tk1 ?_ | refine tk2 ?_ | refine tk3 ?_ | refine tk12 (fun _ => ?_) | refine tk4 ?_ | refine tk5 ?_ | refine tk6 ?_ | refine tk7 ?_ | refine tk8 ?_ | refine tk9 ?_ | refine tk10 (fun _ _ => ?_) | refine tk11 (fun _ => ?_)); (conv => whnf))
  · (conv => whnf); repeat ((first | refine tk1 ?_ | refine tk2 ?_ | refine tk3 ?_ | refine tk12 (fun _ => ?_) | refine tk4 ?_ | refine tk5 ?_ | refine tk6 ?_ | refine tk7 ?_ | refine tk8 ?_ | refine tk9 ?_ | refine tk10 (fun _ _ => ?_) | refine tk11 (fun _ => ?_)); (conv => whnf))
    refine Cmp.cases (fun q2 => ?_) (fun q2 => ?_)
    · have e : codNm c.toNat = [100, 101, 102, 108, 97, 116, 101] := by unfold codNm; rw [if_neg (by omega), if_pos (by omega)]
      rw [e]
      (conv => whnf); repeat ((first | refine tk1 ?_ | refine tk2 ?_ | refine tk3 ?_ | refine tk12 (fun _ => ?_) | refine tk4 ?_ | refine tk5 ?_ | refine tk6 ?_ | refine tk7 ?_ | refine tk8 ?_ | refine tk9 ?_ | refine tk10 (fun _ _ => ?_) | refine tk11 (fun _ => ?_)); (conv => whnf))
    · have e : codNm c.toNat = [105, 100, 101, 110, 116, 105, 116, 121] := by unfold codNm; rw [if_neg (by omega), if_neg (by omega)]
      rw [e]
      (conv => whnf); repeat ((first | refine tk1 ?_ | refine tk2 ?_ | refine tk3 ?_ | refine tk12 (fun _ => ?_) | refine tk4 ?_ | refine tk5 ?_ | refine tk6 ?_ | refine tk7 ?_ | refine tk8 ?_ | refine tk9 ?_ | refine tk10 (fun _ _ => ?_) | refine tk11 (fun _ => ?_)); (conv => whnf))
theorem RTwice_f (v : List UInt8) (c : UInt8) (hv : v.length ≤ 1000000) : Fn Tryz.prog gI 47 [str v, .int .u8 c.toNat] (.int .i64 (twU (itemsOf v) c)) := by
  have hct := c.toNat_lt
  refine Fn.of tys_ok Tryz.func47 rfl (by kernel_rfl) rfl rfl ?_; intro w hG
  (conv => whnf); repeat ((first | refine tk1 ?_ | refine tk2 ?_ | refine tk3 ?_ | refine tk12 (fun _ => ?_) | refine tk4 ?_ | refine tk5 ?_ | refine tk6 ?_ | refine tk7 ?_ | refine tk8 ?_ | refine tk9 ?_ | refine tk10 (fun _ _ => ?_) | refine tk11 (fun _ => ?_)); (conv => whnf))
  refine CallK.fn (RNamed_f c) ?_
  (conv => whnf); repeat ((first | refine tk1 ?_ | refine tk2 ?_ | refine tk3 ?_ | refine tk12 (fun _ => ?_) | refine tk4 ?_ | refine tk5 ?_ | refine tk6 ?_ | refine tk7 ?_ | refine tk8 ?_ | refine tk9 ?_ | refine tk10 (fun _ _ => ?_) | refine tk11 (fun _ => ?_)); (conv => whnf))
  refine CallK.fn (Rfind_f v (codNm c.toNat) hv) ?_
  have r1 := findW_range (codNm c.toNat) (itemsOf v)
  have r2 := findW_range [42] (itemsOf v)
  cases e1 : findW (codNm c.toNat) (itemsOf v) with
  | some n =>
    have := r1 n e1
    have ht : twU (itemsOf v) c = 2 * n := by unfold twU twiceW; rw [e1]
    rw [ht]
    rw [show (some n).getD (-1) = n from rfl]
    (conv => whnf); repeat ((first | refine tk1 ?_ | refine tk2 ?_ | refine tk3 ?_ | refine tk12 (fun _ => ?_) | refine tk4 ?_ | refine tk5 ?_ | refine tk6 ?_ | refine tk7 ?_ | refine tk8 ?_ | refine tk9 ?_ | refine tk10 (fun _ _ => ?_) | refine tk11 (fun _ => ?_)); (conv => whnf))
  | none =>
    rw [show (none : Option Int).getD (-1) = -1 from rfl]
    (conv => whnf); repeat ((first | refine tk1 ?_ | refine tk2 ?_ | refine tk3 ?_ | refine tk12 (fun _ => ?_) | refine tk4 ?_ | refine tk5 ?_ | refine tk6 ?_ | refine tk7 ?_ | refine tk8 ?_ | refine tk9 ?_ | refine tk10 (fun _ _ => ?_) | refine tk11 (fun _ => ?_)); (conv => whnf))
    refine CallK.fn (Rfind_f v [42] hv) ?_
    cases e2 : findW [42] (itemsOf v) with
    | some n =>
      have := r2 n e2
      have ht : twU (itemsOf v) c = 2 * n := by unfold twU twiceW; rw [e1, e2]
      rw [ht]
      rw [show (some n).getD (-1) = n from rfl]
      (conv => whnf); repeat ((first | refine tk1 ?_ | refine tk2 ?_ | refine tk3 ?_ | refine tk12 (fun _ => ?_) | refine tk4 ?_ | refine tk5 ?_ | refine tk6 ?_ | refine tk7 ?_ | refine tk8 ?_ | refine tk9 ?_ | refine tk10 (fun _ _ => ?_) | refine tk11 (fun _ => ?_)); (conv => whnf))
    | none =>
      have ht : twU (itemsOf v) c = if c.toNat = 0 then 1 else 0 := by unfold twU twiceW; rw [e1, e2]
      rw [ht]
      rw [show (none : Option Int).getD (-1) = -1 from rfl]
      (conv => whnf); repeat ((first | refine tk1 ?_ | refine tk2 ?_ | refine tk3 ?_ | refine tk12 (fun _ => ?_) | refine tk4 ?_ | refine tk5 ?_ | refine tk6 ?_ | refine tk7 ?_ | refine tk8 ?_ | refine tk9 ?_ | refine tk10 (fun _ _ => ?_) | refine tk11 (fun _ => ?_)); (conv => whnf))
      refine Cmp.cases (fun q => ?_) (fun q => ?_)
      · rw [if_pos (by omega)]
        (conv => whnf); repeat ((first | refine tk1 ?_ | refine tk2 ?_ | refine tk3 ?_ | refine tk12 (fun _ => ?_) | refine tk4 ?_ | refine tk5 ?_ | refine tk6 ?_ | refine tk7 ?_ | refine tk8 ?_ | refine tk9 ?_ | refine tk10 (fun _ _ => ?_) | refine tk11 (fun _ => ?_)); (conv => whnf))
      · rw [if_neg (by omega)]
        (conv => whnf); repeat ((first | refine tk1 ?_ | refine tk2 ?_ | refine tk3 ?_ | refine tk12 (fun _ => ?_) | refine tk4 ?_ | refine tk5 ?_ | refine tk6 ?_ | refine tk7 ?_ | refine tk8 ?_ | refine tk9 ?_ | refine tk10 (fun _ _ => ?_) | refine tk11 (fun _ => ?_)); (conv => whnf))
theorem RWeigh_f (s : List UInt8) (c : UInt8) (hs : s.length ≤ 1000000) : Fn Tryz.prog gI 18 [str s, .int .u8 c.toNat] (.tuple #[.int .i64 (if c.toNat ≤ 2 then twiceW (itemsOf s) c.toNat else 0), .int .i64 (if c.toNat ≤ 2 then 0 else 2)]) := by
  refine Fn.of tys_ok Tryz.func18 rfl (by kernel_rfl) rfl rfl ?_; intro w hG
  (conv => whnf); repeat ((first | refine tk1 ?_ | refine tk2 ?_ | refine tk3 ?_ | refine tk12 (fun _ => ?_) | refine tk4 ?_ | refine tk5 ?_ | refine tk6 ?_ | refine tk7 ?_ | refine tk8 ?_ | refine tk9 ?_ | refine tk10 (fun _ _ => ?_) | refine tk11 (fun _ => ?_)); (conv => whnf))
  refine Cmp.cases (fun q => ?_) (fun q => ?_)
  · rw [if_neg (by omega), if_neg (by omega)]
    (conv => whnf); repeat ((first | refine tk1 ?_ | refine tk2 ?_ | refine tk3 ?_ | refine tk12 (fun _ => ?_) | refine tk4 ?_ | refine tk5 ?_ | refine tk6 ?_ | refine tk7 ?_ | refine tk8 ?_ | refine tk9 ?_ | refine tk10 (fun _ _ => ?_) | refine tk11 (fun _ => ?_)); (conv => whnf))
  · rw [if_pos (by omega), if_pos (by omega)]
    (conv => whnf); repeat ((first | refine tk1 ?_ | refine tk2 ?_ | refine tk3 ?_ | refine tk12 (fun _ => ?_) | refine tk4 ?_ | refine tk5 ?_ | refine tk6 ?_ | refine tk7 ?_ | refine tk8 ?_ | refine tk9 ?_ | refine tk10 (fun _ _ => ?_) | refine tk11 (fun _ => ?_)); (conv => whnf))
    refine CallK.fn (RTwice_f s c hs) ?_
    (conv => whnf); repeat ((first | refine tk1 ?_ | refine tk2 ?_ | refine tk3 ?_ | refine tk12 (fun _ => ?_) | refine tk4 ?_ | refine tk5 ?_ | refine tk6 ?_ | refine tk7 ?_ | refine tk8 ?_ | refine tk9 ?_ | refine tk10 (fun _ _ => ?_) | refine tk11 (fun _ => ?_)); (conv => whnf))
    rfl
theorem RName_f (c : UInt8) : Fn Tryz.prog gI 20 [.int .u8 c.toNat] (.tuple #[str (if c.toNat ≤ 2 then codNm c.toNat else []), .int .i64 (if c.toNat ≤ 2 then 0 else 2)]) := by
  have hct := c.toNat_lt
  refine Fn.of tys_ok Tryz.func20 rfl (by kernel_rfl) rfl rfl ?_; intro w hG
  (conv => whnf); repeat ((first | refine tk1 ?_ | refine tk2 ?_ | refine tk3 ?_ | refine tk12 (fun _ => ?_) | refine tk4 ?_ | refine tk5 ?_ | refine tk6 ?_ | refine tk7 ?_ | refine tk8 ?_ | refine tk9 ?_ | refine tk10 (fun _ _ => ?_) | refine tk11 (fun _ => ?_)); (conv => whnf))
  refine Cmp.cases (fun q => ?_) (fun q => ?_)
  · rw [if_neg (by omega), if_neg (by omega)]
    (conv => whnf); repeat ((first | refine tk1 ?_ | refine tk2 ?_ | refine tk3 ?_ | refine tk12 (fun _ => ?_) | refine tk4 ?_ | refine tk5 ?_ | refine tk6 ?_ | refine tk7 ?_ | refine tk8 ?_ | refine tk9 ?_ | refine tk10 (fun _ _ => ?_) | refine tk11 (fun _ => ?_)); (conv => whnf))
  · rw [if_pos (by omega), if_pos (by omega)]
    (conv => whnf); repeat ((first | refine tk1 ?_ | refine tk2 ?_ | refine tk3 ?_ | refine tk12 (fun _ => ?_) | refine tk4 ?_ | refine tk5 ?_ | refine tk6 ?_ | refine tk7 ?_ | refine tk8 ?_ | refine tk9 ?_ | refine tk10 (fun _ _ => ?_) | refine tk11 (fun _ => ?_)); (conv => whnf))
    refine CallK.fn (RNamed_f c) ?_
    (conv => whnf); repeat ((first | refine tk1 ?_ | refine tk2 ?_ | refine tk3 ?_ | refine tk12 (fun _ => ?_) | refine tk4 ?_ | refine tk5 ?_ | refine tk6 ?_ | refine tk7 ?_ | refine tk8 ?_ | refine tk9 ?_ | refine tk10 (fun _ _ => ?_) | refine tk11 (fun _ => ?_)); (conv => whnf))
theorem idx3 (s : List UInt8) : idxI s [codNm 0, codNm 1, codNm 2] = if s = codNm 0 then 0 else if s = codNm 1 then 1 else if s = codNm 2 then 2 else -1 := by
  unfold idxI
  split
  · rfl
  · unfold idxI
    split
    · rfl
    · unfold idxI
      split
      · rfl
      · rfl
theorem ROf_f (s : List UInt8) (hs : s.length ≤ 1000000) : Fn Tryz.prog gI 22 [str s] (.tuple #[.int .u8 (max 0 (ofI s)), .bool (decide (0 ≤ ofI s))]) := by
  have n0 := RNamed_f (gI := gI) 0
  have n1 := RNamed_f (gI := gI) 1
  have n2 := RNamed_f (gI := gI) 2
  have e : ofI s = if smallOf s = xgzipN then 1 else (if smallOf s = codNm 0 then 0 else if smallOf s = codNm 1 then 1 else if smallOf s = codNm 2 then 2 else -1) := by
    unfold ofI
    rw [idx3]
    split
    · decide
    · rfl
  have ne : ∀ a b : List UInt8, a = b → a ≠ b → False := fun a b h k => k h
  obtain ⟨t, ht⟩ : ∃ t, smallOf s = t := ⟨_, rfl⟩
  rw [ht] at e
  refine Fn.of tys_ok Tryz.func22 rfl (by kernel_rfl) rfl rfl ?_; intro w hG
  (conv => whnf); repeat ((first | refine tk1 ?_ | refine tk2 ?_ | refine tk3 ?_ | refine tk12 (fun _ => ?_) | refine tk4 ?_ | refine tk5 ?_ | refine tk6 ?_ | refine tk7 ?_ | refine tk8 ?_ | refine tk9 ?_ | refine tk10 (fun _ _ => ?_) | refine tk11 (fun _ => ?_)); (conv => whnf))
  refine CallK.fn (Small_r s (by omega)) ?_
  rw [ht]
  (conv => whnf); repeat ((first | refine tk1 ?_ | refine tk2 ?_ | refine tk3 ?_ | refine tk12 (fun _ => ?_) | refine tk4 ?_ | refine tk5 ?_ | refine tk6 ?_ | refine tk7 ?_ | refine tk8 ?_ | refine tk9 ?_ | refine tk10 (fun _ _ => ?_) | refine tk11 (fun _ => ?_)); (conv => whnf))
  refine LoopS.lp tys_ok (fun (k : Nat) u => [u 0, u 1, u 2, u 3, str t, .int .u8 (k : Nat), u 6, u 7, u 8, u 9, u 10, u 11, u 12, u 13, u 14, u 15, u 16, u 17, u 18, u 19, u 20, u 21, u 22, u 23, u 24]) (fun _ => [])
    (fun k => k ≤ 3 ∧ (0 < k → t ≠ codNm 0) ∧ (1 < k → t ≠ codNm 1 ∧ t ≠ xgzipN) ∧ (2 < k → t ≠ codNm 2)) (fun k => 3 - k) 0 ⟨by decide, by simp, by simp, by simp⟩ rfl (by repeat' (first | exact List.Sublist.refl _ | exact List.nil_sublist _ | apply List.Sublist.cons_cons | apply List.Sublist.cons)) ?_
  rintro k u ⟨hk, k0, k1, k2⟩
  (conv => whnf); repeat ((first | refine tk1 ?_ | refine tk2 ?_ | refine tk3 ?_ | refine tk12 (fun _ => ?_) | refine tk4 ?_ | refine tk5 ?_ | refine tk6 ?_ | refine tk7 ?_ | refine tk8 ?_ | refine tk9 ?_ | refine tk10 (fun _ _ => ?_) | refine tk11 (fun _ => ?_)); (conv => whnf))
  refine Cmp.cases (fun hlt => ?_) (fun hlt => ?_)
  · rcases (show k = 0 ∨ k = 1 ∨ k = 2 by omega) with rfl | rfl | rfl
    · (conv => whnf); repeat ((first | refine tk1 ?_ | refine tk2 ?_ | refine tk3 ?_ | refine tk12 (fun _ => ?_) | refine tk4 ?_ | refine tk5 ?_ | refine tk6 ?_ | refine tk7 ?_ | refine tk8 ?_ | refine tk9 ?_ | refine tk10 (fun _ _ => ?_) | refine tk11 (fun _ => ?_)); (conv => whnf))
      refine CallK.fn n0 ?_
      (conv => whnf); repeat ((first | refine tk1 ?_ | refine tk2 ?_ | refine tk3 ?_ | refine tk12 (fun _ => ?_) | refine tk4 ?_ | refine tk5 ?_ | refine tk6 ?_ | refine tk7 ?_ | refine tk8 ?_ | refine tk9 ?_ | refine tk10 (fun _ _ => ?_) | refine tk11 (fun _ => ?_)); (conv => whnf))
      refine Cmp.cases (fun q => ?_) (fun q => ?_)
      · have q : t = codNm 0 := q
        have e1 : ofI s = 0 := by rw [e, q]; decide
        rw [e1]
        (conv => whnf); repeat ((first | refine tk1 ?_ | refine tk2 ?_ | refine tk3 ?_ | refine tk12 (fun _ => ?_) | refine tk4 ?_ | refine tk5 ?_ | refine tk6 ?_ | refine tk7 ?_ | refine tk8 ?_ | refine tk9 ?_ | refine tk10 (fun _ _ => ?_) | refine tk11 (fun _ => ?_)); (conv => whnf))
        rfl
      · have q : t ≠ codNm 0 := q
        (conv => whnf); repeat ((first | refine tk1 ?_ | refine tk2 ?_ | refine tk3 ?_ | refine tk12 (fun _ => ?_) | refine tk4 ?_ | refine tk5 ?_ | refine tk6 ?_ | refine tk7 ?_ | refine tk8 ?_ | refine tk9 ?_ | refine tk10 (fun _ _ => ?_) | refine tk11 (fun _ => ?_)); (conv => whnf))
        refine Ar.in8 (by omega) (by omega) ?_
        (conv => whnf); repeat ((first | refine tk1 ?_ | refine tk2 ?_ | refine tk3 ?_ | refine tk12 (fun _ => ?_) | refine tk4 ?_ | refine tk5 ?_ | refine tk6 ?_ | refine tk7 ?_ | refine tk8 ?_ | refine tk9 ?_ | refine tk10 (fun _ _ => ?_) | refine tk11 (fun _ => ?_)); (conv => whnf))
        exact ⟨1, ⟨by decide, fun _ => q, by simp, by simp⟩, rfl, (by repeat' (first | exact List.Sublist.refl _ | exact List.nil_sublist _ | apply List.Sublist.cons_cons | apply List.Sublist.cons)), by decide⟩
    · have q0 := k0 (by decide)
      (conv => whnf); repeat ((first | refine tk1 ?_ | refine tk2 ?_ | refine tk3 ?_ | refine tk12 (fun _ => ?_) | refine tk4 ?_ | refine tk5 ?_ | refine tk6 ?_ | refine tk7 ?_ | refine tk8 ?_ | refine tk9 ?_ | refine tk10 (fun _ _ => ?_) | refine tk11 (fun _ => ?_)); (conv => whnf))
      refine CallK.fn n1 ?_
      (conv => whnf); repeat ((first | refine tk1 ?_ | refine tk2 ?_ | refine tk3 ?_ | refine tk12 (fun _ => ?_) | refine tk4 ?_ | refine tk5 ?_ | refine tk6 ?_ | refine tk7 ?_ | refine tk8 ?_ | refine tk9 ?_ | refine tk10 (fun _ _ => ?_) | refine tk11 (fun _ => ?_)); (conv => whnf))
      refine Cmp.cases (fun q => ?_) (fun q => ?_)
      · have q : t = codNm 1 := q
        have e1 : ofI s = 1 := by rw [e, q]; decide
        rw [e1]
        (conv => whnf); repeat ((first | refine tk1 ?_ | refine tk2 ?_ | refine tk3 ?_ | refine tk12 (fun _ => ?_) | refine tk4 ?_ | refine tk5 ?_ | refine tk6 ?_ | refine tk7 ?_ | refine tk8 ?_ | refine tk9 ?_ | refine tk10 (fun _ _ => ?_) | refine tk11 (fun _ => ?_)); (conv => whnf))
        rfl
      · have q : t ≠ codNm 1 := q
        (conv => whnf); repeat ((first | refine tk1 ?_ | refine tk2 ?_ | refine tk3 ?_ | refine tk12 (fun _ => ?_) | refine tk4 ?_ | refine tk5 ?_ | refine tk6 ?_ | refine tk7 ?_ | refine tk8 ?_ | refine tk9 ?_ | refine tk10 (fun _ _ => ?_) | refine tk11 (fun _ => ?_)); (conv => whnf))
        refine Cmp.cases (fun q2 => ?_) (fun q2 => ?_)
        · have q2 : t = xgzipN := q2
          have e1 : ofI s = 1 := by rw [e, if_pos q2]
          rw [e1]
          (conv => whnf); repeat ((first | refine tk1 ?_ | refine tk2 ?_ | refine tk3 ?_ | refine tk12 (fun _ => ?_) | refine tk4 ?_ | refine tk5 ?_ | refine tk6 ?_ | refine tk7 ?_ | refine tk8 ?_ | refine tk9 ?_ | refine tk10 (fun _ _ => ?_) | refine tk11 (fun _ => ?_)); (conv => whnf))
          rfl
        · have q2 : t ≠ xgzipN := q2
          (conv => whnf); repeat ((first | refine tk1 ?_ | refine tk2 ?_ | refine tk3 ?_ | refine tk12 (fun _ => ?_) | refine tk4 ?_ | refine tk5 ?_ | refine tk6 ?_ | refine tk7 ?_ | refine tk8 ?_ | refine tk9 ?_ | refine tk10 (fun _ _ => ?_) | refine tk11 (fun _ => ?_)); (conv => whnf))
          refine Ar.in8 (by omega) (by omega) ?_
          (conv => whnf); repeat ((first | refine tk1 ?_ | refine tk2 ?_ | refine tk3 ?_ | refine tk12 (fun _ => ?_) | refine tk4 ?_ | refine tk5 ?_ | refine tk6 ?_ | refine tk7 ?_ | refine tk8 ?_ | refine tk9 ?_ | refine tk10 (fun _ _ => ?_) | refine tk11 (fun _ => ?_)); (conv => whnf))
          exact ⟨2, ⟨by decide, fun _ => q0, fun _ => ⟨q, q2⟩, by simp⟩, rfl, (by repeat' (first | exact List.Sublist.refl _ | exact List.nil_sublist _ | apply List.Sublist.cons_cons | apply List.Sublist.cons)), by decide⟩
    · have q0 := k0 (by decide)
      have q1 := k1 (by decide)
      (conv => whnf); repeat ((first | refine tk1 ?_ | refine tk2 ?_ | refine tk3 ?_ | refine tk12 (fun _ => ?_) | refine tk4 ?_ | refine tk5 ?_ | refine tk6 ?_ | refine tk7 ?_ | refine tk8 ?_ | refine tk9 ?_ | refine tk10 (fun _ _ => ?_) | refine tk11 (fun _ => ?_)); (conv => whnf))
      refine CallK.fn n2 ?_
      (conv => whnf); repeat ((first | refine tk1 ?_ | refine tk2 ?_ | refine tk3 ?_ | refine tk12 (fun _ => ?_) | refine tk4 ?_ | refine tk5 ?_ | refine tk6 ?_ | refine tk7 ?_ | refine tk8 ?_ | refine tk9 ?_ | refine tk10 (fun _ _ => ?_) | refine tk11 (fun _ => ?_)); (conv => whnf))
      refine Cmp.cases (fun q => ?_) (fun q => ?_)
      · have q : t = codNm 2 := q
        have e1 : ofI s = 2 := by rw [e, q]; decide
        rw [e1]
        (conv => whnf); repeat ((first | refine tk1 ?_ | refine tk2 ?_ | refine tk3 ?_ | refine tk12 (fun _ => ?_) | refine tk4 ?_ | refine tk5 ?_ | refine tk6 ?_ | refine tk7 ?_ | refine tk8 ?_ | refine tk9 ?_ | refine tk10 (fun _ _ => ?_) | refine tk11 (fun _ => ?_)); (conv => whnf))
        rfl
      · have q : t ≠ codNm 2 := q
        (conv => whnf); repeat ((first | refine tk1 ?_ | refine tk2 ?_ | refine tk3 ?_ | refine tk12 (fun _ => ?_) | refine tk4 ?_ | refine tk5 ?_ | refine tk6 ?_ | refine tk7 ?_ | refine tk8 ?_ | refine tk9 ?_ | refine tk10 (fun _ _ => ?_) | refine tk11 (fun _ => ?_)); (conv => whnf))
        refine Ar.in8 (by omega) (by omega) ?_
        (conv => whnf); repeat ((first | refine tk1 ?_ | refine tk2 ?_ | refine tk3 ?_ | refine tk12 (fun _ => ?_) | refine tk4 ?_ | refine tk5 ?_ | refine tk6 ?_ | refine tk7 ?_ | refine tk8 ?_ | refine tk9 ?_ | refine tk10 (fun _ _ => ?_) | refine tk11 (fun _ => ?_)); (conv => whnf))
        exact ⟨3, ⟨by decide, fun _ => q0, fun _ => q1, fun _ => q⟩, rfl, (by repeat' (first | exact List.Sublist.refl _ | exact List.nil_sublist _ | apply List.Sublist.cons_cons | apply List.Sublist.cons)), by decide⟩
  · have q0 := k0 (by omega)
    have q1 := k1 (by omega)
    have q2 := k2 (by omega)
    have e1 : ofI s = -1 := by rw [e, if_neg q1.2, if_neg q0, if_neg q1.1, if_neg q2]
    rw [e1]
    (conv => whnf); repeat ((first | refine tk1 ?_ | refine tk2 ?_ | refine tk3 ?_ | refine tk12 (fun _ => ?_) | refine tk4 ?_ | refine tk5 ?_ | refine tk6 ?_ | refine tk7 ?_ | refine tk8 ?_ | refine tk9 ?_ | refine tk10 (fun _ _ => ?_) | refine tk11 (fun _ => ?_)); (conv => whnf))
    rfl
end Go.Proofs.YtggokigjnaiokaaGreatDoor.Vex
/- The law AcceptTells, reckoned. -/
namespace Go.Proofs.YtggokigjnaiokaaGreatDoor
def stepB (tw : UInt8 → Int) (p : UInt8 × Int) (y : UInt8) : UInt8 × Int := if p.2 < tw y then (y, tw y) else p
theorem bestL_cons (tw : UInt8 → Int) (a : UInt8) (r : List UInt8) : bestL tw (a :: r) = r.foldl (stepB tw) (a, tw a) := rfl
theorem fold_ge (tw : UInt8 → Int) : ∀ (r : List UInt8) (p : UInt8 × Int), p.2 ≤ (r.foldl (stepB tw) p).2 ∧ ∀ x ∈ r, tw x ≤ (r.foldl (stepB tw) p).2
  | [], p => ⟨Int.le_refl _, fun x hx => by cases hx⟩
  | y :: r, p => by
    rw [List.foldl_cons]
    obtain ⟨h1, h2⟩ := fold_ge tw r (stepB tw p y)
    have h3 : p.2 ≤ (stepB tw p y).2 ∧ tw y ≤ (stepB tw p y).2 := by
      unfold stepB
      split
      · constructor
        · dsimp only; omega
        · exact Int.le_refl _
      · constructor
        · exact Int.le_refl _
        · omega
    refine ⟨by omega, fun x hx => ?_⟩
    rcases List.mem_cons.1 hx with rfl | hx
    · omega
    · exact h2 x hx
def refB (p q : UInt8 × Int) : Prop := (q.2 = 0 ∧ p = (0, 0)) ∨ (q.2 ≠ 0 ∧ p = q)
theorem fold_ref (tw : UInt8 → Int) (hw : ∀ x, 0 ≤ tw x) : ∀ (r : List UInt8) (p q : UInt8 × Int), 0 ≤ q.2 → refB p q → refB (r.foldl (stepB tw) p) (r.foldl (stepB tw) q)
  | [], _, _, _, h => h
  | y :: r, p, q, h0, h => by
    rw [List.foldl_cons, List.foldl_cons]
    have hy := hw y
    refine fold_ref tw hw r _ _ ?_ ?_
    · unfold stepB; split
      · exact hy
      · exact h0
    · rcases h with ⟨h1, h2⟩ | ⟨h1, h2⟩
      · subst h2
        unfold stepB
        rw [h1]
        split
        · right
          constructor
          · dsimp only; omega
          · rfl
        · exact .inl ⟨h1, rfl⟩
      · subst h2
        unfold stepB
        split
        · right
          constructor
          · dsimp only; omega
          · rfl
        · exact .inr ⟨h1, rfl⟩
theorem chosen_is (tw : UInt8 → Int) (hw : ∀ x, 0 ≤ tw x) (l : List UInt8) : refB ((l ++ [0]).foldl (stepB tw) (0, 0)) (bestL tw (allP l)) := by
  have key : ∀ a : List UInt8, a ≠ [] → refB (a.foldl (stepB tw) (0, 0)) (bestL tw a) := by
    intro a ha
    obtain ⟨y, r, rfl⟩ := List.exists_cons_of_ne_nil ha
    rw [bestL_cons, List.foldl_cons]
    refine fold_ref tw hw r _ _ (hw y) ?_
    have hy := hw y
    unfold stepB refB
    dsimp only
    split
    · exact .inr ⟨by omega, rfl⟩
    · exact .inl ⟨by omega, rfl⟩
  unfold allP
  split
  · rename_i h0
    have hne : l ≠ [] := fun e => by rw [e] at h0; cases h0
    have h1 := key l hne
    rw [List.foldl_append]
    simp only [List.foldl_cons, List.foldl_nil]
    have h2 := (fold_ge tw l (0, 0)).2 0 h0
    have e : stepB tw (l.foldl (stepB tw) (0, 0)) 0 = l.foldl (stepB tw) (0, 0) := by
      rw [stepB, if_neg (by omega)]
    rw [e]
    exact h1
  · exact key _ (by simp)
end Go.Proofs.YtggokigjnaiokaaGreatDoor
namespace Go.Proofs.YtggokigjnaiokaaGreatDoor.Vex
open Go Go.RowKit
set_option maxRecDepth 100000
set_option linter.unusedSectionVars false
variable {gI : GI} [HasMax gI]

theorem RPrefs_f (A : Option Addr) (cp : Nat) (l : List UInt8) (hl : l.length ≤ 1000) :
    FnR Tryz.prog gI 57 [.slice A l.length cp] [(A, l.map byteV)] (.bool (prefsG [] l)) := by
  refine FnE.of tys_ok Tryz.func57 rfl (by kernel_rfl) rfl rfl ?_; intro w hG hP
  have hR : ∀ H, RdA (mkC Tryz.prog gI w hG) H A (l.map byteV) := fun H => ⟨hP.1.now⟩
  (conv => whnf); repeat ((first | refine tk1 ?_ | refine tk2 ?_ | refine tk3 ?_ | refine tk12 (fun _ => ?_) | refine tk4 ?_ | refine tk5 ?_ | refine tk6 ?_ | refine tk7 ?_ | refine tk8 ?_ | refine tk9 ?_ | refine tk10 (fun _ _ => ?_) | refine tk11 (fun _ => ?_)); (conv => whnf))
  refine LoopS.lp tys_ok (fun (k : Nat) u => [.slice A l.length cp, u 1, u 2, .int .i64 (k : Nat), u 4, u 5, u 6, u 7, u 8, u 9, u 10, u 11, u 12, u 13, u 14, u 15, u 16, u 17, u 18, u 19, u 20, u 21, u 22, u 23, u 24, u 25, u 26, u 27, u 28, u 29]) (fun _ => [])
    (fun k => k ≤ l.length ∧ prefsG [] l = prefsG (l.take k) (l.drop k)) (fun k => l.length - k) 0 ⟨Nat.zero_le _, rfl⟩ rfl (by repeat' (first | exact List.Sublist.refl _ | exact List.nil_sublist _ | apply List.Sublist.cons_cons | apply List.Sublist.cons)) ?_
  rintro k u ⟨hk, hI⟩
  (conv => whnf); repeat ((first | refine tk1 ?_ | refine tk2 ?_ | refine tk3 ?_ | refine tk12 (fun _ => ?_) | refine tk4 ?_ | refine tk5 ?_ | refine tk6 ?_ | refine tk7 ?_ | refine tk8 ?_ | refine tk9 ?_ | refine tk10 (fun _ _ => ?_) | refine tk11 (fun _ => ?_)); (conv => whnf))
  refine Cmp.cases (fun hlt => ?_) (fun hlt => ?_)
  · have hlt' : k < l.length := by omega
    rw [List.drop_eq_getElem_cons hlt'] at hI
    have hxb : (l.map byteV)[k]? = some (byteV l[k]) := by simp [hlt']
    obtain ⟨x, hx⟩ : ∃ x, l[k] = x := ⟨_, rfl⟩
    have htk : l.take (k + 1) = l.take k ++ [x] := by rw [List.take_succ_eq_append_getElem hlt', hx]
    rw [hx] at hI hxb
    rw [prefsG] at hI
    have hxt := x.toNat_lt
    (conv => whnf); repeat ((first | refine tk1 ?_ | refine tk2 ?_ | refine tk3 ?_ | refine tk12 (fun _ => ?_) | refine tk4 ?_ | refine tk5 ?_ | refine tk6 ?_ | refine tk7 ?_ | refine tk8 ?_ | refine tk9 ?_ | refine tk10 (fun _ _ => ?_) | refine tk11 (fun _ => ?_)); (conv => whnf))
    refine IdxA.tc (xs := l.map byteV) (by rw [List.length_map]; omega) (by omega) (by omega) ?_
    (conv => whnf); repeat ((first | refine tk1 ?_ | refine tk2 ?_ | refine tk3 ?_ | refine tk12 (fun _ => ?_) | refine tk4 ?_ | refine tk5 ?_ | refine tk6 ?_ | refine tk7 ?_ | refine tk8 ?_ | refine tk9 ?_ | refine tk10 (fun _ _ => ?_) | refine tk11 (fun _ => ?_)); (conv => whnf))
    refine Ld.ta (xs := l.map byteV) (v := byteV x) (by simpa using hxb) ?_
    (conv => whnf); repeat ((first | refine tk1 ?_ | refine tk2 ?_ | refine tk3 ?_ | refine tk12 (fun _ => ?_) | refine tk4 ?_ | refine tk5 ?_ | refine tk6 ?_ | refine tk7 ?_ | refine tk8 ?_ | refine tk9 ?_ | refine tk10 (fun _ _ => ?_) | refine tk11 (fun _ => ?_)); (conv => whnf))
    refine Cmp.cases (fun q1 => ?_) (fun q1 => ?_)
    · rw [if_neg (fun h => by omega)] at hI
      rw [hI]
      (conv => whnf); repeat ((first | refine tk1 ?_ | refine tk2 ?_ | refine tk3 ?_ | refine tk12 (fun _ => ?_) | refine tk4 ?_ | refine tk5 ?_ | refine tk6 ?_ | refine tk7 ?_ | refine tk8 ?_ | refine tk9 ?_ | refine tk10 (fun _ _ => ?_) | refine tk11 (fun _ => ?_)); (conv => whnf))
      exact fun w' _ => rfl
    (conv => whnf); repeat ((first | refine tk1 ?_ | refine tk2 ?_ | refine tk3 ?_ | refine tk12 (fun _ => ?_) | refine tk4 ?_ | refine tk5 ?_ | refine tk6 ?_ | refine tk7 ?_ | refine tk8 ?_ | refine tk9 ?_ | refine tk10 (fun _ _ => ?_) | refine tk11 (fun _ => ?_)); (conv => whnf))
    refine LoopS.lp tys_ok (fun (j : Nat) u => [.slice A l.length cp, u 1, u 2, .int .i64 (k : Nat), .int .i64 (j : Nat), u 5, u 6, u 7, u 8, u 9, u 10, u 11, u 12, u 13, u 14, u 15, u 16, u 17, u 18, u 19, u 20, u 21, u 22, u 23, u 24, u 25, u 26, u 27, u 28, u 29]) (fun _ => [])
      (fun j => j ≤ k ∧ x ∉ l.take j) (fun j => k - j) 0 ⟨Nat.zero_le _, by simp⟩ rfl (by repeat' (first | exact List.Sublist.refl _ | exact List.nil_sublist _ | apply List.Sublist.cons_cons | apply List.Sublist.cons)) ?_
    rintro j v ⟨hj, hJ⟩
    (conv => whnf); repeat ((first | refine tk1 ?_ | refine tk2 ?_ | refine tk3 ?_ | refine tk12 (fun _ => ?_) | refine tk4 ?_ | refine tk5 ?_ | refine tk6 ?_ | refine tk7 ?_ | refine tk8 ?_ | refine tk9 ?_ | refine tk10 (fun _ _ => ?_) | refine tk11 (fun _ => ?_)); (conv => whnf))
    refine Cmp.cases (fun q2 => ?_) (fun q2 => ?_)
    · have hjl : j < l.length := by omega
      have hjb : (l.map byteV)[j]? = some (byteV l[j]) := by simp [hjl]
      obtain ⟨y, hy⟩ : ∃ y, l[j] = y := ⟨_, rfl⟩
      have htj : l.take (j + 1) = l.take j ++ [y] := by rw [List.take_succ_eq_append_getElem hjl, hy]
      rw [hy] at hjb
      (conv => whnf); repeat ((first | refine tk1 ?_ | refine tk2 ?_ | refine tk3 ?_ | refine tk12 (fun _ => ?_) | refine tk4 ?_ | refine tk5 ?_ | refine tk6 ?_ | refine tk7 ?_ | refine tk8 ?_ | refine tk9 ?_ | refine tk10 (fun _ _ => ?_) | refine tk11 (fun _ => ?_)); (conv => whnf))
      refine DrawS.go (qs 9) tys_ok mixed (by kernel_rfl) ?_
      (conv => whnf); repeat ((first | refine tk1 ?_ | refine tk2 ?_ | refine tk3 ?_ | refine tk12 (fun _ => ?_) | refine tk4 ?_ | refine tk5 ?_ | refine tk6 ?_ | refine tk7 ?_ | refine tk8 ?_ | refine tk9 ?_ | refine tk10 (fun _ _ => ?_) | refine tk11 (fun _ => ?_)); (conv => whnf))
      refine IdxA.tc (xs := l.map byteV) (by rw [List.length_map]; omega) (by omega) (by omega) ?_
      (conv => whnf); repeat ((first | refine tk1 ?_ | refine tk2 ?_ | refine tk3 ?_ | refine tk12 (fun _ => ?_) | refine tk4 ?_ | refine tk5 ?_ | refine tk6 ?_ | refine tk7 ?_ | refine tk8 ?_ | refine tk9 ?_ | refine tk10 (fun _ _ => ?_) | refine tk11 (fun _ => ?_)); (conv => whnf))
      refine Ld.ta (xs := l.map byteV) (v := byteV y) (by simpa using hjb) ?_
      (conv => whnf); repeat ((first | refine tk1 ?_ | refine tk2 ?_ | refine tk3 ?_ | refine tk12 (fun _ => ?_) | refine tk4 ?_ | refine tk5 ?_ | refine tk6 ?_ | refine tk7 ?_ | refine tk8 ?_ | refine tk9 ?_ | refine tk10 (fun _ _ => ?_) | refine tk11 (fun _ => ?_)); (conv => whnf))
      refine IdxA.tc (xs := l.map byteV) (by rw [List.length_map]; omega) (by omega) (by omega) ?_
      (conv => whnf); repeat ((first | refine tk1 ?_ | refine tk2 ?_ | refine tk3 ?_ | refine tk12 (fun _ => ?_) | refine tk4 ?_ | refine tk5 ?_ | refine tk6 ?_ | refine tk7 ?_ | refine tk8 ?_ | refine tk9 ?_ | refine tk10 (fun _ _ => ?_) | refine tk11 (fun _ => ?_)); (conv => whnf))
      refine Ld.ta (xs := l.map byteV) (v := byteV x) (by simpa using hxb) ?_
      (conv => whnf); repeat ((first | refine tk1 ?_ | refine tk2 ?_ | refine tk3 ?_ | refine tk12 (fun _ => ?_) | refine tk4 ?_ | refine tk5 ?_ | refine tk6 ?_ | refine tk7 ?_ | refine tk8 ?_ | refine tk9 ?_ | refine tk10 (fun _ _ => ?_) | refine tk11 (fun _ => ?_)); (conv => whnf))
      refine Cmp.cases (fun q3 => ?_) (fun q3 => ?_)
      · have hyx : y = x := (byteV_eq y x).1 q3
        have hin : x ∈ l.take k := by
          rw [← hyx, ← hy]
          exact List.mem_take_iff_getElem.2 ⟨j, by omega, rfl⟩
        rw [if_neg (fun h => h.2 hin)] at hI
        rw [hI]
        (conv => whnf); repeat ((first | refine tk1 ?_ | refine tk2 ?_ | refine tk3 ?_ | refine tk12 (fun _ => ?_) | refine tk4 ?_ | refine tk5 ?_ | refine tk6 ?_ | refine tk7 ?_ | refine tk8 ?_ | refine tk9 ?_ | refine tk10 (fun _ _ => ?_) | refine tk11 (fun _ => ?_)); (conv => whnf))
        exact fun w' _ => rfl
      · (conv => whnf); repeat ((first | refine tk1 ?_ | refine tk2 ?_ | refine tk3 ?_ | refine tk12 (fun _ => ?_) | refine tk4 ?_ | refine tk5 ?_ | refine tk6 ?_ | refine tk7 ?_ | refine tk8 ?_ | refine tk9 ?_ | refine tk10 (fun _ _ => ?_) | refine tk11 (fun _ => ?_)); (conv => whnf))
        exact ⟨j + 1, ⟨by omega, by
          rw [htj, List.mem_append]
          rintro (h | h)
          · exact hJ h
          · simp at h; subst h; exact q3 rfl⟩, rfl, (by repeat' (first | exact List.Sublist.refl _ | exact List.nil_sublist _ | apply List.Sublist.cons_cons | apply List.Sublist.cons)), by dsimp only; omega⟩
    · obtain rfl : j = k := by omega
      rw [if_pos ⟨by omega, hJ⟩, ← htk] at hI
      (conv => whnf); repeat ((first | refine tk1 ?_ | refine tk2 ?_ | refine tk3 ?_ | refine tk12 (fun _ => ?_) | refine tk4 ?_ | refine tk5 ?_ | refine tk6 ?_ | refine tk7 ?_ | refine tk8 ?_ | refine tk9 ?_ | refine tk10 (fun _ _ => ?_) | refine tk11 (fun _ => ?_)); (conv => whnf))
      exact ⟨j + 1, ⟨by omega, hI⟩, rfl, (by repeat' (first | exact List.Sublist.refl _ | exact List.nil_sublist _ | apply List.Sublist.cons_cons | apply List.Sublist.cons)), by dsimp only; omega⟩
  · rw [List.take_of_length_le (by omega), List.drop_eq_nil_of_le (by omega)] at hI
    have hok : prefsG [] l = true := hI
    rw [hok]
    (conv => whnf); repeat ((first | refine tk1 ?_ | refine tk2 ?_ | refine tk3 ?_ | refine tk12 (fun _ => ?_) | refine tk4 ?_ | refine tk5 ?_ | refine tk6 ?_ | refine tk7 ?_ | refine tk8 ?_ | refine tk9 ?_ | refine tk10 (fun _ _ => ?_) | refine tk11 (fun _ => ?_)); (conv => whnf))
    exact fun w' _ => rfl
theorem allP_head (l : List UInt8) : (allP l).headD 0 = (l ++ [0]).headD 0 := by
  unfold allP
  split
  · rename_i h
    cases l with
    | nil => cases h
    | cons a r => rfl
  · rfl
theorem RChosen_f (A : Option Addr) (cp : Nat) (l value : List UInt8) (has : Bool) (hok : prefsG [] l = true) (hv : value.length ≤ 1000000) :
    FnR Tryz.prog gI 58 [.slice A l.length cp, str value, .bool has] [(A, l.map byteV)] (.tuple #[.int .u8 (chooseS l value has).1, .bool (chooseS l value has).2.1]) := by
  obtain ⟨p1, p2⟩ := prefsG_le l [] hok (by simp) (by simp) (by simp)
  have p3 := small_set l (by simpa using p2) p1
  obtain ⟨a, ha⟩ : ∃ a, l ++ [0] = a := ⟨_, rfl⟩
  have hal : a.length = l.length + 1 := by rw [← ha]; simp
  have hle : ∀ x ∈ a, x.toNat ≤ 2 := fun x hx => by
    rw [← ha] at hx
    rcases List.mem_append.1 hx with h | h
    · exact p1 x h
    · simp at h; subst h; decide
  refine FnE.of tys_ok Tryz.func58 rfl (by kernel_rfl) rfl rfl ?_; intro w hG hP
  have hR : ∀ H, RdA (mkC Tryz.prog gI w hG) H A (l.map byteV) := fun H => ⟨hP.1.now⟩
  (conv => whnf); repeat ((first | refine tk1 ?_ | refine tk2 ?_ | refine tk3 ?_ | refine tk12 (fun _ => ?_) | refine tk4 ?_ | refine tk5 ?_ | refine tk6 ?_ | refine tk7 ?_ | refine tk8 ?_ | refine tk9 ?_ | refine tk10 (fun _ _ => ?_) | refine tk11 (fun _ => ?_)); (conv => whnf))
  refine AppS.t0 (m := l.length) (news := l.map byteV) SrcK.tc (by simp) (by simp; intro a _; rfl) (by decide) (by omega) (by omega) (fun B cq => ?_)
  (conv => whnf); repeat ((first | refine tk1 ?_ | refine tk2 ?_ | refine tk3 ?_ | refine tk12 (fun _ => ?_) | refine tk4 ?_ | refine tk5 ?_ | refine tk6 ?_ | refine tk7 ?_ | refine tk8 ?_ | refine tk9 ?_ | refine tk10 (fun _ _ => ?_) | refine tk11 (fun _ => ?_)); (conv => whnf))
  refine AppS.tc (m := 1) (news := [byteV 0]) SrcK.tc rfl (by simp [Value.oneCell', byteV]) (by decide) (by omega) (by omega) (zs := a.map byteV) (by rw [← ha, List.map_append]; rfl) (fun B cq => ?_)
  rw [← hal]
  (conv => whnf); repeat ((first | refine tk1 ?_ | refine tk2 ?_ | refine tk3 ?_ | refine tk12 (fun _ => ?_) | refine tk4 ?_ | refine tk5 ?_ | refine tk6 ?_ | refine tk7 ?_ | refine tk8 ?_ | refine tk9 ?_ | refine tk10 (fun _ _ => ?_) | refine tk11 (fun _ => ?_)); (conv => whnf))
  cases has
  · have hg0 : (a.map byteV)[0]? = some (byteV a[0]) := by rw [List.getElem?_map, List.getElem?_eq_getElem (by omega)]; rfl
    have hS : chooseS l value false = ((a[0].toNat : Int), true, 0) := by
      unfold chooseS
      rw [hok, allP_head, ha]
      cases a with
      | nil => simp at hal
      | cons y r => rfl
    rw [hS]
    (conv => whnf); repeat ((first | refine tk1 ?_ | refine tk2 ?_ | refine tk3 ?_ | refine tk12 (fun _ => ?_) | refine tk4 ?_ | refine tk5 ?_ | refine tk6 ?_ | refine tk7 ?_ | refine tk8 ?_ | refine tk9 ?_ | refine tk10 (fun _ _ => ?_) | refine tk11 (fun _ => ?_)); (conv => whnf))
    refine IdxA.tc (xs := a.map byteV) (by rw [List.length_map]; omega) (by omega) (by omega) ?_
    (conv => whnf); repeat ((first | refine tk1 ?_ | refine tk2 ?_ | refine tk3 ?_ | refine tk12 (fun _ => ?_) | refine tk4 ?_ | refine tk5 ?_ | refine tk6 ?_ | refine tk7 ?_ | refine tk8 ?_ | refine tk9 ?_ | refine tk10 (fun _ _ => ?_) | refine tk11 (fun _ => ?_)); (conv => whnf))
    refine Ld.ta (xs := a.map byteV) (v := byteV a[0]) (by simpa using hg0) ?_
    (conv => whnf); repeat ((first | refine tk1 ?_ | refine tk2 ?_ | refine tk3 ?_ | refine tk12 (fun _ => ?_) | refine tk4 ?_ | refine tk5 ?_ | refine tk6 ?_ | refine tk7 ?_ | refine tk8 ?_ | refine tk9 ?_ | refine tk10 (fun _ _ => ?_) | refine tk11 (fun _ => ?_)); (conv => whnf))
    exact fun w' _ => rfl
  · have hS : chooseS l value true = if (bestL (twU (itemsOf value)) (allP l)).2 = 0 then (0, false, 0) else (((bestL (twU (itemsOf value)) (allP l)).1.toNat : Int), true, 0) := by unfold chooseS; rw [hok]; rfl
    have hch := chosen_is (twU (itemsOf value)) (fun x => (twU_range (itemsOf value) x).1) l
    rw [ha] at hch
    rw [hS]
    obtain ⟨L, hL⟩ : ∃ L, itemsOf value = L := ⟨_, rfl⟩
    have hbr := bestL_range L (allP l)
    rw [hL] at hch ⊢
    (conv => whnf); repeat ((first | refine tk1 ?_ | refine tk2 ?_ | refine tk3 ?_ | refine tk12 (fun _ => ?_) | refine tk4 ?_ | refine tk5 ?_ | refine tk6 ?_ | refine tk7 ?_ | refine tk8 ?_ | refine tk9 ?_ | refine tk10 (fun _ _ => ?_) | refine tk11 (fun _ => ?_)); (conv => whnf))
    refine LoopS.lp tys_ok (fun (x : Nat × UInt8 × Int) u => [u 0, str value, u 2, u 3, u 4, u 5, u 6, u 7, .slice B a.length cq, .int .u8 x.2.1.toNat, .int .i64 x.2.2, .int .i64 (x.1 : Nat), u 12, u 13, u 14, u 15, u 16, u 17, u 18, u 19, u 20, u 21, u 22, u 23, u 24, u 25, u 26, u 27, u 28, u 29, u 30, u 31, u 32, u 33, u 34, u 35, u 36, u 37, u 38, u 39, u 40, u 41, u 42, u 43, u 44])
      (fun _ => [.row (.slice B a.length cq) 5 1 a.length (a.map byteV)])
      (fun x => x.1 ≤ a.length ∧ (x.2.1, x.2.2) = (a.take x.1).foldl (stepB (twU L)) (0, 0)) (fun x => a.length - x.1) (0, 0, 0) ⟨Nat.zero_le _, rfl⟩ rfl (by repeat' (first | exact List.Sublist.refl _ | exact List.nil_sublist _ | apply List.Sublist.cons_cons | apply List.Sublist.cons)) ?_
    rintro ⟨k, x, most⟩ u ⟨hk, hB⟩
    dsimp only at hk hB ⊢
    (conv => whnf); repeat ((first | refine tk1 ?_ | refine tk2 ?_ | refine tk3 ?_ | refine tk12 (fun _ => ?_) | refine tk4 ?_ | refine tk5 ?_ | refine tk6 ?_ | refine tk7 ?_ | refine tk8 ?_ | refine tk9 ?_ | refine tk10 (fun _ _ => ?_) | refine tk11 (fun _ => ?_)); (conv => whnf))
    refine Cmp.cases (fun hlt => ?_) (fun hlt => ?_)
    · have hlt' : k < a.length := by omega
      have hgk : (a.map byteV)[k]? = some (byteV a[k]) := by simp [hlt']
      have htk : a.take (k + 1) = a.take k ++ [a[k]] := List.take_succ_eq_append_getElem hlt'
      have htr := twU_range L a[k]
      obtain ⟨y, hy⟩ : ∃ y, a[k] = y := ⟨_, rfl⟩
      rw [hy] at hgk htk htr
      have hnx : (a.take (k + 1)).foldl (stepB (twU L)) (0, 0) = stepB (twU L) (x, most) y := by
        rw [htk, List.foldl_append, ← hB]
        rfl
      (conv => whnf); repeat ((first | refine tk1 ?_ | refine tk2 ?_ | refine tk3 ?_ | refine tk12 (fun _ => ?_) | refine tk4 ?_ | refine tk5 ?_ | refine tk6 ?_ | refine tk7 ?_ | refine tk8 ?_ | refine tk9 ?_ | refine tk10 (fun _ _ => ?_) | refine tk11 (fun _ => ?_)); (conv => whnf))
      refine IdxA.tc (xs := a.map byteV) (by rw [List.length_map]; omega) (by omega) (by omega) ?_
      (conv => whnf); repeat ((first | refine tk1 ?_ | refine tk2 ?_ | refine tk3 ?_ | refine tk12 (fun _ => ?_) | refine tk4 ?_ | refine tk5 ?_ | refine tk6 ?_ | refine tk7 ?_ | refine tk8 ?_ | refine tk9 ?_ | refine tk10 (fun _ _ => ?_) | refine tk11 (fun _ => ?_)); (conv => whnf))
      refine Ld.ta (xs := a.map byteV) (v := byteV y) (by simpa using hgk) ?_
      (conv => whnf); repeat ((first | refine tk1 ?_ | refine tk2 ?_ | refine tk3 ?_ | refine tk12 (fun _ => ?_) | refine tk4 ?_ | refine tk5 ?_ | refine tk6 ?_ | refine tk7 ?_ | refine tk8 ?_ | refine tk9 ?_ | refine tk10 (fun _ _ => ?_) | refine tk11 (fun _ => ?_)); (conv => whnf))
      refine CallK.fn (RTwice_f value y hv) ?_
      rw [hL]
      (conv => whnf); repeat ((first | refine tk1 ?_ | refine tk2 ?_ | refine tk3 ?_ | refine tk12 (fun _ => ?_) | refine tk4 ?_ | refine tk5 ?_ | refine tk6 ?_ | refine tk7 ?_ | refine tk8 ?_ | refine tk9 ?_ | refine tk10 (fun _ _ => ?_) | refine tk11 (fun _ => ?_)); (conv => whnf))
      refine Cmp.cases (fun q6 => ?_) (fun q6 => ?_)
      · (conv => whnf); repeat ((first | refine tk1 ?_ | refine tk2 ?_ | refine tk3 ?_ | refine tk12 (fun _ => ?_) | refine tk4 ?_ | refine tk5 ?_ | refine tk6 ?_ | refine tk7 ?_ | refine tk8 ?_ | refine tk9 ?_ | refine tk10 (fun _ _ => ?_) | refine tk11 (fun _ => ?_)); (conv => whnf))
        refine IdxA.tc (xs := a.map byteV) (by rw [List.length_map]; omega) (by omega) (by omega) ?_
        (conv => whnf); repeat ((first | refine tk1 ?_ | refine tk2 ?_ | refine tk3 ?_ | refine tk12 (fun _ => ?_) | refine tk4 ?_ | refine tk5 ?_ | refine tk6 ?_ | refine tk7 ?_ | refine tk8 ?_ | refine tk9 ?_ | refine tk10 (fun _ _ => ?_) | refine tk11 (fun _ => ?_)); (conv => whnf))
        refine Ld.ta (xs := a.map byteV) (v := byteV y) (by simpa using hgk) ?_
        (conv => whnf); repeat ((first | refine tk1 ?_ | refine tk2 ?_ | refine tk3 ?_ | refine tk12 (fun _ => ?_) | refine tk4 ?_ | refine tk5 ?_ | refine tk6 ?_ | refine tk7 ?_ | refine tk8 ?_ | refine tk9 ?_ | refine tk10 (fun _ _ => ?_) | refine tk11 (fun _ => ?_)); (conv => whnf))
        refine ⟨(k + 1, y, twU L y), ⟨by dsimp only; omega, ?_⟩, rfl, (by repeat' (first | exact List.Sublist.refl _ | exact List.nil_sublist _ | apply List.Sublist.cons_cons | apply List.Sublist.cons)), by dsimp only; omega⟩
        rw [hnx, stepB, if_pos q6]
      · (conv => whnf); repeat ((first | refine tk1 ?_ | refine tk2 ?_ | refine tk3 ?_ | refine tk12 (fun _ => ?_) | refine tk4 ?_ | refine tk5 ?_ | refine tk6 ?_ | refine tk7 ?_ | refine tk8 ?_ | refine tk9 ?_ | refine tk10 (fun _ _ => ?_) | refine tk11 (fun _ => ?_)); (conv => whnf))
        refine ⟨(k + 1, x, most), ⟨by dsimp only; omega, ?_⟩, rfl, (by repeat' (first | exact List.Sublist.refl _ | exact List.nil_sublist _ | apply List.Sublist.cons_cons | apply List.Sublist.cons)), by dsimp only; omega⟩
        rw [hnx, stepB, if_neg q6]
    · rw [List.take_of_length_le (by omega)] at hB
      rw [← hB] at hch
      rcases hch with ⟨h1, h2⟩ | ⟨h1, h2⟩
      · rw [if_pos h1]
        obtain ⟨rfl, rfl⟩ := Prod.mk.inj h2
        (conv => whnf); repeat ((first | refine tk1 ?_ | refine tk2 ?_ | refine tk3 ?_ | refine tk12 (fun _ => ?_) | refine tk4 ?_ | refine tk5 ?_ | refine tk6 ?_ | refine tk7 ?_ | refine tk8 ?_ | refine tk9 ?_ | refine tk10 (fun _ _ => ?_) | refine tk11 (fun _ => ?_)); (conv => whnf))
        exact fun w' _ => rfl
      · rw [if_neg h1, ← h2]
        rw [← h2] at hbr h1
        dsimp only at hbr h1 ⊢
        (conv => whnf); repeat ((first | refine tk1 ?_ | refine tk2 ?_ | refine tk3 ?_ | refine tk12 (fun _ => ?_) | refine tk4 ?_ | refine tk5 ?_ | refine tk6 ?_ | refine tk7 ?_ | refine tk8 ?_ | refine tk9 ?_ | refine tk10 (fun _ _ => ?_) | refine tk11 (fun _ => ?_)); (conv => whnf))
        exact fun w' _ => rfl
theorem RChoose_f (A : Option Addr) (cp : Nat) (l value : List UInt8) (has : Bool) (hl : l.length ≤ 1000) (hv : value.length ≤ 1000000) :
    FnR Tryz.prog gI 24 [.slice A l.length cp, str value, .bool has] [(A, l.map byteV)] (.tuple #[.int .u8 (chooseS l value has).1, .bool (chooseS l value has).2.1, .int .i64 (chooseS l value has).2.2]) := by
  refine FnE.of tys_ok Tryz.func24 rfl (by kernel_rfl) rfl rfl ?_; intro w hG hP
  have hR : ∀ H, RdA (mkC Tryz.prog gI w hG) H A (l.map byteV) := fun H => ⟨hP.1.now⟩
  (conv => whnf); repeat ((first | refine tk1 ?_ | refine tk2 ?_ | refine tk3 ?_ | refine tk12 (fun _ => ?_) | refine tk4 ?_ | refine tk5 ?_ | refine tk6 ?_ | refine tk7 ?_ | refine tk8 ?_ | refine tk9 ?_ | refine tk10 (fun _ _ => ?_) | refine tk11 (fun _ => ?_)); (conv => whnf))
  refine CallK.fnR (RPrefs_f A cp l hl) ⟨RdA.ok, trivial⟩ ?_
  cases hok : prefsG [] l
  · have e : chooseS l value has = (0, false, 2) := by unfold chooseS; rw [hok]; rfl
    rw [e]
    (conv => whnf); repeat ((first | refine tk1 ?_ | refine tk2 ?_ | refine tk3 ?_ | refine tk12 (fun _ => ?_) | refine tk4 ?_ | refine tk5 ?_ | refine tk6 ?_ | refine tk7 ?_ | refine tk8 ?_ | refine tk9 ?_ | refine tk10 (fun _ _ => ?_) | refine tk11 (fun _ => ?_)); (conv => whnf))
    exact fun w' _ => rfl
  · have e : (chooseS l value has).2.2 = 0 := by
      unfold chooseS
      rw [hok]
      simp only [if_true]
      split
      · split <;> rfl
      · rfl
    rw [e]
    (conv => whnf); repeat ((first | refine tk1 ?_ | refine tk2 ?_ | refine tk3 ?_ | refine tk12 (fun _ => ?_) | refine tk4 ?_ | refine tk5 ?_ | refine tk6 ?_ | refine tk7 ?_ | refine tk8 ?_ | refine tk9 ?_ | refine tk10 (fun _ _ => ?_) | refine tk11 (fun _ => ?_)); (conv => whnf))
    refine CallK.fnR (RChosen_f A cp l value has hok hv) ⟨RdA.ok, trivial⟩ ?_
    (conv => whnf); repeat ((first | refine tk1 ?_ | refine tk2 ?_ | refine tk3 ?_ | refine tk12 (fun _ => ?_) | refine tk4 ?_ | refine tk5 ?_ | refine tk6 ?_ | refine tk7 ?_ | refine tk8 ?_ | refine tk9 ?_ | refine tk10 (fun _ _ => ?_) | refine tk11 (fun _ => ?_)); (conv => whnf))
    exact fun w' _ => rfl
theorem rowH_cap {w : World} {A : Option Addr} {cp e size n : Nat} {xs : List Value} (h : RowH w (.slice A n cp) e size n xs) : n ≤ cp := by
  rcases h.2 with ⟨he, h0⟩ | ⟨g, cap, cur, fz, he, _, hn, _⟩
  · cases he; omega
  · cases he; exact hn
theorem AcceptTells_v (A : Option Addr) (cp : Nat) (l value : List UInt8) (has : Bool) (s : List UInt8) (c : UInt8) :
    FnR Tryz.prog gI 4 [.slice A l.length cp, str value, .bool has, str s, .int .u8 c.toNat] [(A, l.map byteV)] (.bool true) := by
  refine FnE.of tys_ok Tryz.func4 rfl (by kernel_rfl) rfl rfl ?_; intro w hG hP
  have hR : ∀ H, RdA (mkC Tryz.prog gI w hG) H A (l.map byteV) := fun H => ⟨hP.1.now⟩
  (conv => whnf); repeat ((first | refine tk1 ?_ | refine tk2 ?_ | refine tk3 ?_ | refine tk12 (fun _ => ?_) | refine tk4 ?_ | refine tk5 ?_ | refine tk6 ?_ | refine tk7 ?_ | refine tk8 ?_ | refine tk9 ?_ | refine tk10 (fun _ _ => ?_) | refine tk11 (fun _ => ?_)); (conv => whnf))
  refine Cmp.cases (fun q1 => ?_) (fun q1 => ?_)
  · (conv => whnf); repeat ((first | refine tk1 ?_ | refine tk2 ?_ | refine tk3 ?_ | refine tk12 (fun _ => ?_) | refine tk4 ?_ | refine tk5 ?_ | refine tk6 ?_ | refine tk7 ?_ | refine tk8 ?_ | refine tk9 ?_ | refine tk10 (fun _ _ => ?_) | refine tk11 (fun _ => ?_)); (conv => whnf))
    exact fun w' _ => rfl
  (conv => whnf); repeat ((first | refine tk1 ?_ | refine tk2 ?_ | refine tk3 ?_ | refine tk12 (fun _ => ?_) | refine tk4 ?_ | refine tk5 ?_ | refine tk6 ?_ | refine tk7 ?_ | refine tk8 ?_ | refine tk9 ?_ | refine tk10 (fun _ _ => ?_) | refine tk11 (fun _ => ?_)); (conv => whnf))
  refine Cmp.cases (fun q2 => ?_) (fun q2 => ?_)
  · (conv => whnf); repeat ((first | refine tk1 ?_ | refine tk2 ?_ | refine tk3 ?_ | refine tk12 (fun _ => ?_) | refine tk4 ?_ | refine tk5 ?_ | refine tk6 ?_ | refine tk7 ?_ | refine tk8 ?_ | refine tk9 ?_ | refine tk10 (fun _ _ => ?_) | refine tk11 (fun _ => ?_)); (conv => whnf))
    exact fun w' _ => rfl
  (conv => whnf); repeat ((first | refine tk1 ?_ | refine tk2 ?_ | refine tk3 ?_ | refine tk12 (fun _ => ?_) | refine tk4 ?_ | refine tk5 ?_ | refine tk6 ?_ | refine tk7 ?_ | refine tk8 ?_ | refine tk9 ?_ | refine tk10 (fun _ _ => ?_) | refine tk11 (fun _ => ?_)); (conv => whnf))
  refine Cmp.cases (fun q3 => ?_) (fun q3 => ?_)
  · (conv => whnf); repeat ((first | refine tk1 ?_ | refine tk2 ?_ | refine tk3 ?_ | refine tk12 (fun _ => ?_) | refine tk4 ?_ | refine tk5 ?_ | refine tk6 ?_ | refine tk7 ?_ | refine tk8 ?_ | refine tk9 ?_ | refine tk10 (fun _ _ => ?_) | refine tk11 (fun _ => ?_)); (conv => whnf))
    exact fun w' _ => rfl
  (conv => whnf); repeat ((first | refine tk1 ?_ | refine tk2 ?_ | refine tk3 ?_ | refine tk12 (fun _ => ?_) | refine tk4 ?_ | refine tk5 ?_ | refine tk6 ?_ | refine tk7 ?_ | refine tk8 ?_ | refine tk9 ?_ | refine tk10 (fun _ _ => ?_) | refine tk11 (fun _ => ?_)); (conv => whnf))
  refine AppS.t0 (m := l.length) (news := l.map byteV) SrcK.tc (by simp) (by simp; intro a _; rfl) (by decide) (by omega) (by omega) (fun B cq => ?_)
  (conv => whnf); repeat ((first | refine tk1 ?_ | refine tk2 ?_ | refine tk3 ?_ | refine tk12 (fun _ => ?_) | refine tk4 ?_ | refine tk5 ?_ | refine tk6 ?_ | refine tk7 ?_ | refine tk8 ?_ | refine tk9 ?_ | refine tk10 (fun _ _ => ?_) | refine tk11 (fun _ => ?_)); (conv => whnf))
  refine CallK.fn (Weight_f s (by omega)) ?_
  (conv => whnf); repeat ((first | refine tk1 ?_ | refine tk2 ?_ | refine tk3 ?_ | refine tk12 (fun _ => ?_) | refine tk4 ?_ | refine tk5 ?_ | refine tk6 ?_ | refine tk7 ?_ | refine tk8 ?_ | refine tk9 ?_ | refine tk10 (fun _ _ => ?_) | refine tk11 (fun _ => ?_)); (conv => whnf))
  refine CallK.fn (RWeight_f s (by omega)) ?_
  (conv => whnf); repeat ((first | refine tk1 ?_ | refine tk2 ?_ | refine tk3 ?_ | refine tk12 (fun _ => ?_) | refine tk4 ?_ | refine tk5 ?_ | refine tk6 ?_ | refine tk7 ?_ | refine tk8 ?_ | refine tk9 ?_ | refine tk10 (fun _ _ => ?_) | refine tk11 (fun _ => ?_)); (conv => whnf))
  refine CallK.fn (Weigh_f value c (by omega)) ?_
  (conv => whnf); repeat ((first | refine tk1 ?_ | refine tk2 ?_ | refine tk3 ?_ | refine tk12 (fun _ => ?_) | refine tk4 ?_ | refine tk5 ?_ | refine tk6 ?_ | refine tk7 ?_ | refine tk8 ?_ | refine tk9 ?_ | refine tk10 (fun _ _ => ?_) | refine tk11 (fun _ => ?_)); (conv => whnf))
  refine CallK.fn (RWeigh_f value c (by omega)) ?_
  (conv => whnf); repeat ((first | refine tk1 ?_ | refine tk2 ?_ | refine tk3 ?_ | refine tk12 (fun _ => ?_) | refine tk4 ?_ | refine tk5 ?_ | refine tk6 ?_ | refine tk7 ?_ | refine tk8 ?_ | refine tk9 ?_ | refine tk10 (fun _ _ => ?_) | refine tk11 (fun _ => ?_)); (conv => whnf))
  refine CallK.fn (Name_f c) ?_
  (conv => whnf); repeat ((first | refine tk1 ?_ | refine tk2 ?_ | refine tk3 ?_ | refine tk12 (fun _ => ?_) | refine tk4 ?_ | refine tk5 ?_ | refine tk6 ?_ | refine tk7 ?_ | refine tk8 ?_ | refine tk9 ?_ | refine tk10 (fun _ _ => ?_) | refine tk11 (fun _ => ?_)); (conv => whnf))
  refine CallK.fn (RName_f c) ?_
  (conv => whnf); repeat ((first | refine tk1 ?_ | refine tk2 ?_ | refine tk3 ?_ | refine tk12 (fun _ => ?_) | refine tk4 ?_ | refine tk5 ?_ | refine tk6 ?_ | refine tk7 ?_ | refine tk8 ?_ | refine tk9 ?_ | refine tk10 (fun _ _ => ?_) | refine tk11 (fun _ => ?_)); (conv => whnf))
  refine CallK.fn (AccOf_f s (by omega)) ?_
  (conv => whnf); repeat ((first | refine tk1 ?_ | refine tk2 ?_ | refine tk3 ?_ | refine tk12 (fun _ => ?_) | refine tk4 ?_ | refine tk5 ?_ | refine tk6 ?_ | refine tk7 ?_ | refine tk8 ?_ | refine tk9 ?_ | refine tk10 (fun _ _ => ?_) | refine tk11 (fun _ => ?_)); (conv => whnf))
  refine CallK.fn (ROf_f s (by omega)) ?_
  (conv => whnf); repeat ((first | refine tk1 ?_ | refine tk2 ?_ | refine tk3 ?_ | refine tk12 (fun _ => ?_) | refine tk4 ?_ | refine tk5 ?_ | refine tk6 ?_ | refine tk7 ?_ | refine tk8 ?_ | refine tk9 ?_ | refine tk10 (fun _ _ => ?_) | refine tk11 (fun _ => ?_)); (conv => whnf))
  refine CallK.fnEV (Choose_g B cq l value has (by omega) (by omega)) (fun w1 hw1 => ⟨⟨RdA.ok (self := inferInstance) w1 hw1, trivial⟩, ?_⟩) ?_
  · have hrow := (hw1.own (.row (.slice B l.length cq) 5 1 l.length (l.map byteV)) (by simp)).1
    exact rowH_cap hrow
  (conv => whnf); repeat ((first | refine tk1 ?_ | refine tk2 ?_ | refine tk3 ?_ | refine tk12 (fun _ => ?_) | refine tk4 ?_ | refine tk5 ?_ | refine tk6 ?_ | refine tk7 ?_ | refine tk8 ?_ | refine tk9 ?_ | refine tk10 (fun _ _ => ?_) | refine tk11 (fun _ => ?_)); (conv => whnf))
  refine CallK.fnR (RChoose_f A cp l value has (by omega) (by omega)) ⟨RdA.ok, trivial⟩ ?_
  obtain ⟨S, hS⟩ : ∃ S, chooseS l value has = S := ⟨_, rfl⟩
  rw [hS]
  obtain ⟨s1, s2, s3⟩ := S
  obtain ⟨n1, hn1⟩ : ∃ n, (if c.toNat ≤ 2 then twiceW (itemsOf value) c.toNat else 0) = n := ⟨_, rfl⟩
  obtain ⟨n2, hn2⟩ : ∃ n, (if c.toNat ≤ 2 then (0 : Int) else 2) = n := ⟨_, rfl⟩
  obtain ⟨n3, hn3⟩ : ∃ n, (if c.toNat ≤ 2 then codNm c.toNat else []) = n := ⟨_, rfl⟩
  obtain ⟨o, ho⟩ : ∃ o, ofI s = o := ⟨_, rfl⟩
  obtain ⟨d, hd⟩ : ∃ d, decide (0 ≤ o) = d := ⟨_, rfl⟩
  rw [hn1, hn2, hn3, ho, hd]
  dsimp only
  cases hw : wtB s <;> cases s2 <;> cases d <;> skip
  all_goals
    (repeat' ((conv => whnf); first | refine Cmp.t rfl ?_ | (first | refine tk1 ?_ | refine tk2 ?_ | refine tk3 ?_ | refine tk12 (fun _ => ?_) | refine tk4 ?_ | refine tk5 ?_ | refine tk6 ?_ | refine tk7 ?_ | refine tk8 ?_ | refine tk9 ?_ | refine tk10 (fun _ _ => ?_) | refine tk11 (fun _ => ?_)) | refine B2S.tc (xs := l.map byteV) (l := l) rfl rfl ?_)); (conv => whnf)
    exact fun w' _ => rfl
end Go.Proofs.YtggokigjnaiokaaGreatDoor.Vex
namespace Go.Proofs.YtggokigjnaiokaaGreatDoor.acceptTells
open Go.ChangeShapes Go.WideShapes Go.ChangeAt Go.RowKit

set_option maxRecDepth 100000 in
theorem contract (H : Type) (enc : TypeId × Value → H) (W : World) (base : Nat) (args : Array Value) (ds gs : List (DataW H)) (before : List MemPlace)
    (hval : ∀ (j : Nat) t v, Tryz.f4.params[j]? = some t → args[j]? = some v → Value.okWide Tryz.prog W .any base t v)
    (hW : DataW.Whole enc Tryz.prog Tryz.f4.params.toList Rows.acceptTellsSpec.vars false W args.toList ds gs before) (_hL : laidMetH Tryz.prog Rows.acceptTellsRow.laid W) (hS : W.ShapedOpen Tryz.prog) :
    Calls Tryz.prog 4 args W fun e W' => ∃ v, e = .returned v ∧ Rows.acceptTellsSpec.post enc Tryz.prog Tryz.f4 false true false false W args v W' := by
  have hW' := hW
  obtain ⟨p, q, hA, hV, rfl, hfz, hnd⟩ := hW
  rw [Tryz.params4] at hA hval
  obtain ⟨v0, vs0, d0, ds0, p0, q0, hargs, rfl, rfl, h0, r0⟩ := trodAll_cons hA
  obtain ⟨v1, vs1, d1, ds1, p1, q1, rfl, rfl, rfl, h1, r1⟩ := trodAll_cons r0
  obtain ⟨v2, vs2, d2, ds2, p2, q2, rfl, rfl, rfl, h2, r2⟩ := trodAll_cons r1
  obtain ⟨v3, vs3, d3, ds3, p3, q3, rfl, rfl, rfl, h3, r3⟩ := trodAll_cons r2
  obtain ⟨v4, vs4, d4, ds4, p4, q4, rfl, rfl, rfl, h4, r4⟩ := trodAll_cons r3
  obtain ⟨rfl, rfl, rfl⟩ := trodAll_nil r4
  obtain rfl : args = #[v0, v1, v2, v3, v4] := by rw [← Array.toList_inj]; exact hargs
  obtain ⟨rfl, rfl⟩ := trodVars_none hV
  obtain ⟨x0, e0, k0, z0⟩ := Vex.open_cell Vex.opens_bytes (by rw [Tryz.underlying26]) (hval 0 26 v0 rfl rfl) h0
  obtain rfl := (List.cons.inj e0).1
  obtain ⟨x1, e1, k1, z1⟩ := Vex.open_cell Vex.opens_string (by rw [Tryz.underlying9]) (hval 1 9 v1 rfl rfl) h1
  obtain rfl := (List.cons.inj e1).1
  obtain ⟨x2, e2, k2, z2⟩ := Vex.open_cell Vex.opens_tf (by rw [Tryz.underlying4]) (hval 2 4 v2 rfl rfl) h2
  obtain rfl := (List.cons.inj e2).1
  obtain ⟨x3, e3, k3, z3⟩ := Vex.open_cell Vex.opens_string (by rw [Tryz.underlying9]) (hval 3 9 v3 rfl rfl) h3
  obtain rfl := (List.cons.inj e3).1
  obtain ⟨x4, e4, k4, z4⟩ := Vex.open_cell Vex.opens_u8 (by rw [Tryz.underlying5]) (hval 4 5 v4 rfl rfl) h4
  obtain rfl := (List.cons.inj e4).1
  have hG := Vex.gB_of hS
  refine (Vex.done_E (Vex.AcceptTells_v x0.A x0.cp x0.l x1 x2 x3 x4) hG ⟨Vex.rd_bytes k0, trivial⟩).mono fun e W' ⟨he, hb⟩ => ?_
  exact ⟨_, he, law_post laidOut rfl hW' (by kernel_rfl) (by kernel_rfl) Tryz.underlying4 (by kernel_rfl) hb⟩

abbrev start : Array Value := #[.slice none 0 0, .string ⟨#[]⟩, .bool false, .string ⟨#[]⟩, .int .u8 0]
theorem laid_met (os : Os) : laidMet Tryz.prog Rows.acceptTellsRow.laid ((laidWorld os start).forCall (fun _ _ => 0) ⟨#[], start, []⟩).memory :=
  laidMet_of_run' 8 (by kernel_rfl) (by kernel_rfl)
theorem reads (os : Os) {H : Type} (enc : TypeId × Value → H) : ∃ places, DataW.whole enc Tryz.prog ((laidWorld os start).forCall (fun _ _ => 0) ⟨#[], start, []⟩).memory Tryz.f4.params.toList Rows.acceptTellsSpec.vars false start.toList 8 = some ([.nil, .lit (.string []), .lit (.bool false), .lit (.string []), .lit (.int .u8 0)], [], places) :=
  ⟨[], by kernel_rfl⟩

set_option maxRecDepth 100000 in
theorem lifted (os : Os) (started : os.Started) (H : Type) (enc : TypeId × Value → H) (F : Stop.Interp) :
    ReturnsInHanded {} Tryz.checked os 4 .any ((OpenSpec.ofChange Rows.acceptTellsSpec).preRow enc Tryz.prog Tryz.f4 Rows.acceptTellsRow.domain false Rows.acceptTellsRow.laid) (((OpenSpec.ofChange Rows.acceptTellsSpec).at F).post enc Tryz.prog Tryz.f4 false true false false) := by
  obtain ⟨places, hx⟩ := reads os enc
  refine returnsInHanded_of_row (C := Tryz.checked) (s := OpenSpec.ofChange Rows.acceptTellsSpec) own started (by kernel_rfl) Tryz.func4
    (witness_row_atRef (enc := enc) (C := Tryz.checked) false (laidWorld os start) start rfl (by kernel_rfl) (by kernel_rfl) (by kernel_rfl)
      (OpenSpec.preRow_of_cond 8 hx (by kernel_rfl) (fun k hk => by cases hk) (by kernel_rfl) (laid_met os))) ?_
  intro W base args ds gs before hval hW _ _ _ hL hS _
  exact contract H enc W base args ds gs before hval hW hL hS

theorem said : Rows.AcceptTellsSaid :=
  OpenClaim.holds_of_cond 4 Tryz.f4 rfl rfl rfl rfl rfl rfl rfl ⟨rfl, rfl, rfl, rfl, rfl⟩ rfl rfl rfl rfl rfl (by kernel_rfl) Tryz.func4 (by kernel_rfl)
    (of_decide_eq_true (by kernel_rfl)) (by unfold Func.isWrapper; first | (rw [if_pos (by decide +kernel)]; kernel_rfl) | (rw [if_neg (by decide +kernel)]; exact ⟨rfl, rfl⟩))
    (fun os started H enc _ F => by rw [OpenClaim.pre_eq_preRow]; exact lifted os started H enc F)

/-- No parameter wants a stand-in; the program's own looks. -/
theorem plain (f : FuncId) (fn : Func) (hf : Tryz.pinned.checked.prog.funcNamed "bellows/bellowslaw23.AcceptTells" = some f) (hfn : Tryz.pinned.checked.prog.funcs[f]? = some fn) :
    true = Tryz.pinned.checked.prog.looks [] ∧ ∀ (j : Nat) t, fn.params[j]? = some t → Tryz.pinned.checked.prog.wantsStandIn t = false := by
  obtain rfl : f = 4 := Option.some.inj ((show Tryz.prog.funcNamed "bellows/bellowslaw23.AcceptTells" = some 4 by kernel_rfl).symm.trans hf) |>.symm
  obtain rfl : fn = Tryz.f4 := (Option.some.inj (Tryz.func4.symm.trans hfn)).symm
  refine ⟨by kernel_rfl, fun j t ht => ?_⟩
  have hall : (Tryz.f4.params.toList.all fun t => !Tryz.prog.wantsStandIn t) = true := by kernel_rfl
  have := List.all_eq_true.1 hall t (Array.mem_toList_iff.2 (Array.mem_of_getElem? ht))
  exact (show Tryz.prog.wantsStandIn t = false by simpa using this)

theorem proved : Rows.AcceptTellsCardSaid :=
  Claim7.holds_tied_plain_at .later [] _ _ _ _ said (fun _ h => by cases h) (by kernel_rfl) (fun _ h => by cases h) acceptTells_row_tie rfl ⟨rfl, rfl⟩ (by kernel_rfl) rfl plain (by kernel_rfl)
end Go.Proofs.YtggokigjnaiokaaGreatDoor.acceptTells
