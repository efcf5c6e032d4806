/- The program's Core, cores and Match. -/
import Derived.Test.YtgemjpoggbdfaaaDoorTagQ
namespace Go.Proofs.YtgemjpoggbdfaaaDoor
open Go.RowKit

def coreB (l : List UInt8) : Bool := (coreOf l).isSome
def coreC (l : List UInt8) : List UInt8 := (coreOf l).getD []
def CorePost (s : ByteArray) (w : World) (e : Ending) (w' : World) : Prop :=
  ∃ c, e = .returned (.tuple #[.string c, .bool (coreB (L s))]) ∧ c.size ≤ s.size ∧ Hid (L c = coreC (L s)) ∧ Below w.heap.size w w'
theorem coreOf_yes (l : List UInt8) (h : entB l = true) (h2 : entL l = []) : coreOf l = some (entC l) := by
  unfold entB at h
  unfold entL at h2
  unfold coreOf entC
  cases he : entity l with
  | none => simp [he] at h
  | some p =>
    obtain ⟨c, r⟩ := p
    simp only [he, entR] at h2 ⊢
    subst h2
    rfl
theorem coreOf_no (l : List UInt8) (h : entB l = false ∨ ¬ entL l = []) : coreOf l = none := by
  unfold entB entL at h
  unfold coreOf
  cases he : entity l with
  | none => rfl
  | some p =>
    obtain ⟨c, r⟩ := p
    simp only [he, entR, Option.isSome_some, Bool.true_eq_false, false_or] at h ⊢
    cases r with
    | nil => exact absurd rfl h
    | cons x r => rfl
theorem CorePost.no {s : ByteArray} {w w' : World} (h : coreOf (L s) = none) (hb : Below w.heap.size w w') : CorePost s w (.returned (.tuple #[.string ⟨#[]⟩, .bool false])) w' :=
  ⟨⟨#[]⟩, by unfold coreB; rw [h]; rfl, by simp [size_lit], by show _ = _; unfold coreC; rw [h]; rfl, hb⟩

set_option maxHeartbeats 1000000 in
theorem Core_c (s : ByteArray) (w : World) (hs : s.size ≤ 1000000000000) : Calls Tryd.prog 14 #[.string s] w (CorePost s w) := by
  go_enter Tryd.func14, Tryd.ntmps14
  go_wp2_with fail
  refine (entity_c s w.heap.size _ (by exact Boxed.new _ _ _) hs).mono ?_
  rintro e w1 ⟨c, r, rfl, hz, hz2, hc, hr, hB, hg⟩
  have hb : Below w.heap.size w w1 := ((Below.refl _ w).alloc (Nat.le_refl _) _).grown hg (by simp) (by simp)
  have hcl := hB.cell
  clear hB hg
  go_wp2_with fail
  all_goals go_ret2
  · rename_i h1 h2
    refine CorePost.no (coreOf_no _ (.inr ?_)) hb
    rw [← hr.out, ← toList_L]
    intro h0
    simp [h0] at h2
  · rename_i h1 h2
    have h0 : coreOf (L s) = some (entC (L s)) := coreOf_yes _ h1 (by rw [← hr.out, ← toList_L]; simpa using h2)
    exact ⟨c, by unfold coreB; rw [h0]; rfl, hz, by show _ = _; unfold coreC; rw [h0, hc.out]; rfl, hb⟩
  · rename_i h1
    exact CorePost.no (coreOf_no _ (.inl (by simpa using h1))) hb

/-! The list of cores. -/
theorem entL_lt (l : List UInt8) (h : entB l = true) : (entL l).length + 1 ≤ l.length := by
  unfold entB at h
  unfold entL
  cases he : entity l with
  | none => simp [he] at h
  | some p => exact entity_le l p.1 p.2 he
theorem listStep_rest (l : List UInt8) : (listStep l).2 = trimLB (entL (trimLB l)) := by
  unfold listStep entL
  cases he : entity (trimLB l) with
  | none => rfl
  | some p => rfl
theorem listStep_yes (l : List UInt8) (h : entB (trimLB l) = true) : (listStep l).1 = [entC (trimLB l)] := by
  unfold entB at h
  unfold listStep entC
  cases he : entity (trimLB l) with
  | none => simp [he] at h
  | some p => rfl
theorem listStep_no (l : List UInt8) (h : entB (trimLB l) = false) : (listStep l).1 = [] := by
  unfold entB at h
  unfold listStep
  cases he : entity (trimLB l) with
  | none => rfl
  | some p => simp [he] at h
theorem cores_end (acc : List (List UInt8)) (l : List UInt8) (h : (listStep l).2 = []) : coresN (l.length + 1) acc l = (acc ++ (listStep l).1, decide (0 < (acc ++ (listStep l).1).length)) := by
  rw [coresN, h]
theorem cores_bad (acc : List (List UInt8)) (l : List UInt8) (h : ¬ (listStep l).2 = []) (hp : Lib.hasPrefix (listStep l).2 [44] = false) : coresN (l.length + 1) acc l = ([], false) := by
  rw [coresN]
  cases hl : (listStep l).2 with
  | nil => exact absurd hl h
  | cons x r =>
    simp only
    rw [if_neg]
    intro hx
    rw [hl, b8 (n := 44) (by decide) hx] at hp
    simp [Lib.hasPrefix] at hp
theorem cores_on (acc : List (List UInt8)) (l : List UInt8) (hp : Lib.hasPrefix (listStep l).2 [44] = true) :
    coresN (l.length + 1) acc l = coresN ((Lib.trimPrefix (listStep l).2 [44]).length + 1) (acc ++ (listStep l).1) (Lib.trimPrefix (listStep l).2 [44]) ∧ (Lib.trimPrefix (listStep l).2 [44]).length + 1 ≤ l.length := by
  have hle := listStep_le l
  cases hl : (listStep l).2 with
  | nil => rw [hl] at hp; simp [Lib.hasPrefix] at hp
  | cons x r =>
    rw [hl] at hp hle
    have hx : x = 44 := by
      simp [Lib.hasPrefix] at hp
      exact hp.symm
    subst hx
    have ht : Lib.trimPrefix (44 :: r) [44] = r := by rw [Lib.trimPrefix, if_pos hp]; rfl
    rw [ht]
    simp only [List.length_cons] at hle
    refine ⟨?_, by omega⟩
    rw [coresN, hl]
    simp only
    rw [if_pos (by decide)]
    exact coresN_fuel _ _ _ (by omega)

def CoresInv (s : ByteArray) (w : World) (v : Value) (t : ByteArray) (wr : World) : Prop :=
  ∃ ss : List ByteArray, Boxed wr w.heap.size 63 (.string t) ∧ wr.ownsRow w.heap.size 9 1 v ss.length (ss.map Value.string) ∧ Below w.heap.size w wr ∧ ss.length + t.size ≤ s.size ∧
    coresOf (L s) = coresN ((L t).length + 1) (ss.map L) (L t)
def CoresPost (s : ByteArray) (w : World) (e : Ending) (w' : World) : Prop :=
  ∃ (v : Value) (ss : List ByteArray), e = .returned (.tuple #[v, .bool (coresOf (L s)).2]) ∧ (coresOf (L s)).1 = ss.map L ∧ w'.ownsRow w.heap.size 9 1 v ss.length (ss.map Value.string) ∧ ss.length ≤ s.size ∧ Below w.heap.size w w'
theorem Tryd.infoStr : (Tryd.prog.info? 9).map (fun i => (i.zero, i.size, i.bytes)) = some (some (.string ⟨#[]⟩), 1, 16) := by kernel_rfl

/-- The length of the text in a box: a loop's measure. -/
def boxLen (b : Nat) (w : World) : Nat := match w.cell? ⟨b, 0, none⟩ with | some (.string t) => t.size | _ => 0
theorem boxLen_eq {w : World} {b : Nat} {t : TypeId} {s : ByteArray} (h : Boxed w b t (.string s)) : boxLen b w = s.size := by unfold boxLen; rw [h.cell]

set_option maxRecDepth 100000 in
set_option maxHeartbeats 2000000 in
theorem cores_c (s : ByteArray) (w : World) (hs : s.size ≤ 1000000000000) : Calls Tryd.prog 40 #[.string s] w (CoresPost s w) := by
  obtain ⟨i0, hi0, hiz, his, hib⟩ := info_parts Tryd.infoStr
  go_enter Tryd.func40, Tryd.ntmps40
  go_wp2_with fail
  go_loopw [2] (fun v wr => ∃ t : ByteArray, CoresInv s w v t wr) (fun _ wr => boxLen w.heap.size wr)
  case atStart => exact ⟨s, [], Boxed.new _ _ _, World.ownsRow_nil _ _ _ _, (Below.refl _ _).alloc (Nat.le_refl _) _, by simp, rfl⟩
  case round =>
    obtain ⟨t, hinv⟩ := hrel
    obtain ⟨ss, hB, hrow, hbel, hle, hI⟩ := hinv
    have HI := Lib.hid hI; clear hI
    obtain ⟨A, cap, rfl⟩ := row_form hrow
    have HR := Lib.hid hrow; clear hrow
    have HBW := Lib.hid hB
    have hlt0 := hbel.size
    go_wp2_with fail
    refine (blank_c t w.heap.size _ hB).mono ?_
    rintro e w1 ⟨rfl, t1, hz1, ht1, hB1, hg1⟩
    have HR1 := Lib.hid (HR.out.kept hg1 (Or.inr (hB.not_row (by decide) HR.out).symm))
    have hbel1 := hbel.grown hg1 hbel.size (fun k hk => by cases hk; exact Nat.le_refl _)
    clear hB hg1 HR
    go_wp2_with fail
    refine (entity_c t1 w.heap.size _ hB1 (by omega)).mono ?_
    rintro e w2 ⟨c, r, rfl, hzc, hzr, hc, hr, hB2, hg2⟩
    have HR2 := Lib.hid (HR1.out.kept hg2 (Or.inr (hB1.not_row (by decide) HR1.out).symm))
    have hbel2 := hbel1.grown hg2 hbel1.size (fun k hk => by cases hk; exact Nat.le_refl _)
    clear hB1 hg2 HR1 hbel1
    by_cases hE : entB (L t1) = true
    · have hE' := entL_lt _ hE
      have hlr : r.size + 1 ≤ t1.size := by rw [← hr.out, L_length, L_length] at hE'; exact hE'
      go_wp2_with (at_builtin; go_must (refine wpList_append_own _ rfl (.tmp 18) (.tmp 20) _ rfl w.heap.size 9 i0 _ 1 16 Tryd.underlying53 hi0 hiz his hib rfl (by decide) _ _ _ rfl (HR2.out.alloc _) ⟨w2.heap.size, 0, none⟩ 1 1 [.string c] rfl rfl (cell_one_new _ _ _) (by simp [Value.oneCell']) (by unfold maxLen; omega) (by omega) (by have := hbel2.size; simp; omega) ?_); intro v' w3 hown3 hg3 _)
      obtain ⟨A', cap', rfl⟩ := row_form hown3
      have hB3 := (hB2.alloc (.cells #[.string c] 9)).kept hg3 ((hB2.alloc (.cells #[.string c] 9)).not_row (by decide) (HR2.out.alloc _))
      have hbel3 := (hbel2.alloc hbel2.size _).grown hg3 (by have := hbel2.size; simp; omega) (fun k hk => ((HR2.out.alloc (.cells #[.string c] 9)).lt k hk).1)
      have HR3 : Hid (w3.ownsRow w.heap.size 9 1 (.slice A' (ss.length + 1) cap') (ss ++ [c]).length ((ss ++ [c]).map Value.string)) := by show World.ownsRow _ _ _ _ _ _ _; simpa using hown3
      have HS : Hid ((ss ++ [c]).map L = ss.map L ++ (listStep (L t)).1) := by show _ = _; rw [listStep_yes _ (by rw [← ht1.out]; exact hE), List.map_append, List.map_cons, List.map_nil, hc.out, ht1.out]
      have hlen : (ss ++ [c]).length + r.size ≤ s.size := by simp; omega
      clear hown3 hg3 hE hE' hB2 hbel2 HR2
      go_wp2_with fail
      refine (blank_c r w.heap.size _ hB3).mono ?_
      rintro e w4 ⟨rfl, t3, hz3, ht3, hB4, hg4⟩
      have HR4 := Lib.hid (HR3.out.kept hg4 (Or.inr (hB3.not_row (by decide) HR3.out).symm))
      have hbel4 := hbel3.grown hg4 hbel3.size (fun k hk => by cases hk; exact Nat.le_refl _)
      have HL3 := Lib.hid (show L t3 = (listStep (L t)).2 from by rw [ht3.out, hr.out, ht1.out, listStep_rest])
      have hc4 := hB4.cell
      have hlt4 := hB4.lt
      clear hB3 hg4 HR3 hbel3 ht3
      by_cases h0 : t3.toList = []
      · have HF := Lib.hid (cores_end (ss.map L) (L t) (by rw [← HL3.out, ← toList_L]; exact h0))
        go_wp2_with fail
        go_ret2
        have e1 : coresOf (L s) = (ss.map L ++ (listStep (L t)).1, decide (0 < (ss.map L ++ (listStep (L t)).1).length)) := HI.out.trans HF.out
        rw [← HS.out] at e1
        exact ⟨_, ss ++ [c], by rw [e1]; simp, by rw [e1], HR4.out, by omega, hbel4⟩
      · have h0' : t3.toList.isEmpty = false := by simpa using h0
        have HN : Hid (¬ (listStep (L t)).2 = []) := fun h => h0 (by rw [toList_L, HL3.out, h])
        clear h0
        go_wp2_with fail
        refine (take_c t3 _ w.heap.size _ hB4).mono ?_
        rintro e w5 ⟨rfl, t4, hz4, ht4, hB5, hg5⟩
        have HR5 := Lib.hid (HR4.out.kept hg5 (Or.inr (hB4.not_row (by decide) HR4.out).symm))
        have hbel5 := hbel4.grown hg5 hbel4.size (fun k hk => by cases hk; exact Nat.le_refl _)
        clear hg5 HR4 hbel4
        by_cases hp : Lib.hasPrefix (L t3) (L ⟨#[44]⟩) = true
        · have HF := Lib.hid (cores_on (ss.map L) (L t) (by rw [← HL3.out]; exact hp))
          have HT4 := Lib.hid (show L t4 = Lib.trimPrefix (listStep (L t)).2 [44] from by rw [ht4.out, HL3.out]; rfl)
          have hlt' : t4.size + 1 ≤ t.size := by have h9 := HF.out.2; rw [← HT4.out, L_length, L_length] at h9; exact h9
          have HC := Lib.hid hB5; clear hB4 hB5
          go_wp2_with fail
          go_roundw
          case rel => exact ⟨t4, ss ++ [c], HC.out, HR5.out, hbel5, by omega, by rw [HI.out, HF.out.1, ← HT4.out, ← HS.out]⟩
          case measure => rw [boxLen_eq HC.out, boxLen_eq HBW.out]; omega
        · have hp' : Lib.hasPrefix (L t3) (L ⟨#[44]⟩) = false := by simpa using hp
          have HF := Lib.hid (HI.out.trans (cores_bad (ss.map L) (L t) HN.out (by rw [← HL3.out]; exact hp')))
          clear hp
          go_wp2_with fail
          go_ret2
          exact ⟨_, [], by rw [HF.out]; rfl, by rw [HF.out]; rfl, World.ownsRow_nil _ _ _ _, Nat.zero_le _, hbel5⟩
    · have hE' : entB (L t1) = false := by simpa using hE
      have HS : Hid (ss.map L = ss.map L ++ (listStep (L t)).1) := by show _ = _; rw [listStep_no _ (by rw [← ht1.out]; exact hE'), List.append_nil]
      have hB3 := hB2; have hbel3 := hbel2; have HR3 := HR2
      have hlen : ss.length + r.size ≤ s.size := by omega
      clear hE hB2 hbel2 HR2
      go_wp2_with fail
      refine (blank_c r w.heap.size _ hB3).mono ?_
      rintro e w4 ⟨rfl, t3, hz3, ht3, hB4, hg4⟩
      have HR4 := Lib.hid (HR3.out.kept hg4 (Or.inr (hB3.not_row (by decide) HR3.out).symm))
      have hbel4 := hbel3.grown hg4 hbel3.size (fun k hk => by cases hk; exact Nat.le_refl _)
      have HL3 := Lib.hid (show L t3 = (listStep (L t)).2 from by rw [ht3.out, hr.out, ht1.out, listStep_rest])
      have hc4 := hB4.cell
      have hlt4 := hB4.lt
      clear hB3 hg4 HR3 hbel3 ht3
      by_cases h0 : t3.toList = []
      · have HF := Lib.hid (cores_end (ss.map L) (L t) (by rw [← HL3.out, ← toList_L]; exact h0))
        go_wp2_with fail
        go_ret2
        have e1 : coresOf (L s) = (ss.map L ++ (listStep (L t)).1, decide (0 < (ss.map L ++ (listStep (L t)).1).length)) := HI.out.trans HF.out
        rw [← HS.out] at e1
        exact ⟨_, ss, by rw [e1]; simp, by rw [e1], HR4.out, by omega, hbel4⟩
      · have h0' : t3.toList.isEmpty = false := by simpa using h0
        have HN : Hid (¬ (listStep (L t)).2 = []) := fun h => h0 (by rw [toList_L, HL3.out, h])
        clear h0
        go_wp2_with fail
        refine (take_c t3 _ w.heap.size _ hB4).mono ?_
        rintro e w5 ⟨rfl, t4, hz4, ht4, hB5, hg5⟩
        have HR5 := Lib.hid (HR4.out.kept hg5 (Or.inr (hB4.not_row (by decide) HR4.out).symm))
        have hbel5 := hbel4.grown hg5 hbel4.size (fun k hk => by cases hk; exact Nat.le_refl _)
        clear hg5 HR4 hbel4
        by_cases hp : Lib.hasPrefix (L t3) (L ⟨#[44]⟩) = true
        · have HF := Lib.hid (cores_on (ss.map L) (L t) (by rw [← HL3.out]; exact hp))
          have HT4 := Lib.hid (show L t4 = Lib.trimPrefix (listStep (L t)).2 [44] from by rw [ht4.out, HL3.out]; rfl)
          have hlt' : t4.size + 1 ≤ t.size := by have h9 := HF.out.2; rw [← HT4.out, L_length, L_length] at h9; exact h9
          have HC := Lib.hid hB5; clear hB4 hB5
          go_wp2_with fail
          go_roundw
          case rel => exact ⟨t4, ss, HC.out, HR5.out, hbel5, by omega, by rw [HI.out, HF.out.1, ← HT4.out, ← HS.out]⟩
          case measure => rw [boxLen_eq HC.out, boxLen_eq HBW.out]; omega
        · have hp' : Lib.hasPrefix (L t3) (L ⟨#[44]⟩) = false := by simpa using hp
          have HF := Lib.hid (HI.out.trans (cores_bad (ss.map L) (L t) HN.out (by rw [← HL3.out]; exact hp')))
          clear hp
          go_wp2_with fail
          go_ret2
          exact ⟨_, [], by rw [HF.out]; rfl, by rw [HF.out]; rfl, World.ownsRow_nil _ _ _ _, Nat.zero_le _, hbel5⟩
end Go.Proofs.YtgemjpoggbdfaaaDoor
