/- The program's functions on tags: Check, Name, Mark. -/
import Derived.Test.YtgemjpoggbdfaaaDoorLib
namespace Go.Proofs.YtgemjpoggbdfaaaDoor
open Go.RowKit

/-! A look for a rune by a predicate that all runes beyond ASCII meet: it is a look for a byte. -/
theorem decode_low (s : ByteArray) (k : Nat) (h : k < s.size) (hx : s[k].toNat < 128) : Utf8.decode s k = (s[k].toNat, 1) := by
  have hg : s.get! k = s[k] := by
    cases s with
    | mk d =>
      show d[k]! = d[k]
      exact getElem!_pos d k h
  unfold Utf8.decode
  simp only [Nat.add_zero, hg]
  rw [if_pos hx]
theorem decode_high (s : ByteArray) (k : Nat) (h : k < s.size) (hx : ¬ s[k].toNat < 128) : 128 ≤ (Utf8.decode s k).1 := by
  have hg : s.get! k = s[k] := by
    cases s with
    | mk d =>
      show d[k]! = d[k]
      exact getElem!_pos d k h
  unfold Utf8.decode
  simp only [Nat.add_zero, hg]
  rw [if_neg hx]
  have hr : Utf8.runeError = 65533 := rfl
  split
  · split <;> simp only <;> omega
  · split
    · split
      · rename_i hc; simp only [Bool.and_eq_true, decide_eq_true_eq] at hc; simp only; omega
      · simp only; omega
    · split
      · split
        · rename_i hc; simp only [Bool.and_eq_true, decide_eq_true_eq] at hc; simp only; omega
        · simp only; omega
      · simp only; omega
theorem idxFrom (p : Nat → Bool) (hp : ∀ r, 128 ≤ r → p r = true) (s : ByteArray) : ∀ (f k : Nat), s.size ≤ k + f → decide (0 ≤ Lib.idxFuncFrom p true s f k) = ((L s).drop k).any fun x => p x.toNat
  | 0, k, h => by
    rw [List.drop_eq_nil_of_le (by rw [L_length]; omega)]
    simp [Lib.idxFuncFrom]
  | f + 1, k, h => by
    unfold Lib.idxFuncFrom
    by_cases hk : k < s.size
    · rw [if_pos hk, L_drop s k hk, List.any_cons]
      by_cases hx : s[k].toNat < 128
      · rw [decode_low s k hk hx]
        by_cases hq : p s[k].toNat = true
        · simp only [hq, if_true, Bool.true_or, decide_eq_true_eq]; omega
        · have hq' : p s[k].toNat = false := by simpa using hq
          simp only [hq', Bool.false_eq_true, if_false, Bool.false_or]
          exact idxFrom p hp s f (k + 1) (by omega)
      · have h1 := decode_high s k hk hx
        rw [hp _ h1, hp s[k].toNat (by omega)]
        simp
    · rw [if_neg hk, List.drop_eq_nil_of_le (by rw [L_length]; omega)]
      simp

def notTag (r : Nat) : Bool := !tagI (r : Int)
theorem Check1_c (x : Nat) (w : World) : Calls Tryd.prog 47 #[.int .i32 (x : Int)] w fun e w' => e = .returned (.bool (notTag x)) ∧ w = w' := by
  go_enter Tryd.func47, Tryd.ntmps47
  go_wp2
  all_goals go_ret
  all_goals refine ⟨ret_bool ?_, rfl⟩
  all_goals simp [notTag, tagI, *]
theorem any_not (l : List UInt8) : (l.any fun x => notTag x.toNat) = !l.all tagB := by
  rw [List.not_all_eq_any_not]; rfl
theorem ContainsFunc_c (s : ByteArray) (w : World) :
    Calls Tryd.prog 46 #[.string s, .func (.func 47) #[] #[]] w fun e w' => e = .returned (.bool (!(L s).all tagB)) ∧ Below w.heap.size w w' :=
  (Tryd.strings_ContainsFunc 47 #[] (enters_of Tryd.func47 (by kernel_rfl) rfl) notTag s w
    (fun W x _ => (Check1_c x W).mono fun e w' ⟨he, hw⟩ => ⟨he, 0, hw.symm⟩)).mono fun e w' ⟨he, hb⟩ =>
    ⟨by rw [he]; refine ret_bool ?_; rw [← any_not]; exact idxFrom notTag (fun r h => by simp [notTag, tagI]; omega) s s.size 0 (by omega), hb⟩
set_option maxHeartbeats 400000 in
theorem Check_c (s : ByteArray) (w : World) (hs : s.size ≤ 1000000000000) :
    Calls Tryd.prog 18 #[.string s] w fun e w' => e = .returned (.int .i64 (checkE (L s))) ∧ Below w.heap.size w w' := by
  have HL := Lib.hid (L_length s)
  go_enter Tryd.func18, Tryd.ntmps18
  go_wp2_with (go_at_call 46; refine (ContainsFunc_c _ _).mono ?_; rintro e w' ⟨rfl, hb⟩)
  all_goals
    go_ret
    refine ⟨ret_int ?_, by first | exact hb | exact Below.refl _ _⟩
    have HL' := HL.out
    have hne : ¬ L s = [] → 1 ≤ s.size := fun h => by rw [← HL']; exact List.length_pos_iff.2 h
    unfold checkE mayB
    simp only [toList_L] at *
    generalize (L s).all tagB = B at *
    cases B <;> simp_all <;> (try omega)

theorem names_c (w : World) : Calls Tryd.prog 71 #[] w fun e w' => ∃ b, e = .returned (.slice (some ⟨b, 0, none⟩) 3 3) ∧ w'.cell? ⟨b, 0, none⟩ = some (.string ⟨#[105, 100, 101, 110, 116, 105, 116, 121]⟩) ∧
    w'.cell? ⟨b, 1, none⟩ = some (.string ⟨#[103, 122, 105, 112]⟩) ∧ w'.cell? ⟨b, 2, none⟩ = some (.string ⟨#[100, 101, 102, 108, 97, 116, 101]⟩) ∧ Below w.heap.size w w' := by
  go_enter Tryd.func71, Tryd.ntmps71
  go_wp2
  go_ret
  exact ⟨_, rfl, by go_simp, by go_simp, by go_simp, (Below.refl _ _).alloc (Nat.le_refl _) _⟩

theorem Name_c (c : Int) (w : World) (h0 : 0 ≤ c) : Calls Tryd.prog 41 #[.int .u8 c] w fun e w' => ∃ r, e = .returned (.tuple #[.string r, .int .i64 (if 2 < c then 2 else 0)]) ∧ r.size ≤ 8 ∧ Hid (c ≤ 2 → L r = codName c) ∧ Below w.heap.size w w' := by
  by_cases h : 2 < c
  · go_enter Tryd.func41, Tryd.ntmps41
    go_wp2
    go_ret2
    exact ⟨⟨#[]⟩, by simp, by decide, fun h2 => by omega, Below.refl _ _⟩
  · have hc : c = 0 ∨ c = 1 ∨ c = 2 := by omega
    rcases hc with rfl | rfl | rfl
    all_goals
      go_enter Tryd.func41, Tryd.ntmps41
      go_wp2_with (go_at_call 71; refine (names_c _).mono ?_; rintro e w' ⟨b, rfl, hc0, hc1, hc2, hb⟩)
      go_ret2
      exact ⟨_, rfl, by decide, by show L _ = _; simp [L, codName], hb⟩

set_option maxHeartbeats 1000000 in
theorem Mark_c (s : ByteArray) (c : Int) (w : World) (h0 : 0 ≤ c) (hs : s.size ≤ 1000000000000) :
    Calls Tryd.prog 13 #[.string s, .int .u8 c] w fun e w' => ∃ r, e = .returned (.tuple #[.string r, .int .i64 (markE (L s) c)]) ∧ r.size ≤ s.size + 13 ∧ Hid (L r = markS (L s) c) ∧ Below w.heap.size w w' := by
  have hck := Check_c s w hs
  by_cases hm : mayB (L s) = true
  · rw [show checkE (L s) = 0 from by simp [checkE, hm]] at hck
    have HC := Lib.hid hck; clear hck
    by_cases h2 : 2 < c
    · have HM : Hid (markS (L s) c = []) := by show _ = _; simp [markS, markE, hm, h2]
      have HE : Hid (markE (L s) c = 2) := by show _ = _; simp [markE, hm, h2]
      clear hm
      go_enter Tryd.func13, Tryd.ntmps13
      go_wp2_with (first
        | (go_at_call 18; refine HC.out.mono ?_; rintro e w1 ⟨rfl, hb⟩)
        | (go_at_call 41; refine (Name_c _ _ h0).mono ?_; rintro e w2 ⟨r, rfl, hz, hr, hb2⟩))
      go_ret2
      exact ⟨⟨#[]⟩, by rw [HE.out]; rfl, by simp [size_lit], by show L _ = _; rw [HM.out]; rfl, hb.trans (hb2.mono hb.size)⟩
    · have HE : Hid (markE (L s) c = 0) := by show _ = _; simp [markE, hm, h2]
      have HM : Hid (markS (L s) c = markB (L s) c) := by show _ = _; simp [markS, HE.out]
      clear hm
      by_cases hc : (c == 0) = true
      · have e0 : c = 0 := by simpa using hc
        subst e0
        go_enter Tryd.func13, Tryd.ntmps13
        go_wp2_with (first
          | (go_at_call 18; refine HC.out.mono ?_; rintro e w1 ⟨rfl, hb⟩)
          | (go_at_call 41; refine (Name_c _ _ h0).mono ?_; rintro e w2 ⟨r, rfl, hz, hr, hb2⟩))
        go_ret2
        exact ⟨_, by rw [HE.out]; rfl, by simp [size_lit]; omega, by show L _ = _; rw [HM.out]; simp [L, markB], hb.trans (hb2.mono hb.size)⟩
      · have g1 : (c == 0) = false := by simpa using hc
        clear hc
        go_enter Tryd.func13, Tryd.ntmps13
        go_wp2_with (first
          | (go_at_call 18; refine HC.out.mono ?_; rintro e w1 ⟨rfl, hb⟩)
          | (go_at_call 41; refine (Name_c _ _ h0).mono ?_; rintro e w2 ⟨r, rfl, hz, hr, hb2⟩))
        go_ret2
        refine ⟨_, by rw [HE.out]; rfl, by simp [size_lit]; omega, ?_, hb.trans (hb2.mono hb.size)⟩
        have hr' : L r = codName c := hr.out (by omega)
        show L _ = _
        rw [HM.out]
        simp at g1
        simp [L, markB, g1]
        exact hr'
  · have hm' : mayB (L s) = false := by simpa using hm
    clear hm
    rw [show checkE (L s) = 3 from by simp [checkE, hm']] at hck
    have HC := Lib.hid hck; clear hck
    have HM : Hid (markS (L s) c = []) := by show _ = _; simp [markS, markE, hm']
    have HE : Hid (markE (L s) c = 3) := by show _ = _; simp [markE, hm']
    clear hm'
    go_enter Tryd.func13, Tryd.ntmps13
    go_wp2_with (go_at_call 18; refine HC.out.mono ?_; rintro e w1 ⟨rfl, hb⟩)
    go_ret2
    exact ⟨⟨#[]⟩, by rw [HE.out]; rfl, by simp [size_lit], by show L _ = _; rw [HM.out]; rfl, hb⟩

end Go.Proofs.YtgemjpoggbdfaaaDoor
