/- The references' functions on tags: what each call computes. -/
import Derived.Test.YtgemjpoggbdfaaaDoorBase
namespace Go.Proofs.YtgemjpoggbdfaaaDoor
open Go.RowKit

theorem Blank_c (x : Int) (w : World) : Calls Tryd.prog 60 #[.int .u8 x] w fun e w' => e = .returned (.bool (blankI x)) ∧ w = w' := by
  go_enter Tryd.func60, Tryd.ntmps60
  go_wp2
  all_goals go_ret
  all_goals refine ⟨ret_bool ?_, rfl⟩
  all_goals (simp [blankI, *])

theorem May_c (s : ByteArray) (w : World) (hs : s.size ≤ 1000000000000) : Calls Tryd.prog 43 #[.string s] w fun e w' => e = .returned (.bool (mayB (L s))) ∧ w = w' := by
  have HL := Lib.hid (L_length s)
  go_enter Tryd.func43, Tryd.ntmps43
  go_wp2
  go_loop [3] (fun i => ∃ k : Nat, k ≤ s.size ∧ i = .int .i64 k ∧ Hid ((L s).all tagB = ((L s).drop k).all tagB)) (fun i => s.size - (intOf i).toNat)
  case atStart => exact ⟨0, Nat.zero_le _, rfl, rfl⟩
  case round =>
    obtain ⟨k, hk, rfl, hI⟩ := hrel
    by_cases hlt : k < s.size
    · have hd := Lib.hid (L_drop s k hlt)
      go_wp2
      all_goals first
        | (go_round
           case rel => exact ⟨k + 1, by omega, by go_num, by show _ = _; rw [hI.out, hd.out]; simp_all [tagB, tagI]⟩
           case measure => simp [intOf]; omega)
        | (go_ret; refine ⟨ret_bool ?_, rfl⟩; show _ = mayB _; unfold mayB; rw [hI.out, hd.out]; simp_all [tagB, tagI]; try omega)
    · have hz := Lib.hid (show (L s).drop k = [] from List.drop_eq_nil_of_le (by rw [L_length]; omega))
      go_wp2
      all_goals (go_ret; refine ⟨ret_bool ?_, rfl⟩; show _ = mayB _; unfold mayB; rw [hI.out, hz.out, HL.out, Bool.eq_iff_iff]; simp; try omega)

theorem Named_c (c : Int) (w : World) : Calls Tryd.prog 72 #[.int .u8 c] w fun e w' => ∃ r, e = .returned (.string r) ∧ r.size ≤ 8 ∧ Hid (0 ≤ c → c ≤ 2 → L r = codName c) ∧ w = w' := by
  by_cases h1 : (c == 1) = true
  · have hc : c = 1 := by simpa using h1
    subst hc
    go_enter Tryd.func72, Tryd.ntmps72
    go_wp2
    go_ret
    exact ⟨_, rfl, by decide, fun _ _ => by simp [L, codName], rfl⟩
  · by_cases h2 : (c == 2) = true
    · have hc : c = 2 := by simpa using h2
      subst hc
      go_enter Tryd.func72, Tryd.ntmps72
      go_wp2
      go_ret
      exact ⟨_, rfl, by decide, fun _ _ => by simp [L, codName], rfl⟩
    · have g1 : (c == 1) = false := by simpa using h1
      have g2 : (c == 2) = false := by simpa using h2
      clear h1 h2
      go_enter Tryd.func72, Tryd.ntmps72
      go_wp2
      go_ret
      refine ⟨_, rfl, by decide, fun h0 hh => ?_, rfl⟩
      have hc : c = 0 := by simp at g1 g2; omega
      subst hc
      simp [L, codName]

theorem Marked_c (s : ByteArray) (c : Int) (w : World) (h0 : 0 ≤ c) (h2 : c ≤ 2) (hs : s.size ≤ 1000000000000) :
    Calls Tryd.prog 44 #[.string s, .int .u8 c] w fun e w' => ∃ r, e = .returned (.string r) ∧ r.size ≤ s.size + 13 ∧ Hid (L r = markB (L s) c) ∧ w = w' := by
  by_cases h1 : (c == 0) = true
  · have hc : c = 0 := by simpa using h1
    subst hc
    go_enter Tryd.func44, Tryd.ntmps44
    go_wp2
    go_ret
    exact ⟨_, rfl, by simp [size_lit]; omega, by show L _ = _; simp [L, markB], rfl⟩
  · have g1 : (c == 0) = false := by simpa using h1
    go_enter Tryd.func44, Tryd.ntmps44
    go_wp2_with (go_at_call 72; refine (Named_c _ _).mono ?_; rintro e w' ⟨r, rfl, hz, hr, rfl⟩)
    go_ret
    refine ⟨_, rfl, by simp [size_lit]; omega, ?_, rfl⟩
    show L _ = _
    have hr' := hr.out h0 h2
    simp at g1
    simp [L, markB, g1]
    exact hr'

theorem RMark_c (s : ByteArray) (c : Int) (w : World) (h0 : 0 ≤ c) (hs : s.size ≤ 1000000000000) :
    Calls Tryd.prog 16 #[.string s, .int .u8 c] w fun e w' => ∃ r, e = .returned (.tuple #[.string r, .int .i64 (markE (L s) c)]) ∧ r.size ≤ s.size + 13 ∧ Hid (L r = markS (L s) c) ∧ w = w' := by
  by_cases hm : mayB (L s) = true
  · by_cases h2 : 2 < c
    · go_enter Tryd.func16, Tryd.ntmps16
      go_wp2_with (go_at_call 43; refine (May_c _ _ hs).mono ?_; rintro e w' ⟨rfl, rfl⟩)
      go_ret2
      refine ⟨⟨#[]⟩, ?_, by simp [size_lit], ?_, rfl⟩
      · simp [markE, hm, h2]
      · show L _ = _; rw [L_nil]; simp [markS, markE, hm, h2]
    · go_enter Tryd.func16, Tryd.ntmps16
      go_wp2_with (first | (go_at_call 43; refine (May_c _ _ hs).mono ?_; rintro e w' ⟨rfl, rfl⟩) | (go_at_call 44; refine (Marked_c _ _ _ h0 (by omega) hs).mono ?_; rintro e w' ⟨r, rfl, hz, hr, rfl⟩))
      go_ret2
      refine ⟨r, ?_, hz, ?_, rfl⟩
      · simp [markE, hm, h2]
      · show L _ = _; rw [hr.out]; simp [markS, markE, hm, h2]
  · have hm' : mayB (L s) = false := by simpa using hm
    clear hm
    go_enter Tryd.func16, Tryd.ntmps16
    go_wp2_with (go_at_call 43; refine (May_c _ _ hs).mono ?_; rintro e w' ⟨rfl, rfl⟩)
    go_ret2
    refine ⟨⟨#[]⟩, ?_, by simp [size_lit], ?_, rfl⟩
    · simp [markE, hm']
    · show L _ = _; rw [L_nil]; simp [markS, markE, hm']

end Go.Proofs.YtgemjpoggbdfaaaDoor
