/- The references' functions on fields: Letter, mark, Token, Value, Small. -/
import Derived.Test.YtgemjpoggbdfaaaDoorFieldV
import Derived.Test.YtgemjpoggbdfaaaDoorRow8
import Derived.Test.YtgemjpoggbdfaaaDoorFieldP
import Derived.Test.YtgemjpoggbdfaaaDoorTagR
namespace Go.Proofs.YtgemjpoggbdfaaaDoor
open Go.RowKit

theorem Letter_c (x : Int) (w : World) : Calls Tryd.prog 57 #[.int .u8 x] w fun e w' => e = .returned (.bool (smallI x || greatI x)) ∧ w = w' := by
  go_enter Tryd.func57, Tryd.ntmps57
  go_wp2
  all_goals go_ret
  all_goals refine ⟨ret_bool ?_, rfl⟩
  all_goals first | (simp [smallI, greatI, *]; done) | (rw [Bool.eq_iff_iff]; simp [smallI, greatI, *]; done) | (rw [Bool.eq_iff_iff]; simp [smallI, greatI, *]; omega) | (rw [Bool.eq_iff_iff]; simp [smallI, greatI] at *; omega)
theorem L_first0 (s : ByteArray) (h : 0 < s.size) : L s = s[0] :: (L s).drop 1 := by
  have := L_drop s 0 h
  rwa [List.drop_zero] at this
theorem L_last0 (s : ByteArray) (h : 0 < s.size) : L s = (L s).take (s.size - 1) ++ [s[s.size - 1]'(by omega)] := by
  have := L_take s (s.size - 1) (by omega)
  rw [← this, show s.size - 1 + 1 = s.size from by omega, List.take_of_length_le (by rw [L_length]; omega)]
theorem mark_c (x : Int) (w : World) : Calls Tryd.prog 58 #[.int .u8 x] w fun e w' => e = .returned (.bool (markI x)) ∧ w = w' := by
  obtain ⟨M, hM⟩ : ∃ M : ByteArray, M = ⟨#[33, 35, 36, 37, 38, 39, 42, 43, 45, 46, 94, 95, 96, 124, 126]⟩ := ⟨_, rfl⟩
  have hsz : M.size = 15 := by rw [hM]; rfl
  have hLM : L M = marksL := by rw [hM]; rfl
  go_enter Tryd.func58, Tryd.ntmps58
  go_wp2_with fail
  rw [← hM]
  have HZ := Lib.hid hsz; have HLM := Lib.hid hLM
  have hs15 : M.size ≤ 15 := by omega
  clear hM hsz hLM
  go_loop [4] (fun i => ∃ k : Nat, k ≤ M.size ∧ i = .int .i64 k ∧ Hid (markI x = ((L M).drop k).any fun m => ((m.toNat : Nat) : Int) == x)) (fun i => M.size - (intOf i).toNat)
  case atStart => exact ⟨0, by omega, rfl, by show _ = _; rw [HLM.out]; rfl⟩
  case round =>
    obtain ⟨k, hk, rfl, hI⟩ := hrel
    by_cases hlt : k < M.size
    · have hd := Lib.hid (L_drop M k hlt)
      cases hq : (((M[k].toNat : Nat) : Int) == x)
      · go_wp2_with fail
        go_round
        case rel => exact ⟨k + 1, by omega, by go_num, by show _ = _; rw [hI.out, hd.out, List.any_cons, hq]; rfl⟩
        case measure => simp [intOf]; omega
      · go_wp2_with fail
        go_ret
        refine ⟨ret_bool ?_, rfl⟩
        rw [hI.out, hd.out, List.any_cons, hq]; rfl
    · go_wp2_with fail
      go_ret
      refine ⟨ret_bool ?_, rfl⟩
      rw [hI.out, List.drop_eq_nil_of_le (by rw [L_length]; omega)]
      rfl

theorem RToken_c (s : ByteArray) (w : World) (hs : s.size ≤ 1000000000000) : Calls Tryd.prog 27 #[.string s] w fun e w' => e = .returned (.bool (tokenOf (L s))) ∧ w = w' := by
  have HL := Lib.hid (L_length s)
  go_enter Tryd.func27, Tryd.ntmps27
  go_wp2_with fail
  go_loop [3] (fun i => ∃ k : Nat, k ≤ s.size ∧ i = .int .i64 k ∧ Hid ((L s).all tokB = ((L s).drop k).all tokB)) (fun i => s.size - (intOf i).toNat)
  case atStart => exact ⟨0, Nat.zero_le _, rfl, rfl⟩
  case round =>
    obtain ⟨k, hk, rfl, hI⟩ := hrel
    by_cases hlt : k < s.size
    · have hd := Lib.hid (L_drop s k hlt)
      cases hq : (smallI s[k].toNat || greatI s[k].toNat)
      · cases hm : markI s[k].toNat
        · have HQ : Hid (tokB s[k] = false) := by show _ = _; unfold tokB tokI; rw [hq, hm]; rfl
          go_wp2_with (first
            | (go_at_call 57; refine (Letter_c _ _).mono ?_; rintro e w1 ⟨rfl, rfl⟩)
            | (go_at_call 58; refine (mark_c _ _).mono ?_; rintro e w1 ⟨rfl, rfl⟩))
          go_ret
          refine ⟨ret_bool ?_, rfl⟩
          rw [tokenOf, hI.out, hd.out, List.all_cons, HQ.out]; simp
        · have HQ : Hid (tokB s[k] = true) := by show _ = _; unfold tokB tokI; rw [hq, hm]; rfl
          go_wp2_with (first
            | (go_at_call 57; refine (Letter_c _ _).mono ?_; rintro e w1 ⟨rfl, rfl⟩)
            | (go_at_call 58; refine (mark_c _ _).mono ?_; rintro e w1 ⟨rfl, rfl⟩))
          go_round
          case rel => exact ⟨k + 1, by omega, by go_num, by show _ = _; rw [hI.out, hd.out, List.all_cons, HQ.out]; rfl⟩
          case measure => simp [intOf]; omega
      · have HQ : Hid (tokB s[k] = true) := by show _ = _; unfold tokB tokI; rw [hq]; rfl
        go_wp2_with (first
          | (go_at_call 57; refine (Letter_c _ _).mono ?_; rintro e w1 ⟨rfl, rfl⟩)
          | (go_at_call 58; refine (mark_c _ _).mono ?_; rintro e w1 ⟨rfl, rfl⟩))
        go_round
        case rel => exact ⟨k + 1, by omega, by go_num, by show _ = _; rw [hI.out, hd.out, List.all_cons, HQ.out]; rfl⟩
        case measure => simp [intOf]; omega
    · have hz := Lib.hid (show (L s).drop k = [] from List.drop_eq_nil_of_le (by rw [L_length]; omega))
      go_wp2_with fail
      go_ret
      refine ⟨ret_bool ?_, rfl⟩
      rw [tokenOf, hI.out, hz.out]
      by_cases h0 : 0 < s.size
      · have : (L s).isEmpty = false := by
          rw [List.isEmpty_eq_false_iff]
          intro h
          have := HL.out
          rw [h] at this
          simp at this; omega
        rw [this]; simp; omega
      · have : L s = [] := List.eq_nil_of_length_eq_zero (by rw [L_length]; omega)
        rw [this, show s.size = 0 from by omega]; simp

theorem RValue_c (s : ByteArray) (w : World) (hs : s.size ≤ 1000000000000) : Calls Tryd.prog 29 #[.string s] w fun e w' => e = .returned (.bool (valueOf (L s))) ∧ w = w' := by
  have HL := Lib.hid (L_length s)
  go_enter Tryd.func29, Tryd.ntmps29
  go_wp2_with fail
  go_loop [3] (fun i => ∃ k : Nat, k ≤ s.size ∧ i = .int .i64 k ∧ Hid ((L s).all valB = ((L s).drop k).all valB)) (fun i => s.size - (intOf i).toNat)
  case atStart => exact ⟨0, Nat.zero_le _, rfl, rfl⟩
  case round =>
    obtain ⟨k, hk, rfl, hI⟩ := hrel
    by_cases hlt : k < s.size
    · have hd := Lib.hid (L_drop s k hlt)
      go_wp2_with fail
      all_goals first
        | (go_round
           case rel => exact ⟨k + 1, by omega, by go_num, by
             show _ = _
             have hq : valB s[k] = true := by unfold valB; first | (simp [valI, *]; done) | (rw [Bool.eq_iff_iff]; simp [valI, *]; done) | (rw [Bool.eq_iff_iff]; simp [valI, *]; omega) | (rw [Bool.eq_iff_iff]; simp [valI] at *; omega)
             rw [hI.out, hd.out, List.all_cons, hq]; rfl⟩
           case measure => simp [intOf]; omega)
        | (go_ret
           refine ⟨ret_bool ?_, rfl⟩
           have hq : valB s[k] = false := by unfold valB; first | (simp [valI, *]; done) | (rw [Bool.eq_iff_iff]; simp [valI, *]; done) | (rw [Bool.eq_iff_iff]; simp [valI, *]; omega) | (rw [Bool.eq_iff_iff]; simp [valI] at *; omega)
           rw [valueOf, hI.out, hd.out, List.all_cons, hq]; simp)
    · have hz : Hid ((L s).all valB = true) := by show _ = _; rw [hI.out, List.drop_eq_nil_of_le (by rw [L_length]; omega)]; rfl
      by_cases h0 : 0 < s.size
      · have HV : Hid (valueOf (L s) = (!blankB s[0] && !blankB (s[s.size - 1]'(by omega)))) := by
          show _ = _
          have h1 := L_first0 s h0
          have h2 := L_last0 s h0
          have := valueOf_ends s[0] ((L s).drop 1) ((L s).take (s.size - 1)) (s[s.size - 1]'(by omega)) (by rw [← h1, ← h2])
          rw [← h1, hz.out, Bool.true_and] at this
          exact this
        have g0 : ((s.size : Int) == 0) = false := by rw [beq_eq_false_iff_ne]; omega
        cases hb : blankI s[0].toNat
        · go_wp2_with (go_at_call 60; refine (Blank_c _ _).mono ?_; rintro e w1 ⟨rfl, rfl⟩)
          all_goals go_ret
          all_goals (refine ⟨ret_bool ?_, rfl⟩; rw [HV.out]; simp [blankB, hb])
        · go_wp2_with (go_at_call 60; refine (Blank_c _ _).mono ?_; rintro e w1 ⟨rfl, rfl⟩)
          all_goals go_ret
          all_goals (refine ⟨ret_bool ?_, rfl⟩; rw [HV.out]; simp [blankB, hb])
      · have HV : Hid (valueOf (L s) = true) := by
          show _ = _
          rw [List.eq_nil_of_length_eq_zero (show (L s).length = 0 by rw [L_length]; omega)]
          rfl
        have g0 : ((s.size : Int) == 0) = true := by rw [show s.size = 0 from by omega]; rfl
        go_wp2_with fail
        go_ret
        exact ⟨ret_bool HV.out.symm, rfl⟩
end Go.Proofs.YtgemjpoggbdfaaaDoor
