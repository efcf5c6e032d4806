/- The program's functions on fields: small, great, all, Token, Value, Small. -/
import Derived.Test.YtflfajcaicackaaDoorFieldS
import Derived.Test.YtflfajcaicackaaDoorLib
namespace Go.Proofs.YtflfajcaicackaaDoor
open Go.RowKit

theorem small_c (x : Int) (w : World) : Calls Tryd.prog 54 #[.int .u8 x] w fun e w' => e = .returned (.bool (smallI x)) ∧ w = w' := by
  go_enter Tryd.func54, Tryd.ntmps54
  go_wp2
  all_goals go_ret
  all_goals refine ⟨ret_bool ?_, rfl⟩
  all_goals first | (simp [smallI, *]; done) | (rw [Bool.eq_iff_iff]; simp [smallI, *]; done) | (rw [Bool.eq_iff_iff]; simp [smallI, *]; omega) | (rw [Bool.eq_iff_iff]; simp [smallI] at *; omega)
theorem great_c (x : Int) (w : World) : Calls Tryd.prog 51 #[.int .u8 x] w fun e w' => e = .returned (.bool (greatI x)) ∧ w = w' := by
  go_enter Tryd.func51, Tryd.ntmps51
  go_wp2
  all_goals go_ret
  all_goals refine ⟨ret_bool ?_, rfl⟩
  all_goals first | (simp [greatI, *]; done) | (rw [Bool.eq_iff_iff]; simp [greatI, *]; done) | (rw [Bool.eq_iff_iff]; simp [greatI, *]; omega) | (rw [Bool.eq_iff_iff]; simp [greatI] at *; omega)
theorem IndexByte_c (s : ByteArray) (c : Int) (w : World) : Calls Tryd.prog 55 #[.string s, .int .u8 c] w fun e w' => e = .returned (.int .i64 (Lib.indexByte (L s) c.toNat.toUInt8)) ∧ w = w' :=
  (Tryd.strings_IndexByte s c w).mono fun _ _ ⟨he, hw⟩ => ⟨he, hw.symm⟩
theorem marks_index (x : Int) (h0 : 0 ≤ x) (h1 : x ≤ 255) : decide (0 ≤ Lib.indexByte marksL x.toNat.toUInt8) = markI x := by
  have : ∀ n : Fin 256, decide (0 ≤ Lib.indexByte marksL n.val.toUInt8) = markI (n.val : Int) := by decide +kernel
  have h := this ⟨x.toNat, by omega⟩
  simpa [show ((x.toNat : Nat) : Int) = x from by omega] using h
theorem Token1_c (x : Int) (w : World) (h0 : 0 ≤ x) (h1 : x ≤ 255) : Calls Tryd.prog 53 #[.int .u8 x] w fun e w' => e = .returned (.bool (tokI x)) ∧ w = w' := by
  have hm := Lib.hid (marks_index x h0 h1)
  have CI := fun w => Lib.hid (IndexByte_c ⟨#[33, 35, 36, 37, 38, 39, 42, 43, 45, 46, 94, 95, 96, 124, 126]⟩ x w)
  obtain ⟨I, hI⟩ : ∃ I : Int, Lib.indexByte marksL x.toNat.toUInt8 = I := ⟨_, rfl⟩
  rw [hI] at hm
  have CI' : ∀ w, Hid (Calls Tryd.prog 55 #[.string ⟨#[33, 35, 36, 37, 38, 39, 42, 43, 45, 46, 94, 95, 96, 124, 126]⟩, .int .u8 x] w fun e w' => e = .returned (.int .i64 I) ∧ w = w') := fun w => by rw [← hI]; exact CI w
  clear CI hI
  cases hs : smallI x
  · cases hg : greatI x
    · go_enter Tryd.func53, Tryd.ntmps53
      go_wp2_with (first
        | (go_at_call 54; refine (small_c _ _).mono ?_; rintro e w1 ⟨rfl, rfl⟩)
        | (go_at_call 51; refine (great_c _ _).mono ?_; rintro e w1 ⟨rfl, rfl⟩)
        | (go_at_call 55; refine (CI' _).out.mono ?_; rintro e w1 ⟨rfl, rfl⟩))
      go_ret
      exact ⟨ret_bool (by rw [tokI, hs, hg, ← hm.out]; rfl), rfl⟩
    · go_enter Tryd.func53, Tryd.ntmps53
      go_wp2_with (first
        | (go_at_call 54; refine (small_c _ _).mono ?_; rintro e w1 ⟨rfl, rfl⟩)
        | (go_at_call 51; refine (great_c _ _).mono ?_; rintro e w1 ⟨rfl, rfl⟩))
      go_ret
      exact ⟨ret_bool (by rw [tokI, hs, hg]; rfl), rfl⟩
  · go_enter Tryd.func53, Tryd.ntmps53
    go_wp2_with (first
      | (go_at_call 54; refine (small_c _ _).mono ?_; rintro e w1 ⟨rfl, rfl⟩)
      | (go_at_call 51; refine (great_c _ _).mono ?_; rintro e w1 ⟨rfl, rfl⟩))
    go_ret
    exact ⟨ret_bool (by rw [tokI, hs]; rfl), rfl⟩

theorem u8_range (x : UInt8) : 0 ≤ ((x.toNat : Nat) : Int) ∧ ((x.toNat : Nat) : Int) ≤ 255 := by have := x.toNat_lt; omega
/-- A text all of whose bytes are tested. -/
theorem all_tok (s : ByteArray) (w : World) (hs : s.size ≤ 1000000000000) :
    Calls Tryd.prog 52 #[.string s, .func (.func 53) #[] #[]] w fun e w' => e = .returned (.bool ((L s).all tokB)) ∧ w = w' := by
  go_enter Tryd.func52, Tryd.ntmps52
  go_wp2_with fail
  go_loop [8] (fun i => ∃ k : Nat, k ≤ s.size ∧ i = .int .i64 k ∧ Hid ((L s).all tokB = ((L s).drop k).all tokB)) (fun i => s.size - (intOf i).toNat)
  case atStart => exact ⟨0, Nat.zero_le _, rfl, rfl⟩
  case round =>
    obtain ⟨k, hk, rfl, hI⟩ := hrel
    by_cases hlt : k < s.size
    · have hd := Lib.hid (L_drop s k hlt)
      cases hq : tokI s[k].toNat
      · have HQ : Hid (tokB s[k] = false) := hq
        go_wp2_with (go_at_call 53; refine (Token1_c _ _ (u8_range _).1 (u8_range _).2).mono ?_; rintro e w1 ⟨rfl, rfl⟩)
        go_ret
        refine ⟨ret_bool ?_, rfl⟩
        rw [hI.out, hd.out, List.all_cons, HQ.out]; rfl
      · have HQ : Hid (tokB s[k] = true) := hq
        go_wp2_with (go_at_call 53; refine (Token1_c _ _ (u8_range _).1 (u8_range _).2).mono ?_; rintro e w1 ⟨rfl, rfl⟩)
        go_round
        case rel => exact ⟨k + 1, by omega, by go_num, by show _ = _; rw [hI.out, hd.out, List.all_cons, HQ.out]; rfl⟩
        case measure => simp [intOf]; omega
    · go_wp2_with fail
      go_ret
      refine ⟨ret_bool ?_, rfl⟩
      rw [hI.out, List.drop_eq_nil_of_le (by rw [L_length]; omega)]
      rfl
end Go.Proofs.YtflfajcaicackaaDoor
