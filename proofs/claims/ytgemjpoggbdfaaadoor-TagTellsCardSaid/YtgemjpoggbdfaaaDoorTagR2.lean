/- The references' functions on entity tags: end, Core. -/
import Derived.Test.YtgemjpoggbdfaaaDoorTagR
namespace Go.Proofs.YtgemjpoggbdfaaaDoor
open Go.RowKit

theorem strip_yes (s : ByteArray) (a : Nat) (h : a + 1 < s.size) (h1 : s[a].toNat = 87) (h2 : s[a + 1].toNat = 47) : stripW ((L s).drop a) = (L s).drop (a + 2) := by
  rw [L_drop s a (by omega), L_drop s (a + 1) h, b8 (by decide) h1, b8 (by decide) h2]
  exact stripW_yes _
theorem strip_no (s : ByteArray) (a : Nat) (h : ∀ h : a + 1 < s.size, s[a].toNat = 87 → ¬ s[a + 1].toNat = 47) : stripW ((L s).drop a) = (L s).drop a := by
  refine stripW_no _ fun r hr => ?_
  have hl : ((L s).drop a).length = r.length + 2 := by rw [hr]; simp
  rw [List.length_drop, L_length] at hl
  have h1 : a + 1 < s.size := by omega
  rw [L_drop s a (by omega), L_drop s (a + 1) h1] at hr
  simp only [List.cons.injEq] at hr
  exact h h1 (by rw [hr.1]; rfl) (by rw [hr.2.1]; rfl)
theorem endI_no (s : ByteArray) (a j : Nat) (hst : stripW ((L s).drop a) = (L s).drop j) (h : ∀ h : j < s.size, ¬ s[j].toNat = 34) : endI (L s) a = -1 := by
  rw [endI_of _ _ _ hst]
  by_cases hj : j < s.size
  · rw [L_drop s j hj]
    simp only [if_neg (h hj)]
  · rw [List.drop_eq_nil_of_le (by rw [L_length]; omega)]
theorem endI_yes (s : ByteArray) (a j : Nat) (hst : stripW ((L s).drop a) = (L s).drop j) (hj : j < s.size) (h : s[j].toNat = 34) : endI (L s) a = qI s.size ((L s).drop (j + 1)) := by
  rw [endI_of _ _ _ hst, L_drop s j hj]
  simp only [if_pos h, L_length]

set_option maxHeartbeats 1000000 in
theorem End_w (s : ByteArray) (a : Nat) (w : World) (h : a + 1 < s.size) (h1 : s[a].toNat = 87) (h2 : s[a + 1].toNat = 47) (hs : s.size ≤ 1000000000000) :
    Calls Tryd.prog 45 #[.string s, .int .i64 (a : Int)] w fun e w' => e = .returned (.int .i64 (endI (L s) a)) ∧ w = w' := by
  have HL := Lib.hid (L_length s)
  have hst := Lib.hid (strip_yes s a h h1 h2)
  have g1 : (s[a].toNat : Int) = 87 := by omega
  have g2 : ((s[a + 1].toNat : Int) == 47) = true := by simp; omega
  clear h1 h2
  go_enter Tryd.func45, Tryd.ntmps45
  go_wp2
  all_goals (first
              | (go_ret
                 refine ⟨ret_int ?_, rfl⟩
                 rw [endI_no s a (a + 2) hst.out (by intro h; (first | omega | (simp_all; done) | (simp_all; omega)))])
              | (go_loop [5] (fun i => ∃ k : Nat, k ≤ s.size ∧ i = .int .i64 k ∧ Hid (endI (L s) a = qI s.size ((L s).drop k))) (fun i => s.size - (intOf i).toNat)
                 case atStart => exact ⟨a + 2 + 1, by omega, by go_num, endI_yes s a (a + 2) hst.out (by omega) (by (first | omega | (simp_all; done) | (simp_all; omega)))⟩
                 case round =>
                   obtain ⟨k, hk, rfl, hI⟩ := hrel
                   by_cases hlt : k < s.size
                   · have hd := Lib.hid (L_drop s k hlt)
                     clear hst
                     go_wp2
                     all_goals (first
                       | (go_round
                          case rel => exact ⟨k + 1, by omega, by go_num, by show _ = _; rw [hI.out, hd.out, qI_on _ _ _ (by (first | omega | (simp_all; done) | (simp_all; omega))) (by simp only [stopB, stopI]; (first | omega | (simp_all; done) | (simp_all; omega)))]⟩
                          case measure => simp [intOf]; omega)
                       | (go_ret
                          refine ⟨ret_int ?_, rfl⟩
                          rw [hI.out, hd.out]
                          first
                            | (rw [qI_quote _ _ _ (by (first | omega | (simp_all; done) | (simp_all; omega))), List.length_drop, HL.out]; omega)
                            | (rw [qI_stop _ _ _ (by (first | omega | (simp_all; done) | (simp_all; omega))) (by simp only [stopB, stopI]; (first | omega | (simp_all; done) | (simp_all; omega)))])))
                   · go_wp2
                     go_ret
                     refine ⟨ret_int ?_, rfl⟩
                     rw [hI.out, List.drop_eq_nil_of_le (by rw [HL.out]; omega)]
                     rfl))

set_option maxHeartbeats 1000000 in
theorem End_n (s : ByteArray) (a : Nat) (w : World) (ha : a ≤ s.size) (hn : ∀ h : a + 1 < s.size, s[a].toNat = 87 → ¬ s[a + 1].toNat = 47) (hs : s.size ≤ 1000000000000) :
    Calls Tryd.prog 45 #[.string s, .int .i64 (a : Int)] w fun e w' => e = .returned (.int .i64 (endI (L s) a)) ∧ w = w' := by
  have HL := Lib.hid (L_length s)
  have hst := Lib.hid (strip_no s a hn)
  have HN := Lib.hid hn
  clear hn
  go_enter Tryd.func45, Tryd.ntmps45
  go_wp2
  all_goals first
    | (exfalso; refine HN.out ?_ ?_ ?_ <;> (first | omega | (simp_all; done) | (simp_all; omega)))
    | (first
        | (go_ret
           refine ⟨ret_int ?_, rfl⟩
           rw [endI_no s a (a) hst.out (by intro h; (first | omega | (simp_all; done) | (simp_all; omega)))])
        | (go_loop [5] (fun i => ∃ k : Nat, k ≤ s.size ∧ i = .int .i64 k ∧ Hid (endI (L s) a = qI s.size ((L s).drop k))) (fun i => s.size - (intOf i).toNat)
           case atStart => exact ⟨a + 1, by omega, by go_num, endI_yes s a (a) hst.out (by omega) (by (first | omega | (simp_all; done) | (simp_all; omega)))⟩
           case round =>
             obtain ⟨k, hk, rfl, hI⟩ := hrel
             by_cases hlt : k < s.size
             · have hd := Lib.hid (L_drop s k hlt)
               clear hst
               go_wp2
               all_goals (first
                 | (go_round
                    case rel => exact ⟨k + 1, by omega, by go_num, by show _ = _; rw [hI.out, hd.out, qI_on _ _ _ (by (first | omega | (simp_all; done) | (simp_all; omega))) (by simp only [stopB, stopI]; (first | omega | (simp_all; done) | (simp_all; omega)))]⟩
                    case measure => simp [intOf]; omega)
                 | (go_ret
                    refine ⟨ret_int ?_, rfl⟩
                    rw [hI.out, hd.out]
                    first
                      | (rw [qI_quote _ _ _ (by (first | omega | (simp_all; done) | (simp_all; omega))), List.length_drop, HL.out]; omega)
                      | (rw [qI_stop _ _ _ (by (first | omega | (simp_all; done) | (simp_all; omega))) (by simp only [stopB, stopI]; (first | omega | (simp_all; done) | (simp_all; omega)))])))
             · go_wp2
               go_ret
               refine ⟨ret_int ?_, rfl⟩
               rw [hI.out, List.drop_eq_nil_of_le (by rw [HL.out]; omega)]
               rfl))
theorem End_c (s : ByteArray) (a : Nat) (w : World) (ha : a ≤ s.size) (hs : s.size ≤ 1000000000000) :
    Calls Tryd.prog 45 #[.string s, .int .i64 (a : Int)] w fun e w' => e = .returned (.int .i64 (endI (L s) a)) ∧ w = w' := by
  by_cases h : ∃ h : a + 1 < s.size, s[a].toNat = 87 ∧ s[a + 1].toNat = 47
  · obtain ⟨h0, h1, h2⟩ := h
    exact End_w s a w h0 h1 h2 hs
  · exact End_n s a w ha (fun h0 h1 h2 => h ⟨h0, h1, h2⟩) hs

end Go.Proofs.YtgemjpoggbdfaaaDoor
