/- The references' cores and Match. -/
import Derived.Test.YtgemjpoggbdfaaaDoorTagR3
import Derived.Test.YtgemjpoggbdfaaaDoorBytes2
namespace Go.Proofs.YtgemjpoggbdfaaaDoor
open Go.RowKit

def RInv (s : ByteArray) (w : World) (v : Value) (a : Nat) (wr : World) : Prop :=
  ∃ ss : List ByteArray, a ≤ s.size ∧ wr.ownsRow w.heap.size 9 1 v ss.length (ss.map Value.string) ∧ Below w.heap.size w wr ∧ ss.length ≤ a ∧
    coresOf (L s) = coresN (((L s).drop a).length + 1) (ss.map L) ((L s).drop a)

set_option maxRecDepth 100000 in
set_option maxHeartbeats 4000000 in
theorem Rcores_c (s : ByteArray) (w : World) (hs : s.size ≤ 1000000000000) : Calls Tryd.prog 49 #[.string s] w (CoresPost s w) := by
  obtain ⟨i0, hi0, hiz, his, hib⟩ := info_parts Tryd.infoStr
  go_enter Tryd.func49, Tryd.ntmps49
  go_wp2_with fail
  go_loopw [4, 5] (fun v i wr => ∃ a : Nat, i = .int .i64 a ∧ RInv s w v a wr) (fun _ i _ => s.size - (intOf i).toNat)
  case atStart => exact ⟨0, rfl, [], Nat.zero_le _, World.ownsRow_nil _ _ _ _, Below.refl _ _, Nat.le_refl _, rfl⟩
  case round =>
    obtain ⟨a, rfl, ss, ha, hrow, hbel, hle, hI⟩ := hrel
    obtain ⟨wo, hwo⟩ : ∃ wo : World, wo = wr := ⟨_, rfl⟩
    subst hwo
    obtain ⟨A, cap, rfl⟩ := row_form hrow
    have HR := Lib.hid hrow; clear hrow
    have HI := Lib.hid hI; clear hI
    have hlt0 := hbel.size
    go_wp2_with fail
    go_loop [5] (fun i => ∃ q9 : Nat, i = .int .i64 q9 ∧ a ≤ q9 ∧ q9 ≤ s.size ∧ Hid (trimLB ((L s).drop (a)) = trimLB ((L s).drop q9))) (fun i => s.size - (intOf i).toNat)
    case atStart => exact ⟨a, rfl, Nat.le_refl _, by omega, rfl⟩
    case round =>
      obtain ⟨b, rfl, habb, hbsb, hTb⟩ := hrel
      by_cases hlt : b < s.size
      · have hd := Lib.hid (L_drop s b hlt)
        cases hq : blankI s[b].toNat
        · have HTb : Hid (trimLB ((L s).drop (a)) = (L s).drop b) := by show _ = _; rw [hTb.out, hd.out, trimLB_other _ _ hq]
          go_wp2_with (go_at_call 60; refine (Blank_c _ _).mono ?_; rintro e w1 ⟨rfl, rfl⟩)
          clear hd hTb hq
          have hE := End_c s b wo (by omega) hs
          cases hent : entity ((L s).drop b) with
          | none =>
            rw [show endI (L s) b = -1 from by unfold endI; rw [hent]] at hE
            have HE := Lib.hid hE; clear hE
            have HS : Hid (ss.map L = ss.map L ++ (listStep ((L s).drop a)).1) := by show _ = _; rw [listStep_no _ (by rw [HTb.out]; unfold entB; rw [hent]; rfl), List.append_nil]
            have HD : Hid ((listStep ((L s).drop a)).2 = trimLB ((L s).drop b)) := by show _ = _; rw [listStep_rest, HTb.out]; unfold entL; rw [hent]; rfl
            have HRX := HR; have hbelX := hbel
            have hlen : ss.length ≤ b := by omega
            clear hent HTb HR hbel
            go_wp2_with (go_at_call 45; refine HE.out.mono ?_; rintro e w1 ⟨rfl, rfl⟩)
            go_loop [5] (fun i => ∃ q9 : Nat, i = .int .i64 q9 ∧ b ≤ q9 ∧ q9 ≤ s.size ∧ Hid (trimLB ((L s).drop (b)) = trimLB ((L s).drop q9))) (fun i => s.size - (intOf i).toNat)
            case atStart => exact ⟨b, rfl, Nat.le_refl _, by omega, rfl⟩
            case round =>
              obtain ⟨d, rfl, habd, hbsd, hTd⟩ := hrel
              by_cases hlt : d < s.size
              · have hdd := Lib.hid (L_drop s d hlt)
                cases hq : blankI s[d].toNat
                · have HL3 : Hid ((listStep ((L s).drop a)).2 = (L s).drop d) := by show _ = _; rw [HD.out, hTd.out, hdd.out, trimLB_other _ _ hq]
                  clear hTd
                  have g0 : ((d : Int) == (s.size : Int)) = false := by simp; omega
                  by_cases h44 : s[d].toNat = 44
                  · have g1 : ((s[d].toNat : Int) != 44) = false := by simp; omega
                    have HF := Lib.hid (cores_on (ss.map L) ((L s).drop a) (by rw [HL3.out, hdd.out, b8 (n := 44) (by decide) h44]; rfl))
                    have HT : Hid (Lib.trimPrefix (listStep ((L s).drop a)).2 [44] = (L s).drop (d + 1)) := by show _ = _; rw [HL3.out, hdd.out, b8 (n := 44) (by decide) h44]; rfl
                    clear h44
                    go_wp2_with (go_at_call 60; refine (Blank_c _ _).mono ?_; rintro e w1 ⟨rfl, rfl⟩)
                    go_roundw
                    case rel => exact ⟨d + 1, by go_num, ss, by omega, HRX.out, hbelX, by omega, by rw [HI.out, HF.out.1, HT.out, ← HS.out]⟩
                    case measure => simp [intOf]; omega
                  · have g1 : ((s[d].toNat : Int) != 44) = true := by simp; omega
                    have HF := Lib.hid (HI.out.trans (cores_bad (ss.map L) ((L s).drop a) (by rw [HL3.out, hdd.out]; simp) (by
                      rw [HL3.out, hdd.out]
                      simp only [Lib.hasPrefix, List.isPrefixOf, Bool.and_true, beq_eq_false_iff_ne]
                      intro h
                      exact h44 (by rw [← h]; rfl))))
                    clear h44
                    go_wp2_with (go_at_call 60; refine (Blank_c _ _).mono ?_; rintro e w1 ⟨rfl, rfl⟩)
                    go_ret2
                    exact ⟨_, [], by rw [HF.out]; rfl, by rw [HF.out]; rfl, World.ownsRow_nil _ _ _ _, Nat.zero_le _, hbelX⟩
                · go_wp2_with (go_at_call 60; refine (Blank_c _ _).mono ?_; rintro e w1 ⟨rfl, rfl⟩)
                  go_round
                  case rel => exact ⟨d + 1, by go_num, by omega, by omega, by show _ = _; rw [hTd.out, hdd.out, trimLB_blank _ _ hq]⟩
                  case measure => simp [intOf]; omega
              · have HL3 : Hid ((listStep ((L s).drop a)).2 = (L s).drop d) := by show _ = _; rw [HD.out, hTd.out, List.drop_eq_nil_of_le (by rw [L_length]; omega)]; rfl
                clear hTd
                have g0 : ((d : Int) == (s.size : Int)) = true := by simp; omega
                have HF := Lib.hid (cores_end (ss.map L) ((L s).drop a) (by rw [HL3.out]; exact List.drop_eq_nil_of_le (by rw [L_length]; omega)))
                go_wp2_with fail
                go_ret2
                have e1 : coresOf (L s) = (ss.map L ++ (listStep ((L s).drop a)).1, decide (0 < (ss.map L ++ (listStep ((L s).drop a)).1).length)) := HI.out.trans HF.out
                rw [← HS.out] at e1
                exact ⟨_, ss, by rw [e1]; simp, by rw [e1], HRX.out, by omega, hbelX⟩
          | some p =>
            obtain ⟨c, r⟩ := p
            have hrl := entity_le _ _ _ hent
            rw [List.length_drop, L_length] at hrl
            obtain ⟨n, hn⟩ : ∃ n : Nat, n = s.size - r.length := ⟨_, rfl⟩
            have hn1 : b + 1 ≤ n := by omega
            have hn2 : n ≤ s.size := by omega
            have hcut := entity_cut _ _ _ hent
            rw [List.length_drop, L_length, show s.size - b - r.length = n - b from by omega, List.drop_drop, show b + (n - b) = n from by omega] at hcut
            rw [show endI (L s) b = (n : Int) from by unfold endI; rw [hent]; simp only [L_length]; omega] at hE
            have HE := Lib.hid hE; clear hE
            have HC1 : Hid (coreC (L (s.extract b n)) = c) := by show _ = _; unfold coreC; rw [L_extract, hcut.1]; rfl
            have HS : ∀ x, L x = coreC (L (s.extract b n)) → Hid ((ss ++ [x]).map L = ss.map L ++ (listStep ((L s).drop a)).1) := by
              intro x hx
              show _ = _
              rw [listStep_yes _ (by rw [HTb.out]; unfold entB; rw [hent]; rfl), List.map_append, List.map_cons, List.map_nil, hx, HC1.out, HTb.out]
              unfold entC; rw [hent]; rfl
            have HD : Hid ((listStep ((L s).drop a)).2 = trimLB ((L s).drop n)) := by show _ = _; rw [listStep_rest, HTb.out, hcut.2]; unfold entL; rw [hent]; rfl
            have HSH := Lib.hid HS; clear HS
            clear hent hcut hrl hn HTb
            go_wp2_with (first
              | (go_at_call 45; refine HE.out.mono ?_; rintro e w1 ⟨rfl, rfl⟩)
              | (go_at_call 17; refine (RCore_c _ _ (by simp only [ByteArray.size_extract]; omega)).mono ?_; rintro e w2 ⟨x, rfl, hxz, hx, rfl⟩)
              | (at_builtin; go_must (refine wpList_append_own _ rfl (.tmp 34) (.tmp 36) _ rfl w.heap.size 9 i0 _ 1 16 Tryd.underlying53 hi0 hiz his hib rfl (by decide) _ _ _ rfl (HR.out.alloc _) ⟨wo.heap.size, 0, none⟩ 1 1 [.string x] rfl rfl (cell_one_new _ _ _) (by simp [Value.oneCell']) (by unfold maxLen; omega) (by omega) (by have := hbel.size; simp; omega) ?_); intro v' w3 hown3 hg3 _; obtain ⟨A', cap', rfl⟩ := row_form hown3))
            have hbelX := (hbel.alloc hbel.size (.cells #[.string x] 9)).grown hg3 (by have := hbel.size; simp; omega) (fun k hk => ((HR.out.alloc (.cells #[.string x] 9)).lt k hk).1)
            have HRX : Hid (w3.ownsRow w.heap.size 9 1 (.slice A' (ss.length + 1) cap') (ss ++ [x]).length ((ss ++ [x]).map Value.string)) := by show World.ownsRow _ _ _ _ _ _ _; simpa using hown3
            have HS := HSH.out x hx.out
            have hlen : (ss ++ [x]).length ≤ n := by simp; omega
            clear hown3 hg3 HR hbel HSH
            go_loop [5] (fun i => ∃ q9 : Nat, i = .int .i64 q9 ∧ n ≤ q9 ∧ q9 ≤ s.size ∧ Hid (trimLB ((L s).drop (n)) = trimLB ((L s).drop q9))) (fun i => s.size - (intOf i).toNat)
            case atStart => exact ⟨n, rfl, Nat.le_refl _, by omega, rfl⟩
            case round =>
              obtain ⟨d, rfl, habd, hbsd, hTd⟩ := hrel
              by_cases hlt : d < s.size
              · have hdd := Lib.hid (L_drop s d hlt)
                cases hq : blankI s[d].toNat
                · have HL3 : Hid ((listStep ((L s).drop a)).2 = (L s).drop d) := by show _ = _; rw [HD.out, hTd.out, hdd.out, trimLB_other _ _ hq]
                  clear hTd
                  have g0 : ((d : Int) == (s.size : Int)) = false := by simp; omega
                  by_cases h44 : s[d].toNat = 44
                  · have g1 : ((s[d].toNat : Int) != 44) = false := by simp; omega
                    have HF := Lib.hid (cores_on (ss.map L) ((L s).drop a) (by rw [HL3.out, hdd.out, b8 (n := 44) (by decide) h44]; rfl))
                    have HT : Hid (Lib.trimPrefix (listStep ((L s).drop a)).2 [44] = (L s).drop (d + 1)) := by show _ = _; rw [HL3.out, hdd.out, b8 (n := 44) (by decide) h44]; rfl
                    clear h44
                    go_wp2_with (go_at_call 60; refine (Blank_c _ _).mono ?_; rintro e w1 ⟨rfl, rfl⟩)
                    go_roundw
                    case rel => exact ⟨d + 1, by go_num, ss ++ [x], by omega, HRX.out, hbelX, by omega, by rw [HI.out, HF.out.1, HT.out, ← HS.out]⟩
                    case measure => simp [intOf]; omega
                  · have g1 : ((s[d].toNat : Int) != 44) = true := by simp; omega
                    have HF := Lib.hid (HI.out.trans (cores_bad (ss.map L) ((L s).drop a) (by rw [HL3.out, hdd.out]; simp) (by
                      rw [HL3.out, hdd.out]
                      simp only [Lib.hasPrefix, List.isPrefixOf, Bool.and_true, beq_eq_false_iff_ne]
                      intro h
                      exact h44 (by rw [← h]; rfl))))
                    clear h44
                    go_wp2_with (go_at_call 60; refine (Blank_c _ _).mono ?_; rintro e w1 ⟨rfl, rfl⟩)
                    go_ret2
                    exact ⟨_, [], by rw [HF.out]; rfl, by rw [HF.out]; rfl, World.ownsRow_nil _ _ _ _, Nat.zero_le _, hbelX⟩
                · go_wp2_with (go_at_call 60; refine (Blank_c _ _).mono ?_; rintro e w1 ⟨rfl, rfl⟩)
                  go_round
                  case rel => exact ⟨d + 1, by go_num, by omega, by omega, by show _ = _; rw [hTd.out, hdd.out, trimLB_blank _ _ hq]⟩
                  case measure => simp [intOf]; omega
              · have HL3 : Hid ((listStep ((L s).drop a)).2 = (L s).drop d) := by show _ = _; rw [HD.out, hTd.out, List.drop_eq_nil_of_le (by rw [L_length]; omega)]; rfl
                clear hTd
                have g0 : ((d : Int) == (s.size : Int)) = true := by simp; omega
                have HF := Lib.hid (cores_end (ss.map L) ((L s).drop a) (by rw [HL3.out]; exact List.drop_eq_nil_of_le (by rw [L_length]; omega)))
                go_wp2_with fail
                go_ret2
                have e1 : coresOf (L s) = (ss.map L ++ (listStep ((L s).drop a)).1, decide (0 < (ss.map L ++ (listStep ((L s).drop a)).1).length)) := HI.out.trans HF.out
                rw [← HS.out] at e1
                exact ⟨_, ss ++ [x], by rw [e1]; simp, by rw [e1], HRX.out, by omega, hbelX⟩
        · go_wp2_with (go_at_call 60; refine (Blank_c _ _).mono ?_; rintro e w1 ⟨rfl, rfl⟩)
          go_round
          case rel => exact ⟨b + 1, by go_num, by omega, by omega, by show _ = _; rw [hTb.out, hd.out, trimLB_blank _ _ hq]⟩
          case measure => simp [intOf]; omega
      · have HTb : Hid (trimLB ((L s).drop (a)) = (L s).drop b) := by show _ = _; rw [hTb.out, List.drop_eq_nil_of_le (by rw [L_length]; omega)]; rfl
        go_wp2_with fail
        clear hTb
        have hE := End_c s b wo (by omega) hs
        cases hent : entity ((L s).drop b) with
        | none =>
          rw [show endI (L s) b = -1 from by unfold endI; rw [hent]] at hE
          have HE := Lib.hid hE; clear hE
          have HS : Hid (ss.map L = ss.map L ++ (listStep ((L s).drop a)).1) := by show _ = _; rw [listStep_no _ (by rw [HTb.out]; unfold entB; rw [hent]; rfl), List.append_nil]
          have HD : Hid ((listStep ((L s).drop a)).2 = trimLB ((L s).drop b)) := by show _ = _; rw [listStep_rest, HTb.out]; unfold entL; rw [hent]; rfl
          have HRX := HR; have hbelX := hbel
          have hlen : ss.length ≤ b := by omega
          clear hent HTb HR hbel
          go_wp2_with (go_at_call 45; refine HE.out.mono ?_; rintro e w1 ⟨rfl, rfl⟩)
          go_loop [5] (fun i => ∃ q9 : Nat, i = .int .i64 q9 ∧ b ≤ q9 ∧ q9 ≤ s.size ∧ Hid (trimLB ((L s).drop (b)) = trimLB ((L s).drop q9))) (fun i => s.size - (intOf i).toNat)
          case atStart => exact ⟨b, rfl, Nat.le_refl _, by omega, rfl⟩
          case round =>
            obtain ⟨d, rfl, habd, hbsd, hTd⟩ := hrel
            by_cases hlt : d < s.size
            · have hdd := Lib.hid (L_drop s d hlt)
              cases hq : blankI s[d].toNat
              · have HL3 : Hid ((listStep ((L s).drop a)).2 = (L s).drop d) := by show _ = _; rw [HD.out, hTd.out, hdd.out, trimLB_other _ _ hq]
                clear hTd
                have g0 : ((d : Int) == (s.size : Int)) = false := by simp; omega
                by_cases h44 : s[d].toNat = 44
                · have g1 : ((s[d].toNat : Int) != 44) = false := by simp; omega
                  have HF := Lib.hid (cores_on (ss.map L) ((L s).drop a) (by rw [HL3.out, hdd.out, b8 (n := 44) (by decide) h44]; rfl))
                  have HT : Hid (Lib.trimPrefix (listStep ((L s).drop a)).2 [44] = (L s).drop (d + 1)) := by show _ = _; rw [HL3.out, hdd.out, b8 (n := 44) (by decide) h44]; rfl
                  clear h44
                  go_wp2_with (go_at_call 60; refine (Blank_c _ _).mono ?_; rintro e w1 ⟨rfl, rfl⟩)
                  go_roundw
                  case rel => exact ⟨d + 1, by go_num, ss, by omega, HRX.out, hbelX, by omega, by rw [HI.out, HF.out.1, HT.out, ← HS.out]⟩
                  case measure => simp [intOf]; omega
                · have g1 : ((s[d].toNat : Int) != 44) = true := by simp; omega
                  have HF := Lib.hid (HI.out.trans (cores_bad (ss.map L) ((L s).drop a) (by rw [HL3.out, hdd.out]; simp) (by
                    rw [HL3.out, hdd.out]
                    simp only [Lib.hasPrefix, List.isPrefixOf, Bool.and_true, beq_eq_false_iff_ne]
                    intro h
                    exact h44 (by rw [← h]; rfl))))
                  clear h44
                  go_wp2_with (go_at_call 60; refine (Blank_c _ _).mono ?_; rintro e w1 ⟨rfl, rfl⟩)
                  go_ret2
                  exact ⟨_, [], by rw [HF.out]; rfl, by rw [HF.out]; rfl, World.ownsRow_nil _ _ _ _, Nat.zero_le _, hbelX⟩
              · go_wp2_with (go_at_call 60; refine (Blank_c _ _).mono ?_; rintro e w1 ⟨rfl, rfl⟩)
                go_round
                case rel => exact ⟨d + 1, by go_num, by omega, by omega, by show _ = _; rw [hTd.out, hdd.out, trimLB_blank _ _ hq]⟩
                case measure => simp [intOf]; omega
            · have HL3 : Hid ((listStep ((L s).drop a)).2 = (L s).drop d) := by show _ = _; rw [HD.out, hTd.out, List.drop_eq_nil_of_le (by rw [L_length]; omega)]; rfl
              clear hTd
              have g0 : ((d : Int) == (s.size : Int)) = true := by simp; omega
              have HF := Lib.hid (cores_end (ss.map L) ((L s).drop a) (by rw [HL3.out]; exact List.drop_eq_nil_of_le (by rw [L_length]; omega)))
              go_wp2_with fail
              go_ret2
              have e1 : coresOf (L s) = (ss.map L ++ (listStep ((L s).drop a)).1, decide (0 < (ss.map L ++ (listStep ((L s).drop a)).1).length)) := HI.out.trans HF.out
              rw [← HS.out] at e1
              exact ⟨_, ss, by rw [e1]; simp, by rw [e1], HRX.out, by omega, hbelX⟩
        | some p =>
          obtain ⟨c, r⟩ := p
          have hrl := entity_le _ _ _ hent
          rw [List.length_drop, L_length] at hrl
          exfalso; omega
end Go.Proofs.YtgemjpoggbdfaaaDoor
