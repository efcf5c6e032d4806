/- The references' Match, Check. -/
import Derived.Test.YtgemjpoggbdfaaaDoorTagR4
namespace Go.Proofs.YtgemjpoggbdfaaaDoor
open Go.RowKit

theorem RCheck_c (s : ByteArray) (w : World) (hs : s.size ≤ 1000000000000) : Calls Tryd.prog 19 #[.string s] w fun e w' => e = .returned (.int .i64 (checkE (L s))) ∧ w = w' := by
  cases hm : mayB (L s)
  · have HE : Hid (checkE (L s) = 3) := by show _ = _; simp [checkE, hm]
    go_enter Tryd.func19, Tryd.ntmps19
    go_wp2_with (go_at_call 43; refine (May_c _ _ hs).mono ?_; rintro e w' ⟨rfl, rfl⟩)
    go_ret
    exact ⟨ret_int HE.out.symm, rfl⟩
  · have HE : Hid (checkE (L s) = 0) := by show _ = _; simp [checkE, hm]
    go_enter Tryd.func19, Tryd.ntmps19
    go_wp2_with (go_at_call 43; refine (May_c _ _ hs).mono ?_; rintro e w' ⟨rfl, rfl⟩)
    go_ret
    exact ⟨ret_int HE.out.symm, rfl⟩

set_option maxRecDepth 100000 in
set_option maxHeartbeats 2000000 in
theorem RMatch_c (v m : ByteArray) (w : World) (hv : v.size ≤ 1000000000000) (hm : m.size ≤ 1000000000000) :
    Calls Tryd.prog 20 #[.string v, .string m] w fun e w' => e = .returned (.bool (matchOf (L v) (L m))) ∧ Below w.heap.size w w' := by
  go_enter Tryd.func20, Tryd.ntmps20
  go_wp2_with fail
  refine (RCore_c m _ hm).mono ?_
  rintro e w1 ⟨c, rfl, hz, hc, rfl⟩
  by_cases hB : coreB (L m) = true
  · go_wp2_with fail
    refine (RTrim_c v _ hv).mono ?_
    rintro e w2 ⟨t, rfl, hzt, ht, rfl⟩
    cases hs : (t.toList == [42])
    · have HM := Lib.hid (match_list (L v) (L m) hB (by rw [← ht.out, ← toList_L]; simpa using hs))
      go_wp2_with fail
      refine (Rcores_c v _ hv).mono ?_
      rintro e w3 ⟨a, ss, rfl, hss, hrow, hn, hb3⟩
      obtain ⟨A, cap, rfl⟩ := row_form hrow
      have HR := Lib.hid hrow; clear hrow
      cases hcb : (coresOf (L v)).2
      · have HF : Hid (matchOf (L v) (L m) = false) := by show _ = _; rw [HM.out, hcb]; rfl
        go_wp2_with fail
        go_ret
        exact ⟨ret_bool HF.out.symm, hb3⟩
      · have HF : Hid (matchOf (L v) (L m) = (ss.map L).contains (coreC (L m))) := by show _ = _; rw [HM.out, hcb, hss]; rfl
        clear HM hcb hss
        go_wp2_with fail
        go_loop [8] (fun i => ∃ k : Nat, k ≤ ss.length ∧ i = .int .i64 k ∧ Hid ((ss.map L).contains (coreC (L m)) = ((ss.drop k).map L).contains (coreC (L m)))) (fun i => ss.length - (intOf i).toNat)
        case atStart => exact ⟨0, Nat.zero_le _, rfl, rfl⟩
        case round =>
          obtain ⟨k, hk, rfl, hI⟩ := hrel
          by_cases hlt : k < ss.length
          · obtain ⟨g, rfl, hg, hcells⟩ := row_at HR.out k hlt
            have hck := hcells k hlt
            have hd := Lib.hid (List.drop_eq_getElem_cons hlt)
            clear hcells
            cases hq : (ss[k].toList == c.toList)
            · have HQ : Hid (¬ L ss[k] = coreC (L m)) := by
                show ¬ _
                rw [← hc.out, ← toList_L, ← toList_L]
                simpa using hq
              go_wp2_with fail
              go_round
              case rel => exact ⟨k + 1, by omega, by go_num, by
                show _ = _
                rw [hI.out, hd.out, List.map_cons, List.contains_cons]
                have : (coreC (L m) == L ss[k]) = false := by simpa using fun h => HQ.out h.symm
                rw [this, Bool.false_or]⟩
              case measure => simp [intOf]; omega
            · have HQ : Hid (L ss[k] = coreC (L m)) := by
                show _ = _
                rw [← hc.out, ← toList_L, ← toList_L]
                simpa using hq
              go_wp2_with fail
              go_ret
              refine ⟨ret_bool ?_, hb3⟩
              rw [HF.out, hI.out, hd.out, List.map_cons, HQ.out, List.contains_cons]
              simp
          · go_wp2_with fail
            go_ret
            refine ⟨ret_bool ?_, hb3⟩
            rw [HF.out, hI.out, List.drop_eq_nil_of_le (by omega)]
            rfl
    · have HM := Lib.hid (match_star (L v) (L m) hB (by rw [← ht.out, ← toList_L]; simpa using hs))
      go_wp2_with fail
      go_ret
      exact ⟨ret_bool HM.out.symm, Below.refl _ _⟩
  · have hB' : coreB (L m) = false := by simpa using hB
    have HM := Lib.hid (match_no (L v) (L m) hB')
    clear hB
    go_wp2_with fail
    go_ret
    exact ⟨ret_bool HM.out.symm, Below.refl _ _⟩
end Go.Proofs.YtgemjpoggbdfaaaDoor
