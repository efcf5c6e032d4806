/- The law TagLists: the walk. -/
import Derived.Test.YtgemjpoggbdfaaaDoorTagL3
namespace Go.Proofs.YtgemjpoggbdfaaaDoor
open Go.RowKit

def neverS : ByteArray := ⟨#[34, 128, 110, 101, 118, 101, 114, 128, 34]⟩
theorem never_core : coreOf (L ⟨#[34, 128, 110, 101, 118, 101, 114, 128, 34]⟩) = some [128, 110, 101, 118, 101, 114, 128] := by kernel_rfl
theorem coreB_some (l : List UInt8) (h : coreB l = true) : ∃ c, coreOf l = some c := by
  unfold coreB at h
  exact Option.isSome_iff_exists.1 h

set_option maxRecDepth 100000 in
set_option maxHeartbeats 4000000 in
theorem TagLists_great (v m r : ByteArray) (w : World) (h : 1000 < v.size ∨ 1000 < m.size ∨ 1000 < r.size) : Calls Tryd.prog 6 #[.string v, .string m, .string r] w fun e w' => e = .returned (.bool true) ∧ Below w.heap.size w w' := by
  by_cases h1 : 1000 < v.size
  · go_enter Tryd.func6, Tryd.ntmps6
    go_wp2_with (go_at_call 15; refine (alive_c _).mono ?_; rintro e w1 ⟨rfl, hb⟩)
    go_ret
    exact ⟨rfl, hb⟩
  · by_cases h2 : 1000 < m.size
    · go_enter Tryd.func6, Tryd.ntmps6
      go_wp2_with (go_at_call 15; refine (alive_c _).mono ?_; rintro e w1 ⟨rfl, hb⟩)
      go_ret
      exact ⟨rfl, hb⟩
    · have h3 : 1000 < r.size := by omega
      clear h
      go_enter Tryd.func6, Tryd.ntmps6
      go_wp2_with (go_at_call 15; refine (alive_c _).mono ?_; rintro e w1 ⟨rfl, hb⟩)
      go_ret
      exact ⟨rfl, hb⟩

set_option maxRecDepth 100000 in
set_option maxHeartbeats 4000000 in
theorem TagLists_none (v m r : ByteArray) (w : World) (h1 : v.size ≤ 1000) (h2 : m.size ≤ 1000) (h3 : r.size ≤ 1000) (hm : coreB (L m) = false) : Calls Tryd.prog 6 #[.string v, .string m, .string r] w fun e w' => e = .returned (.bool true) ∧ Below w.heap.size w w' := by
  have hB := Lib.hid (Below.refl w.heap.size w)
  have F1 := Lib.hid (match_no (L v) (L m) hm)
  have F2 := Lib.hid (match_no (L ⟨#[42]⟩) (L m) hm)
  obtain ⟨k, hk⟩ : ∃ k : ByteArray, L k = coreC (L m) := ⟨⟨(coreC (L m)).toArray⟩, L_mk _⟩
  obtain ⟨j, hj⟩ : ∃ j : ByteArray, L j = coreC (L r) := ⟨⟨(coreC (L r)).toArray⟩, L_mk _⟩
  have CK := fun w => Lib.hid (Core_is m w k hm hk (by omega))
  have CJ := fun w => Lib.hid (Core_is r w j rfl hj (by omega))
  clear hm hk hj
  go_enter Tryd.func6, Tryd.ntmps6
  go_wp2_with fail
  refine (alive_c _).mono ?_
  rintro e w1 ⟨rfl, hb⟩
  have hB := Lib.hid (below_next hB.out hb); clear hb
  go_wp2_with fail
  refine (CK _).out.mono ?_
  rintro e w1 ⟨rfl, hb⟩
  have hB := Lib.hid (below_next hB.out hb); clear hb
  go_wp2_with fail
  refine (CJ _).out.mono ?_
  rintro e w1 ⟨rfl, hb⟩
  have hB := Lib.hid (below_next hB.out hb); clear hb
  go_wp2_with fail
  refine (Match_is _ _ _ (B := false) F1.out (by omega) (by omega)).mono ?_
  rintro e w1 ⟨rfl, hb⟩
  have hB := Lib.hid (below_next hB.out hb); clear hb
  go_wp2_with fail
  refine (Match_is _ _ _ (B := false) F2.out (by decide) (by omega)).mono ?_
  rintro e w1 ⟨rfl, hb⟩
  have hB := Lib.hid (below_next hB.out hb); clear hb
  go_wp2_with fail
  go_ret
  exact ⟨rfl, hB.out⟩

set_option maxRecDepth 100000 in
set_option maxHeartbeats 8000000 in
theorem TagLists_some (v m r : ByteArray) (w : World) (h1 : v.size ≤ 1000) (h2 : m.size ≤ 1000) (h3 : r.size ≤ 1000) (hm : coreB (L m) = true) : Calls Tryd.prog 6 #[.string v, .string m, .string r] w fun e w' => e = .returned (.bool true) ∧ Below w.heap.size w w' := by
  have hB := Lib.hid (Below.refl w.heap.size w)
  obtain ⟨c, hc⟩ := coreB_some _ hm
  have FS := Lib.hid (match_self hc)
  have HC := Lib.hid hc; clear hc
  obtain ⟨k, hk⟩ : ∃ k : ByteArray, L k = coreC (L m) := ⟨⟨(coreC (L m)).toArray⟩, L_mk _⟩
  obtain ⟨j, hj⟩ : ∃ j : ByteArray, L j = coreC (L r) := ⟨⟨(coreC (L r)).toArray⟩, L_mk _⟩
  have CK := fun w => Lib.hid (Core_is m w k hm hk (by omega))
  clear hm hk
  cases hr : coreB (L r)
  · have CJ := fun w => Lib.hid (Core_is r w j hr hj (by omega))
    clear hr hj
    go_enter Tryd.func6, Tryd.ntmps6
    go_wp2_with fail
    refine (alive_c _).mono ?_
    rintro e w1 ⟨rfl, hb⟩
    have hB := Lib.hid (below_next hB.out hb); clear hb
    go_wp2_with fail
    refine (CK _).out.mono ?_
    rintro e w1 ⟨rfl, hb⟩
    have hB := Lib.hid (below_next hB.out hb); clear hb
    go_wp2_with fail
    refine (CJ _).out.mono ?_
    rintro e w1 ⟨rfl, hb⟩
    have hB := Lib.hid (below_next hB.out hb); clear hb
    go_wp2_with fail
    refine (Match_is _ _ _ (B := true) FS.out (by omega) (by omega)).mono ?_
    rintro e w1 ⟨rfl, hb⟩
    have hB := Lib.hid (below_next hB.out hb); clear hb
    go_wp2_with fail
    go_ret
    exact ⟨rfl, hB.out⟩
  · have CJ := fun w => Lib.hid (Core_is r w j hr hj (by omega))
    obtain ⟨d, hd⟩ := coreB_some _ hr
    have HD := Lib.hid hd
    clear hr hj hd
    cases hmr : matchOf (L v) (L r)
    · have HMR := Lib.hid hmr; clear hmr
      go_enter Tryd.func6, Tryd.ntmps6
      go_wp2_with fail
      refine (alive_c _).mono ?_
      rintro e w1 ⟨rfl, hb⟩
      have hB := Lib.hid (below_next hB.out hb); clear hb
      go_wp2_with fail
      refine (CK _).out.mono ?_
      rintro e w1 ⟨rfl, hb⟩
      have hB := Lib.hid (below_next hB.out hb); clear hb
      go_wp2_with fail
      refine (CJ _).out.mono ?_
      rintro e w1 ⟨rfl, hb⟩
      have hB := Lib.hid (below_next hB.out hb); clear hb
      go_wp2_with fail
      refine (Match_is _ _ _ (B := false) HMR.out (by omega) (by omega)).mono ?_
      rintro e w1 ⟨rfl, hb⟩
      have hB := Lib.hid (below_next hB.out hb); clear hb
      go_wp2_with fail
      refine (Match_is _ _ _ (B := true) FS.out (by omega) (by omega)).mono ?_
      rintro e w1 ⟨rfl, hb⟩
      have hB := Lib.hid (below_next hB.out hb); clear hb
      go_wp2_with fail
      go_ret
      exact ⟨rfl, hB.out⟩
    · cases hmn : matchOf (L v) (L ⟨#[34, 128, 110, 101, 118, 101, 114, 128, 34]⟩)
      · obtain ⟨cs, hv, hcs⟩ := match_from HD.out never_core hmr hmn
        have hmk := isMark_of _ _ HC.out
        have F1 : Hid (matchOf (L (v ++ ⟨#[44, 32]⟩ ++ m)) (L m) = true) := by
          show _ = _
          have := match_of HC.out (cores_behind hv (step_blank hmk 32 (by decide))) (by simp)
          simpa [L_app, L] using this
        have F2 : Hid (matchOf (L (m ++ ⟨#[32, 44]⟩ ++ v)) (L m) = true) := by
          show _ = _
          have := match_of HC.out (cores_ahead hv (step_behind hmk)) (by simp)
          simpa [L_app, L] using this
        have F3 : Hid (matchOf (L (v ++ ⟨#[44]⟩ ++ m)) (L r) = true) := by
          show _ = _
          have := match_of HD.out (cores_behind hv (step_mark hmk)) (by simpa using .inl (by simpa using hcs))
          simpa [L_app, L] using this
        have F4 : Hid (matchOf (L (⟨#[9]⟩ ++ m ++ ⟨#[44]⟩ ++ v)) (L r) = true) := by
          show _ = _
          have := match_of HD.out (cores_ahead hv (step_blank hmk 9 (by decide))) (by simpa using .inr (by simpa using hcs))
          simpa [L_app, L] using this
        have HMR := Lib.hid hmr; clear hmr
        have HMN := Lib.hid hmn; clear hmn
        clear hv hcs hmk
        go_enter Tryd.func6, Tryd.ntmps6
        go_wp2_with fail
        refine (alive_c _).mono ?_
        rintro e w1 ⟨rfl, hb⟩
        have hB := Lib.hid (below_next hB.out hb); clear hb
        go_wp2_with fail
        refine (CK _).out.mono ?_
        rintro e w1 ⟨rfl, hb⟩
        have hB := Lib.hid (below_next hB.out hb); clear hb
        go_wp2_with fail
        refine (CJ _).out.mono ?_
        rintro e w1 ⟨rfl, hb⟩
        have hB := Lib.hid (below_next hB.out hb); clear hb
        go_wp2_with fail
        refine (Match_is _ _ _ (B := true) HMR.out (by omega) (by omega)).mono ?_
        rintro e w1 ⟨rfl, hb⟩
        have hB := Lib.hid (below_next hB.out hb); clear hb
        go_wp2_with fail
        refine (Match_is _ _ _ (B := false) HMN.out (by omega) (by decide)).mono ?_
        rintro e w1 ⟨rfl, hb⟩
        have hB := Lib.hid (below_next hB.out hb); clear hb
        go_wp2_with fail
        refine (Match_is _ _ _ (B := true) F1.out (by simp [size_lit]; omega) (by omega)).mono ?_
        rintro e w1 ⟨rfl, hb⟩
        have hB := Lib.hid (below_next hB.out hb); clear hb
        go_wp2_with fail
        refine (Match_is _ _ _ (B := true) F2.out (by simp [size_lit]; omega) (by omega)).mono ?_
        rintro e w1 ⟨rfl, hb⟩
        have hB := Lib.hid (below_next hB.out hb); clear hb
        go_wp2_with fail
        refine (Match_is _ _ _ (B := true) F3.out (by simp [size_lit]; omega) (by omega)).mono ?_
        rintro e w1 ⟨rfl, hb⟩
        have hB := Lib.hid (below_next hB.out hb); clear hb
        go_wp2_with fail
        refine (Match_is _ _ _ (B := true) F4.out (by simp [size_lit]; omega) (by omega)).mono ?_
        rintro e w1 ⟨rfl, hb⟩
        have hB := Lib.hid (below_next hB.out hb); clear hb
        go_wp2_with fail
        go_ret
        exact ⟨rfl, hB.out⟩
      · have HMR := Lib.hid hmr; clear hmr
        have HMN := Lib.hid hmn; clear hmn
        go_enter Tryd.func6, Tryd.ntmps6
        go_wp2_with fail
        refine (alive_c _).mono ?_
        rintro e w1 ⟨rfl, hb⟩
        have hB := Lib.hid (below_next hB.out hb); clear hb
        go_wp2_with fail
        refine (CK _).out.mono ?_
        rintro e w1 ⟨rfl, hb⟩
        have hB := Lib.hid (below_next hB.out hb); clear hb
        go_wp2_with fail
        refine (CJ _).out.mono ?_
        rintro e w1 ⟨rfl, hb⟩
        have hB := Lib.hid (below_next hB.out hb); clear hb
        go_wp2_with fail
        refine (Match_is _ _ _ (B := true) HMR.out (by omega) (by omega)).mono ?_
        rintro e w1 ⟨rfl, hb⟩
        have hB := Lib.hid (below_next hB.out hb); clear hb
        go_wp2_with fail
        refine (Match_is _ _ _ (B := true) HMN.out (by omega) (by decide)).mono ?_
        rintro e w1 ⟨rfl, hb⟩
        have hB := Lib.hid (below_next hB.out hb); clear hb
        go_wp2_with fail
        refine (Match_is _ _ _ (B := true) FS.out (by omega) (by omega)).mono ?_
        rintro e w1 ⟨rfl, hb⟩
        have hB := Lib.hid (below_next hB.out hb); clear hb
        go_wp2_with fail
        go_ret
        exact ⟨rfl, hB.out⟩

theorem TagLists_walk (v m r : ByteArray) (w : World) : Calls Tryd.prog 6 #[.string v, .string m, .string r] w fun e w' => e = .returned (.bool true) ∧ Below w.heap.size w w' := by
  by_cases h : 1000 < v.size ∨ 1000 < m.size ∨ 1000 < r.size
  · exact TagLists_great v m r w h
  · cases hm : coreB (L m)
    · exact TagLists_none v m r w (by omega) (by omega) (by omega) hm
    · exact TagLists_some v m r w (by omega) (by omega) (by omega) hm
end Go.Proofs.YtgemjpoggbdfaaaDoor
