/- The laws TagApart, TagLists: the walks. -/
import Derived.Test.YtgemjpoggbdfaaaDoorTagL2
namespace Go.Proofs.YtgemjpoggbdfaaaDoor
open Go.RowKit

theorem L_app (a b : ByteArray) : L (a ++ b) = L a ++ L b := by simp [L]
theorem L_first' (s : ByteArray) (h : 0 < s.size) : L s = s[0] :: (L s).drop 1 := by
  have := L_drop s 0 h
  rwa [List.drop_zero] at this
theorem size_of_L (s : ByteArray) (n : Nat) (h : (L s).length ≤ n) : s.size ≤ n := by rwa [L_length] at h

set_option maxRecDepth 100000 in
set_option maxHeartbeats 4000000 in
theorem TagApart_great (s : ByteArray) (a b : Int) (w : World) (h : 2000 < s.size) : Calls Tryd.prog 5 #[.string s, .int .u8 a, .int .u8 b] w fun e w' => e = .returned (.bool true) ∧ Below w.heap.size w w' := by
  go_enter Tryd.func5, Tryd.ntmps5
  go_wp2_with (go_at_call 15; refine (alive_c _).mono ?_; rintro e w1 ⟨rfl, hb⟩)
  go_ret
  exact ⟨rfl, hb⟩

set_option maxRecDepth 100000 in
set_option maxHeartbeats 4000000 in
theorem TagApart_bad (s x y : ByteArray) (a b : Int) (w : World) (h : s.size ≤ 2000) (ha : 0 ≤ a) (hb0 : 0 ≤ b) (E F : Int) (hE : markE (L s) a = E) (hF : markE (L s) b = F) (hx : L x = markS (L s) a) (hy : L y = markS (L s) b)
    (hbad : ¬ E = 0 ∨ ¬ F = 0) (hx2 : ¬ E = 0 → x = ⟨#[]⟩) (hy2 : ¬ F = 0 → y = ⟨#[]⟩) :
    Calls Tryd.prog 5 #[.string s, .int .u8 a, .int .u8 b] w fun e w' => e = .returned (.bool true) ∧ Below w.heap.size w w' := by
  have C1 := fun w => Lib.hid (Mark_is s a w x hE hx ha (by omega))
  have C2 := fun w => Lib.hid (Mark_is s b w y hF hy hb0 (by omega))
  clear hE hF hx hy
  have hB := Lib.hid (Below.refl w.heap.size w)
  by_cases hE0 : E = 0
  · have hF0 : ¬ F = 0 := by rcases hbad with h | h; exact absurd hE0 h; exact h
    obtain rfl := hy2 hF0
    subst hE0
    have g1 : (F != 0) = true := by simpa using hF0
    have g2 : (F == 0) = false := by simpa using hF0
    clear hbad hx2 hy2 hF0
    go_enter Tryd.func5, Tryd.ntmps5
    go_wp2_with fail
    refine (alive_c _).mono ?_
    rintro e w1 ⟨rfl, hb⟩
    have hB := Lib.hid (below_next hB.out hb); clear hb
    go_wp2_with fail
    refine (C1 _).out.mono ?_
    rintro e w1 ⟨rfl, hb⟩
    have hB := Lib.hid (below_next hB.out hb); clear hb
    go_wp2_with fail
    refine (C2 _).out.mono ?_
    rintro e w1 ⟨rfl, hb⟩
    have hB := Lib.hid (below_next hB.out hb); clear hb
    go_wp2_with fail
    go_ret
    exact ⟨rfl, hB.out⟩
  · obtain rfl := hx2 hE0
    have g1 : (E != 0) = true := by simpa using hE0
    have g2 : (E == 0) = false := by simpa using hE0
    clear hbad hx2 hE0
    by_cases hF0 : F = 0
    · subst hF0
      clear hy2
      go_enter Tryd.func5, Tryd.ntmps5
      go_wp2_with fail
      refine (alive_c _).mono ?_
      rintro e w1 ⟨rfl, hb⟩
      have hB := Lib.hid (below_next hB.out hb); clear hb
      go_wp2_with fail
      refine (C1 _).out.mono ?_
      rintro e w1 ⟨rfl, hb⟩
      have hB := Lib.hid (below_next hB.out hb); clear hb
      go_wp2_with fail
      refine (C2 _).out.mono ?_
      rintro e w1 ⟨rfl, hb⟩
      have hB := Lib.hid (below_next hB.out hb); clear hb
      go_wp2_with fail
      go_ret
      exact ⟨rfl, hB.out⟩
    · obtain rfl := hy2 hF0
      have g3 : (F != 0) = true := by simpa using hF0
      have g4 : (F == 0) = false := by simpa using hF0
      clear hy2 hF0
      go_enter Tryd.func5, Tryd.ntmps5
      go_wp2_with fail
      refine (alive_c _).mono ?_
      rintro e w1 ⟨rfl, hb⟩
      have hB := Lib.hid (below_next hB.out hb); clear hb
      go_wp2_with fail
      refine (C1 _).out.mono ?_
      rintro e w1 ⟨rfl, hb⟩
      have hB := Lib.hid (below_next hB.out hb); clear hb
      go_wp2_with fail
      refine (C2 _).out.mono ?_
      rintro e w1 ⟨rfl, hb⟩
      have hB := Lib.hid (below_next hB.out hb); clear hb
      go_wp2_with fail
      go_ret
      exact ⟨rfl, hB.out⟩

set_option maxRecDepth 100000 in
set_option maxHeartbeats 4000000 in
theorem TagApart_good (s x y : ByteArray) (a b : Int) (w : World) (h : s.size ≤ 2000) (ha : 0 ≤ a) (hb0 : 0 ≤ b) (hE : markE (L s) a = 0) (hF : markE (L s) b = 0) (hx : L x = markS (L s) a) (hy : L y = markS (L s) b) :
    Calls Tryd.prog 5 #[.string s, .int .u8 a, .int .u8 b] w fun e w' => e = .returned (.bool true) ∧ Below w.heap.size w w' := by
  obtain ⟨hm, ha2⟩ := markE_zero _ _ hE
  obtain ⟨_, hb2⟩ := markE_zero _ _ hF
  have hx' : L x = markB (L s) a := hx.trans (markS_zero _ _ hE)
  have hy' : L y = markB (L s) b := hy.trans (markS_zero _ _ hF)
  have hml : (L s).length ≤ 64 := by unfold mayB at hm; simp at hm; exact hm.2.2
  have hmx := isMark_markB (L s) a hm
  have hcl : (coreM (L s) a).length ≤ 80 := by
    unfold coreM
    have := codName_len a
    split
    · omega
    · simp only [List.length_append, List.length_cons, List.length_nil]; split at this <;> (try split at this) <;> omega
  have hxl : x.size ≤ 90 := by
    apply size_of_L
    rw [hx', markB_eq]
    split <;> simp [plainMark, weakMark] <;> omega
  have hyl : y.size ≤ 90 := by
    have h2 : (coreM (L s) b).length ≤ 80 := by
      unfold coreM
      have := codName_len b
      split
      · omega
      · simp only [List.length_append, List.length_cons, List.length_nil]; split at this <;> (try split at this) <;> omega
    apply size_of_L
    rw [hy', markB_eq]
    split <;> simp [plainMark, weakMark] <;> omega
  obtain ⟨k, hk⟩ : ∃ k : ByteArray, L k = coreM (L s) a := ⟨⟨(coreM (L s) a).toArray⟩, L_mk _⟩
  have hkl : k.size ≤ 80 := by apply size_of_L; rw [hk]; exact hcl
  have hcore := isMark_core hmx
  have CK := fun w => Lib.hid (Core_is x w k (B := true) (by unfold coreB; rw [hx', hcore]; rfl) (by unfold coreC; rw [hx', hcore, hk]; rfl) (by omega))
  have CA := fun w => Lib.hid (Mark_is s a w x hE hx ha (by omega))
  have CB := fun w => Lib.hid (Mark_is s b w y hF hy hb0 (by omega))
  have M1 : Hid (matchOf (L x) (L y) = (a == b)) := by show _ = _; rw [hx', hy']; exact match_codings _ _ _ hm ha ha2 hb0 hb2
  have M2 : Hid (matchOf (L (⟨#[87, 47, 34]⟩ ++ k ++ ⟨#[34]⟩)) (L x) = true) := by
    show _ = _
    rw [L_app, L_app, hk, hx']
    have := match_marks (isMark_weak hmx) hmx
    simpa [weakMark, L] using this
  have M3 : Hid (matchOf (L (⟨#[34]⟩ ++ k ++ ⟨#[34]⟩)) (L x) = true) := by
    show _ = _
    rw [L_app, L_app, hk, hx']
    have := match_marks (isMark_plain hmx) hmx
    simpa [plainMark, L] using this
  have hpos : 0 < x.size := by
    obtain ⟨r, hr⟩ := markB_head (L s) a
    rw [← L_length, hx', hr]; simp
  have hhead : x[0] = if a = 0 then 34 else 87 := by
    obtain ⟨r, hr⟩ := markB_head (L s) a
    have := L_first' x hpos
    rw [hx', hr] at this
    injection this with this
    exact this.symm
  have hB := Lib.hid (Below.refl w.heap.size w)
  have HH : ((((x[0].toNat : Nat) : Int) == 87) == (a != 0)) = true := by
    rw [hhead]
    by_cases h0 : a = 0
    · subst h0; simp
    · simp [h0]
  clear hx hy hx' hy' hhead hm hmx hcore hcl hE hF hk
  go_enter Tryd.func5, Tryd.ntmps5
  go_wp2_with fail
  refine (alive_c _).mono ?_
  rintro e w1 ⟨rfl, hb⟩
  have hB := Lib.hid (below_next hB.out hb); clear hb
  go_wp2_with fail
  refine (CA _).out.mono ?_
  rintro e w1 ⟨rfl, hb⟩
  have hB := Lib.hid (below_next hB.out hb); clear hb
  go_wp2_with fail
  refine (CB _).out.mono ?_
  rintro e w1 ⟨rfl, hb⟩
  have hB := Lib.hid (below_next hB.out hb); clear hb
  go_wp2_with fail
  refine (CK _).out.mono ?_
  rintro e w1 ⟨rfl, hb⟩
  have hB := Lib.hid (below_next hB.out hb); clear hb
  go_wp2_with fail
  refine (Match_is _ _ _ (B := (a == b)) M1.out (by omega) (by omega)).mono ?_
  rintro e w1 ⟨rfl, hb⟩
  have hB := Lib.hid (below_next hB.out hb); clear hb
  go_wp2_with fail
  refine (Match_is _ _ _ (B := true) M2.out (by simp [size_lit]; omega) (by omega)).mono ?_
  rintro e w1 ⟨rfl, hb⟩
  have hB := Lib.hid (below_next hB.out hb); clear hb
  go_wp2_with fail
  refine (Match_is _ _ _ (B := true) M3.out (by simp [size_lit]; omega) (by omega)).mono ?_
  rintro e w1 ⟨rfl, hb⟩
  have hB := Lib.hid (below_next hB.out hb); clear hb
  go_wp2_with fail
  go_ret
  exact ⟨rfl, hB.out⟩

theorem TagApart_walk (s : ByteArray) (a b : Int) (w : World) (ha : 0 ≤ a) (hb : 0 ≤ b) : Calls Tryd.prog 5 #[.string s, .int .u8 a, .int .u8 b] w fun e w' => e = .returned (.bool true) ∧ Below w.heap.size w w' := by
  by_cases h : s.size ≤ 2000
  · obtain ⟨x, hx⟩ : ∃ x : ByteArray, L x = markS (L s) a := ⟨⟨(markS (L s) a).toArray⟩, L_mk _⟩
    obtain ⟨y, hy⟩ : ∃ y : ByteArray, L y = markS (L s) b := ⟨⟨(markS (L s) b).toArray⟩, L_mk _⟩
    by_cases hbad : ¬ markE (L s) a = 0 ∨ ¬ markE (L s) b = 0
    · exact TagApart_bad s x y a b w h ha hb _ _ rfl rfl hx hy hbad (fun hE => L_inj (by rw [hx, markS_other _ _ hE]; rfl)) (fun hF => L_inj (by rw [hy, markS_other _ _ hF]; rfl))
    · exact TagApart_good s x y a b w h ha hb (Classical.not_not.1 fun h => hbad (.inl h)) (Classical.not_not.1 fun h => hbad (.inr h)) hx hy
  · exact TagApart_great s a b w (by omega)
end Go.Proofs.YtgemjpoggbdfaaaDoor
