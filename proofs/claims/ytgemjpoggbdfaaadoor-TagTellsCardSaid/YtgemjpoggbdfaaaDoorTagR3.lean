/- The references' Core, Trim, cores, Match. -/
import Derived.Test.YtgemjpoggbdfaaaDoorTagR2
import Derived.Test.YtgemjpoggbdfaaaDoorTagM
namespace Go.Proofs.YtgemjpoggbdfaaaDoor
open Go.RowKit

theorem endI_whole (l : List UInt8) (h : endI l 0 = l.length) : ∃ c, coreOf l = some c := by
  unfold endI at h
  rw [List.drop_zero] at h
  unfold coreOf
  cases he : entity l with
  | none => simp only [he] at h; omega
  | some p =>
    obtain ⟨c, r⟩ := p
    simp only [he] at h
    have hr : r = [] := by
      have := entity_le _ _ _ he
      exact List.eq_nil_of_length_eq_zero (by omega)
    subst hr
    exact ⟨c, rfl⟩
theorem endI_core (l c : List UInt8) (h : coreOf l = some c) : endI l 0 = l.length := by
  unfold coreOf at h
  unfold endI
  rw [List.drop_zero]
  cases he : entity l with
  | none => simp [he] at h
  | some p =>
    obtain ⟨c', r⟩ := p
    rw [he] at h
    cases r with
    | nil => simp
    | cons x r => simp at h
theorem strip_cases (l : List UInt8) : (∃ r, l = 87 :: 47 :: r ∧ stripW l = r) ∨ stripW l = l := by
  by_cases h : ∃ r, l = 87 :: 47 :: r
  · obtain ⟨r, rfl⟩ := h
    exact .inl ⟨r, rfl, stripW_yes r⟩
  · exact .inr (stripW_no l fun r hr => h ⟨r, hr⟩)
theorem core_shape (l c : List UInt8) (h : coreOf l = some c) : l = 34 :: (c ++ [34]) ∨ l = 87 :: 47 :: 34 :: (c ++ [34]) := by
  have he : entity l = some (c, []) := by
    unfold coreOf at h
    cases he : entity l with
    | none => simp [he] at h
    | some p =>
      obtain ⟨c', r⟩ := p
      rw [he] at h
      cases r with
      | nil => simp at h; rw [h]
      | cons x r => simp at h
  have hs : stripW l = 34 :: (c ++ [34]) := by
    unfold entity at he
    split at he
    · simp at he
    · rename_i x r hx
      split at he
      · rename_i h34
        rw [hx, quoteEnd_le _ _ _ he, b8 (n := 34) (by decide) h34]
        rfl
      · simp at he
  rcases strip_cases l with ⟨r, hl, hr⟩ | hr
  · right; rw [hl, ← hr, hs]
  · left; rw [← hr, hs]
theorem core_of_shape (l c : List UInt8) (h : coreOf l = some c) : (l[0]? = some 34 ∧ l.length = c.length + 2 ∧ (l.drop 1).take (l.length - 2) = c) ∨ (l[0]? = some 87 ∧ l.length = c.length + 4 ∧ (l.drop 3).take (l.length - 4) = c) := by
  rcases core_shape l c h with rfl | rfl
  · left; simp
  · right; simp

set_option maxRecDepth 100000 in
set_option maxHeartbeats 2000000 in
theorem RCore_c (s : ByteArray) (w : World) (hs : s.size ≤ 1000000000000) : Calls Tryd.prog 17 #[.string s] w fun e w' => ∃ c, e = .returned (.tuple #[.string c, .bool (coreB (L s))]) ∧ c.size ≤ s.size ∧ Hid (L c = coreC (L s)) ∧ w = w' := by
  have HL := Lib.hid (L_length s)
  cases hcore : coreOf (L s) with
  | none =>
    have hne : ((endI (L s) 0 : Int) != (s.size : Int)) = true := by
      simp
      intro h
      obtain ⟨c, hc⟩ := endI_whole (L s) (by rw [h, L_length])
      simp [hc] at hcore
    have HB : Hid (coreB (L s) = false) := by show _ = _; unfold coreB; rw [hcore]; rfl
    have HC : Hid (coreC (L s) = []) := by show _ = _; unfold coreC; rw [hcore]; rfl
    clear hcore
    go_enter Tryd.func17, Tryd.ntmps17
    go_wp2_with (go_at_call 45; refine (End_c s 0 _ (Nat.zero_le _) hs).mono ?_; rintro e w1 ⟨rfl, rfl⟩)
    go_ret2
    exact ⟨⟨#[]⟩, by rw [HB.out]; rfl, by simp [size_lit], by show _ = _; rw [HC.out]; rfl, rfl⟩
  | some c =>
    have hne : endI (L s) 0 = (s.size : Int) := by rw [endI_core _ _ hcore, L_length]
    have HB : Hid (coreB (L s) = true) := by show _ = _; unfold coreB; rw [hcore]; rfl
    have HC : Hid (coreC (L s) = c) := by show _ = _; unfold coreC; rw [hcore]; rfl
    have hEnd := End_c s 0 w (Nat.zero_le _) hs
    rw [hne] at hEnd
    have HE := Lib.hid hEnd
    clear hEnd hne
    rcases core_of_shape _ _ hcore with ⟨h0, h1, h2⟩ | ⟨h0, h1, h2⟩
    all_goals
      rw [L_length] at h1 h2
      have hpos : 0 < s.size := by omega
      rw [L_get? s 0 hpos] at h0
      injection h0 with h0
      have H2 := Lib.hid h2
      have g0 := congrArg (fun x : UInt8 => ((x.toNat : Nat) : Int)) h0
      clear hcore h0 h2
      simp only [UInt8.reduceToNat] at g0
      have hlen : 2 ≤ s.size := by omega
      have hlen4 : c.length + 2 ≤ s.size := by omega
      have H1 := Lib.hid h1; clear h1
    · go_enter Tryd.func17, Tryd.ntmps17
      go_wp2_with (go_at_call 45; refine HE.out.mono ?_; rintro e w1 ⟨rfl, rfl⟩)
      go_ret2
      exact ⟨s.extract 1 (s.size - 1), by rw [HB.out]; rfl, by simp only [ByteArray.size_extract]; omega, by show _ = _; rw [L_extract, HC.out, ← H2.out, show s.size - 1 - 1 = s.size - 2 from by omega], rfl⟩
    · have hlen5 : 4 ≤ s.size := by have := H1.out; omega
      go_enter Tryd.func17, Tryd.ntmps17
      go_wp2_with (go_at_call 45; refine HE.out.mono ?_; rintro e w1 ⟨rfl, rfl⟩)
      go_ret2
      exact ⟨(s.extract 2 s.size).extract 1 (s.size - 2 - 1), by rw [HB.out]; rfl, by simp only [ByteArray.size_extract]; omega, by
        show _ = _
        rw [L_extract, L_from, HC.out, ← H2.out, List.drop_drop, show s.size - 2 - 1 - 1 = s.size - 4 from by omega], rfl⟩

/-! Trim, by two loops. -/
theorem L_empty (s : ByteArray) (h : s.size = 0) : L s = [] := List.eq_nil_of_length_eq_zero (by rw [L_length]; exact h)
theorem L_last (s : ByteArray) (h : 0 < s.size) : L s = (L s).take (s.size - 1) ++ [s[s.size - 1]'(by omega)] := by
  have := L_take s (s.size - 1) (by omega)
  rw [← this, show s.size - 1 + 1 = s.size from by omega, List.take_of_length_le (by rw [L_length]; omega)]
theorem L_first (s : ByteArray) (h : 0 < s.size) : L s = s[0] :: (L s).drop 1 := by
  have := L_drop s 0 h
  rwa [List.drop_zero] at this

theorem trimRB_done (u : ByteArray) (h : 0 < u.size) (hb : blankB (u[u.size - 1]'(by omega)) = false) : trimRB (L u) = L u := by
  have h1 := trimRB_other _ ((L u).take (u.size - 1)) hb
  rwa [← L_last u h] at h1
theorem trimRB_cut (u : ByteArray) (h : 0 < u.size) (hb : blankB (u[u.size - 1]'(by omega)) = true) : trimRB (L u) = trimRB ((L u).take (u.size - 1)) := by
  have h1 := trimRB_blank _ ((L u).take (u.size - 1)) hb
  rwa [← L_last u h] at h1

set_option maxRecDepth 100000 in
set_option maxHeartbeats 2000000 in
theorem RTrim_c (s : ByteArray) (w : World) (hs : s.size ≤ 1000000000000) : Calls Tryd.prog 48 #[.string s] w fun e w' => ∃ r, e = .returned (.string r) ∧ r.size ≤ s.size ∧ Hid (L r = trimB (L s)) ∧ w = w' := by
  go_enter Tryd.func48, Tryd.ntmps48
  go_wp2_with fail
  go_loop [0] (fun v => ∃ t : ByteArray, v = .string t ∧ t.size ≤ s.size ∧ Hid (trimLB (L s) = trimLB (L t))) (fun v => Lib.strSize v)
  case atStart => exact ⟨s, rfl, Nat.le_refl _, rfl⟩
  case round =>
    obtain ⟨t, rfl, htz, hI⟩ := hrel
    by_cases h0 : 0 < t.size
    · have ht := Lib.hid (L_first t h0)
      cases hb : blankI t[0].toNat
      · have HT : Hid (trimB (L s) = trimRB (L t)) := by show _ = _; rw [trimB_eq, hI.out, ht.out, trimLB_other _ _ hb]
        go_wp2_with (go_at_call 60; refine (Blank_c _ _).mono ?_; rintro e w1 ⟨rfl, rfl⟩)
        go_loop [0] (fun v => ∃ u : ByteArray, v = .string u ∧ u.size ≤ s.size ∧ Hid (trimB (L s) = trimRB (L u))) (fun v => Lib.strSize v)
        case atStart => exact ⟨t, rfl, htz, HT.out⟩
        case round =>
          obtain ⟨u, rfl, huz, hI⟩ := hrel
          by_cases h0 : 0 < u.size
          · cases hb : blankI (u[u.size - 1]'(by omega)).toNat
            · go_wp2_with (go_at_call 60; refine (Blank_c _ _).mono ?_; rintro e w1 ⟨rfl, rfl⟩)
              go_ret
              exact ⟨u, rfl, huz, by show _ = _; rw [hI.out, trimRB_done u h0 hb], rfl⟩
            · go_wp2_with (go_at_call 60; refine (Blank_c _ _).mono ?_; rintro e w1 ⟨rfl, rfl⟩)
              go_round
              case rel => exact ⟨u.extract 0 (u.size - 1), rfl, by simp only [ByteArray.size_extract]; omega, by show _ = _; rw [hI.out, L_upto, trimRB_cut u h0 hb]⟩
              case measure => simp only [Lib.strSize, ByteArray.size_extract]; omega
          · go_wp2_with fail
            go_ret
            exact ⟨u, rfl, huz, by show _ = _; rw [hI.out, L_empty u (by omega)]; rfl, rfl⟩
      · go_wp2_with (go_at_call 60; refine (Blank_c _ _).mono ?_; rintro e w1 ⟨rfl, rfl⟩)
        go_round
        case rel => exact ⟨t.extract 1 t.size, rfl, by simp only [ByteArray.size_extract]; omega, by show _ = _; rw [hI.out, L_from, ht.out, trimLB_blank _ _ hb]; rfl⟩
        case measure => simp only [Lib.strSize, ByteArray.size_extract]; omega
    · have HT : Hid (trimB (L s) = trimRB (L t)) := by show _ = _; rw [trimB_eq, hI.out, L_empty t (by omega)]; rfl
      go_wp2_with fail
      go_loop [0] (fun v => ∃ u : ByteArray, v = .string u ∧ u.size ≤ s.size ∧ Hid (trimB (L s) = trimRB (L u))) (fun v => Lib.strSize v)
      case atStart => exact ⟨t, rfl, htz, HT.out⟩
      case round =>
        obtain ⟨u, rfl, huz, hI⟩ := hrel
        by_cases h0 : 0 < u.size
        · cases hb : blankI (u[u.size - 1]'(by omega)).toNat
          · go_wp2_with (go_at_call 60; refine (Blank_c _ _).mono ?_; rintro e w1 ⟨rfl, rfl⟩)
            go_ret
            exact ⟨u, rfl, huz, by show _ = _; rw [hI.out, trimRB_done u h0 hb], rfl⟩
          · go_wp2_with (go_at_call 60; refine (Blank_c _ _).mono ?_; rintro e w1 ⟨rfl, rfl⟩)
            go_round
            case rel => exact ⟨u.extract 0 (u.size - 1), rfl, by simp only [ByteArray.size_extract]; omega, by show _ = _; rw [hI.out, L_upto, trimRB_cut u h0 hb]⟩
            case measure => simp only [Lib.strSize, ByteArray.size_extract]; omega
        · go_wp2_with fail
          go_ret
          exact ⟨u, rfl, huz, by show _ = _; rw [hI.out, L_empty u (by omega)]; rfl, rfl⟩
end Go.Proofs.YtgemjpoggbdfaaaDoor
