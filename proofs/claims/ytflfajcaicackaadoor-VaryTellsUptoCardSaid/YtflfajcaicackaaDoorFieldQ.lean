/- The program's functions on fields: Token, Value, Small. -/
import Derived.Test.YtflfajcaicackaaDoorFieldP
import Derived.Test.YtflfajcaicackaaDoorRow8
namespace Go.Proofs.YtflfajcaicackaaDoor
open Go.RowKit

theorem Token_c (s : ByteArray) (w : World) (hs : s.size ≤ 1000000000000) : Calls Tryd.prog 22 #[.string s] w fun e w' => e = .returned (.bool (tokenOf (L s))) ∧ w = w' := by
  cases h0 : s.toList.isEmpty
  · have HT : Hid (tokenOf (L s) = (L s).all tokB) := by show _ = _; rw [toList_L] at h0; simp [tokenOf, h0]
    go_enter Tryd.func22, Tryd.ntmps22
    go_wp2_with (go_at_call 52; refine (all_tok _ _ hs).mono ?_; rintro e w1 ⟨rfl, rfl⟩)
    go_ret
    exact ⟨ret_bool HT.out.symm, rfl⟩
  · have HT : Hid (tokenOf (L s) = false) := by show _ = _; rw [toList_L] at h0; simp [tokenOf, h0]
    go_enter Tryd.func22, Tryd.ntmps22
    go_wp2_with (go_at_call 52; refine (all_tok _ _ hs).mono ?_; rintro e w1 ⟨rfl, rfl⟩)
    go_ret
    exact ⟨ret_bool HT.out.symm, rfl⟩

/-- A text of which the first k letters have been made small. -/
def mid (l : List UInt8) (k : Nat) : List UInt8 := smallOf (l.take k) ++ l.drop k
theorem mid_length (l : List UInt8) (k : Nat) : (mid l k).length = l.length := by
  unfold mid smallOf; simp; omega
theorem mid_at (s : ByteArray) (k : Nat) (h : k < s.size) : (mid (L s) k)[k]? = some s[k] := by
  unfold mid
  have h1 : (smallOf ((L s).take k)).length = k := by rw [smallOf_length, List.length_take, L_length]; omega
  rw [List.getElem?_append_right (by omega), h1, Nat.sub_self, List.getElem?_drop, Nat.add_zero, L_get? s k h]
theorem mid_next (s : ByteArray) (k : Nat) (h : k < s.size) : mid (L s) (k + 1) = (mid (L s) k).set k (lowB s[k]) := by
  have h1 : (smallOf ((L s).take k)).length = k := by rw [smallOf_length, List.length_take, L_length]; omega
  unfold mid
  rw [L_take s k h, L_drop s k h, List.set_append_right _ _ (by omega), h1, Nat.sub_self, List.set_cons_zero]
  simp [smallOf]
theorem mid_same (s : ByteArray) (k : Nat) (h : k < s.size) (hg : greatI s[k].toNat = false) : mid (L s) (k + 1) = mid (L s) k := by
  have h1 : (smallOf ((L s).take k)).length = k := by rw [smallOf_length, List.length_take, L_length]; omega
  unfold mid
  rw [L_take s k h, L_drop s k h]
  simp [smallOf, lowB, hg]

set_option maxRecDepth 100000 in
set_option maxHeartbeats 1000000 in
theorem Small_c (s : ByteArray) (w : World) (hs : s.size ≤ 1000000000000) : Calls Tryd.prog 20 #[.string s] w fun e w' => ∃ r, e = .returned (.string r) ∧ r.size ≤ s.size ∧ Hid (L r = smallOf (L s)) ∧ Below w.heap.size w w' := by
  obtain ⟨cap, w1, hconv, hrow, hbel⟩ := conv_bytes w 9 23 5 s Tryd.underlying9 Tryd.underlying23 Tryd.underlying5
  go_enter Tryd.func20, Tryd.ntmps20
  go_wp2_with fail
  clear hconv
  have HR := Lib.hid hrow; clear hrow
  go_loopw [10] (fun i wr => ∃ k : Nat, k ≤ s.size ∧ i = .int .i64 k ∧ Hid (Row8 wr w.heap.size (mid (L s) k)) ∧ Below w.heap.size w wr) (fun i _ => s.size - (intOf i).toNat)
  case atStart => exact ⟨0, Nat.zero_le _, rfl, HR.out, hbel⟩
  case round =>
    obtain ⟨k, hk, rfl, hR, hb⟩ := hrel
    by_cases hlt : k < s.size
    · have hcell := (hR.out.2 k _ (mid_at s k hlt)).1
      have hfroz := (hR.out.2 k _ (mid_at s k hlt)).2
      cases hg : greatI s[k].toNat
      · have HM := Lib.hid (mid_same s k hlt hg)
        go_wp2_with (go_at_call 51; refine (great_c _ _).mono ?_; rintro e w1 ⟨rfl, rfl⟩)
        go_roundw
        case rel => exact ⟨k + 1, by omega, by go_num, by show Row8 _ _ _; rw [HM.out]; exact hR.out, hb⟩
        case measure => simp [intOf]; omega
      · have HM := Lib.hid (mid_next s k hlt)
        have hg2 : 65 ≤ ((s[k].toNat : Nat) : Int) ∧ ((s[k].toNat : Nat) : Int) ≤ 90 := by simpa [greatI] using hg
        obtain ⟨hg3, hg4⟩ := hg2
        have HV : Hid (((lowB s[k]).toNat : Int) = ((s[k].toNat : Nat) : Int) + 97 - 65) := by show _ = _; rw [lowB_toNat, lowI, if_pos hg]; omega
        go_wp2_with (go_at_call 51; refine (great_c _ _).mono ?_; rintro e w1 ⟨rfl, rfl⟩)
        go_roundw
        case rel => exact ⟨k + 1, by omega, by go_num, by
          show Row8 _ _ _
          rw [HM.out, ← HV.out]
          exact hR.out.set k _ (by rw [mid_length, L_length]; exact hlt), hb.setCell (p := ⟨w.heap.size, k, none⟩) (Nat.le_refl _) _⟩
        case measure => simp [intOf]; omega
    · have hbk := hR.out.back 23 9 5 cap s.size (by rw [mid_length, L_length]) Tryd.underlying23 Tryd.underlying5 Tryd.underlying9
      have HK : Hid (mid (L s) k = smallOf (L s)) := by
        show _ = _
        unfold mid
        rw [List.take_of_length_le (by rw [L_length]; omega), List.drop_eq_nil_of_le (by rw [L_length]; omega), List.append_nil]
      go_wp2_with fail
      go_ret
      exact ⟨_, rfl, by rw [← L_length, L_mk, mid_length, L_length]; exact Nat.le_refl _, by show _ = _; rw [L_mk, HK.out], hb⟩
end Go.Proofs.YtflfajcaicackaaDoor
