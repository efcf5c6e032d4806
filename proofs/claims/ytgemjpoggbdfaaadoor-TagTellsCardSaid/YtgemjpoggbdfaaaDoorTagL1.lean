/- The law TagTells: the walk. -/
import Derived.Test.YtgemjpoggbdfaaaDoorTagR5
namespace Go.Proofs.YtgemjpoggbdfaaaDoor
open Go.RowKit

theorem TagTells_great (s v m : ByteArray) (c : Int) (w : World) (h : 2000 < s.size ∨ 2000 < v.size ∨ 2000 < m.size) :
    Calls Tryd.prog 4 #[.string s, .int .u8 c, .string v, .string m] w fun e w' => e = .returned (.bool true) ∧ Below w.heap.size w w' := by
  by_cases h1 : 2000 < s.size
  · go_enter Tryd.func4, Tryd.ntmps4
    go_wp2_with fail
    go_ret
    exact ⟨rfl, Below.refl _ _⟩
  · by_cases h2 : 2000 < v.size
    · go_enter Tryd.func4, Tryd.ntmps4
      go_wp2_with fail
      go_ret
      exact ⟨rfl, Below.refl _ _⟩
    · have h3 : 2000 < m.size := by omega
      clear h
      go_enter Tryd.func4, Tryd.ntmps4
      go_wp2_with fail
      go_ret
      exact ⟨rfl, Below.refl _ _⟩

theorem str_eq_of {a b : ByteArray} (h : L a = L b) : (a.toList == b.toList) = true := by rw [toList_L, toList_L, h]; simp

set_option maxRecDepth 100000 in
set_option maxHeartbeats 4000000 in
theorem TagTells_small (s v m : ByteArray) (c : Int) (w : World) (h0 : 0 ≤ c) (h1 : s.size ≤ 2000) (h2 : v.size ≤ 2000) (h3 : m.size ≤ 2000) :
    Calls Tryd.prog 4 #[.string s, .int .u8 c, .string v, .string m] w fun e w' => e = .returned (.bool true) ∧ Below w.heap.size w w' := by
  go_enter Tryd.func4, Tryd.ntmps4
  go_wp2_with fail
  refine (Mark_c s c _ h0 (by omega)).mono ?_
  rintro e w1 ⟨x, rfl, hxz, hx, hb1⟩
  go_wp2_with fail
  refine (RMark_c s c _ h0 (by omega)).mono ?_
  rintro e w2 ⟨y, rfl, hyz, hy, rfl⟩
  go_wp2_with fail
  refine (Core_c m _ (by omega)).mono ?_
  rintro e w3 ⟨a, rfl, haz, ha, hb3⟩
  go_wp2_with fail
  refine (RCore_c m _ (by omega)).mono ?_
  rintro e w4 ⟨b, rfl, hbz, hb, rfl⟩
  have e1 := str_eq_of (hx.out.trans hy.out.symm)
  have e2 := str_eq_of (ha.out.trans hb.out.symm)
  have hb4 := Lib.hid (hb1.trans (hb3.mono hb1.size))
  clear hb1 hb3
  go_wp2_with fail
  refine (Check_c s _ (by omega)).mono ?_
  rintro e w5 ⟨rfl, hb5⟩
  go_wp2_with fail
  refine (RCheck_c s _ (by omega)).mono ?_
  rintro e w6 ⟨rfl, rfl⟩
  have hb5 := Lib.hid (hb4.out.trans (hb5.mono hb4.out.size))
  clear hb4
  go_wp2_with fail
  refine (Match_c v m _ (by omega) (by omega)).mono ?_
  rintro e w7 ⟨rfl, hb7⟩
  go_wp2_with fail
  refine (RMatch_c v m _ (by omega) (by omega)).mono ?_
  rintro e w8 ⟨rfl, hb8⟩
  have hb8 := Lib.hid ((hb5.out.trans (hb7.mono hb5.out.size)).trans (hb8.mono (hb5.out.trans (hb7.mono hb5.out.size)).size))
  clear hb7 hb5
  go_wp2_with fail
  refine (Match_c v x _ (by omega) (by omega)).mono ?_
  rintro e w9 ⟨rfl, hb9⟩
  go_wp2_with fail
  refine (RMatch_c v x _ (by omega) (by omega)).mono ?_
  rintro e w10 ⟨rfl, hb10⟩
  have hb10 := Lib.hid ((hb8.out.trans (hb9.mono hb8.out.size)).trans (hb10.mono (hb8.out.trans (hb9.mono hb8.out.size)).size))
  clear hb9 hb8
  go_wp2_with fail
  go_ret
  exact ⟨rfl, hb10.out⟩

theorem TagTells_walk (s v m : ByteArray) (c : Int) (w : World) (h0 : 0 ≤ c) :
    Calls Tryd.prog 4 #[.string s, .int .u8 c, .string v, .string m] w fun e w' => e = .returned (.bool true) ∧ Below w.heap.size w w' := by
  by_cases h : 2000 < s.size ∨ 2000 < v.size ∨ 2000 < m.size
  · exact TagTells_great s v m c w h
  · exact TagTells_small s v m c w h0 (by omega) (by omega) (by omega)
end Go.Proofs.YtgemjpoggbdfaaaDoor
