/- The laws TagNames, TagApart, TagLists: the walks. -/
import Derived.Test.YtgemjpoggbdfaaaDoorTagM
import Derived.Test.YtgemjpoggbdfaaaDoorTagPl
namespace Go.Proofs.YtgemjpoggbdfaaaDoor
open Go.RowKit

theorem below_next {w a b : World} (h : Below w.heap.size w a) (k : Below a.heap.size a b) : Below w.heap.size w b := h.trans (k.mono h.size)
theorem Match_is (v m : ByteArray) (w : World) {B : Bool} (h : matchOf (L v) (L m) = B) (hv : v.size ≤ 1000000000000) (hm : m.size ≤ 1000000000000) :
    Calls Tryd.prog 12 #[.string v, .string m] w fun e w' => e = .returned (.bool B) ∧ Below w.heap.size w w' :=
  (Match_c v m w hv hm).mono fun e w' ⟨he, hb⟩ => ⟨by rw [he, h], hb⟩
theorem Mark_is (s : ByteArray) (c : Int) (w : World) (m : ByteArray) {E : Int} (hE : markE (L s) c = E) (h : L m = markS (L s) c) (h0 : 0 ≤ c) (hs : s.size ≤ 1000000000000) :
    Calls Tryd.prog 13 #[.string s, .int .u8 c] w fun e w' => e = .returned (.tuple #[.string m, .int .i64 E]) ∧ Below w.heap.size w w' :=
  (Mark_c s c w h0 hs).mono fun e w' ⟨r, he, _, hr, hb⟩ => ⟨by rw [he, hE, L_inj (hr.out.trans h.symm)], hb⟩
theorem Core_is (s : ByteArray) (w : World) (c : ByteArray) {B : Bool} (hB : coreB (L s) = B) (h : L c = coreC (L s)) (hs : s.size ≤ 1000000000000) :
    Calls Tryd.prog 14 #[.string s] w fun e w' => e = .returned (.tuple #[.string c, .bool B]) ∧ Below w.heap.size w w' :=
  (Core_c s w hs).mono fun e w' ⟨r, he, _, hr, hb⟩ => ⟨by rw [he, hB, L_inj (hr.out.trans h.symm)], hb⟩

set_option maxRecDepth 100000 in
set_option maxHeartbeats 4000000 in
theorem alive_c (w : World) : Calls Tryd.prog 15 #[] w fun e w' => e = .returned (.bool true) ∧ Below w.heap.size w w' := by
  have hB := Lib.hid (Below.refl w.heap.size w)
  go_enter Tryd.func15, Tryd.ntmps15
  go_wp2_with fail
  refine (Mark_is _ _ _ ⟨#[34, 97, 34]⟩ (E := 0) (by kernel_rfl) (by kernel_rfl) (by decide) (by decide)).mono ?_
  rintro e w1 ⟨rfl, hb⟩
  have hB := Lib.hid (below_next hB.out hb); clear hb
  go_wp2_with fail
  refine (Mark_is _ _ _ ⟨#[87, 47, 34, 97, 45, 103, 122, 105, 112, 34]⟩ (E := 0) (by kernel_rfl) (by kernel_rfl) (by decide) (by decide)).mono ?_
  rintro e w1 ⟨rfl, hb⟩
  have hB := Lib.hid (below_next hB.out hb); clear hb
  go_wp2_with fail
  refine (Match_is _ _ _ (B := true) (by kernel_rfl) (by decide) (by decide)).mono ?_
  rintro e w1 ⟨rfl, hb⟩
  have hB := Lib.hid (below_next hB.out hb); clear hb
  go_wp2_with fail
  refine (Match_is _ _ _ (B := false) (by kernel_rfl) (by decide) (by decide)).mono ?_
  rintro e w1 ⟨rfl, hb⟩
  have hB := Lib.hid (below_next hB.out hb); clear hb
  go_wp2_with fail
  go_ret
  exact ⟨rfl, hB.out⟩

set_option maxRecDepth 100000 in
set_option maxHeartbeats 4000000 in
theorem TagNames_walk (w : World) : Calls Tryd.prog 3 #[] w fun e w' => e = .returned (.bool true) ∧ Below w.heap.size w w' := by
  have hB := Lib.hid (Below.refl w.heap.size w)
  go_enter Tryd.func3, Tryd.ntmps3
  go_wp2_with fail
  refine (Match_is _ _ _ (B := true) (by kernel_rfl) (by decide) (by decide)).mono ?_
  rintro e w1 ⟨rfl, hb⟩
  have hB := Lib.hid (below_next hB.out hb); clear hb
  go_wp2_with fail
  refine (Match_is _ _ _ (B := true) (by kernel_rfl) (by decide) (by decide)).mono ?_
  rintro e w1 ⟨rfl, hb⟩
  have hB := Lib.hid (below_next hB.out hb); clear hb
  go_wp2_with fail
  refine (Match_is _ _ _ (B := true) (by kernel_rfl) (by decide) (by decide)).mono ?_
  rintro e w1 ⟨rfl, hb⟩
  have hB := Lib.hid (below_next hB.out hb); clear hb
  go_wp2_with fail
  refine (Match_is _ _ _ (B := true) (by kernel_rfl) (by decide) (by decide)).mono ?_
  rintro e w1 ⟨rfl, hb⟩
  have hB := Lib.hid (below_next hB.out hb); clear hb
  go_wp2_with fail
  refine (Match_is _ _ _ (B := false) (by kernel_rfl) (by decide) (by decide)).mono ?_
  rintro e w1 ⟨rfl, hb⟩
  have hB := Lib.hid (below_next hB.out hb); clear hb
  go_wp2_with fail
  refine (Match_is _ _ _ (B := false) (by kernel_rfl) (by decide) (by decide)).mono ?_
  rintro e w1 ⟨rfl, hb⟩
  have hB := Lib.hid (below_next hB.out hb); clear hb
  go_wp2_with fail
  refine (Match_is _ _ _ (B := false) (by kernel_rfl) (by decide) (by decide)).mono ?_
  rintro e w1 ⟨rfl, hb⟩
  have hB := Lib.hid (below_next hB.out hb); clear hb
  go_wp2_with fail
  refine (Match_is _ _ _ (B := false) (by kernel_rfl) (by decide) (by decide)).mono ?_
  rintro e w1 ⟨rfl, hb⟩
  have hB := Lib.hid (below_next hB.out hb); clear hb
  go_wp2_with fail
  refine (Match_is _ _ _ (B := false) (by kernel_rfl) (by decide) (by decide)).mono ?_
  rintro e w1 ⟨rfl, hb⟩
  have hB := Lib.hid (below_next hB.out hb); clear hb
  go_wp2_with fail
  refine (Match_is _ _ _ (B := false) (by kernel_rfl) (by decide) (by decide)).mono ?_
  rintro e w1 ⟨rfl, hb⟩
  have hB := Lib.hid (below_next hB.out hb); clear hb
  go_wp2_with fail
  refine (Match_is _ _ _ (B := false) (by kernel_rfl) (by decide) (by decide)).mono ?_
  rintro e w1 ⟨rfl, hb⟩
  have hB := Lib.hid (below_next hB.out hb); clear hb
  go_wp2_with fail
  refine (Match_is _ _ _ (B := false) (by kernel_rfl) (by decide) (by decide)).mono ?_
  rintro e w1 ⟨rfl, hb⟩
  have hB := Lib.hid (below_next hB.out hb); clear hb
  go_wp2_with fail
  refine (Mark_is _ _ _ ⟨#[]⟩ (E := 3) (by kernel_rfl) (by kernel_rfl) (by decide) (by decide)).mono ?_
  rintro e w1 ⟨rfl, hb⟩
  have hB := Lib.hid (below_next hB.out hb); clear hb
  go_wp2_with fail
  refine (Mark_is _ _ _ ⟨#[]⟩ (E := 3) (by kernel_rfl) (by kernel_rfl) (by decide) (by decide)).mono ?_
  rintro e w1 ⟨rfl, hb⟩
  have hB := Lib.hid (below_next hB.out hb); clear hb
  go_wp2_with fail
  refine (Mark_is _ _ _ ⟨#[]⟩ (E := 2) (by kernel_rfl) (by kernel_rfl) (by decide) (by decide)).mono ?_
  rintro e w1 ⟨rfl, hb⟩
  have hB := Lib.hid (below_next hB.out hb); clear hb
  go_wp2_with fail
  refine (Core_is _ _ ⟨#[]⟩ (B := false) (by kernel_rfl) (by kernel_rfl) (by decide)).mono ?_
  rintro e w1 ⟨rfl, hb⟩
  have hB := Lib.hid (below_next hB.out hb); clear hb
  go_wp2_with fail
  refine (Core_is _ _ ⟨#[]⟩ (B := true) (by kernel_rfl) (by kernel_rfl) (by decide)).mono ?_
  rintro e w1 ⟨rfl, hb⟩
  have hB := Lib.hid (below_next hB.out hb); clear hb
  go_wp2_with fail
  refine (alive_c _).mono ?_
  rintro e w1 ⟨rfl, hb⟩
  have hB := Lib.hid (below_next hB.out hb); clear hb
  go_wp2_with fail
  go_ret
  exact ⟨rfl, hB.out⟩
end Go.Proofs.YtgemjpoggbdfaaaDoor
