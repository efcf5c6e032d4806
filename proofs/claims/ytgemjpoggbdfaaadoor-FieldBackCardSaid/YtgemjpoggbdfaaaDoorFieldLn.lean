/- The program's Line. -/
import Derived.Test.YtgemjpoggbdfaaaDoorFieldT
import Derived.Test.YtgemjpoggbdfaaaDoorFieldPl
import Derived.Test.YtgemjpoggbdfaaaDoorFieldR2
namespace Go.Proofs.YtgemjpoggbdfaaaDoor
open Go.RowKit

theorem Line_c (n v : ByteArray) (w : World) (hn : n.size ≤ 1000000000000) : Calls Tryd.prog 24 #[.agg #[.string n, .string v]] w fun e w' => ∃ l : ByteArray, e = .returned (.tuple #[.string l, .int .i64 (fieldE (L n) (L v))]) ∧ Hid (L l = lineOf (L n) (L v)) ∧ Below w.heap.size w w' := by
  have HB := Lib.hid ((Two.new w 37 (.string n) (.string v)))
  cases h : fieldOK (L n) (L v)
  · have HE' : fieldE (L n) (L v) = 3 := by unfold fieldE; rw [h]; rfl
    have HE := Lib.hid HE'
    have HL := Lib.hid (show lineOf (L n) (L v) = [] from by unfold lineOf; rw [h]; rfl)
    go_enter Tryd.func24, Tryd.ntmps24
    go_wp2_with (go_at_call 32; refine (Check_k n v _ hn HE.out).mono ?_; rintro e w1 ⟨rfl, hb⟩)
    go_ret2
    exact ⟨⟨#[]⟩, by rw [HE.out]; rfl, by show _ = _; rw [HL.out]; rfl, below_box0 hb⟩
  · have HE' : fieldE (L n) (L v) = 0 := by unfold fieldE; rw [h]; rfl
    have HE := Lib.hid HE'
    obtain ⟨hn4, hv4, _, _, _⟩ := fieldOK_parts h
    rw [L_length] at hn4 hv4
    have HL := Lib.hid (show lineOf (L n) (L v) = L n ++ [58, 32] ++ L v from by unfold lineOf; rw [h]; rfl)
    go_enter Tryd.func24, Tryd.ntmps24
    go_wp2_with fail
    refine (Check_k n v _ hn HE.out).mono ?_
    rintro e w1 ⟨rfl, hb⟩
    have HB1 := HB.out.below hb
    have hx0 := HB1.c0; have hx1 := HB1.c1; have hf0 := HB1.f 0; have hf1 := HB1.f 1
    have hb := Lib.hid (below_box0 hb); clear HB1 HB
    go_wp2_with fail
    go_ret2
    exact ⟨_, by rw [HE.out]; rfl, by show _ = _; rw [HL.out, L_add, L_add]; rfl, hb.out⟩
end Go.Proofs.YtgemjpoggbdfaaaDoor
