/- The program's Parse and Line. -/
import Derived.Test.YtgemjpoggbdfaaaDoorFieldK
import Derived.Test.YtgemjpoggbdfaaaDoorFieldU
namespace Go.Proofs.YtgemjpoggbdfaaaDoor
open Go.RowKit

theorem Cut_c (s : ByteArray) (m : Int) (w : World) (hs : s.size < 4294967281) (hm : w.cell? ⟨0, 0, none⟩ = some (.int .i64 m)) :
    Calls Tryd.prog 50 #[.string s, .string ⟨#[58]⟩] w fun e w' => ∃ a b, e = .returned (.tuple #[.string a, .string b, .bool (cutC (L s)).2.2]) ∧ a.size ≤ s.size ∧ b.size ≤ s.size ∧ Hid (L a = (cutC (L s)).1) ∧ Hid (L b = (cutC (L s)).2.1) ∧ ∃ n, w' = w.drewN n :=
  (Tryd.strings_Cut s ⟨#[58]⟩ m w hs hm).mono fun _ _ ⟨he, hw⟩ => by
    have hc : Lib.cut s.data.toList [58] = cutC (L s) := cut_colon _
    rw [show ((⟨#[58]⟩ : ByteArray).data.toList) = [58] from rfl, hc] at he
    refine ⟨_, _, he, ?_, ?_, L_mk _, L_mk _, hw⟩
    · rw [← L_length, L_mk, ← hc]
      unfold Lib.cut
      split <;> simp <;> omega
    · rw [← L_length, L_mk, ← hc]
      unfold Lib.cut
      split <;> simp <;> omega

/-- Check, of a field whose outcome is known. -/
theorem Check_k (n v : ByteArray) (w : World) (hn : n.size ≤ 1000000000000) {E : Int} (h : fieldE (L n) (L v) = E) : Calls Tryd.prog 32 #[.agg #[.string n, .string v]] w fun e w' => e = .returned (.int .i64 E) ∧ Below w.heap.size w w' :=
  (Check_c' n v w hn).mono fun _ _ ⟨he, hb⟩ => ⟨by rw [he, h], hb⟩

set_option maxRecDepth 100000 in
set_option maxHeartbeats 8000000 in
theorem Parse_c (s : ByteArray) (m : Int) (w : World) (hs : s.size < 4294967281) (hm : w.cell? ⟨0, 0, none⟩ = some (.int .i64 m)) : Calls Tryd.prog 22 #[.string s] w (ParsePost s w) := by
  have HL := Lib.hid (L_length s)
  have hb0 := Lib.hid ((Below.refl w.heap.size w).alloc (Nat.le_refl _) (.cells #[.string ⟨#[]⟩, .string ⟨#[]⟩] 37))
  go_enter Tryd.func22, Tryd.ntmps22
  go_wp2_with fail
  refine (Cut_c s m _ hs ((hb0.out.cell (World.block_lt_of_cell? _ _ hm)).trans hm)).mono ?_
  rintro e w1 ⟨a, b, rfl, haz, hbz, ha, hb, q, rfl⟩
  have hb1 := Lib.hid (below_dr hb0.out q)
  have HT := Lib.hid ((Two.new w 37 (.string ⟨#[]⟩) (.string ⟨#[]⟩)).drewN q)
  clear hb0
  go_wp2_with fail
  refine (Small_c a _ (by omega)).mono ?_
  rintro e w2 ⟨n, rfl, hnz, hn, hb2⟩
  have HT2 := Lib.hid (HT.out.below hb2)
  have hb2 := Lib.hid (below_next hb1.out hb2); clear HT hb1
  go_wp2_with fail
  refine (Trim_c b _ (by omega)).mono ?_
  rintro e w3 ⟨v, rfl, hvz, hv, hb3⟩
  have HT3 := HT2.out.below hb3
  have hb3 := Lib.hid (below_next hb2.out hb3); clear HT2 hb2
  have hx0 := HT3.c0; have hx1 := HT3.c1; have hf0 := HT3.f 0; have hf1 := HT3.f 1; have hlt3 := HT3.lt
  have HT3 := Lib.hid HT3
  have HF3 := Lib.hid (Two.new w3 37 (.string n) (.string v))
  cases his : (cutC (L s)).2.2
  · have HF : Hid (parseOK (L s) = false) := by show _ = _; unfold parseOK; rw [his]; simp
    clear his
    go_wp2_with fail
    all_goals refine bodyPost_ret (v := .tuple #[.agg #[.string ⟨#[]⟩, .string ⟨#[]⟩], .int .i64 3]) (by simp [results, go_sem, *]) rfl ?_
    all_goals refine ParsePost.no HF.out ?_
    all_goals exact (below_set2 hb3.out _ _).alloc (below_set2 hb3.out _ _).size _
  · by_cases h4 : s.size ≤ 4096
    · have h4' : decide ((4096 : Int) < (s.size : Int)) = false := by simp; omega
      have HP : Hid (parseOK (L s) = fieldOK (L n) (L v)) := by
        show _ = _
        unfold parseOK
        rw [his, HL.out, hn.out, hv.out, ha.out, hb.out]
        simp [h4]
      cases hf : fieldOK (L n) (L v)
      · have HF := Lib.hid (HP.out.trans hf)
        have HE : fieldE (L n) (L v) = 3 := by unfold fieldE; rw [hf]; rfl
        go_wp2_with fail
        refine (Check_k n v _ (by omega) HE).mono ?_
        rintro e w4 ⟨rfl, hb4⟩
        have HT4 := (HT3.out.alloc _).below hb4
        have hx0 := HT4.c0; have hx1 := HT4.c1; have hf0 := HT4.f 0; have hf1 := HT4.f 1
        have HB4 := Lib.hid (below_next (hb3.out.alloc hb3.out.size _) hb4)
        clear hb4 HT4
        go_wp2_with fail
        all_goals refine bodyPost_ret (v := .tuple #[.agg #[.string ⟨#[]⟩, .string ⟨#[]⟩], .int .i64 3]) (by simp [results, go_sem, *]) rfl ?_
        all_goals refine ParsePost.no HF.out ?_
        all_goals exact (HB4.out.setCell (Nat.le_refl _) _).setCell (Nat.le_refl _) _
      · have HF := Lib.hid (HP.out.trans hf)
        have HE : fieldE (L n) (L v) = 0 := by unfold fieldE; rw [hf]; rfl
        go_wp2_with fail
        refine (Check_k n v _ (by omega) HE).mono ?_
        rintro e w4 ⟨rfl, hb4⟩
        have HT4 := (HT3.out.alloc _).below hb4
        have hx0 := HT4.c0; have hx1 := HT4.c1; have hf0 := HT4.f 0; have hf1 := HT4.f 1
        have HF4 := HF3.out.below hb4
        have hy0 := HF4.c0; have hy1 := HF4.c1
        have HB4 := Lib.hid (below_next (hb3.out.alloc hb3.out.size _) hb4)
        clear hb4 HT4 HF4
        go_wp2_with fail
        refine bodyPost_ret (v := .tuple #[.agg #[.string n, .string v], .int .i64 0]) (by simp [results, go_sem, *]) rfl ?_
        refine ⟨n, v, by unfold parseE; rw [HF.out]; rfl, by omega, by omega, ?_, ?_, (HB4.out.setCell (Nat.le_refl _) _).setCell (Nat.le_refl _) _⟩
        · show _ = _; unfold parseN; rw [HF.out, hn.out, ha.out]; rfl
        · show _ = _; unfold parseV; rw [HF.out, hv.out, hb.out]; rfl
    · have HF : Hid (parseOK (L s) = false) := by show _ = _; unfold parseOK; rw [HL.out]; simp [h4]
      go_wp2_with fail
      all_goals refine bodyPost_ret (v := .tuple #[.agg #[.string ⟨#[]⟩, .string ⟨#[]⟩], .int .i64 3]) (by simp [results, go_sem, *]) rfl ?_
      all_goals refine ParsePost.no HF.out ?_
      all_goals exact (below_set2 hb3.out _ _).alloc (below_set2 hb3.out _ _).size _
end Go.Proofs.YtgemjpoggbdfaaaDoor
