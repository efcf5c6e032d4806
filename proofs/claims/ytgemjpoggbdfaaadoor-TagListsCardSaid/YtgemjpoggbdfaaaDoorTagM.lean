/- The program's Match. -/
import Derived.Test.YtgemjpoggbdfaaaDoorTagC
namespace Go.Proofs.YtgemjpoggbdfaaaDoor
open Go.RowKit

theorem coresN_false : ∀ (n : Nat) (acc : List (List UInt8)) (l : List UInt8), (coresN n acc l).2 = false → (coresN n acc l).1 = []
  | 0, _, _, _ => rfl
  | n + 1, acc, l, h => by
    unfold coresN at h ⊢
    split at h
    · rename_i hl
      simp only [decide_eq_false_iff_not, Nat.not_lt, Nat.le_zero_eq, List.length_eq_zero_iff] at h
      exact h
    · rename_i x r hl
      split at h
      · rename_i hx
        rw [if_pos hx]
        exact coresN_false n _ _ h
      · rename_i hx
        rw [if_neg hx]
theorem match_no (v m : List UInt8) (h : coreB m = false) : matchOf v m = false := by
  unfold coreB at h
  unfold matchOf
  cases hc : coreOf m with
  | none => rfl
  | some c => simp [hc] at h
theorem match_star (v m : List UInt8) (h : coreB m = true) (h2 : trimB v = [42]) : matchOf v m = true := by
  unfold coreB at h
  unfold matchOf
  cases hc : coreOf m with
  | none => simp [hc] at h
  | some c => simp [h2]
theorem match_list (v m : List UInt8) (h : coreB m = true) (h2 : ¬ trimB v = [42]) : matchOf v m = ((coresOf v).2 && (coresOf v).1.contains (coreC m)) := by
  unfold coreB at h
  unfold matchOf coreC
  cases hc : coreOf m with
  | none => simp [hc] at h
  | some c => simp [h2]

/-- The cell of a row of strings. -/
theorem row_at {w : World} {base : Nat} {e : TypeId} {A : Option Addr} {cap : Nat} {ss : List ByteArray} (h : w.ownsRow base e 1 (.slice A ss.length cap) ss.length (ss.map Value.string)) (k : Nat) (hk : k < ss.length) :
    ∃ g, A = some ⟨g, 0, none⟩ ∧ g < w.heap.size ∧ ∀ (j : Nat) (hj : j < ss.length), w.cell? ⟨g, j, none⟩ = some (.string ss[j]) := by
  obtain ⟨g, hA, hlt⟩ : ∃ g, A = some ⟨g, 0, none⟩ ∧ g < w.heap.size := by
    rcases h.2 with ⟨h1, h2⟩ | ⟨g, cap', cur, h1, h2, h3, h4⟩
    · omega
    · exact ⟨g, by injection h1, lt_of_block h3⟩
  subst hA
  exact ⟨g, rfl, hlt, fun j hj => by rw [h.cellAt j (by omega)]; simp [hj]⟩

set_option maxRecDepth 100000 in
set_option maxHeartbeats 2000000 in
theorem Match_c (v m : ByteArray) (w : World) (hv : v.size ≤ 1000000000000) (hm : m.size ≤ 1000000000000) :
    Calls Tryd.prog 12 #[.string v, .string m] w fun e w' => e = .returned (.bool (matchOf (L v) (L m))) ∧ Below w.heap.size w w' := by
  go_enter Tryd.func12, Tryd.ntmps12
  go_wp2_with fail
  refine (Core_c m _ hm).mono ?_
  rintro e w1 ⟨c, rfl, hz, hc, hb1⟩
  by_cases hB : coreB (L m) = true
  · go_wp2_with fail
    refine (Trim_c v _ (by omega)).mono ?_
    rintro e w2 ⟨t, rfl, hzt, ht, hb2'⟩
    have hb2 := hb1.trans (hb2'.mono hb1.size); clear hb2' hb1
    cases hs : (t.toList == [42])
    · have HM := Lib.hid (match_list (L v) (L m) hB (by rw [← ht.out, ← toList_L]; simpa using hs))
      go_wp2_with fail
      refine (cores_c v _ hv).mono ?_
      rintro e w3 ⟨a, ss, rfl, hss, hrow, hn, hb3'⟩
      have hb3 := hb2.trans (hb3'.mono hb2.size); clear hb3' hb2
      obtain ⟨A, cap, rfl⟩ := row_form hrow
      have HR := Lib.hid hrow; clear hrow
      cases hcb : (coresOf (L v)).2
      · have h0 : ss = [] := by
          have := coresN_false _ _ _ hcb
          rw [show (coresN ((L v).length + 1) [] (L v)) = coresOf (L v) from rfl, hss] at this
          simpa using this
        have HF : Hid (matchOf (L v) (L m) = false) := by show _ = _; rw [HM.out, hcb]; rfl
        clear HM hcb hss
        subst h0
        go_wp2_with fail
        go_loop [27] (fun i => i = .int .i64 0) (fun _ => 0)
        case atStart => rfl
        case round =>
          subst hrel
          go_wp2_with fail
          go_ret
          exact ⟨ret_bool HF.out.symm, hb3⟩
      · have HF : Hid (matchOf (L v) (L m) = (ss.map L).contains (coreC (L m))) := by show _ = _; rw [HM.out, hcb, hss]; rfl
        clear HM hcb hss
        go_wp2_with fail
        go_loop [27] (fun i => ∃ k : Nat, k ≤ ss.length ∧ i = .int .i64 k ∧ Hid ((ss.map L).contains (coreC (L m)) = ((ss.drop k).map L).contains (coreC (L m)))) (fun i => ss.length - (intOf i).toNat)
        case atStart => exact ⟨0, Nat.zero_le _, rfl, rfl⟩
        case round =>
          obtain ⟨k, hk, rfl, hI⟩ := hrel
          by_cases hlt : k < ss.length
          · obtain ⟨g, rfl, hg, hcells⟩ := row_at HR.out k hlt
            have hck := hcells k hlt
            have hd := Lib.hid (List.drop_eq_getElem_cons hlt)
            clear hcells
            cases hq : (ss[k].toList == c.toList)
            · have HQ : Hid (¬ L ss[k] = coreC (L m)) := by
                show ¬ _
                rw [← hc.out, ← toList_L, ← toList_L]
                simpa using hq
              go_wp2_with fail
              go_round
              case rel => exact ⟨k + 1, by omega, by go_num, by
                show _ = _
                rw [hI.out, hd.out, List.map_cons, List.contains_cons]
                have : (coreC (L m) == L ss[k]) = false := by simpa using fun h => HQ.out h.symm
                rw [this, Bool.false_or]⟩
              case measure => simp [intOf]; omega
            · have HQ : Hid (L ss[k] = coreC (L m)) := by
                show _ = _
                rw [← hc.out, ← toList_L, ← toList_L]
                simpa using hq
              go_wp2_with fail
              go_ret
              refine ⟨ret_bool ?_, hb3⟩
              rw [HF.out, hI.out, hd.out, List.map_cons, HQ.out, List.contains_cons]
              simp
          · go_wp2_with fail
            go_ret
            refine ⟨ret_bool ?_, hb3⟩
            rw [HF.out, hI.out, List.drop_eq_nil_of_le (by omega)]
            rfl
    · have HM := Lib.hid (match_star (L v) (L m) hB (by rw [← ht.out, ← toList_L]; simpa using hs))
      go_wp2_with fail
      go_ret
      exact ⟨ret_bool HM.out.symm, hb2⟩
  · have hB' : coreB (L m) = false := by simpa using hB
    have HM := Lib.hid (match_no (L v) (L m) hB')
    clear hB
    go_wp2_with fail
    go_ret
    exact ⟨ret_bool HM.out.symm, hb1⟩
end Go.Proofs.YtgemjpoggbdfaaaDoor
