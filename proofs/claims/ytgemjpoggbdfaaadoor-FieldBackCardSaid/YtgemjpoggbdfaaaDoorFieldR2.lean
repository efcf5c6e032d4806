/- The references' Small, May, Check. -/
import Derived.Test.YtgemjpoggbdfaaaDoorFieldR

namespace Go.Proofs.YtgemjpoggbdfaaaDoor
open Go.RowKit

theorem L_add (a b : ByteArray) : L (a ++ b) = L a ++ L b := by
  simp [L]
theorem L_one (x : UInt8) : L ⟨#[x]⟩ = [x] := rfl
/-- A byte made a text. -/
theorem conv_one {P : Program} (src dst e : TypeId) (x : UInt8) (w : World) (hs : P.underlying src = some (.slice e)) (he : P.underlying e = some (.int .u8)) (hd : P.underlying dst = some .string) :
    (convert src dst (.slice (some ⟨w.heap.size, 0, none⟩) 1 1)).run P (w.alloc (.cells #[.int .u8 (x.toNat : Int)] e)) = .ok (.string ⟨#[x]⟩) (w.alloc (.cells #[.int .u8 (x.toNat : Int)] e)) := by
  have := run_convert_bytes_back (P := P) (w.alloc (.cells #[.int .u8 (x.toNat : Int)] e)) src dst e ⟨w.heap.size, 0, none⟩ 1 [x] hs he hd (fun j hj => by
    have hj0 : j = 0 := by simpa using hj
    subst hj0
    exact cell_one_new w _ e 0 _ rfl)
  simpa using this

set_option maxRecDepth 100000 in
set_option maxHeartbeats 1000000 in
theorem RSmall_c (s : ByteArray) (w : World) (hs : s.size ≤ 1000000000000) : Calls Tryd.prog 31 #[.string s] w fun e w' => ∃ r, e = .returned (.string r) ∧ r.size ≤ s.size ∧ Hid (L r = smallOf (L s)) ∧ Below w.heap.size w w' := by
  go_enter Tryd.func31, Tryd.ntmps31
  go_wp2_with fail
  go_loopw [3, 4] (fun o i wr => ∃ (k : Nat) (r : ByteArray), k ≤ s.size ∧ i = .int .i64 k ∧ o = .string r ∧ r.size ≤ k ∧ Hid (L r = smallOf ((L s).take k)) ∧ Below w.heap.size w wr) (fun _ i _ => s.size - (intOf i).toNat)
  case atStart => exact ⟨0, ⟨#[]⟩, Nat.zero_le _, rfl, rfl, by simp [size_lit], rfl, Below.refl _ _⟩
  case round =>
    obtain ⟨k, r, hk, rfl, rfl, hr, hI, hb⟩ := hrel
    by_cases hlt : k < s.size
    · have ht := Lib.hid (L_take s k hlt)
      cases hg : greatI s[k].toNat
      · have hlo : Hid (lowB s[k] = s[k]) := by show _ = _; unfold lowB; rw [hg]; rfl
        have hcv := fun W => conv_one (P := Tryd.prog) 76 9 5 s[k] W Tryd.underlying76 Tryd.underlying5 Tryd.underlying9
        go_wp2_with fail
        all_goals first
          | (exfalso; simp [greatI] at hg; omega)
          | (go_round
             case rel =>
               refine ⟨k + 1, _, by omega, by go_num, rfl, ?_, ?_, hb.alloc hb.size _⟩
               · rw [ByteArray.size_append, size_lit]; show r.size + 1 ≤ k + 1; omega
               · show _ = _
                 rw [L_add, L_one, hI.out, ht.out, smallOf, smallOf, List.map_append, List.map_singleton, hlo.out]
             case measure => simp [intOf]; omega)
      · have hg2 : 65 ≤ ((s[k].toNat : Nat) : Int) ∧ ((s[k].toNat : Nat) : Int) ≤ 90 := by simpa [greatI] using hg
        obtain ⟨hg3, hg4⟩ := hg2
        have HV : (((lowB s[k]).toNat : Nat) : Int) = ((s[k].toNat : Nat) : Int) + 32 := by rw [lowB_toNat, lowI, if_pos hg]
        have hcv := fun W => conv_one (P := Tryd.prog) 76 9 5 (lowB s[k]) W Tryd.underlying76 Tryd.underlying5 Tryd.underlying9
        rw [HV] at hcv
        clear HV
        go_wp2_with fail
        go_round
        case rel =>
          refine ⟨k + 1, _, by omega, by go_num, rfl, ?_, ?_, hb.alloc hb.size _⟩
          · rw [ByteArray.size_append, size_lit]; show r.size + 1 ≤ k + 1; omega
          · show _ = _
            rw [L_add, L_one, hI.out, ht.out, smallOf, smallOf, List.map_append, List.map_singleton]
        case measure => simp [intOf]; omega
    · go_wp2_with fail
      go_ret
      exact ⟨r, rfl, by omega, by show _ = _; rw [hI.out, List.take_of_length_le (by rw [L_length]; omega)], hb⟩
end Go.Proofs.YtgemjpoggbdfaaaDoor
