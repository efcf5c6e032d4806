/- Is a field great? -/
import Derived.Test.YtgemjpoggbdfaaaDoorFieldK
import Derived.Test.YtgemjpoggbdfaaaDoorFieldU
import Derived.Handy
namespace Go.Proofs.YtgemjpoggbdfaaaDoor
open Go.RowKit

def greatOne (n v : ByteArray) : Bool := decide ((3000 : Int) < 1 + min (n.size : Int) 100000 + min (v.size : Int) 100000)
set_option maxRecDepth 100000 in
set_option maxHeartbeats 4000000 in
theorem Great_1 (n v : ByteArray) (b : Nat) (w : World) (h0 : w.cell? ⟨b, 0, none⟩ = some (.string n)) (h1 : w.cell? ⟨b, 1, none⟩ = some (.string v)) :
    Calls Tryd.prog 21 #[.slice (some ⟨b, 0, none⟩) 1 1] w fun e w' => e = .returned (.bool (greatOne n v)) ∧ ∃ q, w' = w.drewN q := by
  go_enter Tryd.func21, Tryd.ntmps21
  go_wp2_with fail
  refine wp_loop_rounds 2 ?_
  rw [rounds_succ]
  go_wp2_with fail
  go_quiet (fail)
  go_wp2_with fail
  rw [rounds_succ]
  go_wp2_with fail
  go_ret
  exact ⟨rfl, _, rfl⟩
/-- Great, of one field, told ahead. -/
theorem Great_k (n v : ByteArray) (b : Nat) (w : World) (h0 : w.cell? ⟨b, 0, none⟩ = some (.string n)) (h1 : w.cell? ⟨b, 1, none⟩ = some (.string v)) {B : Bool} (hB : greatOne n v = B) :
    Calls Tryd.prog 21 #[.slice (some ⟨b, 0, none⟩) 1 1] w fun e w' => e = .returned (.bool B) ∧ ∃ q, w' = w.drewN q :=
  (Great_1 n v b w h0 h1).mono fun _ _ ⟨he, hq⟩ => ⟨by rw [he, ← hB], hq⟩
theorem greatOne_no {n v : ByteArray} (h : greatOne n v = false) : n.size ≤ 3000 ∧ v.size ≤ 3000 ∧ n.size + v.size ≤ 3000 := by
  unfold greatOne at h
  rw [decide_eq_false_iff_not] at h
  omega
end Go.Proofs.YtgemjpoggbdfaaaDoor
