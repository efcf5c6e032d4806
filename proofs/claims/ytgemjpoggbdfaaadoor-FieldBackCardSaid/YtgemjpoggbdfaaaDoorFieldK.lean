/- The program's Check of a field. -/
import Derived.Test.YtgemjpoggbdfaaaDoorFieldQ
import Derived.Deep.RegionHeld3
import Derived.Deep.QuietTactic
import Derived.BigQuiet
import Derived.Deep.RegionWith
namespace Go.Proofs.YtgemjpoggbdfaaaDoor
open Go.RowKit

theorem below_dr {B : Nat} {a w : World} (h : Below B a w) (n : Nat) : Below B a (w.drewN n) := ⟨h.os, h.tape, h.output, h.size, h.block⟩
theorem below_next {w a b : World} (h : Below w.heap.size w a) (k : Below a.heap.size a b) : Below w.heap.size w b := h.trans (k.mono h.size)
/-- Two cells that a walk goes on to read, kept over a call that only lays new blocks. -/
theorem two_kept {w w' : World} (hb : Below w.heap.size w w') {p q : Addr} {u v : Value} (hp : w.cell? p = some u) (hq : w.cell? q = some v) : w'.cell? p = some u ∧ w'.cell? q = some v :=
  ⟨(hb.cell (World.block_lt_of_cell? _ _ hp)).trans hp, (hb.cell (World.block_lt_of_cell? _ _ hq)).trans hq⟩
theorem Small_k (s r : ByteArray) (w : World) (hr : L r = smallOf (L s)) (hs : s.size ≤ 1000000000000) {p q : Addr} {u v : Value} (hp : w.cell? p = some u) (hq : w.cell? q = some v) :
    Calls Tryd.prog 30 #[.string s] w fun e w' => e = .returned (.string r) ∧ w'.cell? p = some u ∧ w'.cell? q = some v ∧ Hid (Below w.heap.size w w') :=
  (Small_c s w hs).mono fun _ _ ⟨r', he, _, hr', hb⟩ => ⟨by rw [he, L_inj (hr'.out.trans hr.symm)], (two_kept hb hp hq).1, (two_kept hb hp hq).2, hb⟩
theorem Value_k (s : ByteArray) (w : World) (hs : s.size ≤ 1000000000000) {B : Bool} (hB : valueOf (L s) = B) {p q : Addr} {u v : Value} (hp : w.cell? p = some u) (hq : w.cell? q = some v) :
    Calls Tryd.prog 28 #[.string s] w fun e w' => e = .returned (.bool B) ∧ w'.cell? p = some u ∧ w'.cell? q = some v ∧ Hid (Below w.heap.size w w') :=
  (Value_c s w hs).mono fun _ _ ⟨he, hb⟩ => ⟨by rw [he, hB], (two_kept hb hp hq).1, (two_kept hb hp hq).2, hb⟩
theorem Token_k (s : ByteArray) (w : World) (hs : s.size ≤ 1000000000000) {B : Bool} (hB : tokenOf (L s) = B) : Calls Tryd.prog 26 #[.string s] w fun e w' => e = .returned (.bool B) ∧ w = w' :=
  (Token_c s w hs).mono fun _ _ ⟨he, hw⟩ => ⟨by rw [he, hB], hw⟩

/-- A box of two cells has been laid, then other blocks and draws. -/
theorem below_box {w a : World} {o : Obj} (h : Below (w.alloc o).drew.heap.size (w.alloc o).drew a) : Below w.heap.size w a :=
  (((Below.refl w.heap.size w).alloc (Nat.le_refl _) o).drew).trans (h.mono (by simp))

set_option maxRecDepth 100000 in
set_option maxHeartbeats 4000000 in
theorem Check_1 (n v : ByteArray) (w : World) (h1 : 4096 < n.size) : Calls Tryd.prog 32 #[.agg #[.string n, .string v]] w fun e w' => e = .returned (.int .i64 3) ∧ Below w.heap.size w w' := by
  have g1 : decide ((4096 : Int) < (n.size : Int)) = true := by simp; omega
  go_enter Tryd.func32, Tryd.ntmps32
  go_wp2_with fail
  go_quiet (fail)
  go_wp2_with fail
  go_ret
  exact ⟨rfl, below_dr ((Below.refl w.heap.size w).alloc (Nat.le_refl _) _) _⟩

set_option maxRecDepth 100000 in
set_option maxHeartbeats 4000000 in
theorem Check_2 (n v : ByteArray) (w : World) (h1 : n.size ≤ 4096) (h2 : 4096 < v.size) : Calls Tryd.prog 32 #[.agg #[.string n, .string v]] w fun e w' => e = .returned (.int .i64 3) ∧ Below w.heap.size w w' := by
  have g1 : decide ((4096 : Int) < (n.size : Int)) = false := by simp; omega
  have g2 : decide ((4096 : Int) < (v.size : Int)) = true := by simp; omega
  go_enter Tryd.func32, Tryd.ntmps32
  go_wp2_with fail
  go_quiet (fail)
  go_wp2_with fail
  go_ret
  exact ⟨rfl, below_dr ((Below.refl w.heap.size w).alloc (Nat.le_refl _) _) _⟩

set_option maxRecDepth 100000 in
set_option maxHeartbeats 4000000 in
theorem Check_3 (n v : ByteArray) (w : World) (h1 : n.size ≤ 4096) (h2 : v.size ≤ 4096) (h3 : tokenOf (L n) = false) : Calls Tryd.prog 32 #[.agg #[.string n, .string v]] w fun e w' => e = .returned (.int .i64 3) ∧ Below w.heap.size w w' := by
  have HT := Lib.hid h3
  clear h3
  have g1 : decide ((4096 : Int) < (n.size : Int)) = false := by simp; omega
  have g2 : decide ((4096 : Int) < (v.size : Int)) = false := by simp; omega
  go_enter Tryd.func32, Tryd.ntmps32
  go_wp2_with fail
  go_quiet ((go_at_call 26; exact Calls.quiet_of_same ((Token_k n _ (by omega) HT.out).mono fun _ _ h => ⟨h.1, h.2.symm⟩)))
  go_wp2_with fail
  go_ret
  exact ⟨rfl, below_dr ((Below.refl w.heap.size w).alloc (Nat.le_refl _) _) _⟩

set_option maxRecDepth 100000 in
set_option maxHeartbeats 4000000 in
theorem Check_4 (n v r : ByteArray) (w : World) (h1 : n.size ≤ 4096) (h2 : v.size ≤ 4096) (h3 : tokenOf (L n) = true) (hr : L r = smallOf (L n)) (h4 : (r.toList == n.toList) = false) :
    Calls Tryd.prog 32 #[.agg #[.string n, .string v]] w fun e w' => e = .returned (.int .i64 3) ∧ Below w.heap.size w w' := by
  have HT := Lib.hid h3; have HR := Lib.hid hr
  clear h3 hr
  have h4' : (r.toList != n.toList) = true := by simpa using h4
  have g1 : decide ((4096 : Int) < (n.size : Int)) = false := by simp; omega
  have g2 : decide ((4096 : Int) < (v.size : Int)) = false := by simp; omega
  go_enter Tryd.func32, Tryd.ntmps32
  go_wp2_with fail
  first
    | go_region_with (first
      | (go_at_call 26; refine (Token_k n _ (by omega) HT.out).mono ?_; rintro e w1 ⟨rfl, rfl⟩)
      | (go_at_call 30; refine (Small_k n r _ HR.out (by omega) (p := ⟨w.heap.size, 0, none⟩) (q := ⟨w.heap.size, 1, none⟩) (u := .string n) (v := .string v) ?_ ?_).mono ?_; (simp [*]); (simp [*]); rintro e w2 ⟨rfl, hc0, hc1, hb2⟩))
    | fail "no"
  all_goals go_wp2_with fail
  all_goals go_ret
  all_goals exact ⟨rfl, below_box hb2.out⟩

set_option maxRecDepth 100000 in
set_option maxHeartbeats 4000000 in
theorem Check_5 (n v r : ByteArray) (w : World) (h1 : n.size ≤ 4096) (h2 : v.size ≤ 4096) (h3 : tokenOf (L n) = true) (hr : L r = smallOf (L n)) (h4 : (r.toList == n.toList) = true) {B : Bool} (h5 : valueOf (L v) = B) :
    Calls Tryd.prog 32 #[.agg #[.string n, .string v]] w fun e w' => e = .returned (.int .i64 (if B then 0 else 3)) ∧ Below w.heap.size w w' := by
  have HT := Lib.hid h3; have HR := Lib.hid hr; have H5 := Lib.hid h5
  clear h3 hr h5
  have h4' : (r.toList != n.toList) = false := by simpa using h4
  have g1 : decide ((4096 : Int) < (n.size : Int)) = false := by simp; omega
  have g2 : decide ((4096 : Int) < (v.size : Int)) = false := by simp; omega
  cases B
  · go_enter Tryd.func32, Tryd.ntmps32
    go_wp2_with fail
    go_region_held3 (fun w' => w'.cell? ⟨w.heap.size, 0, none⟩ = some (.string n) ∧ w'.cell? ⟨w.heap.size, 1, none⟩ = some (.string v)) (first | (refine ⟨?_, ?_⟩ <;> assumption) | go_keep)
      (first
        | (go_at_call 26; refine (Token_k n _ (by omega) HT.out).mono ?_; rintro e w1 ⟨rfl, rfl⟩)
        | (go_at_call 30; refine (Small_k n r _ HR.out (by omega) (p := ⟨w.heap.size, 0, none⟩) (q := ⟨w.heap.size, 1, none⟩) (u := .string n) (v := .string v) ?_ ?_).mono ?_; (simp [*]); (simp [*]); rintro e w2 ⟨rfl, hc0, hc1, hb2⟩)
        | (go_at_call 28; refine (Value_k v _ (by omega) H5.out (p := ⟨w.heap.size, 0, none⟩) (q := ⟨w.heap.size, 1, none⟩) (u := .string n) (v := .string v) ?_ ?_).mono ?_; (simp [*]); (simp [*]); rintro e w3 ⟨rfl, hd0, hd1, hb3⟩))
    go_wp2_with fail
    go_ret
    exact ⟨rfl, below_box (below_next hb2.out hb3.out)⟩
  · go_enter Tryd.func32, Tryd.ntmps32
    go_wp2_with fail
    go_region_held3 (fun w' => w'.cell? ⟨w.heap.size, 0, none⟩ = some (.string n) ∧ w'.cell? ⟨w.heap.size, 1, none⟩ = some (.string v)) (first | (refine ⟨?_, ?_⟩ <;> assumption) | go_keep)
      (first
        | (go_at_call 26; refine (Token_k n _ (by omega) HT.out).mono ?_; rintro e w1 ⟨rfl, rfl⟩)
        | (go_at_call 30; refine (Small_k n r _ HR.out (by omega) (p := ⟨w.heap.size, 0, none⟩) (q := ⟨w.heap.size, 1, none⟩) (u := .string n) (v := .string v) ?_ ?_).mono ?_; (simp [*]); (simp [*]); rintro e w2 ⟨rfl, hc0, hc1, hb2⟩)
        | (go_at_call 28; refine (Value_k v _ (by omega) H5.out (p := ⟨w.heap.size, 0, none⟩) (q := ⟨w.heap.size, 1, none⟩) (u := .string n) (v := .string v) ?_ ?_).mono ?_; (simp [*]); (simp [*]); rintro e w3 ⟨rfl, hd0, hd1, hb3⟩))
    go_wp2_with fail
    go_ret
    exact ⟨rfl, below_box (below_next hb2.out hb3.out)⟩

theorem Check_c' (n v : ByteArray) (w : World) (hn : n.size ≤ 1000000000000) : Calls Tryd.prog 32 #[.agg #[.string n, .string v]] w fun e w' => e = .returned (.int .i64 (fieldE (L n) (L v))) ∧ Below w.heap.size w w' := by
  have en := L_length n
  have ev := L_length v
  by_cases h1 : n.size ≤ 4096
  · by_cases h2 : v.size ≤ 4096
    · cases h3 : tokenOf (L n)
      · have := Check_3 n v w h1 h2 h3
        rwa [show fieldE (L n) (L v) = 3 from by simp [fieldE, fieldOK, h3]]
      · obtain ⟨r, hr⟩ : ∃ r : ByteArray, L r = smallOf (L n) := ⟨⟨(smallOf (L n)).toArray⟩, L_mk _⟩
        have e4 : (r.toList == n.toList) = (smallOf (L n) == L n) := by rw [toList_L, toList_L, hr]
        cases h4 : (smallOf (L n) == L n)
        · have := Check_4 n v r w h1 h2 h3 hr (e4.trans h4)
          rwa [show fieldE (L n) (L v) = 3 from by simp only [fieldE, fieldOK, h4]; simp]
        · have := Check_5 n v r w h1 h2 h3 hr (e4.trans h4) (B := valueOf (L v)) rfl
          rwa [show fieldE (L n) (L v) = (if valueOf (L v) then 0 else 3) from by simp only [fieldE, fieldOK, h4, h3, en, ev]; simp [h1, h2]]
    · have := Check_2 n v w h1 (by omega)
      rwa [show fieldE (L n) (L v) = 3 from by simp [fieldE, fieldOK, ev]; intros; omega]
  · have := Check_1 n v w (by omega)
    rwa [show fieldE (L n) (L v) = 3 from by simp [fieldE, fieldOK, en]; intros; omega]
end Go.Proofs.YtgemjpoggbdfaaaDoor
