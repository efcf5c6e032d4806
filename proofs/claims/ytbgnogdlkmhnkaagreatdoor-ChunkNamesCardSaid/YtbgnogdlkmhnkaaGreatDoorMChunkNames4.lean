/- The statement ChunkNames: the limits and errors of chunks have their numbers, and the examples of the chapter are so. -/
import Derived.Test.YtbgnogdlkmhnkaaGreatDoorMChunkNames3
import Derived.Lib.IndexAny
import Derived.Shelf.Strings.SlTrimAscii
import Derived.Shelf.Strings.IndexAnyAll
import Derived.Shelf.Spec.SlicesGrow
/- chunk.Check, reckoned. -/
namespace Go.Proofs.YtbgnogdlkmhnkaaGreatDoor.Vex
open Go Go.RowKit
set_option maxRecDepth 100000
set_option linter.unusedSectionVars false
variable {gI : GI} [HasMax gI] [HasUtf gI]

/-- Where what is left of a line lies. -/
def sufA (cp : Nat) (A : Option Addr) (l : List UInt8) : Option Addr := if crB l then (if (cp : Int) = 0 then A else A.map (·.add (0 * 1))) else A
theorem bare_take (l : List UInt8) (h : crB l = true) : bare l = l.take (l.length - 1) ∧ 0 < l.length := by
  refine ⟨?_, ?_⟩
  · unfold bare
    rw [if_pos h, List.dropLast_eq_take]
  · cases l with
    | nil => exact absurd h (by decide)
    | cons x r => simp
theorem sufA_rd {c : Ctx} {H : Hp} {A : Option Addr} {cp : Nat} {l : List UInt8} (h : RdS c H A (l.map byteV)) (hl : l.length ≤ cp) : RdS c H (sufA cp A l) ((bare l).map byteV) := by
  unfold sufA
  cases hc : crB l with
  | false =>
    rw [bare_no hc]
    exact h
  | true =>
    have hb := bare_take l hc
    rw [hb.1, List.map_take]
    have hp := RdS.piece (cp := cp) (sz := 1) (lo := 0) h (by omega) (fun e => by omega)
    simp only [Int.toNat_zero, Nat.zero_mul, List.drop_zero] at hp
    exact hp.take _
theorem bare_le (l : List UInt8) : (bare l).length ≤ l.length := by
  unfold bare
  split
  · rw [List.length_dropLast]; omega
  · exact Nat.le_refl _
theorem CutSuf_f (A B : Option Addr) (cp cq : Nat) (l : List UInt8) (hl : l.length ≤ 1000000000) :
    FnE Tryz.prog gI 22 [.slice A l.length cp, .slice B 1 cq] (fun w => RdL w [(A, l.map byteV), (B, [byteV 13])] ∧ l.length ≤ cp) fun _ v _ => v = .tuple #[.slice (sufA cp A l) (bare l).length cp, .bool (crB l)] := by
  refine FnE.of tys_ok Tryz.func22 rfl (by kernel_rfl) rfl rfl ?_; intro w hG hP
  have hA : ∀ H, RdS (mkC Tryz.prog gI w hG) H A (l.map byteV) := fun H => hP.1.1.now
  have hB : ∀ H, RdS (mkC Tryz.prog gI w hG) H B [byteV 13] := fun H => hP.1.2.1.now
  have hcp := hP.2
  (conv => whnf); repeat ((first | refine tk1 ?_ | refine tk2 ?_ | refine tk3 ?_ | refine tk12 (fun _ => ?_) | refine tk4 ?_ | refine tk5 ?_ | refine tk6 ?_ | refine tk7 ?_ | refine tk8 ?_ | refine tk9 ?_ | refine tk10 (fun _ _ => ?_) | refine tk11 (fun _ => ?_) | refine tk13 ?_ | refine tk14 ?_); (conv => whnf))
  refine CallK.fnEV (HasSuffix_f A B cp cq l hl) (fun w1 hw1 => ⟨⟨hA _ w1 hw1, hB _ w1 hw1, trivial⟩, hcp⟩) ?_
  unfold sufA
  cases hc : crB l with
  | false =>
    rw [bare_no hc]
    (conv => whnf); repeat ((first | refine tk1 ?_ | refine tk2 ?_ | refine tk3 ?_ | refine tk12 (fun _ => ?_) | refine tk4 ?_ | refine tk5 ?_ | refine tk6 ?_ | refine tk7 ?_ | refine tk8 ?_ | refine tk9 ?_ | refine tk10 (fun _ _ => ?_) | refine tk11 (fun _ => ?_) | refine tk13 ?_ | refine tk14 ?_); (conv => whnf))
    exact fun w' _ => rfl
  | true =>
    have hb := bare_take l hc
    rw [hb.1]
    (conv => whnf); repeat ((first | refine tk1 ?_ | refine tk2 ?_ | refine tk3 ?_ | refine tk12 (fun _ => ?_) | refine tk4 ?_ | refine tk5 ?_ | refine tk6 ?_ | refine tk7 ?_ | refine tk8 ?_ | refine tk9 ?_ | refine tk10 (fun _ _ => ?_) | refine tk11 (fun _ => ?_) | refine tk13 ?_ | refine tk14 ?_); (conv => whnf))
    refine SlcV.cut (by omega) (by omega) (by omega) ?_
    rw [show ((l.length : Int) - ((1 : Nat) : Int)).toNat = (l.take (l.length - 1)).length by rw [List.length_take]; omega]
    (conv => whnf); repeat ((first | refine tk1 ?_ | refine tk2 ?_ | refine tk3 ?_ | refine tk12 (fun _ => ?_) | refine tk4 ?_ | refine tk5 ?_ | refine tk6 ?_ | refine tk7 ?_ | refine tk8 ?_ | refine tk9 ?_ | refine tk10 (fun _ _ => ?_) | refine tk11 (fun _ => ?_) | refine tk13 ?_ | refine tk14 ?_); (conv => whnf))
    exact fun w' _ => rfl
theorem ContainsAny_f (A : Option Addr) (cp : Nat) (l : List UInt8) (hl : l.length ≤ 1000000000) :
    FnE Tryz.prog gI 23 [.slice A l.length cp, str [13, 10]] (fun w => RdL w [(A, l.map byteV)] ∧ l.length ≤ cp) fun _ v _ => v = .bool (!noEnd l) := by
  refine FnE.of tys_ok Tryz.func23 rfl (by kernel_rfl) rfl rfl ?_; intro w hG hP
  have hA : ∀ H, RdS (mkC Tryz.prog gI w hG) H A (l.map byteV) := fun H => hP.1.1.now
  have hcp := hP.2
  (conv => whnf); repeat ((first | refine tk1 ?_ | refine tk2 ?_ | refine tk3 ?_ | refine tk12 (fun _ => ?_) | refine tk4 ?_ | refine tk5 ?_ | refine tk6 ?_ | refine tk7 ?_ | refine tk8 ?_ | refine tk9 ?_ | refine tk10 (fun _ _ => ?_) | refine tk11 (fun _ => ?_) | refine tk13 ?_ | refine tk14 ?_); (conv => whnf))
  refine CallK.fnE (IndexAny_f A cp l hl) (fun w1 hw1 => ⟨⟨hA _ w1 hw1, trivial⟩, hcp⟩) (fun w1 v w2 hs hv hr => ⟨_, hs.below hr, ?_⟩)
  obtain ⟨k, rfl, hk⟩ := hv
  (conv => whnf); repeat ((first | refine tk1 ?_ | refine tk2 ?_ | refine tk3 ?_ | refine tk12 (fun _ => ?_) | refine tk4 ?_ | refine tk5 ?_ | refine tk6 ?_ | refine tk7 ?_ | refine tk8 ?_ | refine tk9 ?_ | refine tk10 (fun _ _ => ?_) | refine tk11 (fun _ => ?_) | refine tk13 ?_ | refine tk14 ?_); (conv => whnf))
  refine Cmp.of (!noEnd l) (by rw [Bool.not_eq_true', hk]) ?_
  (conv => whnf); repeat ((first | refine tk1 ?_ | refine tk2 ?_ | refine tk3 ?_ | refine tk12 (fun _ => ?_) | refine tk4 ?_ | refine tk5 ?_ | refine tk6 ?_ | refine tk7 ?_ | refine tk8 ?_ | refine tk9 ?_ | refine tk10 (fun _ _ => ?_) | refine tk11 (fun _ => ?_) | refine tk13 ?_ | refine tk14 ?_); (conv => whnf))
  exact fun w' _ => rfl
/-- A body under way, as a value. -/
def cV (c : CSt) (A : Option Addr) (cp : Nat) : Value := .agg ⟨[.int .u8 (c.ph : Nat), .int .i64 c.left, .slice A c.line.length cp, .int .i64 c.trail]⟩
set_option maxHeartbeats 4000000 in
theorem CCheck_f (c : CSt) (A : Option Addr) (cp : Nat) (hl : c.line.length ≤ 1000000000) :
    FnE Tryz.prog gI 10 [cV c A cp] (fun w => RdL w [(A, c.line.map byteV)] ∧ c.line.length ≤ cp) fun _ v _ => v = .int .i64 (chE c) := by
  obtain ⟨ph, left, line, trail⟩ := c
  unfold cV
  dsimp only at hl ⊢
  refine FnE.of tys_ok Tryz.func10 rfl (by kernel_rfl) rfl rfl ?_; intro w hG hP
  have hA : ∀ H, RdS (mkC Tryz.prog gI w hG) H A (line.map byteV) := fun H => hP.1.1.now
  have hcp := hP.2
  have hbl := bare_le line
  have hB : ∀ H, RdS (mkC Tryz.prog gI w hG) H (sufA cp A line) ((bare line).map byteV) := fun H => sufA_rd (hA H) hcp
  (conv => whnf); repeat ((first | refine tk1 ?_ | refine tk2 ?_ | refine tk3 ?_ | refine tk12 (fun _ => ?_) | refine tk4 ?_ | refine tk5 ?_ | refine tk6 ?_ | refine tk7 ?_ | refine tk8 ?_ | refine tk9 ?_ | refine tk10 (fun _ _ => ?_) | refine tk11 (fun _ => ?_) | refine tk13 ?_ | refine tk14 ?_); (conv => whnf))
  rename_i b2
  refine Oth.same tys_ok rfl rfl rfl (fun o2 ho2 => ?_)
  have hR2 : ∀ H, RdA (mkC Tryz.prog gI w hG) (.obj b2 o2 :: H) (some ⟨b2, 0, none⟩) _ := ho2.rd
  (conv => whnf); repeat ((first | refine tk1 ?_ | refine tk2 ?_ | refine tk3 ?_ | refine tk12 (fun _ => ?_) | refine tk4 ?_ | refine tk5 ?_ | refine tk6 ?_ | refine tk7 ?_ | refine tk8 ?_ | refine tk9 ?_ | refine tk10 (fun _ _ => ?_) | refine tk11 (fun _ => ?_) | refine tk13 ?_ | refine tk14 ?_); (conv => whnf))
  refine CallK.fnEV (CutSuf_f A (some ⟨b2, 0, none⟩) cp _ line hl) (fun w1 hw1 => ⟨⟨hA _ w1 hw1, RdA.ok (xs := [byteV 13]) w1 hw1, trivial⟩, hcp⟩) ?_
  (conv => whnf); repeat ((first | refine tk1 ?_ | refine tk2 ?_ | refine tk3 ?_ | refine tk12 (fun _ => ?_) | refine tk4 ?_ | refine tk5 ?_ | refine tk6 ?_ | refine tk7 ?_ | refine tk8 ?_ | refine tk9 ?_ | refine tk10 (fun _ _ => ?_) | refine tk11 (fun _ => ?_) | refine tk13 ?_ | refine tk14 ?_); (conv => whnf))
  refine CallK.fnEV (ContainsAny_f (sufA cp A line) cp (bare line) (by omega)) (fun w1 hw1 => ⟨⟨hB _ w1 hw1, trivial⟩, by omega⟩) ?_
  (conv => whnf); repeat ((first | refine tk1 ?_ | refine tk2 ?_ | refine tk3 ?_ | refine tk12 (fun _ => ?_) | refine tk4 ?_ | refine tk5 ?_ | refine tk6 ?_ | refine tk7 ?_ | refine tk8 ?_ | refine tk9 ?_ | refine tk10 (fun _ _ => ?_) | refine tk11 (fun _ => ?_) | refine tk13 ?_ | refine tk14 ?_); (conv => whnf))
  have hbz : bare line = [] ↔ (bare line).length = 0 := List.length_eq_zero_iff.symm
  have hlz : line = [] ↔ line.length = 0 := List.length_eq_zero_iff.symm
  clear hB hR2 hA
  rcases (show ph = 0 ∨ ph = 1 ∨ ph = 2 ∨ ph = 3 ∨ ph = 4 ∨ 5 ≤ ph by omega) with rfl | rfl | rfl | rfl | rfl | hp
  · by_cases a0 : (bare line).length ≤ 64 <;> by_cases a1 : left = 0 <;> by_cases a2 : trail = 0 <;> cases a3 : noEnd (bare line)
    all_goals
      (conv => whnf); repeat ((first | refine tk1 ?_ | refine tk2 ?_ | refine tk3 ?_ | refine tk12 (fun _ => ?_) | refine tk4 ?_ | refine tk5 ?_ | refine tk6 ?_ | refine tk7 ?_ | refine tk8 ?_ | refine tk9 ?_ | refine tk10 (fun _ _ => ?_) | refine tk11 (fun _ => ?_) | refine tk13 ?_ | refine tk14 ?_); (conv => whnf))
      exact fun w' _ => by simp [chE, chMay, lineMay, leftMay, trailMay, *] <;> omega
  · by_cases a0 : line.length = 0 <;> by_cases a1 : 1 ≤ left <;> by_cases a2 : left < 16777216 <;> by_cases a3 : trail = 0 <;> cases a4 : noEnd (bare line)
    all_goals
      (conv => whnf); repeat ((first | refine tk1 ?_ | refine tk2 ?_ | refine tk3 ?_ | refine tk12 (fun _ => ?_) | refine tk4 ?_ | refine tk5 ?_ | refine tk6 ?_ | refine tk7 ?_ | refine tk8 ?_ | refine tk9 ?_ | refine tk10 (fun _ _ => ?_) | refine tk11 (fun _ => ?_) | refine tk13 ?_ | refine tk14 ?_); (conv => whnf))
      exact fun w' _ => by simp [chE, chMay, lineMay, leftMay, trailMay, *] <;> omega
  · by_cases a0 : (bare line).length = 0 <;> by_cases a1 : left = 0 <;> by_cases a2 : trail = 0 <;> cases a3 : noEnd (bare line)
    all_goals
      (conv => whnf); repeat ((first | refine tk1 ?_ | refine tk2 ?_ | refine tk3 ?_ | refine tk12 (fun _ => ?_) | refine tk4 ?_ | refine tk5 ?_ | refine tk6 ?_ | refine tk7 ?_ | refine tk8 ?_ | refine tk9 ?_ | refine tk10 (fun _ _ => ?_) | refine tk11 (fun _ => ?_) | refine tk13 ?_ | refine tk14 ?_); (conv => whnf))
      exact fun w' _ => by simp [chE, chMay, lineMay, leftMay, trailMay, *] <;> omega
  · by_cases a0 : line.length ≤ 256 <;> by_cases a1 : left = 0 <;> by_cases a2 : (line.length : Int) ≤ trail <;> by_cases a3 : trail ≤ 256 <;> cases a4 : noEnd (bare line)
    all_goals
      (conv => whnf); repeat ((first | refine tk1 ?_ | refine tk2 ?_ | refine tk3 ?_ | refine tk12 (fun _ => ?_) | refine tk4 ?_ | refine tk5 ?_ | refine tk6 ?_ | refine tk7 ?_ | refine tk8 ?_ | refine tk9 ?_ | refine tk10 (fun _ _ => ?_) | refine tk11 (fun _ => ?_) | refine tk13 ?_ | refine tk14 ?_); (conv => whnf))
      exact fun w' _ => by simp [chE, chMay, lineMay, leftMay, trailMay, *] <;> omega
  · by_cases a0 : line.length = 0 <;> by_cases a1 : left = 0 <;> by_cases a2 : trail = 0 <;> cases a3 : noEnd (bare line)
    all_goals
      (conv => whnf); repeat ((first | refine tk1 ?_ | refine tk2 ?_ | refine tk3 ?_ | refine tk12 (fun _ => ?_) | refine tk4 ?_ | refine tk5 ?_ | refine tk6 ?_ | refine tk7 ?_ | refine tk8 ?_ | refine tk9 ?_ | refine tk10 (fun _ _ => ?_) | refine tk11 (fun _ => ?_) | refine tk13 ?_ | refine tk14 ?_); (conv => whnf))
      exact fun w' _ => by simp [chE, chMay, lineMay, leftMay, trailMay, *] <;> omega
  · have q0 : ¬ ph = 0 := by omega
    have q1 : ¬ ph = 1 := by omega
    have q2 : ¬ ph = 2 := by omega
    have q3 : ¬ ph = 3 := by omega
    have q4 : ¬ ph = 4 := by omega
    by_cases a0 : left = 0 <;> by_cases a1 : trail = 0 <;> cases a2 : noEnd (bare line)
    all_goals
      (conv => whnf); repeat ((first | refine tk1 ?_ | refine tk2 ?_ | refine tk3 ?_ | refine tk12 (fun _ => ?_) | refine tk4 ?_ | refine tk5 ?_ | refine tk6 ?_ | refine tk7 ?_ | refine tk8 ?_ | refine tk9 ?_ | refine tk10 (fun _ _ => ?_) | refine tk11 (fun _ => ?_) | refine tk13 ?_ | refine tk14 ?_); (conv => whnf))
      exact fun w' _ => by simp [chE, chMay, lineMay, leftMay, trailMay, *] <;> omega
end Go.Proofs.YtbgnogdlkmhnkaaGreatDoor.Vex
/- The number of a chunk's line, as strconv.ParseUint tells it. -/
namespace Go.Proofs.YtbgnogdlkmhnkaaGreatDoor.Vex
open Go

def mx64 : Int := 18446744073709551615
theorem pu_ok : ∀ (l : List UInt8) (n : Int), (puGo mx64 n l).2 = 0 → l.all hexB = true
  | [], _, _ => rfl
  | x :: r, n, h => by
    unfold puGo at h
    split at h
    · cases h
    split at h
    · cases h
    split at h
    · cases h
    rw [List.all_cons, pu_ok r _ h, (hexB_iff x).2 (by omega)]
    rfl
theorem pu_hex : ∀ (l : List UInt8) (n : Int), l.all hexB = true → 0 ≤ n → (n + 1) * 16 ^ l.length ≤ 16777216 → puGo mx64 n l = (l.foldl (fun n x => 16 * n + digI x.toNat) n, 0)
  | [], _, _, _, _ => rfl
  | x :: r, n, h, h0, hn => by
    rw [List.all_cons, Bool.and_eq_true] at h
    have hd := dig_range x
    have hx := (hexB_iff x).1 h.1
    rw [List.length_cons, Int.pow_succ, ← Int.mul_assoc, Int.mul_right_comm] at hn
    have hp : (1 : Int) ≤ 16 ^ r.length := by
      have h : (0 : Int) < 16 ^ r.length := Int.pow_pos (by decide)
      omega
    have h16 : (n + 1) * 16 ≤ 16777216 := Int.le_trans (by have := Int.mul_le_mul_of_nonneg_left hp (show 0 ≤ (n + 1) * 16 by omega); omega) hn
    unfold puGo
    rw [if_neg (by omega), if_neg (by omega), if_neg (by unfold mx64; omega)]
    have hle : (16 * n + digI x.toNat + 1) * 16 ^ r.length ≤ 16777216 := Int.le_trans (Int.mul_le_mul_of_nonneg_right (by omega) (by omega)) hn
    rw [show n * 16 + digI x.toNat = 16 * n + digI x.toNat by omega, pu_hex r _ h.2 (by omega) hle, List.foldl_cons]
theorem pu_digs (l : List UInt8) (h6 : l.length ≤ 6) : ((puV mx64 l).2 = 0 ↔ (1 ≤ l.length ∧ l.all hexB = true)) ∧ ((puV mx64 l).2 = 0 → (puV mx64 l).1 = hexN l) := by
  by_cases h0 : l = []
  · subst h0
    exact ⟨⟨fun h => absurd h (by decide), fun h => absurd h.1 (by decide)⟩, fun h => absurd h (by decide)⟩
  have hpos := List.length_pos_iff.2 h0
  unfold puV
  rw [if_neg h0]
  have key : l.all hexB = true → puGo mx64 0 l = (hexN l, 0) := fun h => pu_hex l 0 h (Int.le_refl _) (by
    have : ∀ n : Nat, n ≤ 6 → (0 + 1 : Int) * 16 ^ n ≤ 16777216 := fun n hn => by
      rcases (show n = 0 ∨ n = 1 ∨ n = 2 ∨ n = 3 ∨ n = 4 ∨ n = 5 ∨ n = 6 by omega) with e | e | e | e | e | e | e <;> subst e <;> decide
    exact this _ h6)
  refine ⟨⟨fun h => ⟨hpos, pu_ok l 0 h⟩, fun h => by rw [key h.2]⟩, fun h => by rw [key (pu_ok l 0 h)]⟩
theorem hex_ascii {l : List UInt8} (h : l.all hexB = true) : ∀ x ∈ l, x.toNat < 128 := fun x hx => by
  have := (hexB_iff x).1 (List.all_eq_true.1 h x hx)
  unfold digI at this
  split at this
  · omega
  split at this
  · omega
  split at this
  · omega
  · omega
theorem hex_noAny : ∀ (l : List UInt8), l.all hexB = true → Lib.containsAny l [43, 45, 95] = false := fun l h => by
  unfold Lib.containsAny
  rw [Lib.indexAny_none (fun j b _ hb => by
    have hx := (hexB_iff b).1 (List.all_eq_true.1 h b (List.mem_of_getElem? hb))
    have : ∀ x : UInt8, 0 ≤ digI x.toNat → ([43, 45, 95] : List UInt8).contains x = false := by
      intro x hx
      cases hc : ([43, 45, 95] : List UInt8).contains x with
      | false => rfl
      | true =>
        simp at hc
        rcases hc with rfl | rfl | rfl <;> exact absurd hx (by decide)
    exact this b hx)]
  rfl
theorem digsOf_le (s : List UInt8) : (digsOf s).length ≤ s.length := by
  have h := cutB_length 59 s
  have h2 := (List.dropWhile_sublist (l := (cutB 59 s).1.reverse) (fun x => x == 32 || x == 9)).length_le
  unfold digsOf
  simp only [List.length_reverse] at h2 ⊢
  omega
/-- Some bytes of data at once. -/
theorem fed_block : ∀ (n : Nat) (b : List UInt8) (s : CSt) (d : List UInt8) (i : Nat), s.ph = 1 → 1 ≤ n → n ≤ b.length → (n : Int) ≤ s.left →
    fedG s d i b = fedG { s with left := s.left - n, ph := if s.left - n = 0 then 2 else 1 } (d ++ b.take n) (i + n) (b.drop n)
  | 0, _, _, _, _, _, h, _, _ => absurd h (by decide)
  | n + 1, [], _, _, _, _, _, h, _ => absurd h (by simp)
  | 0 + 1, x :: r, s, d, i, h1, _, hb, hn => by
    rw [fed_cons, if_neg (by omega), if_pos h1]
    rfl
  | (n + 1) + 1, x :: r, s, d, i, h1, _, hb, hn => by
    rw [fed_cons, if_neg (by omega), if_pos h1]
    simp only [List.length_cons] at hb
    rw [fed_block (n + 1) r { s with left := s.left - 1, ph := if s.left - 1 = 0 then 2 else 1 } (d ++ [x]) (i + 1) (by dsimp only; rw [if_neg (by omega)]) (by omega) (by omega) (by dsimp only; omega)]
    rw [List.append_assoc, List.take_succ_cons, List.drop_succ_cons]
    rw [show s.left - 1 - ((n + 1 : Nat) : Int) = s.left - ((n + 1 + 1 : Nat) : Int) by omega, show i + 1 + (n + 1) = i + (n + 1 + 1) by omega]
    rfl
end Go.Proofs.YtbgnogdlkmhnkaaGreatDoor.Vex
/- The law VaryAll, over byte lists: what is put together names all that was named; a second time it changes nothing. No program in sight. -/
namespace Go.Proofs.YtbgnogdlkmhnkaaGreatDoor

theorem tok_byte (x : UInt8) (h : tokB x = true) : x ≠ 44 ∧ blankB x = false := by
  have : ∀ n : Fin 256, tokB n.val.toUInt8 = true → n.val.toUInt8 ≠ 44 ∧ blankB n.val.toUInt8 = false := by decide +kernel
  have h2 := this ⟨x.toNat, x.toNat_lt⟩
  simp at h2
  exact h2 h
theorem trimLB_no (l : List UInt8) (h : ∀ x ∈ l, blankB x = false) : trimLB l = l := by
  cases l with
  | nil => rfl
  | cons x r => exact trimLB_other _ _ (h x (List.mem_cons_self ..))
theorem trimRB_no (l : List UInt8) (h : ∀ x ∈ l, blankB x = false) : trimRB l = l := by
  rcases List.eq_nil_or_concat l with rfl | ⟨m, y, rfl⟩
  · rfl
  · rw [List.concat_eq_append] at h ⊢
    exact trimRB_other _ _ (h y (by simp))
theorem tok_parts {s : List UInt8} (h : tokenOf s = true) : s ≠ [] ∧ 44 ∉ s ∧ trimB s = s := by
  have ha := token_all h
  rw [List.all_eq_true] at ha
  refine ⟨fun e => by subst e; simp [tokenOf] at h, fun hm => (tok_byte _ (ha _ hm)).1 rfl, ?_⟩
  rw [trimB_eq, trimLB_no s fun x hx => (tok_byte x (ha x hx)).2, trimRB_no s fun x hx => (tok_byte x (ha x hx)).2]
theorem items_tok {s : List UInt8} (h : tokenOf s = true) : itemsOf s = [s] := by
  obtain ⟨h1, h2, h3⟩ := tok_parts h
  rw [items_none s h2]
  unfold itemOf
  rw [h3, if_neg h1]
theorem items_blank (x : UInt8) (m : List UInt8) (hx : blankB x = true) : itemsOf (x :: m) = itemsOf m := by
  have h44 : x ≠ 44 := fun e => by subst e; revert hx; decide
  unfold itemsOf
  simp only [splitB, if_neg h44]
  cases h : splitB 44 m with
  | nil => exact absurd h (splitB_ne 44 m)
  | cons p q => simp only [List.map_cons, trimB_front x p hx]
theorem items_out : ∀ out : List (List UInt8), (∀ x ∈ out, tokenOf x = true) → itemsOf (Lib.join out [44, 32]) = out
  | [], _ => by decide
  | [x], h => by rw [Lib.join_one]; exact items_tok (h x (List.mem_cons_self ..))
  | x :: y :: r, h => by
    rw [join_cons, show x ++ [44, 32] ++ Lib.join (y :: r) [44, 32] = x ++ 44 :: (32 :: Lib.join (y :: r) [44, 32]) by simp, items_join, items_tok (h x (List.mem_cons_self ..)), items_blank 32 _ (by decide), items_out (y :: r) fun z hz => h z (List.mem_cons_of_mem _ hz)]
    rfl
def nodS (l : List (List UInt8)) : Prop := l.Pairwise fun a b => smallOf a ≠ smallOf b
theorem inS_false {l : List (List UInt8)} {s : List UInt8} (h : inS l s = false) : ∀ x ∈ l, smallOf x ≠ smallOf s := by
  unfold inS at h
  rw [List.any_eq_false] at h
  exact fun x hx e => h x hx (by simp [e])
theorem inS_true {l : List (List UInt8)} {s : List UInt8} : inS l s = true ↔ ∃ x ∈ l, smallOf x = smallOf s := by
  unfold inS
  rw [List.any_eq_true]
  simp
theorem dedup_nod : ∀ (l out : List (List UInt8)), nodS out → nodS (dedup out l)
  | [], _, h => h
  | s :: r, out, h => by
    unfold dedup
    refine dedup_nod r _ ?_
    cases hs : inS out s with
    | true => exact h
    | false => exact List.pairwise_append.2 ⟨h, List.pairwise_singleton _ _, fun a ha b hb => by rw [List.mem_singleton] at hb; subst hb; exact inS_false hs a ha⟩
theorem dedup_same : ∀ (l out : List (List UInt8)), nodS (out ++ l) → dedup out l = out ++ l
  | [], out, _ => by simp [dedup]
  | s :: r, out, h => by
    have hs : inS out s = false := by
      cases hi : inS out s with
      | false => rfl
      | true =>
        obtain ⟨x, hx, he⟩ := inS_true.1 hi
        exact absurd he ((List.pairwise_append.1 h).2.2 x hx s (List.mem_cons_self ..))
    unfold dedup
    rw [hs, if_neg Bool.false_ne_true, dedup_same r (out ++ [s]) (by simpa using h)]
    simp
theorem dedup_append : ∀ (a b out : List (List UInt8)), dedup out (a ++ b) = dedup (dedup out a) b
  | [], _, _ => rfl
  | s :: a, b, out => by simp only [List.cons_append, dedup]; exact dedup_append a b _
theorem mergeO_tok {values : List (List UInt8)} {name : List UInt8} (h : mergeOK values name = true) : ∀ x ∈ mergeO values name, tokenOf x = true := fun x hx => by
  unfold mergeOK at h
  rw [List.all_eq_true] at h
  exact h x ((dedup_mem _ _ x hx).elim (fun h => by cases h) id)
theorem inS_mergeO (values : List (List UInt8)) (name s : List UInt8) : inS (mergeO values name) s = inS (allV values name) s := by
  unfold mergeO
  rw [inS_dedup]
  simp [inS]
theorem inS_name (values : List (List UInt8)) (name : List UInt8) : inS (allV values name) name = true := by
  rw [inS_true]
  exact ⟨name, by simp [allV], rfl⟩
theorem mergeO_nil (values : List (List UInt8)) (name : List UInt8) : mergeO values name ≠ [] := fun h => by
  have := inS_mergeO values name name
  rw [inS_name, h] at this
  cases this
/-- What is put together is the item * just where one of all is it. -/
theorem merge_star {values : List (List UInt8)} {name : List UInt8} (h : mergeOK values name = true) : mergeS values name = [42] ↔ inS (mergeO values name) [42] = true := by
  unfold mergeS
  rw [if_pos h]
  constructor
  · intro he
    cases hs : inS (mergeO values name) [42] with
    | true => rfl
    | false =>
      exfalso
      rw [hs, if_neg Bool.false_ne_true] at he
      have h1 := items_out _ (mergeO_tok h)
      rw [he] at h1
      rw [← h1] at hs
      revert hs
      decide
  · intro hs
    rw [hs, if_pos rfl]
theorem merge_items {values : List (List UInt8)} {name : List UInt8} (h : mergeOK values name = true) : itemsOf (mergeS values name) = if inS (mergeO values name) [42] then [[42]] else mergeO values name := by
  unfold mergeS
  rw [if_pos h]
  split
  · decide
  · exact items_out _ (mergeO_tok h)
theorem merge_again {values : List (List UInt8)} {name : List UInt8} (h : mergeOK values name = true) : mergeOK [mergeS values name] name = true ∧ mergeS [mergeS values name] name = mergeS values name := by
  have hn : tokenOf name = true := by
    unfold mergeOK allV at h
    rw [List.all_append] at h
    simp at h
    exact h.2
  have hi := merge_items h
  have hall : allV [mergeS values name] name = itemsOf (mergeS values name) ++ [name] := by simp [allV]
  have hok : mergeOK [mergeS values name] name = true := by
    unfold mergeOK
    rw [hall, hi, List.all_append]
    split
    · simp [hn]; decide
    · rw [List.all_eq_true.2 (mergeO_tok h)]; simp [hn]
  refine ⟨hok, ?_⟩
  cases hs : inS (mergeO values name) [42] with
  | true =>
    rw [(merge_star h).2 hs]
    have : inS (mergeO [[42]] name) [42] = true := by
      rw [inS_mergeO]
      unfold allV
      rw [inS_append]
      have : inS ([[42]].flatMap itemsOf) [42] = true := by decide
      rw [this]; rfl
    have hok2 : mergeOK [[42]] name = true := by rw [(merge_star h).2 hs] at hok; exact hok
    exact (merge_star hok2).2 this
  | false =>
    have ho : mergeO [mergeS values name] name = mergeO values name := by
      have hnod : nodS (mergeO values name) := dedup_nod _ _ List.Pairwise.nil
      show dedup [] (allV [mergeS values name] name) = _
      rw [hall, hi, hs, if_neg Bool.false_ne_true, dedup_append, dedup_same _ [] (by simpa using hnod)]
      have hin : inS (mergeO values name) name = true := by rw [inS_mergeO, inS_name]
      simp only [List.nil_append, dedup, hin, if_true]
    have hse : mergeS values name = Lib.join (mergeO values name) [44, 32] := by unfold mergeS; rw [if_pos h, hs, if_neg Bool.false_ne_true]
    rw [hse] at hok ho ⊢
    unfold mergeS
    rw [if_pos hok, ho, hs, if_neg Bool.false_ne_true]
theorem merge_names {values : List (List UInt8)} {name : List UInt8} (h : mergeOK values name = true) (s : List UInt8) : namesOf (mergeS values name) s = (inS (mergeO values name) [42] || inS (mergeO values name) s) := by
  rw [names_in, merge_items h]
  cases hs : inS (mergeO values name) [42] with
  | true =>
    have : inS [[42]] [42] = true := by decide
    simp [this]
  | false => simp [hs]
theorem inS_flat (s : List UInt8) : ∀ values : List (List UInt8), inS (values.flatMap itemsOf) s = values.any fun v => inS (itemsOf v) s
  | [] => rfl
  | v :: r => by rw [List.flatMap_cons, inS_append, inS_flat s r, List.any_cons]
/-- What is named behind: what was named, or the name, or all. -/
theorem merge_was {values : List (List UInt8)} {name : List UInt8} (h : mergeOK values name = true) (s : List UInt8) :
    namesOf (mergeS values name) s = ((smallOf s == smallOf name || values.any fun v => namesOf v s) || decide (mergeS values name = [42])) := by
  rw [merge_names h]
  cases hs : inS (mergeO values name) [42] with
  | true => rw [decide_eq_true ((merge_star h).2 hs)]; simp
  | false =>
    rw [decide_eq_false (fun e => by rw [(merge_star h).1 e] at hs; cases hs)]
    have hno : ∀ v ∈ values, inS (itemsOf v) [42] = false := fun v hv => by
      rw [inS_mergeO] at hs
      unfold allV at hs
      rw [inS_append, inS_flat, Bool.or_eq_false_iff, List.any_eq_false] at hs
      simpa using hs.1 v hv
    have hv : (values.any fun v => namesOf v s) = values.any fun v => inS (itemsOf v) s := by
      rw [Bool.eq_iff_iff, List.any_eq_true, List.any_eq_true]
      constructor
      · rintro ⟨v, hv, h1⟩
        rw [names_in, hno v hv] at h1
        exact ⟨v, hv, h1⟩
      · rintro ⟨v, hv, h1⟩
        exact ⟨v, hv, by rw [names_in, h1]; simp⟩
    rw [hv, inS_mergeO]
    unfold allV
    rw [inS_append, inS_flat]
    have : inS [name] s = (smallOf s == smallOf name) := by simp [inS, Bool.beq_comm]
    rw [this, Bool.false_or, Bool.or_false, Bool.or_comm]
/-! ## How long -/
theorem dedup_sum : ∀ (l out : List (List UInt8)), lsum (dedup out l) ≤ lsum out + lsum l
  | [], out => by simp [dedup]
  | s :: r, out => by
    unfold dedup
    rw [lsum_cons]
    cases inS out s with
    | true => have := dedup_sum r out; simp only [if_true]; omega
    | false =>
      have := dedup_sum r (out ++ [s])
      rw [lsum_append] at this
      have h1 : lsum [s] = s.length + 1 := rfl
      simp only [Bool.false_eq_true, if_false]
      omega
theorem join2_length : ∀ l : List (List UInt8), (Lib.join l [44, 32]).length ≤ 2 * lsum l := fun l => by
  refine Nat.le_trans (join_length l [44, 32]) ?_
  induction l with
  | nil => simp
  | cons x r ih => rw [lsum_cons]; simp only [List.map_cons, List.sum_cons, List.length_cons, List.length_nil] at ih ⊢; omega
theorem allV_sum (values : List (List UInt8)) (name : List UInt8) : lsum (allV values name) ≤ (Lib.join values [44]).length + 1 + name.length + 1 := by
  unfold allV
  rw [lsum_append, ← items_of_join]
  have := items_sum (Lib.join values [44])
  have h1 : lsum [name] = name.length + 1 := rfl
  omega
theorem mergeS_length (values : List (List UInt8)) (name : List UInt8) : (mergeS values name).length ≤ 2 * ((Lib.join values [44]).length + name.length + 2) := by
  have h1 := allV_sum values name
  have h2 := dedup_sum (allV values name) []
  have h3 := join2_length (mergeO values name)
  have h4 : lsum [] = 0 := rfl
  unfold mergeO at h3
  unfold mergeS
  split
  · split
    · simp; omega
    · unfold mergeO; omega
  · simp
theorem join_snoc : ∀ (l : List (List UInt8)) (x sep : List UInt8), l ≠ [] → Lib.join (l ++ [x]) sep = Lib.join l sep ++ sep ++ x
  | [], _, _, h => absurd rfl h
  | [y], x, sep, _ => by rw [List.singleton_append, join_cons, Lib.join_one, Lib.join_one]
  | y :: z :: r, x, sep, _ => by
    rw [List.cons_append, List.cons_append, join_cons, ← List.cons_append, join_snoc (z :: r) x sep (by simp), join_cons]
    simp
end Go.Proofs.YtbgnogdlkmhnkaaGreatDoor
/- The laws of the first line, over byte lists. No program in sight. -/
namespace Go.Proofs.YtbgnogdlkmhnkaaGreatDoor

theorem made_x (marks : List UInt8) (h37 : marks.contains 37 = false) (x : UInt8) (r : List UInt8) (h : madeOf marks (x :: r) = true) :
    (x ≠ 37 ∧ plainB marks x = true ∧ madeOf marks r = true) ∨ ∃ a b t, x = 37 ∧ r = a :: b :: t ∧ hexB a = true ∧ hexB b = true ∧ madeOf marks t = true := by
  by_cases hx : x = 37
  · subst hx
    rw [made_37 marks h37] at h
    match r with
    | [] => cases h
    | [_] => cases h
    | a :: b :: t => simp only [Bool.and_eq_true] at h; exact .inr ⟨a, b, t, rfl, rfl, h.1.1, h.1.2, h.2⟩
  · rw [made_cons marks x r hx, Bool.and_eq_true] at h
    exact .inl ⟨hx, h.1, h.2⟩
theorem made_app (marks : List UInt8) (h37 : marks.contains 37 = false) : ∀ (n : Nat) (a b : List UInt8), a.length ≤ n → madeOf marks a = true → madeOf marks (a ++ b) = madeOf marks b
  | _, [], _, _, _ => rfl
  | 0, x :: r, _, hl, _ => by simp at hl
  | n + 1, x :: r, b, hl, h => by
    rcases made_x marks h37 x r h with ⟨hx, h1, h2⟩ | ⟨p, q, t, rfl, rfl, h1, h2, h3⟩
    · rw [List.cons_append, made_cons marks x _ hx, h1, made_app marks h37 n r b (by simpa using hl) h2]; rfl
    · rw [List.cons_append, List.cons_append, List.cons_append, made_37 marks h37]
      dsimp only
      rw [made_app marks h37 n t b (by simp at hl; omega) h3]
      simp [h1, h2]
theorem made_sub {m1 m2 : List UInt8} (h1 : m1.contains 37 = false) (h2 : m2.contains 37 = false) (hs : ∀ x, plainB m1 x = true → plainB m2 x = true) : ∀ (n : Nat) (a : List UInt8), a.length ≤ n → madeOf m1 a = true → madeOf m2 a = true
  | _, [], _, _ => rfl
  | 0, x :: r, hl, _ => by simp at hl
  | n + 1, x :: r, hl, h => by
    rcases made_x m1 h1 x r h with ⟨hx, h3, h4⟩ | ⟨p, q, t, rfl, rfl, h3, h4, h5⟩
    · rw [made_cons m2 x _ hx, hs x h3, made_sub h1 h2 hs n r (by simpa using hl) h4]; rfl
    · rw [made_37 m2 h2]
      dsimp only
      rw [made_sub h1 h2 hs n t (by simp at hl; omega) h5]
      simp [h3, h4]
/-- A byte that is neither plain, nor a digit, nor the sign of a quoted one, does not stand there. -/
theorem made_no {marks : List UInt8} (h37 : marks.contains 37 = false) {c : UInt8} (hc : plainB marks c = false) (hh : hexB c = false) (hc3 : c ≠ 37) : ∀ (n : Nat) (a : List UInt8), a.length ≤ n → madeOf marks a = true → c ∉ a
  | _, [], _, _ => by simp
  | 0, x :: r, hl, _ => by simp at hl
  | n + 1, x :: r, hl, h => by
    rcases made_x marks h37 x r h with ⟨hx, h3, h4⟩ | ⟨p, q, t, rfl, rfl, h3, h4, h5⟩
    · have ih := made_no h37 hc hh hc3 n r (by simpa using hl) h4
      intro hm
      rcases List.mem_cons.1 hm with e | e
      · rw [← e, hc] at h3; cases h3
      · exact ih e
    · have ih := made_no h37 hc hh hc3 n t (by simp at hl; omega) h5
      intro hm
      simp only [List.mem_cons] at hm
      rcases hm with e | e | e | e
      · exact hc3 e
      · rw [← e, hh] at h3; cases h3
      · rw [← e, hh] at h4; cases h4
      · exact ih e
theorem path_37 : pathL.contains 37 = false := by decide
theorem query_37 : queryL.contains 37 = false := by decide
theorem path_query {s : List UInt8} (h : pathOf s = true) : queryOf s = true := by
  unfold pathOf at h
  rw [Bool.and_eq_true] at h
  refine made_sub path_37 query_37 (fun x hx => ?_) s.length s (Nat.le_refl _) h.2
  unfold plainB at hx ⊢
  unfold queryL
  simp only [Bool.or_eq_true, List.contains_iff_mem, List.mem_append] at hx ⊢
  rcases hx with (h | h) | h
  · exact .inl (.inl h)
  · exact .inl (.inr h)
  · exact .inr (.inl h)
theorem query_app {a b : List UInt8} (ha : queryOf a = true) (hb : queryOf b = true) : queryOf (a ++ b) = true := by
  unfold queryOf
  rw [made_app _ query_37 a.length a b (Nat.le_refl _) ha]
  exact hb
theorem path_app {a b : List UInt8} (ha : pathOf a = true) (hb : pathOf b = true) : pathOf (a ++ b) = true := by
  unfold pathOf at *
  rw [Bool.and_eq_true] at *
  rw [made_app _ path_37 a.length a b (Nat.le_refl _) ha.2]
  refine ⟨?_, hb.2⟩
  cases a with
  | nil => exact hb.1
  | cons x r => exact ha.1
theorem path_head {s : List UInt8} (h : pathOf s = true) : ∃ r, s = 47 :: r := by
  unfold pathOf at h
  rw [Bool.and_eq_true] at h
  cases s with
  | nil => cases h.1
  | cons x r =>
    have := h.1
    simp at this
    exact ⟨r, by rw [this]⟩
theorem segs_app {a b : List UInt8} (ha : pathOf a = true) (hb : pathOf b = true) : segs (a ++ b) = segs a ++ segs b := by
  obtain ⟨r, rfl⟩ := path_head ha
  obtain ⟨t, rfl⟩ := path_head hb
  unfold segs
  simp only [List.cons_append, List.drop_succ_cons, List.drop_zero]
  rw [splitB_join, List.map_append]
/-! ## What is quoted -/
theorem quoteB_facts (x : UInt8) : (∀ y ∈ quoteB x, y ≠ 47) ∧ madeOf pathL (quoteB x) = true ∧ (quoteB x = [x] ∧ x ≠ 37 ∨ ∃ a b, quoteB x = [37, a, b] ∧ hexB a = true ∧ hexB b = true ∧ hexV a b = x) := by
  have : ∀ n : Fin 256, ((quoteB n.val.toUInt8).all fun y => y != 47) && madeOf pathL (quoteB n.val.toUInt8) && (match quoteB n.val.toUInt8 with | [y] => y == n.val.toUInt8 && y != 37 | [z, a, b] => z == 37 && hexB a && hexB b && hexV a b == n.val.toUInt8 | _ => false) = true := by decide +kernel
  have h := this ⟨x.toNat, x.toNat_lt⟩
  simp only [show x.toNat.toUInt8 = x by simp, Bool.and_eq_true] at h
  refine ⟨fun y hy => by have := List.all_eq_true.1 h.1.1 y hy; simpa using this, h.1.2, ?_⟩
  have h2 := h.2
  split at h2
  · rename_i y hy
    simp at h2
    exact .inl ⟨by rw [hy, h2.1], fun e => h2.2 (by rw [h2.1, e])⟩
  · rename_i z a b hy
    simp at h2
    exact .inr ⟨a, b, by rw [hy, h2.1.1.1], h2.1.1.2, h2.1.2, h2.2⟩
  · cases h2
theorem quote_slash (s : List UInt8) : 47 ∉ quoteOf s := by
  intro h
  obtain ⟨x, _, hx⟩ := List.mem_flatMap.1 h
  exact (quoteB_facts x).1 47 hx rfl
theorem made_quote : ∀ s : List UInt8, madeOf pathL (quoteOf s) = true
  | [] => rfl
  | x :: r => by
    unfold quoteOf
    rw [List.flatMap_cons, made_app _ path_37 _ _ _ (Nat.le_refl _) (quoteB_facts x).2.1]
    exact made_quote r
theorem unq_quote : ∀ s : List UInt8, unq (quoteOf s) = s
  | [] => rfl
  | x :: r => by
    have ih := unq_quote r
    unfold quoteOf at ih ⊢
    rw [List.flatMap_cons]
    rcases (quoteB_facts x).2.2 with ⟨h1, h2⟩ | ⟨a, b, h1, h2, h3, h4⟩
    · rw [h1, List.singleton_append, unq_cons x _ h2, ih]
    · rw [h1, show ([37, a, b] ++ List.flatMap quoteB r) = 37 :: a :: b :: List.flatMap quoteB r from rfl, unq_37 a b _ h2 h3, ih, h4]
def pathOfL (l : List (List UInt8)) : List UInt8 := l.flatMap fun s => 47 :: quoteOf s
theorem pathOfL_made : ∀ l : List (List UInt8), madeOf pathL (pathOfL l) = true
  | [] => rfl
  | x :: r => by
    unfold pathOfL
    rw [List.flatMap_cons, List.cons_append, made_cons pathL 47 _ (by decide), made_app _ path_37 _ _ _ (Nat.le_refl _) (made_quote x)]
    rw [show plainB pathL 47 = true by decide]
    exact pathOfL_made r
theorem pathOfL_path {l : List (List UInt8)} (h : l ≠ []) : pathOf (pathOfL l) = true := by
  unfold pathOf
  rw [pathOfL_made, Bool.and_true]
  cases l with
  | nil => exact absurd rfl h
  | cons x r => rfl
theorem splitB_quotes : ∀ (x : List UInt8) (r : List (List UInt8)), splitB 47 ((pathOfL (x :: r)).drop 1) = quoteOf x :: r.map quoteOf
  | x, [] => by
    unfold pathOfL
    simp only [List.flatMap_cons, List.flatMap_nil, List.append_nil, List.drop_succ_cons, List.drop_zero, List.map_nil]
    exact splitB_none 47 _ (quote_slash x)
  | x, y :: r => by
    have ih := splitB_quotes y r
    have e : (pathOfL (x :: y :: r)).drop 1 = quoteOf x ++ 47 :: (pathOfL (y :: r)).drop 1 := by
      unfold pathOfL
      simp
    rw [e, splitB_app 47 _ _ (quote_slash x), ih]
    rfl
theorem segs_quotes {l : List (List UInt8)} (h : l ≠ []) : segs (pathOfL l) = l := by
  cases l with
  | nil => exact absurd rfl h
  | cons x r =>
    unfold segs
    rw [splitB_quotes, List.map_cons, unq_quote, List.map_map]
    congr 1
    rw [show unq ∘ quoteOf = id from funext unq_quote, List.map_id]
/-! ## Written, and read again -/
theorem version_end {v : Int} (h : v = 0 ∨ v = 1) : versionOf ([72, 84, 84, 80, 47, 49, 46] ++ (if v = 0 then [48] else [49])) = some v := by rcases h with rfl | rfl <;> rfl
theorem method_facts {m : List UInt8} (h : methodOf m = true) : tokenOf m = true ∧ 32 ∉ m := by
  have : ∀ x ∈ methodsL, tokenOf x = true ∧ 32 ∉ x := by decide +kernel
  unfold methodOf at h
  rw [List.contains_iff_mem] at h
  exact this m h
theorem path_no {p : List UInt8} (h : pathOf p = true) : 32 ∉ p ∧ 63 ∉ p := by
  unfold pathOf at h
  rw [Bool.and_eq_true] at h
  exact ⟨made_no path_37 (by decide) (by decide) (by decide) p.length p (Nat.le_refl _) h.2, made_no path_37 (by decide) (by decide) (by decide) p.length p (Nat.le_refl _) h.2⟩
theorem query_no {q : List UInt8} (h : queryOf q = true) : 32 ∉ q := made_no query_37 (by decide) (by decide) (by decide) q.length q (Nat.le_refl _) h
theorem cutB_app (c : UInt8) (a b : List UInt8) (h : c ∉ a) : cutB c (a ++ c :: b) = (a, b, true) := by
  rw [cutB_at c (a ++ c :: b) a.length (by simpa using h) (by simp)]
  simp
theorem write_line {r : Rq} (h : writeOK r = true) : lineSt (writeL r) = 200 ∧ lineR (writeL r) = r := by
  unfold writeOK at h
  simp only [Bool.and_eq_true, decide_eq_true_eq] at h
  obtain ⟨⟨⟨⟨⟨hm, hp⟩, hq⟩, h0⟩, h1⟩, hl⟩ := h
  have hv : r.v = 0 ∨ r.v = 1 := by omega
  obtain ⟨ht, hm32⟩ := method_facts hm
  obtain ⟨hp32, hp63⟩ := path_no hp
  have hq32 := query_no hq
  have htg : 32 ∉ targetOf r := by
    unfold targetOf
    split
    · exact hp32
    · intro hx
      rcases List.mem_append.1 hx with h | h
      · exact hp32 h
      · rcases List.mem_cons.1 h with e | e
        · exact absurd e (by decide)
        · exact hq32 e
  have hw : writeL r = r.m ++ 32 :: (targetOf r ++ 32 :: ([72, 84, 84, 80, 47, 49, 46] ++ (if r.v = 0 then [48] else [49]))) := by unfold writeL; simp
  have c1 := cutB_app 32 r.m (targetOf r ++ 32 :: ([72, 84, 84, 80, 47, 49, 46] ++ (if r.v = 0 then [48] else [49]))) hm32
  have c2 := cutB_app 32 (targetOf r) ([72, 84, 84, 80, 47, 49, 46] ++ (if r.v = 0 then [48] else [49])) htg
  have c3 : (cutB 63 (targetOf r)).1 = r.p ∧ (cutB 63 (targetOf r)).2.1 = r.q := by
    unfold targetOf
    split
    · rename_i hq0
      rw [cutB_none 63 _ hp63]
      exact ⟨rfl, hq0.symm⟩
    · rw [cutB_app 63 r.p r.q hp63]
      exact ⟨rfl, rfl⟩
  have e : lineRq (writeL r) = r := by
    unfold lineRq lineTarget
    rw [hw, c1]
    simp only [c2, version_end hv, c3.1, c3.2, Option.getD_some]
  have hok : lineOK (writeL r) = true := by
    unfold lineOK
    rw [e]
    rw [hw] at hl ⊢
    rw [c1]
    simp only [c2, version_end hv, ht, hp, hq, decide_eq_true hl, Option.isSome_some, Bool.and_self]
  unfold lineSt lineR
  rw [hok, e, hm]
  exact ⟨rfl, rfl⟩
theorem cutB_yes (c : UInt8) : ∀ l : List UInt8, (cutB c l).2.2 = true → l = (cutB c l).1 ++ c :: (cutB c l).2.1 ∧ c ∉ (cutB c l).1
  | [], h => by cases h
  | x :: r, h => by
    unfold cutB at h ⊢
    split
    · rename_i hx; subst hx; simp
    · rename_i hx
      rw [if_neg hx] at h
      obtain ⟨h1, h2⟩ := cutB_yes c r h
      refine ⟨by simp only [List.cons_append]; rw [← h1], fun hm => ?_⟩
      rcases List.mem_cons.1 hm with e | e
      · exact hx e.symm
      · exact h2 e
theorem cutB_nope (c : UInt8) : ∀ l : List UInt8, (cutB c l).2.2 = false → (cutB c l).1 = l ∧ (cutB c l).2.1 = []
  | [], _ => ⟨rfl, rfl⟩
  | x :: r, h => by
    unfold cutB at h ⊢
    split
    · rename_i hx; rw [if_pos hx] at h; cases h
    · rename_i hx
      rw [if_neg hx] at h
      obtain ⟨h1, h2⟩ := cutB_nope c r h
      exact ⟨by rw [h1], h2⟩
theorem version_some {s : List UInt8} {v : Int} (h : versionOf s = some v) : (v = 0 ∨ v = 1) ∧ ∃ d, s = [72, 84, 84, 80, 47, 49, 46, d] := by
  unfold versionOf at h
  split at h
  · rename_i d
    split at h
    · have := Option.some.inj h
      refine ⟨?_, d, rfl⟩
      split at this <;> omega
    · cases h
  · cases h
/-- What a line tells is written as that line, but for an empty query's sign and the version's digit. -/
theorem line_write {s : List UInt8} (h : lineSt s = 200) : lineR s = lineRq s ∧ writeOK (lineRq s) = true ∧ (writeL (lineRq s)).length ≤ s.length ∧ ((writeL (lineRq s)).length < s.length ∨ (writeL (lineRq s)).take ((writeL (lineRq s)).length - 1) = s.take (s.length - 1)) := by
  have hok : lineOK s = true := by
    unfold lineSt at h
    split at h
    · assumption
    · cases h
  have hmo : methodOf (lineRq s).m = true := by
    unfold lineSt at h
    rw [if_pos hok] at h
    split at h
    · assumption
    · cases h
  have hr : lineR s = lineRq s := by unfold lineR; rw [hok, hmo]; rfl
  have hok' := hok
  unfold lineOK at hok
  simp only [Bool.and_eq_true, decide_eq_true_eq] at hok
  obtain ⟨⟨⟨⟨⟨⟨hl, h1⟩, h2⟩, h3⟩, ht⟩, hp⟩, hq⟩ := hok
  obtain ⟨e1, n1⟩ := cutB_yes 32 s h1
  obtain ⟨e2, n2⟩ := cutB_yes 32 _ h2
  obtain ⟨v, hv⟩ := Option.isSome_iff_exists.1 h3
  obtain ⟨hv01, d, hd⟩ := version_some hv
  have hrv : (lineRq s).v = v := by unfold lineRq; simp only [hv, Option.getD_some]
  have hrm : (lineRq s).m = (cutB 32 s).1 := rfl
  have htgt : lineTarget s = (cutB 32 (cutB 32 s).2.1).1 := rfl
  have hs : s = (lineRq s).m ++ 32 :: (lineTarget s ++ 32 :: [72, 84, 84, 80, 47, 49, 46, d]) := by rw [hrm, htgt, ← hd, ← e2]; exact e1
  have hw : writeL (lineRq s) = (lineRq s).m ++ 32 :: (targetOf (lineRq s) ++ 32 :: ([72, 84, 84, 80, 47, 49, 46] ++ (if (lineRq s).v = 0 then [48] else [49]))) := by unfold writeL; simp
  have htg : targetOf (lineRq s) = lineTarget s ∨ (targetOf (lineRq s)).length < (lineTarget s).length := by
    have hpq : (lineRq s).p = (cutB 63 (lineTarget s)).1 ∧ (lineRq s).q = (cutB 63 (lineTarget s)).2.1 := ⟨rfl, rfl⟩
    unfold targetOf
    rw [hpq.1, hpq.2]
    cases hc : (cutB 63 (lineTarget s)).2.2 with
    | true =>
      obtain ⟨e3, _⟩ := cutB_yes 63 _ hc
      split
      · right
        conv => rhs; rw [e3]
        simp
      · exact .inl e3.symm
    | false =>
      obtain ⟨e3, e4⟩ := cutB_nope 63 _ hc
      rw [e4, if_pos rfl]
      exact .inl e3
  have hone : ((if (lineRq s).v = 0 then [48] else [49]) : List UInt8).length = 1 := by split <;> rfl
  have hwl : (writeL (lineRq s)).length = (lineRq s).m.length + (targetOf (lineRq s)).length + 10 := by rw [hw]; simp only [List.length_append, List.length_cons, List.length_nil, hone]; omega
  have hsl : s.length = (lineRq s).m.length + (lineTarget s).length + 10 := by
    conv => lhs; rw [hs]
    simp only [List.length_append, List.length_cons, List.length_nil]; omega
  have hle : (writeL (lineRq s)).length ≤ s.length := by
    rcases htg with e | e
    · rw [e] at hwl; omega
    · omega
  refine ⟨hr, ?_, hle, ?_⟩
  · unfold writeOK
    simp only [hmo, hp, hq, hrv, Bool.and_eq_true, decide_eq_true_eq, true_and]
    omega
  · rcases htg with e | e
    · right
      have k : ∀ (x : UInt8) (a : List UInt8), (a ++ [x]).take ((a ++ [x]).length - 1) = a := fun x a => by simp
      obtain ⟨x, hx⟩ : ∃ x, (if (lineRq s).v = 0 then [48] else [49] : List UInt8) = [x] := by split <;> exact ⟨_, rfl⟩
      have w1 : writeL (lineRq s) = ((lineRq s).m ++ 32 :: (lineTarget s ++ 32 :: [72, 84, 84, 80, 47, 49, 46])) ++ [x] := by rw [hw, hx, e]; simp
      have w2 : s = ((lineRq s).m ++ 32 :: (lineTarget s ++ 32 :: [72, 84, 84, 80, 47, 49, 46])) ++ [d] := by
        conv => lhs; rw [hs]
        simp
      rw [w1, k]
      conv => rhs; rw [w2]
      rw [k]
    · left; omega
theorem line_not {s : List UInt8} (h : lineSt s ≠ 200) : (lineSt s = 400 ∨ lineSt s = 501) ∧ lineR s = rq0 := by
  unfold lineSt lineR at *
  cases h1 : lineOK s <;> cases h2 : methodOf (lineRq s).m <;> simp_all
end Go.Proofs.YtbgnogdlkmhnkaaGreatDoor
/- strings.Cut at one byte; strings.TrimRight of blanks; strings.ContainsAny of ASCII: reckoned. -/
namespace Go.Proofs.YtbgnogdlkmhnkaaGreatDoor.Vex
open Go Go.RowKit
set_option maxRecDepth 100000
set_option linter.unusedSectionVars false
variable {gI : GI} [HasMax gI]

theorem SLIndex1_f (l : List UInt8) (x : UInt8) : Fn Tryz.prog gI 88 [str l, str [x]] (.int .i64 (Lib.index l [x])) :=
  ⟨callable Tryz.func88 rfl (by kernel_rfl), fun w _ => (Tryz.stringslite_Index_one ⟨⟨l⟩⟩ x w).mono fun _ _ ⟨he, hw⟩ => ⟨by rw [he, Lib.index_one], by rw [hw]; exact R.refl _⟩⟩
theorem SLCut1_f (l : List UInt8) (x : UInt8) (hl : l.length ≤ 9223372036854775807) : Fn Tryz.prog gI 63 [str l, str [x]] (.tuple #[str (cutB x l).1, str (cutB x l).2.1, .bool (cutB x l).2.2]) := by
  rw [← cut_one]
  have hr := index_one x l
  refine Fn.of tys_ok Tryz.func63 rfl (by kernel_rfl) rfl rfl ?_; intro w hG
  (conv => whnf); repeat ((first | refine tk1 ?_ | refine tk2 ?_ | refine tk3 ?_ | refine tk12 (fun _ => ?_) | refine tk4 ?_ | refine tk5 ?_ | refine tk6 ?_ | refine tk7 ?_ | refine tk8 ?_ | refine tk9 ?_ | refine tk10 (fun _ _ => ?_) | refine tk11 (fun _ => ?_) | refine tk13 ?_ | refine tk14 ?_); (conv => whnf))
  refine CallK.fn (SLIndex1_f l x) ?_
  unfold Lib.cut
  rcases hr with ⟨h1, h2⟩ | ⟨k, h1, h2, h3, h4⟩
  · rw [h1]
    (conv => whnf); repeat ((first | refine tk1 ?_ | refine tk2 ?_ | refine tk3 ?_ | refine tk12 (fun _ => ?_) | refine tk4 ?_ | refine tk5 ?_ | refine tk6 ?_ | refine tk7 ?_ | refine tk8 ?_ | refine tk9 ?_ | refine tk10 (fun _ _ => ?_) | refine tk11 (fun _ => ?_) | refine tk13 ?_ | refine tk14 ?_); (conv => whnf))
    rfl
  · rw [h1]
    rw [if_pos (by omega)]
    have hkl : k < l.length := (List.getElem?_eq_some_iff.1 h4).1
    have hx1 : ([x] : List UInt8).length = 1 := rfl
    (conv => whnf); repeat ((first | refine tk1 ?_ | refine tk2 ?_ | refine tk3 ?_ | refine tk12 (fun _ => ?_) | refine tk4 ?_ | refine tk5 ?_ | refine tk6 ?_ | refine tk7 ?_ | refine tk8 ?_ | refine tk9 ?_ | refine tk10 (fun _ _ => ?_) | refine tk11 (fun _ => ?_) | refine tk13 ?_ | refine tk14 ?_); (conv => whnf))
    refine DrawS.go (qs 12) tys_ok mixed (by kernel_rfl) ?_
    (conv => whnf); repeat ((first | refine tk1 ?_ | refine tk2 ?_ | refine tk3 ?_ | refine tk12 (fun _ => ?_) | refine tk4 ?_ | refine tk5 ?_ | refine tk6 ?_ | refine tk7 ?_ | refine tk8 ?_ | refine tk9 ?_ | refine tk10 (fun _ _ => ?_) | refine tk11 (fun _ => ?_) | refine tk13 ?_ | refine tk14 ?_); (conv => whnf))
    refine SlcS.at (by omega) (by omega) (by omega) ?_
    (conv => whnf); repeat ((first | refine tk1 ?_ | refine tk2 ?_ | refine tk3 ?_ | refine tk12 (fun _ => ?_) | refine tk4 ?_ | refine tk5 ?_ | refine tk6 ?_ | refine tk7 ?_ | refine tk8 ?_ | refine tk9 ?_ | refine tk10 (fun _ _ => ?_) | refine tk11 (fun _ => ?_) | refine tk13 ?_ | refine tk14 ?_); (conv => whnf))
    refine SlcS.at (by omega) (by omega) (by omega) ?_
    (conv => whnf); repeat ((first | refine tk1 ?_ | refine tk2 ?_ | refine tk3 ?_ | refine tk12 (fun _ => ?_) | refine tk4 ?_ | refine tk5 ?_ | refine tk6 ?_ | refine tk7 ?_ | refine tk8 ?_ | refine tk9 ?_ | refine tk10 (fun _ _ => ?_) | refine tk11 (fun _ => ?_) | refine tk13 ?_ | refine tk14 ?_); (conv => whnf))
    simp
theorem Cut1_f (l : List UInt8) (x : UInt8) (hl : l.length ≤ 9223372036854775807) : Fn Tryz.prog gI 42 [str l, str [x]] (.tuple #[str (cutB x l).1, str (cutB x l).2.1, .bool (cutB x l).2.2]) := by
  refine Fn.of tys_ok Tryz.func42 rfl (by kernel_rfl) rfl rfl ?_; intro w hG
  (conv => whnf); repeat ((first | refine tk1 ?_ | refine tk2 ?_ | refine tk3 ?_ | refine tk12 (fun _ => ?_) | refine tk4 ?_ | refine tk5 ?_ | refine tk6 ?_ | refine tk7 ?_ | refine tk8 ?_ | refine tk9 ?_ | refine tk10 (fun _ _ => ?_) | refine tk11 (fun _ => ?_) | refine tk13 ?_ | refine tk14 ?_); (conv => whnf))
  refine CallK.fn (SLCut1_f l x hl) ?_
  (conv => whnf); repeat ((first | refine tk1 ?_ | refine tk2 ?_ | refine tk3 ?_ | refine tk12 (fun _ => ?_) | refine tk4 ?_ | refine tk5 ?_ | refine tk6 ?_ | refine tk7 ?_ | refine tk8 ?_ | refine tk9 ?_ | refine tk10 (fun _ _ => ?_) | refine tk11 (fun _ => ?_) | refine tk13 ?_ | refine tk14 ?_); (conv => whnf))
theorem trimR_eq (l : List UInt8) : Lib.trimRightS l [32, 9] = (l.reverse.dropWhile (fun x => x == 32 || x == 9)).reverse := by
  unfold Lib.trimRightS
  congr 2
  funext b
  simp
  rfl
theorem TrimR_f (l : List UInt8) (hl : l.length ≤ 1000000000) : Fn Tryz.prog gI 43 [str l, str [32, 9]] (str (l.reverse.dropWhile (fun x => x == 32 || x == 9)).reverse) :=
  ⟨callable Tryz.func43 rfl (by kernel_rfl), fun w _ => (Any.strings_TrimRight_laid Tryz.lays162 (by kernel_rfl) ⟨⟨l⟩⟩ ⟨#[32, 9]⟩ w (by show l.length ≤ _; omega) (by decide) (ascii_of_all (by decide))).mono fun _ _ ⟨he, hw⟩ => ⟨by rw [← trimR_eq]; exact he, hw⟩⟩
theorem SContainsAny_f (l p : List UInt8) (hl : l.length ≤ 1000000000) (hp : p.length ≤ 1000) (ha : ∀ x ∈ l, x.toNat < 128) (hb : ∀ x ∈ p, x.toNat < 128) : Fn Tryz.prog gI 45 [str l, str p] (.bool (Lib.containsAny l p)) :=
  ⟨callable Tryz.func45 rfl (by kernel_rfl), fun w _ => (Any.strings_ContainsAny_laid Tryz.lays150 (by kernel_rfl) ⟨⟨l⟩⟩ ⟨⟨p⟩⟩ w (by show l.length < _; omega) (by show p.length < _; omega) (fun j b h => ha b (List.mem_of_getElem? h)) (fun j b h => hb b (List.mem_of_getElem? h))).mono fun _ _ ⟨he, hw⟩ => ⟨he, hw⟩⟩
end Go.Proofs.YtbgnogdlkmhnkaaGreatDoor.Vex
/- The program's functions on first lines, reckoned. -/
namespace Go.Proofs.YtbgnogdlkmhnkaaGreatDoor.Vex
open Go Go.RowKit
set_option maxRecDepth 100000
set_option linter.unusedSectionVars false
variable {gI : GI} [HasMax gI] [HasErr gI]

theorem toErr_f (s : List UInt8) (bs k : Int) (hs : s.length ≤ 1000000000) (hk : k = 1 ∨ k = 2) : FnE Tryz.prog gI 69 [str [80, 97, 114, 115, 101, 85, 105, 110, 116], str s, .int .i64 16, .int .i64 bs, errV k] (fun _ => True) (fun _ v _ => ∃ te p, v = .iface te p) :=
  ⟨callable Tryz.func69 rfl (by kernel_rfl), fun w hG _ => by
    obtain ⟨⟨e1, c1, d1⟩, ⟨e2, c2, d2⟩⟩ := HasErr.ok w hG
    rcases hk with rfl | rfl
    · exact (Tryz.strconv_toError_range ⟨⟨_⟩⟩ ⟨⟨s⟩⟩ 16 bs e2 w (by show s.length ≤ _; omega) c2 d2).mono fun _ _ ⟨N, he, _, _, hb⟩ => ⟨_, he, ⟨_, _, rfl⟩, hb⟩
    · exact (Tryz.strconv_toError_syntax ⟨⟨_⟩⟩ ⟨⟨s⟩⟩ 16 bs e1 w (by show s.length ≤ _; omega) c1 d1).mono fun _ _ ⟨N, he, _, _, hb⟩ => ⟨_, he, ⟨_, _, rfl⟩, hb⟩⟩
theorem PU_f (l : List UInt8) (bs mx : Int) (hb : bs = 8 ∧ mx = 255 ∨ bs = 64 ∧ mx = 18446744073709551615) (hl : l.length ≤ 1000000000) :
    FnE Tryz.prog gI 44 [str l, .int .i64 16, .int .i64 bs] (fun _ => True) fun _ v _ => ((puV mx l).2 = 0 ∧ v = .tuple #[.int .u64 (puV mx l).1, .nilIface]) ∨ ((puV mx l).2 ≠ 0 ∧ ∃ te p, v = .tuple #[.int .u64 (puV mx l).1, .iface te p]) := by
  have hk : (puV mx l).2 = 0 ∨ (puV mx l).2 = 1 ∨ (puV mx l).2 = 2 := by
    unfold puV
    split
    · exact .inr (.inr rfl)
    · exact puGo_err mx l 0
  refine FnE.of tys_ok Tryz.func44 rfl (by kernel_rfl) rfl rfl ?_; intro w hG hP
  (conv => whnf); repeat ((first | refine tk1 ?_ | refine tk2 ?_ | refine tk3 ?_ | refine tk12 (fun _ => ?_) | refine tk4 ?_ | refine tk5 ?_ | refine tk6 ?_ | refine tk7 ?_ | refine tk8 ?_ | refine tk9 ?_ | refine tk10 (fun _ _ => ?_) | refine tk11 (fun _ => ?_) | refine tk13 ?_ | refine tk14 ?_); (conv => whnf))
  refine CallK.fn (Parse16_f l bs mx hb hl) ?_
  generalize hn : (puV mx l).1 = n at *
  generalize hq : (puV mx l).2 = k at *
  rcases hk with rfl | hk
  · (conv => whnf); repeat ((first | refine tk1 ?_ | refine tk2 ?_ | refine tk3 ?_ | refine tk12 (fun _ => ?_) | refine tk4 ?_ | refine tk5 ?_ | refine tk6 ?_ | refine tk7 ?_ | refine tk8 ?_ | refine tk9 ?_ | refine tk10 (fun _ _ => ?_) | refine tk11 (fun _ => ?_) | refine tk13 ?_ | refine tk14 ?_); (conv => whnf))
    refine OthP.ifNe tys_ok rfl rfl (v := errV 0) (b := true) rfl ?_
    (conv => whnf); repeat ((first | refine tk1 ?_ | refine tk2 ?_ | refine tk3 ?_ | refine tk12 (fun _ => ?_) | refine tk4 ?_ | refine tk5 ?_ | refine tk6 ?_ | refine tk7 ?_ | refine tk8 ?_ | refine tk9 ?_ | refine tk10 (fun _ _ => ?_) | refine tk11 (fun _ => ?_) | refine tk13 ?_ | refine tk14 ?_); (conv => whnf))
    exact fun w' _ => .inl ⟨rfl, rfl⟩
  · have hne : k ≠ 0 := by omega
    obtain ⟨tk, pk, he⟩ : ∃ tk pk, errV k = .iface tk pk := by rcases hk with rfl | rfl <;> exact ⟨_, _, rfl⟩
    have hte := toErr_f (gI := gI) l bs k hl hk
    rw [he] at hte ⊢
    (conv => whnf); repeat ((first | refine tk1 ?_ | refine tk2 ?_ | refine tk3 ?_ | refine tk12 (fun _ => ?_) | refine tk4 ?_ | refine tk5 ?_ | refine tk6 ?_ | refine tk7 ?_ | refine tk8 ?_ | refine tk9 ?_ | refine tk10 (fun _ _ => ?_) | refine tk11 (fun _ => ?_) | refine tk13 ?_ | refine tk14 ?_); (conv => whnf))
    refine OthP.ifNe tys_ok rfl rfl (v := .iface tk pk) rfl ?_
    (conv => whnf); repeat ((first | refine tk1 ?_ | refine tk2 ?_ | refine tk3 ?_ | refine tk12 (fun _ => ?_) | refine tk4 ?_ | refine tk5 ?_ | refine tk6 ?_ | refine tk7 ?_ | refine tk8 ?_ | refine tk9 ?_ | refine tk10 (fun _ _ => ?_) | refine tk11 (fun _ => ?_) | refine tk13 ?_ | refine tk14 ?_); (conv => whnf))
    refine CallK.fnE hte (fun _ _ => trivial) (fun w1 v w2 hs hv hr => ⟨_, hs.below hr, ?_⟩)
    obtain ⟨te, p, rfl⟩ := hv
    (conv => whnf); repeat ((first | refine tk1 ?_ | refine tk2 ?_ | refine tk3 ?_ | refine tk12 (fun _ => ?_) | refine tk4 ?_ | refine tk5 ?_ | refine tk6 ?_ | refine tk7 ?_ | refine tk8 ?_ | refine tk9 ?_ | refine tk10 (fun _ _ => ?_) | refine tk11 (fun _ => ?_) | refine tk13 ?_ | refine tk14 ?_); (conv => whnf))
    exact fun w' _ => .inr ⟨hne, te, p, rfl⟩
def codeV : List UInt8 → UInt8 × Bool
  | a :: b :: _ => if hexB a && hexB b then (hexV a b, true) else (0, false)
  | _ => (0, false)
theorem pu_two (a b : UInt8) : puV 255 [a, b] = if hexB a && hexB b then (16 * digI a.toNat + digI b.toNat, 0) else (0, 2) := by
  have h1 := dig_range a
  have h2 := dig_range b
  have e1 : hexB a = decide (0 ≤ digI a.toNat) := rfl
  have e2 : hexB b = decide (0 ≤ digI b.toNat) := rfl
  unfold puV
  rw [if_neg (by simp)]
  simp only [puGo]
  by_cases ha : 0 ≤ digI a.toNat
  · by_cases hb : 0 ≤ digI b.toNat
    · rw [e1, e2, decide_eq_true ha, decide_eq_true hb]
      rw [if_neg (by omega), if_neg (by omega), if_neg (by omega), if_neg (by omega), if_neg (by omega), if_neg (by omega)]
      simp only [Bool.and_self, if_true]
      congr 1
      omega
    · rw [e1, e2, decide_eq_true ha, decide_eq_false hb]
      rw [if_neg (by omega), if_neg (by omega), if_neg (by omega), if_pos (by omega)]
      simp
  · rw [e1, decide_eq_false ha, if_pos (by omega)]
    simp
theorem head_prefix (s : List UInt8) : Lib.hasPrefix s [47] = (s.head? == some 47) := by
  cases s with
  | nil => rfl
  | cons x r => simp [Lib.hasPrefix, List.isPrefixOf, Bool.beq_comm]
def verV (s : List UInt8) : Int × Bool := match versionOf s with | some v => (v, true) | none => (0, false)
end Go.Proofs.YtbgnogdlkmhnkaaGreatDoor.Vex
/- The program's functions on bodies in chunks, reckoned: line, number, size, end, trailer. -/
namespace Go.Proofs.YtbgnogdlkmhnkaaGreatDoor.Vex
open Go Go.RowKit
set_option maxRecDepth 100000
set_option linter.unusedSectionVars false
variable {gI : GI} [HasMax gI] [HasUtf gI] [HasErr gI]

/-- The memory of a body under way. -/
structure CMem where
  lA : Option Addr
  lc : Nat
  dA : Option Addr
  dc : Nat
def cHeap (b : Nat) (s : CSt) (d : List UInt8) (y : CMem) (X : Hp) : Hp :=
  .box b [.int .u8 (s.ph : Nat), .int .i64 s.left, .slice y.lA s.line.length y.lc, .int .i64 s.trail, .slice y.dA d.length y.dc] 45 ::
  .row (.slice y.lA s.line.length y.lc) 5 1 s.line.length (s.line.map byteV) :: .row (.slice y.dA d.length y.dc) 5 1 d.length (d.map byteV) :: X
theorem may_le {s : CSt} (h : chMay s = true) : s.ph ≤ 4 ∧ 0 ≤ s.left ∧ s.left < 16777216 ∧ 0 ≤ s.trail ∧ s.trail ≤ 256 ∧ s.line.length ≤ 300 := by
  obtain ⟨ph, left, line, trail⟩ := s
  have hb : line.length ≤ (bare line).length + 1 := by
    unfold bare
    split
    · rw [List.length_dropLast]; omega
    · omega
  unfold chMay lineMay leftMay trailMay at h
  dsimp only at h ⊢
  rcases (show ph = 0 ∨ ph = 1 ∨ ph = 2 ∨ ph = 3 ∨ ph = 4 ∨ 5 ≤ ph by omega) with rfl | rfl | rfl | rfl | rfl | hp
  · simp at h; omega
  · simp at h; rw [h.1] at *; simp; omega
  · simp at h; rw [h.1.2] at hb; simp at hb; omega
  · simp at h; omega
  · simp at h; rw [h.1] at *; simp; omega
  · rw [if_neg (by omega), if_neg (by omega), if_neg (by omega), if_neg (by omega)] at h
    simp at h
def lineT (l : List UInt8) (x : UInt8) : Value := .tuple #[str ((lineG l x).2.1.getD []), .bool (lineG l x).2.1.isSome, .int .i64 (lineG l x).2.2]
theorem line_k {c : Ctx} (hc : Ours Tryz.prog gI c) {b : Nat} {ph : Nat} {left trail : Int} {l d : List UInt8} {y : CMem} {x : UInt8} {X : Hp} {K : Value → Hp → Prop} (hl : l.length ≤ 200000)
    (k : ∀ y', K (lineT l x) (cHeap b ⟨ph, left, (lineG l x).1, trail⟩ d y' X)) : CallK c false 30 [.pointer (some ⟨b, 0, none⟩), .int .u8 x.toNat] (cHeap b ⟨ph, left, l, trail⟩ d y X) K := by
  obtain ⟨P, g, w0, M, hM, hG⟩ := c
  have hc' := hc
  obtain ⟨rfl, rfl⟩ := hc
  obtain ⟨lA, lc, dA, dc⟩ := y
  have hx := x.toNat_lt
  have hx10 : x = 10 ↔ x.toNat = 10 := by rw [← UInt8.toNat_inj]; rfl
  unfold cHeap
  dsimp only
  refine CallK.post ?_
  refine CallK.inl tys_ok Tryz.func30 rfl (by kernel_rfl) rfl rfl ?_
  (conv => whnf); repeat ((first | refine tk1 ?_ | refine tk2 ?_ | refine tk3 ?_ | refine tk12 (fun _ => ?_) | refine tk4 ?_ | refine tk5 ?_ | refine tk6 ?_ | refine tk7 ?_ | refine tk8 ?_ | refine tk9 ?_ | refine tk10 (fun _ _ => ?_) | refine tk11 (fun _ => ?_) | refine tk13 ?_ | refine tk14 ?_); (conv => whnf))
  rename_i b2
  refine Oth.same tys_ok rfl rfl rfl (fun o2 ho2 => ?_)
  have hR2 : ∀ H, RdA (⟨Tryz.prog, g, w0, M, hM, hG⟩) (.obj b2 o2 :: H) (some ⟨b2, 0, none⟩) _ := ho2.rd
  (conv => whnf); repeat ((first | refine tk1 ?_ | refine tk2 ?_ | refine tk3 ?_ | refine tk12 (fun _ => ?_) | refine tk4 ?_ | refine tk5 ?_ | refine tk6 ?_ | refine tk7 ?_ | refine tk8 ?_ | refine tk9 ?_ | refine tk10 (fun _ _ => ?_) | refine tk11 (fun _ => ?_) | refine tk13 ?_ | refine tk14 ?_); (conv => whnf))
  refine CallK.fnEV (HasSuffix_f lA (some ⟨b2, 0, none⟩) lc _ l (by omega)) (fun w1 hw1 => ⟨⟨RdA.ok (xs := l.map byteV) w1 hw1, RdA.ok (xs := [byteV 13]) w1 hw1, trivial⟩, row_cap (A := lA) (e := 5) (sz := 1) (n' := l.length) (xs := l.map byteV) hw1⟩) ?_
  cases hcr : crB l
  · by_cases h10 : x.toNat = 10
    · have e : lineG l x = (l, none, 3) := by simp [lineG, hcr, hx10.2 h10]
      rw [lineT, e] at k
      (conv => whnf); repeat ((first | refine tk1 ?_ | refine tk2 ?_ | refine tk3 ?_ | refine tk12 (fun _ => ?_) | refine tk4 ?_ | refine tk5 ?_ | refine tk6 ?_ | refine tk7 ?_ | refine tk8 ?_ | refine tk9 ?_ | refine tk10 (fun _ _ => ?_) | refine tk11 (fun _ => ?_) | refine tk13 ?_ | refine tk14 ?_); (conv => whnf))
      exact ⟨_, Cv.into (by (try dsimp only); repeat' (first | with_reducible exact Cv.refl | with_reducible exact Cv.left | with_reducible exact Cv.right | with_reducible exact Cv.nil | (with_reducible apply Cv.cons; focus ((repeat (first | with_reducible exact Pick.here | with_reducible apply Pick.skip)); done)) | (apply Cv.cons; focus ((repeat (first | exact Pick.here | apply Pick.skip)); done)) | exact Cv.nil | exact Cv.refl | exact Cv.left | exact Cv.right | refine Cv.skip ?_)), k ⟨lA, lc, dA, dc⟩⟩
    · have e : lineG l x = (l ++ [x], none, 0) := by simp [lineG, hcr, mt hx10.1 h10]
      rw [lineT, e] at k
      (conv => whnf); repeat ((first | refine tk1 ?_ | refine tk2 ?_ | refine tk3 ?_ | refine tk12 (fun _ => ?_) | refine tk4 ?_ | refine tk5 ?_ | refine tk6 ?_ | refine tk7 ?_ | refine tk8 ?_ | refine tk9 ?_ | refine tk10 (fun _ _ => ?_) | refine tk11 (fun _ => ?_) | refine tk13 ?_ | refine tk14 ?_); (conv => whnf))
      refine AppS.tc (m := 1) (news := [byteV x]) SrcK.tc rfl (by simp [Value.oneCell', byteV]) (by decide) (by omega) (by omega) (zs := (l ++ [x]).map byteV) (by rw [List.map_append]; rfl) (fun lA' lc' => ?_)
      rw [show l.length + 1 = (l ++ [x]).length by simp]
      (conv => whnf); repeat ((first | refine tk1 ?_ | refine tk2 ?_ | refine tk3 ?_ | refine tk12 (fun _ => ?_) | refine tk4 ?_ | refine tk5 ?_ | refine tk6 ?_ | refine tk7 ?_ | refine tk8 ?_ | refine tk9 ?_ | refine tk10 (fun _ _ => ?_) | refine tk11 (fun _ => ?_) | refine tk13 ?_ | refine tk14 ?_); (conv => whnf))
      refine ⟨_, ?_, k ⟨lA', lc', dA, dc⟩⟩
      exact Cv.into (by (try dsimp only); repeat' (first | with_reducible exact Cv.refl | with_reducible exact Cv.left | with_reducible exact Cv.right | with_reducible exact Cv.nil | (with_reducible apply Cv.cons; focus ((repeat (first | with_reducible exact Pick.here | with_reducible apply Pick.skip)); done)) | (apply Cv.cons; focus ((repeat (first | exact Pick.here | apply Pick.skip)); done)) | exact Cv.nil | exact Cv.refl | exact Cv.left | exact Cv.right | refine Cv.skip ?_))
  · have hb := bare_take l hcr
    by_cases h10 : x.toNat = 10
    · have e : lineG l x = ([], some (l.take (l.length - 1)), 0) := by simp [lineG, hcr, hx10.2 h10, List.dropLast_eq_take]
      rw [lineT, e] at k
      (conv => whnf); repeat ((first | refine tk1 ?_ | refine tk2 ?_ | refine tk3 ?_ | refine tk12 (fun _ => ?_) | refine tk4 ?_ | refine tk5 ?_ | refine tk6 ?_ | refine tk7 ?_ | refine tk8 ?_ | refine tk9 ?_ | refine tk10 (fun _ _ => ?_) | refine tk11 (fun _ => ?_) | refine tk13 ?_ | refine tk14 ?_); (conv => whnf))
      refine DrawS.go (qs 15) tys_ok mixed (by kernel_rfl) ?_
      (conv => whnf); repeat ((first | refine tk1 ?_ | refine tk2 ?_ | refine tk3 ?_ | refine tk12 (fun _ => ?_) | refine tk4 ?_ | refine tk5 ?_ | refine tk6 ?_ | refine tk7 ?_ | refine tk8 ?_ | refine tk9 ?_ | refine tk10 (fun _ _ => ?_) | refine tk11 (fun _ => ?_) | refine tk13 ?_ | refine tk14 ?_); (conv => whnf))
      refine SlcV.to (by omega) (by omega) ?_
      (conv => whnf); repeat ((first | refine tk1 ?_ | refine tk2 ?_ | refine tk3 ?_ | refine tk12 (fun _ => ?_) | refine tk4 ?_ | refine tk5 ?_ | refine tk6 ?_ | refine tk7 ?_ | refine tk8 ?_ | refine tk9 ?_ | refine tk10 (fun _ _ => ?_) | refine tk11 (fun _ => ?_) | refine tk13 ?_ | refine tk14 ?_); (conv => whnf))
      refine B2S.rd (l := l.take (l.length - 1)) (by rw [List.map_take]; exact RdS.take (RdA.ok (xs := l.map byteV)) _) (by rw [List.length_take]; omega) ?_
      (conv => whnf); repeat ((first | refine tk1 ?_ | refine tk2 ?_ | refine tk3 ?_ | refine tk12 (fun _ => ?_) | refine tk4 ?_ | refine tk5 ?_ | refine tk6 ?_ | refine tk7 ?_ | refine tk8 ?_ | refine tk9 ?_ | refine tk10 (fun _ _ => ?_) | refine tk11 (fun _ => ?_) | refine tk13 ?_ | refine tk14 ?_); (conv => whnf))
      exact ⟨_, Into.trans (Into.nilRow (e := 5) (sz := 1) Into.refl) (Cv.into (by (try dsimp only); repeat' (first | with_reducible exact Cv.refl | with_reducible exact Cv.left | with_reducible exact Cv.right | with_reducible exact Cv.nil | (with_reducible apply Cv.cons; focus ((repeat (first | with_reducible exact Pick.here | with_reducible apply Pick.skip)); done)) | (apply Cv.cons; focus ((repeat (first | exact Pick.here | apply Pick.skip)); done)) | exact Cv.nil | exact Cv.refl | exact Cv.left | exact Cv.right | refine Cv.skip ?_))), k ⟨none, 0, dA, dc⟩⟩
    · have e : lineG l x = (l, none, 3) := by simp [lineG, hcr]; intro h; exact absurd (hx10.1 h) h10
      rw [lineT, e] at k
      (conv => whnf); repeat ((first | refine tk1 ?_ | refine tk2 ?_ | refine tk3 ?_ | refine tk12 (fun _ => ?_) | refine tk4 ?_ | refine tk5 ?_ | refine tk6 ?_ | refine tk7 ?_ | refine tk8 ?_ | refine tk9 ?_ | refine tk10 (fun _ _ => ?_) | refine tk11 (fun _ => ?_) | refine tk13 ?_ | refine tk14 ?_); (conv => whnf))
      exact ⟨_, Cv.into (by (try dsimp only); repeat' (first | with_reducible exact Cv.refl | with_reducible exact Cv.left | with_reducible exact Cv.right | with_reducible exact Cv.nil | (with_reducible apply Cv.cons; focus ((repeat (first | with_reducible exact Pick.here | with_reducible apply Pick.skip)); done)) | (apply Cv.cons; focus ((repeat (first | exact Pick.here | apply Pick.skip)); done)) | exact Cv.nil | exact Cv.refl | exact Cv.left | exact Cv.right | refine Cv.skip ?_)), k ⟨lA, lc, dA, dc⟩⟩
end Go.Proofs.YtbgnogdlkmhnkaaGreatDoor.Vex
/- The program's functions on bodies in chunks, reckoned: number, size, end, trailer. -/
namespace Go.Proofs.YtbgnogdlkmhnkaaGreatDoor.Vex
open Go Go.RowKit
set_option maxRecDepth 100000
set_option linter.unusedSectionVars false
variable {gI : GI} [HasMax gI] [HasUtf gI] [HasErr gI]

theorem number_f (s : List UInt8) (hs : s.length ≤ 1000000) : Fn Tryz.prog gI 31 [str s] (.tuple #[.int .i64 (if numC s < 0 then 0 else numC s), .int .i64 (if numC s < 0 then 3 else 0)]) := by
  refine Fn.of tys_ok Tryz.func31 rfl (by kernel_rfl) rfl rfl ?_; intro w hG
  have hct := cutB_length 59 s
  have htr : Fn Tryz.prog gI 43 [str (cutB 59 s).1, str [32, 9]] (str (digsOf s)) := TrimR_f (gI := gI) (cutB 59 s).1 (by omega)
  have hdl := digsOf_le s
  have hpu := PU_f (gI := gI) (digsOf s) 64 mx64 (.inr ⟨rfl, rfl⟩) (by omega)
  have hval := Value_f (gI := gI) ([46] ++ (cutB 59 s).2.1 ++ [46]) (by simp; omega)
  have hnum : numC s = if decide (1 ≤ (digsOf s).length) && (decide ((digsOf s).length ≤ 6) && ((digsOf s).all hexB && (!(cutB 59 s).2.2 || valueOf ([46] ++ (cutB 59 s).2.1 ++ [46])))) then hexN (digsOf s) else -1 := rfl
  have hpd := fun h => pu_digs (digsOf s) h
  have hasc : (digsOf s).all hexB = true → Fn Tryz.prog gI 45 [str (digsOf s), str [43, 45, 95]] (.bool false) := fun h => by
    have := SContainsAny_f (gI := gI) (digsOf s) [43, 45, 95] (by omega) (by decide) (hex_ascii h) (by decide)
    rw [hex_noAny _ h] at this
    exact this
  have hex0 : (digsOf s).all hexB = true → 0 ≤ hexN (digsOf s) := fun h => (hexN_lt (digsOf s) 0 h (Int.le_refl _)).1
  have hlt := numC_range s
  (conv => whnf); repeat ((first | refine tk1 ?_ | refine tk2 ?_ | refine tk3 ?_ | refine tk12 (fun _ => ?_) | refine tk4 ?_ | refine tk5 ?_ | refine tk6 ?_ | refine tk7 ?_ | refine tk8 ?_ | refine tk9 ?_ | refine tk10 (fun _ _ => ?_) | refine tk11 (fun _ => ?_) | refine tk13 ?_ | refine tk14 ?_); (conv => whnf))
  refine CallK.fn (Cut1_f s 59 (by omega)) ?_
  generalize digsOf s = dg at *
  generalize hmore : (cutB 59 s).2.1 = more at *
  generalize his : (cutB 59 s).2.2 = is at *
  (conv => whnf); repeat ((first | refine tk1 ?_ | refine tk2 ?_ | refine tk3 ?_ | refine tk12 (fun _ => ?_) | refine tk4 ?_ | refine tk5 ?_ | refine tk6 ?_ | refine tk7 ?_ | refine tk8 ?_ | refine tk9 ?_ | refine tk10 (fun _ _ => ?_) | refine tk11 (fun _ => ?_) | refine tk13 ?_ | refine tk14 ?_); (conv => whnf))
  refine CallK.fn htr ?_
  (conv => whnf); repeat ((first | refine tk1 ?_ | refine tk2 ?_ | refine tk3 ?_ | refine tk12 (fun _ => ?_) | refine tk4 ?_ | refine tk5 ?_ | refine tk6 ?_ | refine tk7 ?_ | refine tk8 ?_ | refine tk9 ?_ | refine tk10 (fun _ _ => ?_) | refine tk11 (fun _ => ?_) | refine tk13 ?_ | refine tk14 ?_); (conv => whnf))
  refine CallK.fnE hpu (fun _ _ => trivial) (fun w1 v w2 hs hv hr => ⟨_, hs.below hr, ?_⟩)
  by_cases h6 : dg.length ≤ 6
  · have hp := hpd h6
    rcases hv with ⟨h0, rfl⟩ | ⟨h0, te, p, rfl⟩
    · have hh := hp.1.1 h0
      rw [hp.2 h0]
      rw [decide_eq_true hh.1, decide_eq_true h6, hh.2] at hnum
      simp only [Bool.true_and] at hnum
      have hx0 := hex0 hh.2
      (conv => whnf); repeat ((first | refine tk1 ?_ | refine tk2 ?_ | refine tk3 ?_ | refine tk12 (fun _ => ?_) | refine tk4 ?_ | refine tk5 ?_ | refine tk6 ?_ | refine tk7 ?_ | refine tk8 ?_ | refine tk9 ?_ | refine tk10 (fun _ _ => ?_) | refine tk11 (fun _ => ?_) | refine tk13 ?_ | refine tk14 ?_); (conv => whnf))
      refine OthP.ifNe tys_ok rfl rfl (v := .nilIface) rfl ?_
      (conv => whnf); repeat ((first | refine tk1 ?_ | refine tk2 ?_ | refine tk3 ?_ | refine tk12 (fun _ => ?_) | refine tk4 ?_ | refine tk5 ?_ | refine tk6 ?_ | refine tk7 ?_ | refine tk8 ?_ | refine tk9 ?_ | refine tk10 (fun _ _ => ?_) | refine tk11 (fun _ => ?_) | refine tk13 ?_ | refine tk14 ?_); (conv => whnf))
      refine CallK.fn (hasc hh.2) ?_
      cases is
      · simp only [Bool.not_false, Bool.true_or, if_true] at hnum
        rw [hnum] at hlt ⊢
        rw [if_neg (by omega), if_neg (by omega)]
        (conv => whnf); repeat ((first | refine tk1 ?_ | refine tk2 ?_ | refine tk3 ?_ | refine tk12 (fun _ => ?_) | refine tk4 ?_ | refine tk5 ?_ | refine tk6 ?_ | refine tk7 ?_ | refine tk8 ?_ | refine tk9 ?_ | refine tk10 (fun _ _ => ?_) | refine tk11 (fun _ => ?_) | refine tk13 ?_ | refine tk14 ?_); (conv => whnf))
      · simp only [Bool.not_true, Bool.false_or] at hnum
        (conv => whnf); repeat ((first | refine tk1 ?_ | refine tk2 ?_ | refine tk3 ?_ | refine tk12 (fun _ => ?_) | refine tk4 ?_ | refine tk5 ?_ | refine tk6 ?_ | refine tk7 ?_ | refine tk8 ?_ | refine tk9 ?_ | refine tk10 (fun _ _ => ?_) | refine tk11 (fun _ => ?_) | refine tk13 ?_ | refine tk14 ?_); (conv => whnf))
        refine CatS.at (by simp; omega) ?_
        (conv => whnf); repeat ((first | refine tk1 ?_ | refine tk2 ?_ | refine tk3 ?_ | refine tk12 (fun _ => ?_) | refine tk4 ?_ | refine tk5 ?_ | refine tk6 ?_ | refine tk7 ?_ | refine tk8 ?_ | refine tk9 ?_ | refine tk10 (fun _ _ => ?_) | refine tk11 (fun _ => ?_) | refine tk13 ?_ | refine tk14 ?_); (conv => whnf))
        refine CatS.at (by simp; omega) ?_
        (conv => whnf); repeat ((first | refine tk1 ?_ | refine tk2 ?_ | refine tk3 ?_ | refine tk12 (fun _ => ?_) | refine tk4 ?_ | refine tk5 ?_ | refine tk6 ?_ | refine tk7 ?_ | refine tk8 ?_ | refine tk9 ?_ | refine tk10 (fun _ _ => ?_) | refine tk11 (fun _ => ?_) | refine tk13 ?_ | refine tk14 ?_); (conv => whnf))
        refine CallK.fn hval ?_
        cases hvo : valueOf ([46] ++ more ++ [46])
        · rw [hvo] at hnum
          simp only [Bool.false_eq_true, if_false] at hnum
          rw [hnum]
          (conv => whnf); repeat ((first | refine tk1 ?_ | refine tk2 ?_ | refine tk3 ?_ | refine tk12 (fun _ => ?_) | refine tk4 ?_ | refine tk5 ?_ | refine tk6 ?_ | refine tk7 ?_ | refine tk8 ?_ | refine tk9 ?_ | refine tk10 (fun _ _ => ?_) | refine tk11 (fun _ => ?_) | refine tk13 ?_ | refine tk14 ?_); (conv => whnf))
          rfl
        · rw [hvo] at hnum
          simp only [if_true] at hnum
          rw [hnum] at hlt ⊢
          rw [if_neg (by omega), if_neg (by omega)]
          (conv => whnf); repeat ((first | refine tk1 ?_ | refine tk2 ?_ | refine tk3 ?_ | refine tk12 (fun _ => ?_) | refine tk4 ?_ | refine tk5 ?_ | refine tk6 ?_ | refine tk7 ?_ | refine tk8 ?_ | refine tk9 ?_ | refine tk10 (fun _ _ => ?_) | refine tk11 (fun _ => ?_) | refine tk13 ?_ | refine tk14 ?_); (conv => whnf))
    · have hn : numC s = -1 := by
        rw [hnum, if_neg]
        intro h
        simp only [Bool.and_eq_true, decide_eq_true_eq] at h
        exact h0 (hp.1.2 ⟨h.1, h.2.2.1⟩)
      rw [hn]
      (conv => whnf); repeat ((first | refine tk1 ?_ | refine tk2 ?_ | refine tk3 ?_ | refine tk12 (fun _ => ?_) | refine tk4 ?_ | refine tk5 ?_ | refine tk6 ?_ | refine tk7 ?_ | refine tk8 ?_ | refine tk9 ?_ | refine tk10 (fun _ _ => ?_) | refine tk11 (fun _ => ?_) | refine tk13 ?_ | refine tk14 ?_); (conv => whnf))
      refine OthP.ifNe tys_ok rfl rfl (v := .iface te p) rfl ?_
      (conv => whnf); repeat ((first | refine tk1 ?_ | refine tk2 ?_ | refine tk3 ?_ | refine tk12 (fun _ => ?_) | refine tk4 ?_ | refine tk5 ?_ | refine tk6 ?_ | refine tk7 ?_ | refine tk8 ?_ | refine tk9 ?_ | refine tk10 (fun _ _ => ?_) | refine tk11 (fun _ => ?_) | refine tk13 ?_ | refine tk14 ?_); (conv => whnf))
      rfl
  · rw [decide_eq_false h6] at hnum
    simp only [Bool.false_and, Bool.and_false, Bool.false_eq_true, if_false] at hnum
    rw [hnum]
    rcases hv with ⟨h0, rfl⟩ | ⟨h0, te, p, rfl⟩
    · (conv => whnf); repeat ((first | refine tk1 ?_ | refine tk2 ?_ | refine tk3 ?_ | refine tk12 (fun _ => ?_) | refine tk4 ?_ | refine tk5 ?_ | refine tk6 ?_ | refine tk7 ?_ | refine tk8 ?_ | refine tk9 ?_ | refine tk10 (fun _ _ => ?_) | refine tk11 (fun _ => ?_) | refine tk13 ?_ | refine tk14 ?_); (conv => whnf))
      refine OthP.ifNe tys_ok rfl rfl (v := .nilIface) rfl ?_
      (conv => whnf); repeat ((first | refine tk1 ?_ | refine tk2 ?_ | refine tk3 ?_ | refine tk12 (fun _ => ?_) | refine tk4 ?_ | refine tk5 ?_ | refine tk6 ?_ | refine tk7 ?_ | refine tk8 ?_ | refine tk9 ?_ | refine tk10 (fun _ _ => ?_) | refine tk11 (fun _ => ?_) | refine tk13 ?_ | refine tk14 ?_); (conv => whnf))
      rfl
    · (conv => whnf); repeat ((first | refine tk1 ?_ | refine tk2 ?_ | refine tk3 ?_ | refine tk12 (fun _ => ?_) | refine tk4 ?_ | refine tk5 ?_ | refine tk6 ?_ | refine tk7 ?_ | refine tk8 ?_ | refine tk9 ?_ | refine tk10 (fun _ _ => ?_) | refine tk11 (fun _ => ?_) | refine tk13 ?_ | refine tk14 ?_); (conv => whnf))
      refine OthP.ifNe tys_ok rfl rfl (v := .iface te p) rfl ?_
      (conv => whnf); repeat ((first | refine tk1 ?_ | refine tk2 ?_ | refine tk3 ?_ | refine tk12 (fun _ => ?_) | refine tk4 ?_ | refine tk5 ?_ | refine tk6 ?_ | refine tk7 ?_ | refine tk8 ?_ | refine tk9 ?_ | refine tk10 (fun _ _ => ?_) | refine tk11 (fun _ => ?_) | refine tk13 ?_ | refine tk14 ?_); (conv => whnf))
      rfl
theorem size_k {c : Ctx} (hc : Ours Tryz.prog gI c) {b : Nat} {s : CSt} {d : List UInt8} {y : CMem} {x : UInt8} {X : Hp} {K : Value → Hp → Prop} (hm : chMay s = true) (hp : s.ph = 0)
    (k : ∀ y', K (.int .i64 (oneG s x).2) (cHeap b (oneG s x).1 d y' X)) : CallK c false 19 [.pointer (some ⟨b, 0, none⟩), .int .u8 x.toNat] (cHeap b s d y X) K := by
  obtain ⟨P, g, w0, M, hM, hG⟩ := c
  have hc' := hc
  obtain ⟨rfl, rfl⟩ := hc
  obtain ⟨lA, lc, dA, dc⟩ := y
  have hml := may_le hm
  obtain ⟨ph, left, line, trail⟩ := s
  dsimp only at hp hml
  subst hp
  have hx := x.toNat_lt
  have hx10 : x = 10 ↔ x.toNat = 10 := by rw [← UInt8.toNat_inj]; rfl
  have hx13 : x = 13 ↔ x.toNat = 13 := by rw [← UInt8.toNat_inj]; rfl
  unfold oneG at k
  simp only [if_true] at k
  unfold cHeap
  dsimp only
  refine CallK.post ?_
  refine CallK.inl tys_ok Tryz.func19 rfl (by kernel_rfl) rfl rfl ?_
  by_cases h64 : line.length = 64
  rotate_left
  · rw [if_neg (fun h => h64 h.1)] at k
    (conv => whnf); repeat ((first | refine tk1 ?_ | refine tk2 ?_ | refine tk3 ?_ | refine tk12 (fun _ => ?_) | refine tk4 ?_ | refine tk5 ?_ | refine tk6 ?_ | refine tk7 ?_ | refine tk8 ?_ | refine tk9 ?_ | refine tk10 (fun _ _ => ?_) | refine tk11 (fun _ => ?_) | refine tk13 ?_ | refine tk14 ?_); (conv => whnf))
    refine line_k hc' (ph := 0) (left := left) (trail := trail) (l := line) (d := d) (y := ⟨lA, lc, dA, dc⟩) (x := x) (by omega) (fun y' => ?_)
    rcases lineG_cases line x with ⟨h1, h2, e⟩ | e | ⟨h1, h2, e⟩ <;> rw [e] at k <;> rw [lineT, e] <;> unfold cHeap <;> dsimp only at k ⊢
    · have hdl : line.dropLast.length ≤ line.length := by rw [List.length_dropLast]; omega
      (conv => whnf); repeat ((first | refine tk1 ?_ | refine tk2 ?_ | refine tk3 ?_ | refine tk12 (fun _ => ?_) | refine tk4 ?_ | refine tk5 ?_ | refine tk6 ?_ | refine tk7 ?_ | refine tk8 ?_ | refine tk9 ?_ | refine tk10 (fun _ _ => ?_) | refine tk11 (fun _ => ?_) | refine tk13 ?_ | refine tk14 ?_); (conv => whnf))
      refine CallK.fn (number_f line.dropLast (by omega)) ?_
      by_cases n1 : numC line.dropLast < 0
      · rw [if_pos n1] at k
        rw [if_pos n1, if_pos n1]
        (conv => whnf); repeat ((first | refine tk1 ?_ | refine tk2 ?_ | refine tk3 ?_ | refine tk12 (fun _ => ?_) | refine tk4 ?_ | refine tk5 ?_ | refine tk6 ?_ | refine tk7 ?_ | refine tk8 ?_ | refine tk9 ?_ | refine tk10 (fun _ _ => ?_) | refine tk11 (fun _ => ?_) | refine tk13 ?_ | refine tk14 ?_); (conv => whnf))
        exact ⟨_, Cv.into (by (try dsimp only); repeat' (first | with_reducible exact Cv.refl | with_reducible exact Cv.left | with_reducible exact Cv.right | with_reducible exact Cv.nil | (with_reducible apply Cv.cons; focus ((repeat (first | with_reducible exact Pick.here | with_reducible apply Pick.skip)); done)) | (apply Cv.cons; focus ((repeat (first | exact Pick.here | apply Pick.skip)); done)) | exact Cv.nil | exact Cv.refl | exact Cv.left | exact Cv.right | refine Cv.skip ?_)), k y'⟩
      rw [if_neg n1] at k
      rw [if_neg n1, if_neg n1]
      have hnr := numC_range line.dropLast
      by_cases n2 : numC line.dropLast = 0
      · rw [if_pos n2] at k
        rw [n2]
        (conv => whnf); repeat ((first | refine tk1 ?_ | refine tk2 ?_ | refine tk3 ?_ | refine tk12 (fun _ => ?_) | refine tk4 ?_ | refine tk5 ?_ | refine tk6 ?_ | refine tk7 ?_ | refine tk8 ?_ | refine tk9 ?_ | refine tk10 (fun _ _ => ?_) | refine tk11 (fun _ => ?_) | refine tk13 ?_ | refine tk14 ?_); (conv => whnf))
        exact ⟨_, Cv.into (by (try dsimp only); repeat' (first | with_reducible exact Cv.refl | with_reducible exact Cv.left | with_reducible exact Cv.right | with_reducible exact Cv.nil | (with_reducible apply Cv.cons; focus ((repeat (first | with_reducible exact Pick.here | with_reducible apply Pick.skip)); done)) | (apply Cv.cons; focus ((repeat (first | exact Pick.here | apply Pick.skip)); done)) | exact Cv.nil | exact Cv.refl | exact Cv.left | exact Cv.right | refine Cv.skip ?_)), k y'⟩
      · rw [if_neg n2] at k
        (conv => whnf); repeat ((first | refine tk1 ?_ | refine tk2 ?_ | refine tk3 ?_ | refine tk12 (fun _ => ?_) | refine tk4 ?_ | refine tk5 ?_ | refine tk6 ?_ | refine tk7 ?_ | refine tk8 ?_ | refine tk9 ?_ | refine tk10 (fun _ _ => ?_) | refine tk11 (fun _ => ?_) | refine tk13 ?_ | refine tk14 ?_); (conv => whnf))
        exact ⟨_, Cv.into (by (try dsimp only); repeat' (first | with_reducible exact Cv.refl | with_reducible exact Cv.left | with_reducible exact Cv.right | with_reducible exact Cv.nil | (with_reducible apply Cv.cons; focus ((repeat (first | with_reducible exact Pick.here | with_reducible apply Pick.skip)); done)) | (apply Cv.cons; focus ((repeat (first | exact Pick.here | apply Pick.skip)); done)) | exact Cv.nil | exact Cv.refl | exact Cv.left | exact Cv.right | refine Cv.skip ?_)), k y'⟩
    · (conv => whnf); repeat ((first | refine tk1 ?_ | refine tk2 ?_ | refine tk3 ?_ | refine tk12 (fun _ => ?_) | refine tk4 ?_ | refine tk5 ?_ | refine tk6 ?_ | refine tk7 ?_ | refine tk8 ?_ | refine tk9 ?_ | refine tk10 (fun _ _ => ?_) | refine tk11 (fun _ => ?_) | refine tk13 ?_ | refine tk14 ?_); (conv => whnf))
      exact ⟨_, Cv.into (by (try dsimp only); repeat' (first | with_reducible exact Cv.refl | with_reducible exact Cv.left | with_reducible exact Cv.right | with_reducible exact Cv.nil | (with_reducible apply Cv.cons; focus ((repeat (first | with_reducible exact Pick.here | with_reducible apply Pick.skip)); done)) | (apply Cv.cons; focus ((repeat (first | exact Pick.here | apply Pick.skip)); done)) | exact Cv.nil | exact Cv.refl | exact Cv.left | exact Cv.right | refine Cv.skip ?_)), k y'⟩
    · (conv => whnf); repeat ((first | refine tk1 ?_ | refine tk2 ?_ | refine tk3 ?_ | refine tk12 (fun _ => ?_) | refine tk4 ?_ | refine tk5 ?_ | refine tk6 ?_ | refine tk7 ?_ | refine tk8 ?_ | refine tk9 ?_ | refine tk10 (fun _ _ => ?_) | refine tk11 (fun _ => ?_) | refine tk13 ?_ | refine tk14 ?_); (conv => whnf))
      exact ⟨_, Cv.into (by (try dsimp only); repeat' (first | with_reducible exact Cv.refl | with_reducible exact Cv.left | with_reducible exact Cv.right | with_reducible exact Cv.nil | (with_reducible apply Cv.cons; focus ((repeat (first | with_reducible exact Pick.here | with_reducible apply Pick.skip)); done)) | (apply Cv.cons; focus ((repeat (first | exact Pick.here | apply Pick.skip)); done)) | exact Cv.nil | exact Cv.refl | exact Cv.left | exact Cv.right | refine Cv.skip ?_)), k y'⟩
  by_cases h13 : x.toNat = 13
  · rw [if_neg (fun h => h.2.1 (hx13.2 h13))] at k
    (conv => whnf); repeat ((first | refine tk1 ?_ | refine tk2 ?_ | refine tk3 ?_ | refine tk12 (fun _ => ?_) | refine tk4 ?_ | refine tk5 ?_ | refine tk6 ?_ | refine tk7 ?_ | refine tk8 ?_ | refine tk9 ?_ | refine tk10 (fun _ _ => ?_) | refine tk11 (fun _ => ?_) | refine tk13 ?_ | refine tk14 ?_); (conv => whnf))
    refine line_k hc' (ph := 0) (left := left) (trail := trail) (l := line) (d := d) (y := ⟨lA, lc, dA, dc⟩) (x := x) (by omega) (fun y' => ?_)
    rcases lineG_cases line x with ⟨h1, h2, e⟩ | e | ⟨h1, h2, e⟩ <;> rw [e] at k <;> rw [lineT, e] <;> unfold cHeap <;> dsimp only at k ⊢
    · have hdl : line.dropLast.length ≤ line.length := by rw [List.length_dropLast]; omega
      (conv => whnf); repeat ((first | refine tk1 ?_ | refine tk2 ?_ | refine tk3 ?_ | refine tk12 (fun _ => ?_) | refine tk4 ?_ | refine tk5 ?_ | refine tk6 ?_ | refine tk7 ?_ | refine tk8 ?_ | refine tk9 ?_ | refine tk10 (fun _ _ => ?_) | refine tk11 (fun _ => ?_) | refine tk13 ?_ | refine tk14 ?_); (conv => whnf))
      refine CallK.fn (number_f line.dropLast (by omega)) ?_
      by_cases n1 : numC line.dropLast < 0
      · rw [if_pos n1] at k
        rw [if_pos n1, if_pos n1]
        (conv => whnf); repeat ((first | refine tk1 ?_ | refine tk2 ?_ | refine tk3 ?_ | refine tk12 (fun _ => ?_) | refine tk4 ?_ | refine tk5 ?_ | refine tk6 ?_ | refine tk7 ?_ | refine tk8 ?_ | refine tk9 ?_ | refine tk10 (fun _ _ => ?_) | refine tk11 (fun _ => ?_) | refine tk13 ?_ | refine tk14 ?_); (conv => whnf))
        exact ⟨_, Cv.into (by (try dsimp only); repeat' (first | with_reducible exact Cv.refl | with_reducible exact Cv.left | with_reducible exact Cv.right | with_reducible exact Cv.nil | (with_reducible apply Cv.cons; focus ((repeat (first | with_reducible exact Pick.here | with_reducible apply Pick.skip)); done)) | (apply Cv.cons; focus ((repeat (first | exact Pick.here | apply Pick.skip)); done)) | exact Cv.nil | exact Cv.refl | exact Cv.left | exact Cv.right | refine Cv.skip ?_)), k y'⟩
      rw [if_neg n1] at k
      rw [if_neg n1, if_neg n1]
      have hnr := numC_range line.dropLast
      by_cases n2 : numC line.dropLast = 0
      · rw [if_pos n2] at k
        rw [n2]
        (conv => whnf); repeat ((first | refine tk1 ?_ | refine tk2 ?_ | refine tk3 ?_ | refine tk12 (fun _ => ?_) | refine tk4 ?_ | refine tk5 ?_ | refine tk6 ?_ | refine tk7 ?_ | refine tk8 ?_ | refine tk9 ?_ | refine tk10 (fun _ _ => ?_) | refine tk11 (fun _ => ?_) | refine tk13 ?_ | refine tk14 ?_); (conv => whnf))
        exact ⟨_, Cv.into (by (try dsimp only); repeat' (first | with_reducible exact Cv.refl | with_reducible exact Cv.left | with_reducible exact Cv.right | with_reducible exact Cv.nil | (with_reducible apply Cv.cons; focus ((repeat (first | with_reducible exact Pick.here | with_reducible apply Pick.skip)); done)) | (apply Cv.cons; focus ((repeat (first | exact Pick.here | apply Pick.skip)); done)) | exact Cv.nil | exact Cv.refl | exact Cv.left | exact Cv.right | refine Cv.skip ?_)), k y'⟩
      · rw [if_neg n2] at k
        (conv => whnf); repeat ((first | refine tk1 ?_ | refine tk2 ?_ | refine tk3 ?_ | refine tk12 (fun _ => ?_) | refine tk4 ?_ | refine tk5 ?_ | refine tk6 ?_ | refine tk7 ?_ | refine tk8 ?_ | refine tk9 ?_ | refine tk10 (fun _ _ => ?_) | refine tk11 (fun _ => ?_) | refine tk13 ?_ | refine tk14 ?_); (conv => whnf))
        exact ⟨_, Cv.into (by (try dsimp only); repeat' (first | with_reducible exact Cv.refl | with_reducible exact Cv.left | with_reducible exact Cv.right | with_reducible exact Cv.nil | (with_reducible apply Cv.cons; focus ((repeat (first | with_reducible exact Pick.here | with_reducible apply Pick.skip)); done)) | (apply Cv.cons; focus ((repeat (first | exact Pick.here | apply Pick.skip)); done)) | exact Cv.nil | exact Cv.refl | exact Cv.left | exact Cv.right | refine Cv.skip ?_)), k y'⟩
    · (conv => whnf); repeat ((first | refine tk1 ?_ | refine tk2 ?_ | refine tk3 ?_ | refine tk12 (fun _ => ?_) | refine tk4 ?_ | refine tk5 ?_ | refine tk6 ?_ | refine tk7 ?_ | refine tk8 ?_ | refine tk9 ?_ | refine tk10 (fun _ _ => ?_) | refine tk11 (fun _ => ?_) | refine tk13 ?_ | refine tk14 ?_); (conv => whnf))
      exact ⟨_, Cv.into (by (try dsimp only); repeat' (first | with_reducible exact Cv.refl | with_reducible exact Cv.left | with_reducible exact Cv.right | with_reducible exact Cv.nil | (with_reducible apply Cv.cons; focus ((repeat (first | with_reducible exact Pick.here | with_reducible apply Pick.skip)); done)) | (apply Cv.cons; focus ((repeat (first | exact Pick.here | apply Pick.skip)); done)) | exact Cv.nil | exact Cv.refl | exact Cv.left | exact Cv.right | refine Cv.skip ?_)), k y'⟩
    · (conv => whnf); repeat ((first | refine tk1 ?_ | refine tk2 ?_ | refine tk3 ?_ | refine tk12 (fun _ => ?_) | refine tk4 ?_ | refine tk5 ?_ | refine tk6 ?_ | refine tk7 ?_ | refine tk8 ?_ | refine tk9 ?_ | refine tk10 (fun _ _ => ?_) | refine tk11 (fun _ => ?_) | refine tk13 ?_ | refine tk14 ?_); (conv => whnf))
      exact ⟨_, Cv.into (by (try dsimp only); repeat' (first | with_reducible exact Cv.refl | with_reducible exact Cv.left | with_reducible exact Cv.right | with_reducible exact Cv.nil | (with_reducible apply Cv.cons; focus ((repeat (first | with_reducible exact Pick.here | with_reducible apply Pick.skip)); done)) | (apply Cv.cons; focus ((repeat (first | exact Pick.here | apply Pick.skip)); done)) | exact Cv.nil | exact Cv.refl | exact Cv.left | exact Cv.right | refine Cv.skip ?_)), k y'⟩
  by_cases h10 : x.toNat = 10
  · rw [if_neg (fun h => h.2.2.1 (hx10.2 h10))] at k
    (conv => whnf); repeat ((first | refine tk1 ?_ | refine tk2 ?_ | refine tk3 ?_ | refine tk12 (fun _ => ?_) | refine tk4 ?_ | refine tk5 ?_ | refine tk6 ?_ | refine tk7 ?_ | refine tk8 ?_ | refine tk9 ?_ | refine tk10 (fun _ _ => ?_) | refine tk11 (fun _ => ?_) | refine tk13 ?_ | refine tk14 ?_); (conv => whnf))
    refine line_k hc' (ph := 0) (left := left) (trail := trail) (l := line) (d := d) (y := ⟨lA, lc, dA, dc⟩) (x := x) (by omega) (fun y' => ?_)
    rcases lineG_cases line x with ⟨h1, h2, e⟩ | e | ⟨h1, h2, e⟩ <;> rw [e] at k <;> rw [lineT, e] <;> unfold cHeap <;> dsimp only at k ⊢
    · have hdl : line.dropLast.length ≤ line.length := by rw [List.length_dropLast]; omega
      (conv => whnf); repeat ((first | refine tk1 ?_ | refine tk2 ?_ | refine tk3 ?_ | refine tk12 (fun _ => ?_) | refine tk4 ?_ | refine tk5 ?_ | refine tk6 ?_ | refine tk7 ?_ | refine tk8 ?_ | refine tk9 ?_ | refine tk10 (fun _ _ => ?_) | refine tk11 (fun _ => ?_) | refine tk13 ?_ | refine tk14 ?_); (conv => whnf))
      refine CallK.fn (number_f line.dropLast (by omega)) ?_
      by_cases n1 : numC line.dropLast < 0
      · rw [if_pos n1] at k
        rw [if_pos n1, if_pos n1]
        (conv => whnf); repeat ((first | refine tk1 ?_ | refine tk2 ?_ | refine tk3 ?_ | refine tk12 (fun _ => ?_) | refine tk4 ?_ | refine tk5 ?_ | refine tk6 ?_ | refine tk7 ?_ | refine tk8 ?_ | refine tk9 ?_ | refine tk10 (fun _ _ => ?_) | refine tk11 (fun _ => ?_) | refine tk13 ?_ | refine tk14 ?_); (conv => whnf))
        exact ⟨_, Cv.into (by (try dsimp only); repeat' (first | with_reducible exact Cv.refl | with_reducible exact Cv.left | with_reducible exact Cv.right | with_reducible exact Cv.nil | (with_reducible apply Cv.cons; focus ((repeat (first | with_reducible exact Pick.here | with_reducible apply Pick.skip)); done)) | (apply Cv.cons; focus ((repeat (first | exact Pick.here | apply Pick.skip)); done)) | exact Cv.nil | exact Cv.refl | exact Cv.left | exact Cv.right | refine Cv.skip ?_)), k y'⟩
      rw [if_neg n1] at k
      rw [if_neg n1, if_neg n1]
      have hnr := numC_range line.dropLast
      by_cases n2 : numC line.dropLast = 0
      · rw [if_pos n2] at k
        rw [n2]
        (conv => whnf); repeat ((first | refine tk1 ?_ | refine tk2 ?_ | refine tk3 ?_ | refine tk12 (fun _ => ?_) | refine tk4 ?_ | refine tk5 ?_ | refine tk6 ?_ | refine tk7 ?_ | refine tk8 ?_ | refine tk9 ?_ | refine tk10 (fun _ _ => ?_) | refine tk11 (fun _ => ?_) | refine tk13 ?_ | refine tk14 ?_); (conv => whnf))
        exact ⟨_, Cv.into (by (try dsimp only); repeat' (first | with_reducible exact Cv.refl | with_reducible exact Cv.left | with_reducible exact Cv.right | with_reducible exact Cv.nil | (with_reducible apply Cv.cons; focus ((repeat (first | with_reducible exact Pick.here | with_reducible apply Pick.skip)); done)) | (apply Cv.cons; focus ((repeat (first | exact Pick.here | apply Pick.skip)); done)) | exact Cv.nil | exact Cv.refl | exact Cv.left | exact Cv.right | refine Cv.skip ?_)), k y'⟩
      · rw [if_neg n2] at k
        (conv => whnf); repeat ((first | refine tk1 ?_ | refine tk2 ?_ | refine tk3 ?_ | refine tk12 (fun _ => ?_) | refine tk4 ?_ | refine tk5 ?_ | refine tk6 ?_ | refine tk7 ?_ | refine tk8 ?_ | refine tk9 ?_ | refine tk10 (fun _ _ => ?_) | refine tk11 (fun _ => ?_) | refine tk13 ?_ | refine tk14 ?_); (conv => whnf))
        exact ⟨_, Cv.into (by (try dsimp only); repeat' (first | with_reducible exact Cv.refl | with_reducible exact Cv.left | with_reducible exact Cv.right | with_reducible exact Cv.nil | (with_reducible apply Cv.cons; focus ((repeat (first | with_reducible exact Pick.here | with_reducible apply Pick.skip)); done)) | (apply Cv.cons; focus ((repeat (first | exact Pick.here | apply Pick.skip)); done)) | exact Cv.nil | exact Cv.refl | exact Cv.left | exact Cv.right | refine Cv.skip ?_)), k y'⟩
    · (conv => whnf); repeat ((first | refine tk1 ?_ | refine tk2 ?_ | refine tk3 ?_ | refine tk12 (fun _ => ?_) | refine tk4 ?_ | refine tk5 ?_ | refine tk6 ?_ | refine tk7 ?_ | refine tk8 ?_ | refine tk9 ?_ | refine tk10 (fun _ _ => ?_) | refine tk11 (fun _ => ?_) | refine tk13 ?_ | refine tk14 ?_); (conv => whnf))
      exact ⟨_, Cv.into (by (try dsimp only); repeat' (first | with_reducible exact Cv.refl | with_reducible exact Cv.left | with_reducible exact Cv.right | with_reducible exact Cv.nil | (with_reducible apply Cv.cons; focus ((repeat (first | with_reducible exact Pick.here | with_reducible apply Pick.skip)); done)) | (apply Cv.cons; focus ((repeat (first | exact Pick.here | apply Pick.skip)); done)) | exact Cv.nil | exact Cv.refl | exact Cv.left | exact Cv.right | refine Cv.skip ?_)), k y'⟩
    · (conv => whnf); repeat ((first | refine tk1 ?_ | refine tk2 ?_ | refine tk3 ?_ | refine tk12 (fun _ => ?_) | refine tk4 ?_ | refine tk5 ?_ | refine tk6 ?_ | refine tk7 ?_ | refine tk8 ?_ | refine tk9 ?_ | refine tk10 (fun _ _ => ?_) | refine tk11 (fun _ => ?_) | refine tk13 ?_ | refine tk14 ?_); (conv => whnf))
      exact ⟨_, Cv.into (by (try dsimp only); repeat' (first | with_reducible exact Cv.refl | with_reducible exact Cv.left | with_reducible exact Cv.right | with_reducible exact Cv.nil | (with_reducible apply Cv.cons; focus ((repeat (first | with_reducible exact Pick.here | with_reducible apply Pick.skip)); done)) | (apply Cv.cons; focus ((repeat (first | exact Pick.here | apply Pick.skip)); done)) | exact Cv.nil | exact Cv.refl | exact Cv.left | exact Cv.right | refine Cv.skip ?_)), k y'⟩
  (conv => whnf); repeat ((first | refine tk1 ?_ | refine tk2 ?_ | refine tk3 ?_ | refine tk12 (fun _ => ?_) | refine tk4 ?_ | refine tk5 ?_ | refine tk6 ?_ | refine tk7 ?_ | refine tk8 ?_ | refine tk9 ?_ | refine tk10 (fun _ _ => ?_) | refine tk11 (fun _ => ?_) | refine tk13 ?_ | refine tk14 ?_); (conv => whnf))
  rename_i b2
  refine Oth.same tys_ok rfl rfl rfl (fun o2 ho2 => ?_)
  have hR2 : ∀ H, RdA (⟨Tryz.prog, g, w0, M, hM, hG⟩ : Ctx) (.obj b2 o2 :: H) (some ⟨b2, 0, none⟩) _ := ho2.rd
  (conv => whnf); repeat ((first | refine tk1 ?_ | refine tk2 ?_ | refine tk3 ?_ | refine tk12 (fun _ => ?_) | refine tk4 ?_ | refine tk5 ?_ | refine tk6 ?_ | refine tk7 ?_ | refine tk8 ?_ | refine tk9 ?_ | refine tk10 (fun _ _ => ?_) | refine tk11 (fun _ => ?_) | refine tk13 ?_ | refine tk14 ?_); (conv => whnf))
  refine CallK.fnEV (HasSuffix_f lA (some ⟨b2, 0, none⟩) lc _ line (by omega)) (fun w1 hw1 => ⟨⟨RdA.ok (xs := line.map byteV) w1 hw1, RdA.ok (xs := [byteV 13]) w1 hw1, trivial⟩, row_cap (A := lA) (e := 5) (sz := 1) (n' := line.length) (xs := line.map byteV) hw1⟩) ?_
  cases hcr : crB line
  · rw [if_pos ⟨h64, mt hx13.1 h13, mt hx10.1 h10, hcr⟩] at k
    (conv => whnf); repeat ((first | refine tk1 ?_ | refine tk2 ?_ | refine tk3 ?_ | refine tk12 (fun _ => ?_) | refine tk4 ?_ | refine tk5 ?_ | refine tk6 ?_ | refine tk7 ?_ | refine tk8 ?_ | refine tk9 ?_ | refine tk10 (fun _ _ => ?_) | refine tk11 (fun _ => ?_) | refine tk13 ?_ | refine tk14 ?_); (conv => whnf))
    exact ⟨_, Cv.into (by (try dsimp only); repeat' (first | with_reducible exact Cv.refl | with_reducible exact Cv.left | with_reducible exact Cv.right | with_reducible exact Cv.nil | (with_reducible apply Cv.cons; focus ((repeat (first | with_reducible exact Pick.here | with_reducible apply Pick.skip)); done)) | (apply Cv.cons; focus ((repeat (first | exact Pick.here | apply Pick.skip)); done)) | exact Cv.nil | exact Cv.refl | exact Cv.left | exact Cv.right | refine Cv.skip ?_)), k ⟨lA, lc, dA, dc⟩⟩
  · rw [if_neg (fun h => by have := h.2.2.2; rw [hcr] at this; cases this)] at k
    (conv => whnf); repeat ((first | refine tk1 ?_ | refine tk2 ?_ | refine tk3 ?_ | refine tk12 (fun _ => ?_) | refine tk4 ?_ | refine tk5 ?_ | refine tk6 ?_ | refine tk7 ?_ | refine tk8 ?_ | refine tk9 ?_ | refine tk10 (fun _ _ => ?_) | refine tk11 (fun _ => ?_) | refine tk13 ?_ | refine tk14 ?_); (conv => whnf))
    refine CallK.into (G := cHeap b ⟨0, left, line, trail⟩ d ⟨lA, lc, dA, dc⟩ X) (Cv.into (by (try dsimp only); repeat' (first | with_reducible exact Cv.refl | with_reducible exact Cv.left | with_reducible exact Cv.right | with_reducible exact Cv.nil | (with_reducible apply Cv.cons; focus ((repeat (first | with_reducible exact Pick.here | with_reducible apply Pick.skip)); done)) | (apply Cv.cons; focus ((repeat (first | exact Pick.here | apply Pick.skip)); done)) | exact Cv.nil | exact Cv.refl | exact Cv.left | exact Cv.right | refine Cv.skip ?_))) ?_
    refine line_k hc' (ph := 0) (left := left) (trail := trail) (l := line) (d := d) (y := ⟨lA, lc, dA, dc⟩) (x := x) (by omega) (fun y' => ?_)
    rcases lineG_cases line x with ⟨h1, h2, e⟩ | e | ⟨h1, h2, e⟩ <;> rw [e] at k <;> rw [lineT, e] <;> unfold cHeap <;> dsimp only at k ⊢
    · have hdl : line.dropLast.length ≤ line.length := by rw [List.length_dropLast]; omega
      (conv => whnf); repeat ((first | refine tk1 ?_ | refine tk2 ?_ | refine tk3 ?_ | refine tk12 (fun _ => ?_) | refine tk4 ?_ | refine tk5 ?_ | refine tk6 ?_ | refine tk7 ?_ | refine tk8 ?_ | refine tk9 ?_ | refine tk10 (fun _ _ => ?_) | refine tk11 (fun _ => ?_) | refine tk13 ?_ | refine tk14 ?_); (conv => whnf))
      refine CallK.fn (number_f line.dropLast (by omega)) ?_
      by_cases n1 : numC line.dropLast < 0
      · rw [if_pos n1] at k
        rw [if_pos n1, if_pos n1]
        (conv => whnf); repeat ((first | refine tk1 ?_ | refine tk2 ?_ | refine tk3 ?_ | refine tk12 (fun _ => ?_) | refine tk4 ?_ | refine tk5 ?_ | refine tk6 ?_ | refine tk7 ?_ | refine tk8 ?_ | refine tk9 ?_ | refine tk10 (fun _ _ => ?_) | refine tk11 (fun _ => ?_) | refine tk13 ?_ | refine tk14 ?_); (conv => whnf))
        exact ⟨_, Cv.into (by (try dsimp only); repeat' (first | with_reducible exact Cv.refl | with_reducible exact Cv.left | with_reducible exact Cv.right | with_reducible exact Cv.nil | (with_reducible apply Cv.cons; focus ((repeat (first | with_reducible exact Pick.here | with_reducible apply Pick.skip)); done)) | (apply Cv.cons; focus ((repeat (first | exact Pick.here | apply Pick.skip)); done)) | exact Cv.nil | exact Cv.refl | exact Cv.left | exact Cv.right | refine Cv.skip ?_)), k y'⟩
      rw [if_neg n1] at k
      rw [if_neg n1, if_neg n1]
      have hnr := numC_range line.dropLast
      by_cases n2 : numC line.dropLast = 0
      · rw [if_pos n2] at k
        rw [n2]
        (conv => whnf); repeat ((first | refine tk1 ?_ | refine tk2 ?_ | refine tk3 ?_ | refine tk12 (fun _ => ?_) | refine tk4 ?_ | refine tk5 ?_ | refine tk6 ?_ | refine tk7 ?_ | refine tk8 ?_ | refine tk9 ?_ | refine tk10 (fun _ _ => ?_) | refine tk11 (fun _ => ?_) | refine tk13 ?_ | refine tk14 ?_); (conv => whnf))
        exact ⟨_, Cv.into (by (try dsimp only); repeat' (first | with_reducible exact Cv.refl | with_reducible exact Cv.left | with_reducible exact Cv.right | with_reducible exact Cv.nil | (with_reducible apply Cv.cons; focus ((repeat (first | with_reducible exact Pick.here | with_reducible apply Pick.skip)); done)) | (apply Cv.cons; focus ((repeat (first | exact Pick.here | apply Pick.skip)); done)) | exact Cv.nil | exact Cv.refl | exact Cv.left | exact Cv.right | refine Cv.skip ?_)), k y'⟩
      · rw [if_neg n2] at k
        (conv => whnf); repeat ((first | refine tk1 ?_ | refine tk2 ?_ | refine tk3 ?_ | refine tk12 (fun _ => ?_) | refine tk4 ?_ | refine tk5 ?_ | refine tk6 ?_ | refine tk7 ?_ | refine tk8 ?_ | refine tk9 ?_ | refine tk10 (fun _ _ => ?_) | refine tk11 (fun _ => ?_) | refine tk13 ?_ | refine tk14 ?_); (conv => whnf))
        exact ⟨_, Cv.into (by (try dsimp only); repeat' (first | with_reducible exact Cv.refl | with_reducible exact Cv.left | with_reducible exact Cv.right | with_reducible exact Cv.nil | (with_reducible apply Cv.cons; focus ((repeat (first | with_reducible exact Pick.here | with_reducible apply Pick.skip)); done)) | (apply Cv.cons; focus ((repeat (first | exact Pick.here | apply Pick.skip)); done)) | exact Cv.nil | exact Cv.refl | exact Cv.left | exact Cv.right | refine Cv.skip ?_)), k y'⟩
    · (conv => whnf); repeat ((first | refine tk1 ?_ | refine tk2 ?_ | refine tk3 ?_ | refine tk12 (fun _ => ?_) | refine tk4 ?_ | refine tk5 ?_ | refine tk6 ?_ | refine tk7 ?_ | refine tk8 ?_ | refine tk9 ?_ | refine tk10 (fun _ _ => ?_) | refine tk11 (fun _ => ?_) | refine tk13 ?_ | refine tk14 ?_); (conv => whnf))
      exact ⟨_, Cv.into (by (try dsimp only); repeat' (first | with_reducible exact Cv.refl | with_reducible exact Cv.left | with_reducible exact Cv.right | with_reducible exact Cv.nil | (with_reducible apply Cv.cons; focus ((repeat (first | with_reducible exact Pick.here | with_reducible apply Pick.skip)); done)) | (apply Cv.cons; focus ((repeat (first | exact Pick.here | apply Pick.skip)); done)) | exact Cv.nil | exact Cv.refl | exact Cv.left | exact Cv.right | refine Cv.skip ?_)), k y'⟩
    · (conv => whnf); repeat ((first | refine tk1 ?_ | refine tk2 ?_ | refine tk3 ?_ | refine tk12 (fun _ => ?_) | refine tk4 ?_ | refine tk5 ?_ | refine tk6 ?_ | refine tk7 ?_ | refine tk8 ?_ | refine tk9 ?_ | refine tk10 (fun _ _ => ?_) | refine tk11 (fun _ => ?_) | refine tk13 ?_ | refine tk14 ?_); (conv => whnf))
      exact ⟨_, Cv.into (by (try dsimp only); repeat' (first | with_reducible exact Cv.refl | with_reducible exact Cv.left | with_reducible exact Cv.right | with_reducible exact Cv.nil | (with_reducible apply Cv.cons; focus ((repeat (first | with_reducible exact Pick.here | with_reducible apply Pick.skip)); done)) | (apply Cv.cons; focus ((repeat (first | exact Pick.here | apply Pick.skip)); done)) | exact Cv.nil | exact Cv.refl | exact Cv.left | exact Cv.right | refine Cv.skip ?_)), k y'⟩
end Go.Proofs.YtbgnogdlkmhnkaaGreatDoor.Vex
/- The program's functions on bodies in chunks, reckoned: end, trailer, one byte. -/
namespace Go.Proofs.YtbgnogdlkmhnkaaGreatDoor.Vex
open Go Go.RowKit
set_option maxRecDepth 100000
set_option linter.unusedSectionVars false
variable {gI : GI} [HasMax gI] [HasUtf gI] [HasErr gI]

theorem end_k {c : Ctx} (hc : Ours Tryz.prog gI c) {b : Nat} {s : CSt} {d : List UInt8} {y : CMem} {x : UInt8} {X : Hp} {K : Value → Hp → Prop} (hm : chMay s = true) (hp : s.ph = 2)
    (k : ∀ y', K (.int .i64 (oneG s x).2) (cHeap b (oneG s x).1 d y' X)) : CallK c false 20 [.pointer (some ⟨b, 0, none⟩), .int .u8 x.toNat] (cHeap b s d y X) K := by
  obtain ⟨P, g, w0, M, hM, hG⟩ := c
  have hc' := hc
  obtain ⟨rfl, rfl⟩ := hc
  obtain ⟨lA, lc, dA, dc⟩ := y
  have hml := may_le hm
  obtain ⟨ph, left, line, trail⟩ := s
  dsimp only at hp hml
  subst hp
  have hx := x.toNat_lt
  have hx13 : x = 13 ↔ x.toNat = 13 := by rw [← UInt8.toNat_inj]; rfl
  unfold oneG at k
  simp only [if_true, show ¬ (2 = 0) by decide, show ¬ (3 = 0) by decide, show ¬ (3 = 2) by decide, if_false] at k
  unfold cHeap
  dsimp only
  refine CallK.post ?_
  refine CallK.inl tys_ok Tryz.func20 rfl (by kernel_rfl) rfl rfl ?_
  by_cases h0 : line.length = 0
  · have hl0 := List.eq_nil_of_length_eq_zero h0
    by_cases h13 : x.toNat = 13
    · rw [if_neg (fun h => h.2 (hx13.2 h13))] at k
      (conv => whnf); repeat ((first | refine tk1 ?_ | refine tk2 ?_ | refine tk3 ?_ | refine tk12 (fun _ => ?_) | refine tk4 ?_ | refine tk5 ?_ | refine tk6 ?_ | refine tk7 ?_ | refine tk8 ?_ | refine tk9 ?_ | refine tk10 (fun _ _ => ?_) | refine tk11 (fun _ => ?_) | refine tk13 ?_ | refine tk14 ?_); (conv => whnf))
      refine line_k hc' (ph := 2) (left := left) (trail := trail) (l := line) (d := d) (y := ⟨lA, lc, dA, dc⟩) (x := x) (by omega) (fun y' => ?_)
      rcases lineG_cases line x with ⟨h1, h2, e⟩ | e | ⟨h1, h2, e⟩ <;> rw [e] at k <;> rw [lineT, e] <;> unfold cHeap <;> dsimp only at k ⊢
      · (conv => whnf); repeat ((first | refine tk1 ?_ | refine tk2 ?_ | refine tk3 ?_ | refine tk12 (fun _ => ?_) | refine tk4 ?_ | refine tk5 ?_ | refine tk6 ?_ | refine tk7 ?_ | refine tk8 ?_ | refine tk9 ?_ | refine tk10 (fun _ _ => ?_) | refine tk11 (fun _ => ?_) | refine tk13 ?_ | refine tk14 ?_); (conv => whnf))
        exact ⟨_, Cv.into (by (try dsimp only); repeat' (first | with_reducible exact Cv.refl | with_reducible exact Cv.left | with_reducible exact Cv.right | with_reducible exact Cv.nil | (with_reducible apply Cv.cons; focus ((repeat (first | with_reducible exact Pick.here | with_reducible apply Pick.skip)); done)) | (apply Cv.cons; focus ((repeat (first | exact Pick.here | apply Pick.skip)); done)) | exact Cv.nil | exact Cv.refl | exact Cv.left | exact Cv.right | refine Cv.skip ?_)), k y'⟩
      · (conv => whnf); repeat ((first | refine tk1 ?_ | refine tk2 ?_ | refine tk3 ?_ | refine tk12 (fun _ => ?_) | refine tk4 ?_ | refine tk5 ?_ | refine tk6 ?_ | refine tk7 ?_ | refine tk8 ?_ | refine tk9 ?_ | refine tk10 (fun _ _ => ?_) | refine tk11 (fun _ => ?_) | refine tk13 ?_ | refine tk14 ?_); (conv => whnf))
        exact ⟨_, Cv.into (by (try dsimp only); repeat' (first | with_reducible exact Cv.refl | with_reducible exact Cv.left | with_reducible exact Cv.right | with_reducible exact Cv.nil | (with_reducible apply Cv.cons; focus ((repeat (first | with_reducible exact Pick.here | with_reducible apply Pick.skip)); done)) | (apply Cv.cons; focus ((repeat (first | exact Pick.here | apply Pick.skip)); done)) | exact Cv.nil | exact Cv.refl | exact Cv.left | exact Cv.right | refine Cv.skip ?_)), k y'⟩
      · (conv => whnf); repeat ((first | refine tk1 ?_ | refine tk2 ?_ | refine tk3 ?_ | refine tk12 (fun _ => ?_) | refine tk4 ?_ | refine tk5 ?_ | refine tk6 ?_ | refine tk7 ?_ | refine tk8 ?_ | refine tk9 ?_ | refine tk10 (fun _ _ => ?_) | refine tk11 (fun _ => ?_) | refine tk13 ?_ | refine tk14 ?_); (conv => whnf))
        exact ⟨_, Cv.into (by (try dsimp only); repeat' (first | with_reducible exact Cv.refl | with_reducible exact Cv.left | with_reducible exact Cv.right | with_reducible exact Cv.nil | (with_reducible apply Cv.cons; focus ((repeat (first | with_reducible exact Pick.here | with_reducible apply Pick.skip)); done)) | (apply Cv.cons; focus ((repeat (first | exact Pick.here | apply Pick.skip)); done)) | exact Cv.nil | exact Cv.refl | exact Cv.left | exact Cv.right | refine Cv.skip ?_)), k y'⟩
    · rw [if_pos ⟨hl0, mt hx13.1 h13⟩] at k
      (conv => whnf); repeat ((first | refine tk1 ?_ | refine tk2 ?_ | refine tk3 ?_ | refine tk12 (fun _ => ?_) | refine tk4 ?_ | refine tk5 ?_ | refine tk6 ?_ | refine tk7 ?_ | refine tk8 ?_ | refine tk9 ?_ | refine tk10 (fun _ _ => ?_) | refine tk11 (fun _ => ?_) | refine tk13 ?_ | refine tk14 ?_); (conv => whnf))
      exact ⟨_, Cv.into (by (try dsimp only); repeat' (first | with_reducible exact Cv.refl | with_reducible exact Cv.left | with_reducible exact Cv.right | with_reducible exact Cv.nil | (with_reducible apply Cv.cons; focus ((repeat (first | with_reducible exact Pick.here | with_reducible apply Pick.skip)); done)) | (apply Cv.cons; focus ((repeat (first | exact Pick.here | apply Pick.skip)); done)) | exact Cv.nil | exact Cv.refl | exact Cv.left | exact Cv.right | refine Cv.skip ?_)), k ⟨lA, lc, dA, dc⟩⟩
  · rw [if_neg (fun h => h0 (by rw [h.1]; rfl))] at k
    (conv => whnf); repeat ((first | refine tk1 ?_ | refine tk2 ?_ | refine tk3 ?_ | refine tk12 (fun _ => ?_) | refine tk4 ?_ | refine tk5 ?_ | refine tk6 ?_ | refine tk7 ?_ | refine tk8 ?_ | refine tk9 ?_ | refine tk10 (fun _ _ => ?_) | refine tk11 (fun _ => ?_) | refine tk13 ?_ | refine tk14 ?_); (conv => whnf))
    refine line_k hc' (ph := 2) (left := left) (trail := trail) (l := line) (d := d) (y := ⟨lA, lc, dA, dc⟩) (x := x) (by omega) (fun y' => ?_)
    rcases lineG_cases line x with ⟨h1, h2, e⟩ | e | ⟨h1, h2, e⟩ <;> rw [e] at k <;> rw [lineT, e] <;> unfold cHeap <;> dsimp only at k ⊢
    · (conv => whnf); repeat ((first | refine tk1 ?_ | refine tk2 ?_ | refine tk3 ?_ | refine tk12 (fun _ => ?_) | refine tk4 ?_ | refine tk5 ?_ | refine tk6 ?_ | refine tk7 ?_ | refine tk8 ?_ | refine tk9 ?_ | refine tk10 (fun _ _ => ?_) | refine tk11 (fun _ => ?_) | refine tk13 ?_ | refine tk14 ?_); (conv => whnf))
      exact ⟨_, Cv.into (by (try dsimp only); repeat' (first | with_reducible exact Cv.refl | with_reducible exact Cv.left | with_reducible exact Cv.right | with_reducible exact Cv.nil | (with_reducible apply Cv.cons; focus ((repeat (first | with_reducible exact Pick.here | with_reducible apply Pick.skip)); done)) | (apply Cv.cons; focus ((repeat (first | exact Pick.here | apply Pick.skip)); done)) | exact Cv.nil | exact Cv.refl | exact Cv.left | exact Cv.right | refine Cv.skip ?_)), k y'⟩
    · (conv => whnf); repeat ((first | refine tk1 ?_ | refine tk2 ?_ | refine tk3 ?_ | refine tk12 (fun _ => ?_) | refine tk4 ?_ | refine tk5 ?_ | refine tk6 ?_ | refine tk7 ?_ | refine tk8 ?_ | refine tk9 ?_ | refine tk10 (fun _ _ => ?_) | refine tk11 (fun _ => ?_) | refine tk13 ?_ | refine tk14 ?_); (conv => whnf))
      exact ⟨_, Cv.into (by (try dsimp only); repeat' (first | with_reducible exact Cv.refl | with_reducible exact Cv.left | with_reducible exact Cv.right | with_reducible exact Cv.nil | (with_reducible apply Cv.cons; focus ((repeat (first | with_reducible exact Pick.here | with_reducible apply Pick.skip)); done)) | (apply Cv.cons; focus ((repeat (first | exact Pick.here | apply Pick.skip)); done)) | exact Cv.nil | exact Cv.refl | exact Cv.left | exact Cv.right | refine Cv.skip ?_)), k y'⟩
    · (conv => whnf); repeat ((first | refine tk1 ?_ | refine tk2 ?_ | refine tk3 ?_ | refine tk12 (fun _ => ?_) | refine tk4 ?_ | refine tk5 ?_ | refine tk6 ?_ | refine tk7 ?_ | refine tk8 ?_ | refine tk9 ?_ | refine tk10 (fun _ _ => ?_) | refine tk11 (fun _ => ?_) | refine tk13 ?_ | refine tk14 ?_); (conv => whnf))
      exact ⟨_, Cv.into (by (try dsimp only); repeat' (first | with_reducible exact Cv.refl | with_reducible exact Cv.left | with_reducible exact Cv.right | with_reducible exact Cv.nil | (with_reducible apply Cv.cons; focus ((repeat (first | with_reducible exact Pick.here | with_reducible apply Pick.skip)); done)) | (apply Cv.cons; focus ((repeat (first | exact Pick.here | apply Pick.skip)); done)) | exact Cv.nil | exact Cv.refl | exact Cv.left | exact Cv.right | refine Cv.skip ?_)), k y'⟩
theorem trailer_k {c : Ctx} (hc : Ours Tryz.prog gI c) {b : Nat} {s : CSt} {d : List UInt8} {y : CMem} {x : UInt8} {X : Hp} {K : Value → Hp → Prop} (hm : chMay s = true) (hp : s.ph = 3)
    (k : ∀ y', K (.int .i64 (oneG s x).2) (cHeap b (oneG s x).1 d y' X)) : CallK c false 21 [.pointer (some ⟨b, 0, none⟩), .int .u8 x.toNat] (cHeap b s d y X) K := by
  obtain ⟨P, g, w0, M, hM, hG⟩ := c
  have hc' := hc
  obtain ⟨rfl, rfl⟩ := hc
  obtain ⟨lA, lc, dA, dc⟩ := y
  have hml := may_le hm
  obtain ⟨ph, left, line, trail⟩ := s
  dsimp only at hp hml
  subst hp
  have hx := x.toNat_lt
  have hx13 : x = 13 ↔ x.toNat = 13 := by rw [← UInt8.toNat_inj]; rfl
  unfold oneG at k
  simp only [if_true, show ¬ (2 = 0) by decide, show ¬ (3 = 0) by decide, show ¬ (3 = 2) by decide, if_false] at k
  unfold cHeap
  dsimp only
  refine CallK.post ?_
  refine CallK.inl tys_ok Tryz.func21 rfl (by kernel_rfl) rfl rfl ?_
  by_cases h0 : trail = 256
  · rw [if_pos h0] at k
    (conv => whnf); repeat ((first | refine tk1 ?_ | refine tk2 ?_ | refine tk3 ?_ | refine tk12 (fun _ => ?_) | refine tk4 ?_ | refine tk5 ?_ | refine tk6 ?_ | refine tk7 ?_ | refine tk8 ?_ | refine tk9 ?_ | refine tk10 (fun _ _ => ?_) | refine tk11 (fun _ => ?_) | refine tk13 ?_ | refine tk14 ?_); (conv => whnf))
    exact ⟨_, Cv.into (by (try dsimp only); repeat' (first | with_reducible exact Cv.refl | with_reducible exact Cv.left | with_reducible exact Cv.right | with_reducible exact Cv.nil | (with_reducible apply Cv.cons; focus ((repeat (first | with_reducible exact Pick.here | with_reducible apply Pick.skip)); done)) | (apply Cv.cons; focus ((repeat (first | exact Pick.here | apply Pick.skip)); done)) | exact Cv.nil | exact Cv.refl | exact Cv.left | exact Cv.right | refine Cv.skip ?_)), k ⟨lA, lc, dA, dc⟩⟩
  rw [if_neg h0] at k
  (conv => whnf); repeat ((first | refine tk1 ?_ | refine tk2 ?_ | refine tk3 ?_ | refine tk12 (fun _ => ?_) | refine tk4 ?_ | refine tk5 ?_ | refine tk6 ?_ | refine tk7 ?_ | refine tk8 ?_ | refine tk9 ?_ | refine tk10 (fun _ _ => ?_) | refine tk11 (fun _ => ?_) | refine tk13 ?_ | refine tk14 ?_); (conv => whnf))
  refine line_k hc' (ph := 3) (left := left) (trail := trail + 1) (l := line) (d := d) (y := ⟨lA, lc, dA, dc⟩) (x := x) (by omega) (fun y' => ?_)
  rcases lineG_cases line x with ⟨h1, h2, e⟩ | e | ⟨h1, h2, e⟩ <;> rw [e] at k <;> rw [lineT, e] <;> unfold cHeap <;> dsimp only at k ⊢
  · have hdl : line.dropLast.length ≤ line.length := by rw [List.length_dropLast]; omega
    by_cases hz : line.dropLast = []
    · rw [if_pos hz] at k
      rw [hz]
      (conv => whnf); repeat ((first | refine tk1 ?_ | refine tk2 ?_ | refine tk3 ?_ | refine tk12 (fun _ => ?_) | refine tk4 ?_ | refine tk5 ?_ | refine tk6 ?_ | refine tk7 ?_ | refine tk8 ?_ | refine tk9 ?_ | refine tk10 (fun _ _ => ?_) | refine tk11 (fun _ => ?_) | refine tk13 ?_ | refine tk14 ?_); (conv => whnf))
      exact ⟨_, Cv.into (by (try dsimp only); repeat' (first | with_reducible exact Cv.refl | with_reducible exact Cv.left | with_reducible exact Cv.right | with_reducible exact Cv.nil | (with_reducible apply Cv.cons; focus ((repeat (first | with_reducible exact Pick.here | with_reducible apply Pick.skip)); done)) | (apply Cv.cons; focus ((repeat (first | exact Pick.here | apply Pick.skip)); done)) | exact Cv.nil | exact Cv.refl | exact Cv.left | exact Cv.right | refine Cv.skip ?_)), k y'⟩
    · rw [if_neg hz] at k
      have hz2 := List.length_pos_iff.2 hz
      (conv => whnf); repeat ((first | refine tk1 ?_ | refine tk2 ?_ | refine tk3 ?_ | refine tk12 (fun _ => ?_) | refine tk4 ?_ | refine tk5 ?_ | refine tk6 ?_ | refine tk7 ?_ | refine tk8 ?_ | refine tk9 ?_ | refine tk10 (fun _ _ => ?_) | refine tk11 (fun _ => ?_) | refine tk13 ?_ | refine tk14 ?_); (conv => whnf))
      refine Cmp.f hz ?_
      (conv => whnf); repeat ((first | refine tk1 ?_ | refine tk2 ?_ | refine tk3 ?_ | refine tk12 (fun _ => ?_) | refine tk4 ?_ | refine tk5 ?_ | refine tk6 ?_ | refine tk7 ?_ | refine tk8 ?_ | refine tk9 ?_ | refine tk10 (fun _ _ => ?_) | refine tk11 (fun _ => ?_) | refine tk13 ?_ | refine tk14 ?_); (conv => whnf))
      refine CallK.fn (Parse_f line.dropLast (by omega)) ?_
      (conv => whnf); repeat ((first | refine tk1 ?_ | refine tk2 ?_ | refine tk3 ?_ | refine tk12 (fun _ => ?_) | refine tk4 ?_ | refine tk5 ?_ | refine tk6 ?_ | refine tk7 ?_ | refine tk8 ?_ | refine tk9 ?_ | refine tk10 (fun _ _ => ?_) | refine tk11 (fun _ => ?_) | refine tk13 ?_ | refine tk14 ?_); (conv => whnf))
      exact ⟨_, Cv.into (by (try dsimp only); repeat' (first | with_reducible exact Cv.refl | with_reducible exact Cv.left | with_reducible exact Cv.right | with_reducible exact Cv.nil | (with_reducible apply Cv.cons; focus ((repeat (first | with_reducible exact Pick.here | with_reducible apply Pick.skip)); done)) | (apply Cv.cons; focus ((repeat (first | exact Pick.here | apply Pick.skip)); done)) | exact Cv.nil | exact Cv.refl | exact Cv.left | exact Cv.right | refine Cv.skip ?_)), k y'⟩
  · (conv => whnf); repeat ((first | refine tk1 ?_ | refine tk2 ?_ | refine tk3 ?_ | refine tk12 (fun _ => ?_) | refine tk4 ?_ | refine tk5 ?_ | refine tk6 ?_ | refine tk7 ?_ | refine tk8 ?_ | refine tk9 ?_ | refine tk10 (fun _ _ => ?_) | refine tk11 (fun _ => ?_) | refine tk13 ?_ | refine tk14 ?_); (conv => whnf))
    exact ⟨_, Cv.into (by (try dsimp only); repeat' (first | with_reducible exact Cv.refl | with_reducible exact Cv.left | with_reducible exact Cv.right | with_reducible exact Cv.nil | (with_reducible apply Cv.cons; focus ((repeat (first | with_reducible exact Pick.here | with_reducible apply Pick.skip)); done)) | (apply Cv.cons; focus ((repeat (first | exact Pick.here | apply Pick.skip)); done)) | exact Cv.nil | exact Cv.refl | exact Cv.left | exact Cv.right | refine Cv.skip ?_)), k y'⟩
  · (conv => whnf); repeat ((first | refine tk1 ?_ | refine tk2 ?_ | refine tk3 ?_ | refine tk12 (fun _ => ?_) | refine tk4 ?_ | refine tk5 ?_ | refine tk6 ?_ | refine tk7 ?_ | refine tk8 ?_ | refine tk9 ?_ | refine tk10 (fun _ _ => ?_) | refine tk11 (fun _ => ?_) | refine tk13 ?_ | refine tk14 ?_); (conv => whnf))
    exact ⟨_, Cv.into (by (try dsimp only); repeat' (first | with_reducible exact Cv.refl | with_reducible exact Cv.left | with_reducible exact Cv.right | with_reducible exact Cv.nil | (with_reducible apply Cv.cons; focus ((repeat (first | with_reducible exact Pick.here | with_reducible apply Pick.skip)); done)) | (apply Cv.cons; focus ((repeat (first | exact Pick.here | apply Pick.skip)); done)) | exact Cv.nil | exact Cv.refl | exact Cv.left | exact Cv.right | refine Cv.skip ?_)), k y'⟩
end Go.Proofs.YtbgnogdlkmhnkaaGreatDoor.Vex
/- chunk.Feed, reckoned. -/
namespace Go.Proofs.YtbgnogdlkmhnkaaGreatDoor.Vex
open Go Go.RowKit
set_option maxRecDepth 100000
set_option linter.unusedSectionVars false
variable {gI : GI} [HasMax gI] [HasUtf gI] [HasErr gI]

theorem tk15 {c : Ctx} {H : Hp} {b n j : Nat} {vs L : List Value} {t : TypeId} {f : List Value → Hp} {K : Hp → Prop} [h : BoxAt b H vs t f] (k : K (f (L.take j))) (hn : (L.take j).length = n := by exact rfl) (hv : vs.length = n := by exact rfl) (h1 : ∀ x ∈ L, x.oneCell' = true := by simp [Value.oneCell']) :
    Sto c H (.pointer (some ⟨b, 0, none⟩)) (.agg ⟨L.take j⟩) n K := Sto.tv hn hv (fun x hx => h1 x (List.mem_of_mem_take hx)) k
def stepF (ph : Nat) : Nat := if ph = 0 then 19 else if ph = 2 then 20 else 21
theorem step_k {c : Ctx} (hc : Ours Tryz.prog gI c) {b : Nat} {s : CSt} {d : List UInt8} {y : CMem} {x : UInt8} {X : Hp} {K : Value → Hp → Prop} (hm : chMay s = true) (h1 : s.ph ≠ 1) (h4 : s.ph ≠ 4)
    (k : ∀ y', K (.int .i64 (oneG s x).2) (cHeap b (oneG s x).1 d y' X)) : CallK c false (stepF s.ph) [.pointer (some ⟨b, 0, none⟩), .int .u8 x.toNat] (cHeap b s d y X) K := by
  have hml := may_le hm
  rcases (show s.ph = 0 ∨ s.ph = 2 ∨ s.ph = 3 by omega) with h | h | h <;> rw [h]
  · exact size_k hc hm h k
  · exact end_k hc hm h k
  · exact trailer_k hc hm h k
def FeedV (r : CRes) (y : CMem) : Value := .tuple #[cV r.c y.lA y.lc, .slice y.dA r.data.length y.dc, .int .i64 (r.used : Nat), .int .i64 r.e]
def FeedH (r : CRes) (y : CMem) : Hp := [.row (.slice y.lA r.c.line.length y.lc) 5 1 r.c.line.length (r.c.line.map byteV), .row (.slice y.dA r.data.length y.dc) 5 1 r.data.length (r.data.map byteV)]
structure FL where
  k : Nat
  s : CSt
  d : List UInt8
  y : CMem
def phC : List Value := [.func (.func 19) ⟨[]⟩ ⟨[]⟩, .nilFunc, .func (.func 20) ⟨[]⟩ ⟨[]⟩, .func (.func 21) ⟨[]⟩ ⟨[]⟩]
instance RdA.ofBox {c : Ctx} {H : Hp} {b : Nat} {vs : List Value} {t : TypeId} {f : List Value → Hp} [h : BoxAt b H vs t f] : RdA c H (some ⟨b, 0, none⟩) vs := ⟨RdS.box⟩
set_option maxHeartbeats 8000000 in
theorem Feed_f (s0 : CSt) (A : Option Addr) (cp : Nat) (BA : Option Addr) (Bc : Nat) (b : List UInt8) (hl : s0.line.length ≤ 1000000000) (hb : b.length ≤ 1000000000) :
    FnT Tryz.prog gI 6 [cV s0 A cp, .slice BA b.length Bc] (fun w => RdL w [(A, s0.line.map byteV), (BA, b.map byteV)] ∧ s0.line.length ≤ cp ∧ b.length ≤ Bc) (FeedV (feedG s0 b)) (fun _ => True) (FeedH (feedG s0 b)) (fun _ => []) := by
  have hcheck := CCheck_f (gI := gI) s0 A cp hl
  have hcl := BClone_f (gI := gI) A cp s0.line hl
  unfold cV at hcheck ⊢
  refine FnE.of tys_ok Tryz.func6 rfl (by kernel_rfl) rfl rfl ?_; intro w hG hP
  have hA : ∀ H, RdS (mkC Tryz.prog gI w hG) H A (s0.line.map byteV) := fun H => hP.1.1.now
  have hRB : ∀ H, RdA (mkC Tryz.prog gI w hG) H BA (b.map byteV) := fun H => ⟨hP.1.2.1.now⟩
  have hcp := hP.2.1
  have hbc := hP.2.2
  have hfail : ∀ (e : Int) (r : CRes) (w w' : World) (hG : gI.G w), r = ⟨cst0, [], 0, e⟩ → St (mkC Tryz.prog gI w hG) [] w' → ∃ x, Value.tuple #[.agg ⟨[.int .u8 0, .int .i64 0, .slice none 0 0, .int .i64 0]⟩, .slice none 0 0, .int .i64 0, .int .i64 e] = FeedV r x ∧ True ∧ newH w w' (FeedH r x ++ []) := fun e r w w' hG hr hw' => by
    subst hr
    exact ⟨⟨none, 0, none, 0⟩, rfl, trivial, newH.of ((hw'.nilRow 5 1).nilRow 5 1)⟩
  have hou : Ours Tryz.prog gI (mkC Tryz.prog gI w hG) := ⟨rfl, rfl⟩
  (conv => whnf); repeat ((first | refine tk1 ?_ | refine tk2 ?_ | refine tk3 ?_ | refine tk12 (fun _ => ?_) | refine tk4 ?_ | refine tk5 ?_ | refine tk6 ?_ | refine tk7 ?_ | refine tk8 ?_ | refine tk9 ?_ | refine tk10 (fun _ _ => ?_) | refine tk11 (fun _ => ?_) | refine tk13 ?_ | refine tk14 ?_); (conv => whnf))
  rename_i b2 b4
  refine CallK.fnEV hcheck (fun w1 hw1 => ⟨⟨hA _ w1 hw1, trivial⟩, hcp⟩) ?_
  unfold chE feedG
  cases hm : chMay s0
  · simp only [Bool.false_eq_true, if_false]
    (conv => whnf); repeat ((first | refine tk1 ?_ | refine tk2 ?_ | refine tk3 ?_ | refine tk12 (fun _ => ?_) | refine tk4 ?_ | refine tk5 ?_ | refine tk6 ?_ | refine tk7 ?_ | refine tk8 ?_ | refine tk9 ?_ | refine tk10 (fun _ _ => ?_) | refine tk11 (fun _ => ?_) | refine tk13 ?_ | refine tk14 ?_); (conv => whnf))
    exact fun w' hw' => hfail 8 _ w w' hG rfl (hw'.sub (List.nil_sublist _))
  simp only [if_true]
  (conv => whnf); repeat ((first | refine tk1 ?_ | refine tk2 ?_ | refine tk3 ?_ | refine tk12 (fun _ => ?_) | refine tk4 ?_ | refine tk5 ?_ | refine tk6 ?_ | refine tk7 ?_ | refine tk8 ?_ | refine tk9 ?_ | refine tk10 (fun _ _ => ?_) | refine tk11 (fun _ => ?_) | refine tk13 ?_ | refine tk14 ?_); (conv => whnf))
  by_cases h4 : s0.ph = 4
  · rw [if_pos h4]
    (conv => whnf); repeat ((first | refine tk1 ?_ | refine tk2 ?_ | refine tk3 ?_ | refine tk12 (fun _ => ?_) | refine tk4 ?_ | refine tk5 ?_ | refine tk6 ?_ | refine tk7 ?_ | refine tk8 ?_ | refine tk9 ?_ | refine tk10 (fun _ _ => ?_) | refine tk11 (fun _ => ?_) | refine tk13 ?_ | refine tk14 ?_); (conv => whnf))
    exact fun w' hw' => hfail 6 _ w w' hG rfl (hw'.sub (List.nil_sublist _))
  rw [if_neg h4]
  by_cases h1 : b.length ≤ 131072
  rotate_left
  · rw [if_neg h1]
    (conv => whnf); repeat ((first | refine tk1 ?_ | refine tk2 ?_ | refine tk3 ?_ | refine tk12 (fun _ => ?_) | refine tk4 ?_ | refine tk5 ?_ | refine tk6 ?_ | refine tk7 ?_ | refine tk8 ?_ | refine tk9 ?_ | refine tk10 (fun _ _ => ?_) | refine tk11 (fun _ => ?_) | refine tk13 ?_ | refine tk14 ?_); (conv => whnf))
    exact fun w' hw' => hfail 4 _ w w' hG rfl (hw'.sub (List.nil_sublist _))
  rw [if_pos h1]
  (conv => whnf); repeat ((first | refine tk1 ?_ | refine tk2 ?_ | refine tk3 ?_ | refine tk12 (fun _ => ?_) | refine tk4 ?_ | refine tk5 ?_ | refine tk6 ?_ | refine tk7 ?_ | refine tk8 ?_ | refine tk9 ?_ | refine tk10 (fun _ _ => ?_) | refine tk11 (fun _ => ?_) | refine tk13 ?_ | refine tk14 ?_); (conv => whnf))
  refine CallK.fnS hcl ⟨hA _, trivial⟩ (fun LA lc => ?_)
  (conv => whnf); repeat ((first | refine tk1 ?_ | refine tk2 ?_ | refine tk3 ?_ | refine tk12 (fun _ => ?_) | refine tk4 ?_ | refine tk5 ?_ | refine tk6 ?_ | refine tk7 ?_ | refine tk8 ?_ | refine tk9 ?_ | refine tk10 (fun _ _ => ?_) | refine tk11 (fun _ => ?_) | refine tk13 ?_ | refine tk14 ?_); (conv => whnf))
  refine OthP.mkArr (cs := [.func (.func 19) ⟨[]⟩ ⟨[]⟩, .nilFunc, .func (.func 20) ⟨[]⟩ ⟨[]⟩, .func (.func 21) ⟨[]⟩ ⟨[]⟩]) tys_ok rfl (fun h => nomatch h) rfl rfl rfl ?_
  (conv => whnf); repeat ((first | refine tk1 ?_ | refine tk2 ?_ | refine tk3 ?_ | refine tk12 (fun _ => ?_) | refine tk4 ?_ | refine tk5 ?_ | refine tk6 ?_ | refine tk7 ?_ | refine tk8 ?_ | refine tk9 ?_ | refine tk10 (fun _ _ => ?_) | refine tk11 (fun _ => ?_) | refine tk13 ?_ | refine tk14 ?_); (conv => whnf))
  rename_i b9 b10
  refine LoopS.lpT tys_ok (fun (x : FL) u => [u 0, .slice BA b.length Bc, u 2, u 3, .pointer (some ⟨b4, 0, none⟩), u 5, .int .i64 (x.k : Nat), u 7, u 8, .pointer (some ⟨b9, 0, none⟩), .pointer (some ⟨b10, 0, none⟩), u 11, u 12, u 13, u 14, u 15, u 16, u 17, u 18, u 19, u 20, u 21, u 22, u 23, u 24, u 25, u 26, u 27, u 28, u 29, u 30, u 31, u 32, u 33, u 34, u 35, u 36, u 37, u 38, u 39, u 40, u 41, u 42, u 43, u 44, u 45, u 46, u 47, u 48, u 49, u 50, u 51, u 52, u 53, u 54, u 55, u 56, u 57, u 58, u 59, u 60, u 61, u 62, u 63, u 64, u 65, u 66, u 67, u 68, u 69, u 70, u 71, u 72, u 73, u 74, u 75, u 76, u 77, u 78, u 79, u 80, u 81, u 82, u 83, u 84, u 85, u 86, u 87, u 88, u 89, u 90, u 91, u 92, u 93, u 94, u 95, u 96, u 97, u 98, u 99, u 100, u 101, u 102, u 103, u 104, u 105, u 106, u 107, u 108, u 109, u 110, u 111, u 112, u 113, u 114, u 115, u 116, u 117, u 118, u 119, u 120, u 121, u 122, u 123, u 124, u 125, u 126, u 127, u 128, u 129, u 130, u 131, u 132, u 133])
    (fun x => cHeap b9 x.s x.d x.y [.box b4 [.int .u8 0, .int .i64 0, .slice none 0 0, .int .i64 0] 27, .box b10 phC 49])
    (fun x => x.k ≤ b.length ∧ chMay x.s = true ∧ fedG s0 [] 0 b = fedG x.s x.d x.k (b.drop x.k) ∧ x.d.length ≤ x.k) (fun x => b.length - x.k) ⟨0, s0, [], ⟨LA, lc, none, 0⟩⟩ ⟨Nat.zero_le _, hm, rfl, Nat.le_refl _⟩ rfl ?_ ?_
  · unfold cHeap
    exact Into.trans (Into.nilRow (e := 5) (sz := 1) Into.refl) (Cv.into (by (try dsimp only); repeat' (first | with_reducible exact Cv.refl | with_reducible exact Cv.left | with_reducible exact Cv.right | with_reducible exact Cv.nil | (with_reducible apply Cv.cons; focus ((repeat (first | with_reducible exact Pick.here | with_reducible apply Pick.skip)); done)) | (apply Cv.cons; focus ((repeat (first | exact Pick.here | apply Pick.skip)); done)) | exact Cv.nil | exact Cv.refl | exact Cv.left | exact Cv.right | refine Cv.skip ?_)))
  rintro ⟨k, s, d, y⟩ u ⟨hk, hm, hI, hd⟩
  dsimp only at hk hm hI hd ⊢
  have hml := may_le hm
  unfold cHeap
  by_cases hlt : k < b.length
  rotate_left
  · as_aux_lemma =>
    have hr : fedG s0 [] 0 b = ⟨s, d, k, 0⟩ := by rw [hI, List.drop_eq_nil_of_le (by omega)]; rfl
    rw [hr]
    (conv => whnf); repeat ((first | refine tk1 ?_ | refine tk2 ?_ | refine tk3 ?_ | refine tk12 (fun _ => ?_) | refine tk4 ?_ | refine tk5 ?_ | refine tk6 ?_ | refine tk7 ?_ | refine tk8 ?_ | refine tk9 ?_ | refine tk10 (fun _ _ => ?_) | refine tk11 (fun _ => ?_) | refine tk13 ?_ | refine tk14 ?_); (conv => whnf))
    refine DrawS.fork [] (.q 0 (.q 1 (.q 2 (.q 3 (.q 4 (.q 8 (.ch 5 (.ch 6 (.ch 7 (.a 9 (.q 10 (.q 11 (.q 12 (.nil))))) (.ch 9 (.q 7 (.q 10 (.q 11 (.q 12 (.nil))))) (.stop))) (.ch 9 (.q 6 (.q 7 (.q 10 (.q 11 (.q 12 (.nil)))))) (.stop))) (.ch 9 (.q 5 (.q 6 (.q 7 (.q 10 (.q 11 (.q 12 (.nil))))))) (.stop))))))))) tys_ok mixed (by kernel_rfl) ?_
    (repeat' ((conv => whnf); first | refine tk15 ?_ | (first | refine tk1 ?_ | refine tk2 ?_ | refine tk3 ?_ | refine tk12 (fun _ => ?_) | refine tk4 ?_ | refine tk5 ?_ | refine tk6 ?_ | refine tk7 ?_ | refine tk8 ?_ | refine tk9 ?_ | refine tk10 (fun _ _ => ?_) | refine tk11 (fun _ => ?_) | refine tk13 ?_ | refine tk14 ?_) | refine And.intro ?_ ?_ | exact trivial | exact fun w' hw' => ⟨y, rfl, trivial, newH.into hw' (Cv.into (by (try dsimp only); repeat' (first | with_reducible exact Cv.refl | with_reducible exact Cv.left | with_reducible exact Cv.right | with_reducible exact Cv.nil | (with_reducible apply Cv.cons; focus ((repeat (first | with_reducible exact Pick.here | with_reducible apply Pick.skip)); done)) | (apply Cv.cons; focus ((repeat (first | exact Pick.here | apply Pick.skip)); done)) | exact Cv.nil | exact Cv.refl | exact Cv.left | exact Cv.right | refine Cv.skip ?_)))⟩))
  by_cases hp4 : s.ph = 4
  · as_aux_lemma =>
    have hr : fedG s0 [] 0 b = ⟨s, d, k, 0⟩ := by rw [hI, fed_over _ _ _ _ hp4]
    rw [hr]
    (conv => whnf); repeat ((first | refine tk1 ?_ | refine tk2 ?_ | refine tk3 ?_ | refine tk12 (fun _ => ?_) | refine tk4 ?_ | refine tk5 ?_ | refine tk6 ?_ | refine tk7 ?_ | refine tk8 ?_ | refine tk9 ?_ | refine tk10 (fun _ _ => ?_) | refine tk11 (fun _ => ?_) | refine tk13 ?_ | refine tk14 ?_); (conv => whnf))
    refine DrawS.fork [] (.q 0 (.q 1 (.q 2 (.q 3 (.q 4 (.q 8 (.ch 5 (.ch 6 (.ch 7 (.a 9 (.q 10 (.q 11 (.q 12 (.nil))))) (.ch 9 (.q 7 (.q 10 (.q 11 (.q 12 (.nil))))) (.stop))) (.ch 9 (.q 6 (.q 7 (.q 10 (.q 11 (.q 12 (.nil)))))) (.stop))) (.ch 9 (.q 5 (.q 6 (.q 7 (.q 10 (.q 11 (.q 12 (.nil))))))) (.stop))))))))) tys_ok mixed (by kernel_rfl) ?_
    (repeat' ((conv => whnf); first | refine tk15 ?_ | (first | refine tk1 ?_ | refine tk2 ?_ | refine tk3 ?_ | refine tk12 (fun _ => ?_) | refine tk4 ?_ | refine tk5 ?_ | refine tk6 ?_ | refine tk7 ?_ | refine tk8 ?_ | refine tk9 ?_ | refine tk10 (fun _ _ => ?_) | refine tk11 (fun _ => ?_) | refine tk13 ?_ | refine tk14 ?_) | refine And.intro ?_ ?_ | exact trivial | exact fun w' hw' => ⟨y, rfl, trivial, newH.into hw' (Cv.into (by (try dsimp only); repeat' (first | with_reducible exact Cv.refl | with_reducible exact Cv.left | with_reducible exact Cv.right | with_reducible exact Cv.nil | (with_reducible apply Cv.cons; focus ((repeat (first | with_reducible exact Pick.here | with_reducible apply Pick.skip)); done)) | (apply Cv.cons; focus ((repeat (first | exact Pick.here | apply Pick.skip)); done)) | exact Cv.nil | exact Cv.refl | exact Cv.left | exact Cv.right | refine Cv.skip ?_)))⟩))
  by_cases hp1 : s.ph = 1
  rotate_left
  · as_aux_lemma =>
    have hph : s.ph = 0 ∨ s.ph = 2 ∨ s.ph = 3 := by omega
    have hxb : (b.map byteV)[k]? = some (.int .u8 b[k].toNat) := by rw [List.getElem?_map, List.getElem?_eq_getElem hlt]; rfl
    have hfn : phC[((s.ph : Nat) : Int).toNat]? = some (.func (.func (stepF s.ph)) ⟨[]⟩ ⟨[]⟩) := by rcases hph with h | h | h <;> rw [h] <;> rfl
    rw [List.drop_eq_getElem_cons hlt, fed_cons, if_neg hp4, if_neg hp1] at hI
    obtain ⟨x, hx⟩ : ∃ x, b[k] = x := ⟨_, rfl⟩
    rw [hx] at hI hxb
    (conv => whnf); repeat ((first | refine tk1 ?_ | refine tk2 ?_ | refine tk3 ?_ | refine tk12 (fun _ => ?_) | refine tk4 ?_ | refine tk5 ?_ | refine tk6 ?_ | refine tk7 ?_ | refine tk8 ?_ | refine tk9 ?_ | refine tk10 (fun _ _ => ?_) | refine tk11 (fun _ => ?_) | refine tk13 ?_ | refine tk14 ?_); (conv => whnf))
    refine DrawS.goW [12] [(0, true), (1, true), (2, true), (3, true), (4, true), (5, true), (6, true), (7, true), (8, true), (9, true), (10, true), (11, true), (12, false), (13, true)] tys_ok mixed (by kernel_rfl) ?_
    (conv => whnf); repeat ((first | refine tk1 ?_ | refine tk2 ?_ | refine tk3 ?_ | refine tk12 (fun _ => ?_) | refine tk4 ?_ | refine tk5 ?_ | refine tk6 ?_ | refine tk7 ?_ | refine tk8 ?_ | refine tk9 ?_ | refine tk10 (fun _ _ => ?_) | refine tk11 (fun _ => ?_) | refine tk13 ?_ | refine tk14 ?_); (conv => whnf))
    refine OthP.idxArr (b := b10) (k := .u8) (z := (s.ph : Nat)) tys_ok rfl (fun h => nomatch h) rfl rfl rfl (by omega) (by omega) ?_
    (conv => whnf); repeat ((first | refine tk1 ?_ | refine tk2 ?_ | refine tk3 ?_ | refine tk12 (fun _ => ?_) | refine tk4 ?_ | refine tk5 ?_ | refine tk6 ?_ | refine tk7 ?_ | refine tk8 ?_ | refine tk9 ?_ | refine tk10 (fun _ _ => ?_) | refine tk11 (fun _ => ?_) | refine tk13 ?_ | refine tk14 ?_); (conv => whnf))
    refine Ld.tc (vs := phC) hfn ?_
    (conv => whnf); repeat ((first | refine tk1 ?_ | refine tk2 ?_ | refine tk3 ?_ | refine tk12 (fun _ => ?_) | refine tk4 ?_ | refine tk5 ?_ | refine tk6 ?_ | refine tk7 ?_ | refine tk8 ?_ | refine tk9 ?_ | refine tk10 (fun _ _ => ?_) | refine tk11 (fun _ => ?_) | refine tk13 ?_ | refine tk14 ?_); (conv => whnf))
    refine IdxA.tc (by rw [List.length_map]; omega) (by omega) (by omega) ?_
    (conv => whnf); repeat ((first | refine tk1 ?_ | refine tk2 ?_ | refine tk3 ?_ | refine tk12 (fun _ => ?_) | refine tk4 ?_ | refine tk5 ?_ | refine tk6 ?_ | refine tk7 ?_ | refine tk8 ?_ | refine tk9 ?_ | refine tk10 (fun _ _ => ?_) | refine tk11 (fun _ => ?_) | refine tk13 ?_ | refine tk14 ?_); (conv => whnf))
    refine Ld.ta (v := .int .u8 x.toNat) (by rw [show ((k : Nat) : Int).toNat * 1 = k by omega]; exact hxb) ?_
    (conv => whnf); repeat ((first | refine tk1 ?_ | refine tk2 ?_ | refine tk3 ?_ | refine tk12 (fun _ => ?_) | refine tk4 ?_ | refine tk5 ?_ | refine tk6 ?_ | refine tk7 ?_ | refine tk8 ?_ | refine tk9 ?_ | refine tk10 (fun _ _ => ?_) | refine tk11 (fun _ => ?_) | refine tk13 ?_ | refine tk14 ?_); (conv => whnf))
    refine step_k hou (s := s) (d := d) (y := y) (x := x) (X := [.box b4 [.int .u8 0, .int .i64 0, .slice none 0 0, .int .i64 0] 27, .box b10 phC 49]) hm hp1 hp4 (fun y' => ?_)
    have hkeep := one_keeps (x := x) hm hp1 hp4
    rcases hst : oneG s x with ⟨s1, e⟩
    rw [hst] at hI hkeep
    dsimp only at hI hkeep ⊢
    unfold cHeap
    by_cases he : e = 0
    · rw [if_pos he] at hI
      rw [he]
      (conv => whnf); repeat ((first | refine tk1 ?_ | refine tk2 ?_ | refine tk3 ?_ | refine tk12 (fun _ => ?_) | refine tk4 ?_ | refine tk5 ?_ | refine tk6 ?_ | refine tk7 ?_ | refine tk8 ?_ | refine tk9 ?_ | refine tk10 (fun _ _ => ?_) | refine tk11 (fun _ => ?_) | refine tk13 ?_ | refine tk14 ?_); (conv => whnf))
      exact ⟨⟨k + 1, s1, d, y'⟩, ⟨by dsimp only; omega, hkeep he, hI, by dsimp only; omega⟩, rfl, Into.refl, by dsimp only; omega⟩
    · rw [if_neg he] at hI
      rw [hI]
      (conv => whnf); repeat ((first | refine tk1 ?_ | refine tk2 ?_ | refine tk3 ?_ | refine tk12 (fun _ => ?_) | refine tk4 ?_ | refine tk5 ?_ | refine tk6 ?_ | refine tk7 ?_ | refine tk8 ?_ | refine tk9 ?_ | refine tk10 (fun _ _ => ?_) | refine tk11 (fun _ => ?_) | refine tk13 ?_ | refine tk14 ?_); (conv => whnf))
      exact fun w' hw' => hfail e _ w w' hG rfl (hw'.sub (List.nil_sublist _))
  · as_aux_lemma =>
    have hcm := hm
    have hln : s.line = [] ∧ 1 ≤ s.left := by
      obtain ⟨ph, left, line, trail⟩ := s
      dsimp only at hp1
      subst hp1
      simp [chMay, lineMay, leftMay, trailMay] at hm
      exact ⟨hm.1, hm.2.1.1⟩
    obtain ⟨n, hn⟩ : ∃ n : Nat, min s.left ((b.length : Int) - (k : Int)) = n := ⟨(min s.left ((b.length : Int) - (k : Int))).toNat, by omega⟩
    have hn1 : 1 ≤ n := by omega
    have hn2 : n ≤ b.length - k := by omega
    have hn3 : (n : Int) ≤ s.left := by omega
    have hdr : (b.drop k).length = b.length - k := List.length_drop
    rw [fed_block n (b.drop k) s d k hp1 hn1 (by omega) hn3, List.drop_drop] at hI
    (conv => whnf); repeat ((first | refine tk1 ?_ | refine tk2 ?_ | refine tk3 ?_ | refine tk12 (fun _ => ?_) | refine tk4 ?_ | refine tk5 ?_ | refine tk6 ?_ | refine tk7 ?_ | refine tk8 ?_ | refine tk9 ?_ | refine tk10 (fun _ _ => ?_) | refine tk11 (fun _ => ?_) | refine tk13 ?_ | refine tk14 ?_); (conv => whnf))
    refine OthP.min2 (n : Int) rfl rfl hn ?_
    (conv => whnf); repeat ((first | refine tk1 ?_ | refine tk2 ?_ | refine tk3 ?_ | refine tk12 (fun _ => ?_) | refine tk4 ?_ | refine tk5 ?_ | refine tk6 ?_ | refine tk7 ?_ | refine tk8 ?_ | refine tk9 ?_ | refine tk10 (fun _ _ => ?_) | refine tk11 (fun _ => ?_) | refine tk13 ?_ | refine tk14 ?_); (conv => whnf))
    refine Oth.make (n := n) tys_ok rfl (fun h => nomatch h) rfl rfl rfl rfl rfl (by omega) (fun bm => ?_)
    (conv => whnf); repeat ((first | refine tk1 ?_ | refine tk2 ?_ | refine tk3 ?_ | refine tk12 (fun _ => ?_) | refine tk4 ?_ | refine tk5 ?_ | refine tk6 ?_ | refine tk7 ?_ | refine tk8 ?_ | refine tk9 ?_ | refine tk10 (fun _ _ => ?_) | refine tk11 (fun _ => ?_) | refine tk13 ?_ | refine tk14 ?_); (conv => whnf))
    refine SlcV.from (by omega) (by omega) ?_
    have hp := fun H => RdS.piece (cp := Bc) (sz := 1) (lo := (k : Int)) (hRB H).ok (by omega) (fun e => by omega)
    have hdm : (b.map byteV).drop ((k : Int).toNat * 1) = (b.drop k).map byteV := by rw [Int.toNat_natCast, Nat.mul_one, List.map_drop]
    rw [hdm] at hp
    rw [show b.length - (k : Int).toNat = (b.drop k).length by rw [List.length_drop]; omega]
    have hpt := fun H => RdS.take (hp H) n
    rw [← List.map_take] at hpt
    have hnl : (((b.drop k).take n).map byteV).length = n := by rw [List.length_map, List.length_take]; omega
    (conv => whnf); repeat ((first | refine tk1 ?_ | refine tk2 ?_ | refine tk3 ?_ | refine tk12 (fun _ => ?_) | refine tk4 ?_ | refine tk5 ?_ | refine tk6 ?_ | refine tk7 ?_ | refine tk8 ?_ | refine tk9 ?_ | refine tk10 (fun _ _ => ?_) | refine tk11 (fun _ => ?_) | refine tk13 ?_ | refine tk14 ?_); (conv => whnf))
    refine Oth.copy (news := ((b.drop k).take n).map byteV) tys_ok rfl (fun h => nomatch h) rfl rfl rfl (hpt _) (by simp) hnl (by omega) (by omega) (bytes_one _) ?_
    (conv => whnf); repeat ((first | refine tk1 ?_ | refine tk2 ?_ | refine tk3 ?_ | refine tk12 (fun _ => ?_) | refine tk4 ?_ | refine tk5 ?_ | refine tk6 ?_ | refine tk7 ?_ | refine tk8 ?_ | refine tk9 ?_ | refine tk10 (fun _ _ => ?_) | refine tk11 (fun _ => ?_) | refine tk13 ?_ | refine tk14 ?_); (conv => whnf))
    have hlen : d.length + n = (d ++ (b.drop k).take n).length := by rw [List.length_append, List.length_take]; omega
    refine DrawS.joinI (fun (x : Option Addr × Nat) u => [u 0, .slice BA b.length Bc, u 2, u 3, .pointer (some ⟨b4, 0, none⟩), u 5, .int .i64 ((k : Int) + (n : Int)), u 7, u 8, .pointer (some ⟨b9, 0, none⟩), .pointer (some ⟨b10, 0, none⟩), u 11, u 12, u 13, u 14, u 15, u 16, u 17, u 18, u 19, u 20, u 21, u 22, u 23, u 24, u 25, u 26, u 27, u 28, u 29, u 30, u 31, u 32, u 33, u 34, u 35, u 36, u 37, u 38, u 39, u 40, u 41, u 42, u 43, u 44, u 45, u 46, u 47, u 48, u 49, u 50, u 51, u 52, u 53, u 54, u 55, u 56, u 57, u 58, u 59, u 60, u 61, u 62, u 63, u 64, u 65, u 66, u 67, u 68, u 69, u 70, u 71, u 72, u 73, u 74, u 75, u 76, u 77, u 78, u 79, u 80, u 81, u 82, u 83, u 84, u 85, u 86, u 87, u 88, u 89, u 90, u 91, u 92, u 93, u 94, u 95, u 96, u 97, u 98, u 99, u 100, u 101, u 102, u 103, u 104, u 105, u 106, u 107, u 108, u 109, u 110, u 111, u 112, u 113, u 114, u 115, u 116, u 117, u 118, u 119, u 120, u 121, u 122, u 123, u 124, u 125, u 126, u 127, u 128, u 129, u 130, u 131, u 132, u 133])
      (fun x => [.box b9 [.int .u8 (s.ph : Nat), .int .i64 (s.left - (n : Int)), .slice y.lA s.line.length y.lc, .int .i64 s.trail, .slice x.1 (d.length + n) x.2] 45,
        .row (.slice y.lA s.line.length y.lc) 5 1 s.line.length (s.line.map byteV), .row (.slice x.1 (d.length + n) x.2) 5 1 (d.length + n) ((d ++ (b.drop k).take n).map byteV),
        .box b4 [.int .u8 0, .int .i64 0, .slice none 0 0, .int .i64 0] 27, .box b10 phC 49]) [] (.q 0 (.q 1 (.q 2 (.q 3 (.q 4 (.q 5 (.q 6 (.q 8 (.q 13 (.q 15 (.q 16 (.ch 7 (.q 9 (.q 10 (.q 11 (.q 12 (.q 18 (.q 19 (.ch 14 (.ch 17 (.a 20 (.q 21 (.q 22 (.q 23 (.a 24 (.q 25 (.nil))))))) (.ch 20 (.q 21 (.q 22 (.q 23 (.ch 17 (.a 24 (.q 25 (.nil))) (.ch 24 (.q 17 (.q 25 (.nil))) (.stop)))))) (.stop))) (.ch 17 (.ch 14 (.a 20 (.q 21 (.q 22 (.q 23 (.a 24 (.q 25 (.nil))))))) (.ch 20 (.q 14 (.q 21 (.q 22 (.q 23 (.a 24 (.q 25 (.nil))))))) (.stop))) (.ch 20 (.q 14 (.q 21 (.q 22 (.q 23 (.ch 17 (.a 24 (.q 25 (.nil))) (.ch 24 (.q 17 (.q 25 (.nil))) (.stop))))))) (.stop)))))))))) (.ch 9 (.ch 7 (.q 10 (.q 11 (.q 12 (.q 18 (.q 19 (.ch 14 (.ch 17 (.a 20 (.q 21 (.q 22 (.q 23 (.a 24 (.q 25 (.nil))))))) (.ch 20 (.q 21 (.q 22 (.q 23 (.ch 17 (.a 24 (.q 25 (.nil))) (.ch 24 (.q 17 (.q 25 (.nil))) (.stop)))))) (.stop))) (.ch 17 (.ch 14 (.a 20 (.q 21 (.q 22 (.q 23 (.a 24 (.q 25 (.nil))))))) (.ch 20 (.q 14 (.q 21 (.q 22 (.q 23 (.a 24 (.q 25 (.nil))))))) (.stop))) (.ch 20 (.q 14 (.q 21 (.q 22 (.q 23 (.ch 17 (.a 24 (.q 25 (.nil))) (.ch 24 (.q 17 (.q 25 (.nil))) (.stop))))))) (.stop))))))))) (.ch 10 (.ch 7 (.q 11 (.q 12 (.q 18 (.q 19 (.ch 14 (.ch 17 (.a 20 (.q 21 (.q 22 (.q 23 (.a 24 (.q 25 (.nil))))))) (.ch 20 (.q 21 (.q 22 (.q 23 (.ch 17 (.a 24 (.q 25 (.nil))) (.ch 24 (.q 17 (.q 25 (.nil))) (.stop)))))) (.stop))) (.ch 17 (.ch 14 (.a 20 (.q 21 (.q 22 (.q 23 (.a 24 (.q 25 (.nil))))))) (.ch 20 (.q 14 (.q 21 (.q 22 (.q 23 (.a 24 (.q 25 (.nil))))))) (.stop))) (.ch 20 (.q 14 (.q 21 (.q 22 (.q 23 (.ch 17 (.a 24 (.q 25 (.nil))) (.ch 24 (.q 17 (.q 25 (.nil))) (.stop))))))) (.stop)))))))) (.ch 11 (.ch 7 (.q 12 (.q 18 (.q 19 (.ch 14 (.ch 17 (.a 20 (.q 21 (.q 22 (.q 23 (.a 24 (.q 25 (.nil))))))) (.ch 20 (.q 21 (.q 22 (.q 23 (.ch 17 (.a 24 (.q 25 (.nil))) (.ch 24 (.q 17 (.q 25 (.nil))) (.stop)))))) (.stop))) (.ch 17 (.ch 14 (.a 20 (.q 21 (.q 22 (.q 23 (.a 24 (.q 25 (.nil))))))) (.ch 20 (.q 14 (.q 21 (.q 22 (.q 23 (.a 24 (.q 25 (.nil))))))) (.stop))) (.ch 20 (.q 14 (.q 21 (.q 22 (.q 23 (.ch 17 (.a 24 (.q 25 (.nil))) (.ch 24 (.q 17 (.q 25 (.nil))) (.stop))))))) (.stop))))))) (.ch 12 (.ch 7 (.q 18 (.q 19 (.ch 14 (.ch 17 (.a 20 (.q 21 (.q 22 (.q 23 (.a 24 (.q 25 (.nil))))))) (.ch 20 (.q 21 (.q 22 (.q 23 (.ch 17 (.a 24 (.q 25 (.nil))) (.ch 24 (.q 17 (.q 25 (.nil))) (.stop)))))) (.stop))) (.ch 17 (.ch 14 (.a 20 (.q 21 (.q 22 (.q 23 (.a 24 (.q 25 (.nil))))))) (.ch 20 (.q 14 (.q 21 (.q 22 (.q 23 (.a 24 (.q 25 (.nil))))))) (.stop))) (.ch 20 (.q 14 (.q 21 (.q 22 (.q 23 (.ch 17 (.a 24 (.q 25 (.nil))) (.ch 24 (.q 17 (.q 25 (.nil))) (.stop))))))) (.stop)))))) (.ch 14 (.ch 7 (.q 18 (.q 19 (.ch 17 (.a 20 (.q 21 (.q 22 (.q 23 (.a 24 (.q 25 (.nil))))))) (.ch 20 (.q 21 (.q 22 (.q 23 (.ch 17 (.a 24 (.q 25 (.nil))) (.ch 24 (.q 17 (.q 25 (.nil))) (.stop)))))) (.stop))))) (.ch 17 (.a 7 (.q 18 (.q 19 (.a 20 (.q 21 (.q 22 (.q 23 (.a 24 (.q 25 (.nil)))))))))) (.stop))) (.ch 17 (.ch 7 (.q 18 (.q 19 (.ch 14 (.a 20 (.q 21 (.q 22 (.q 23 (.a 24 (.q 25 (.nil))))))) (.ch 20 (.q 14 (.q 21 (.q 22 (.q 23 (.a 24 (.q 25 (.nil))))))) (.stop))))) (.ch 14 (.a 7 (.q 18 (.q 19 (.a 20 (.q 21 (.q 22 (.q 23 (.a 24 (.q 25 (.nil)))))))))) (.stop))) (.stop)))) (.ch 17 (.ch 7 (.q 12 (.q 18 (.q 19 (.ch 14 (.a 20 (.q 21 (.q 22 (.q 23 (.a 24 (.q 25 (.nil))))))) (.ch 20 (.q 14 (.q 21 (.q 22 (.q 23 (.a 24 (.q 25 (.nil))))))) (.stop)))))) (.ch 12 (.ch 7 (.q 18 (.q 19 (.ch 14 (.a 20 (.q 21 (.q 22 (.q 23 (.a 24 (.q 25 (.nil))))))) (.ch 20 (.q 14 (.q 21 (.q 22 (.q 23 (.a 24 (.q 25 (.nil))))))) (.stop))))) (.ch 14 (.a 7 (.q 18 (.q 19 (.a 20 (.q 21 (.q 22 (.q 23 (.a 24 (.q 25 (.nil)))))))))) (.stop))) (.stop))) (.stop)))) (.ch 17 (.ch 7 (.q 11 (.q 12 (.q 18 (.q 19 (.ch 14 (.a 20 (.q 21 (.q 22 (.q 23 (.a 24 (.q 25 (.nil))))))) (.ch 20 (.q 14 (.q 21 (.q 22 (.q 23 (.a 24 (.q 25 (.nil))))))) (.stop))))))) (.ch 11 (.ch 7 (.q 12 (.q 18 (.q 19 (.ch 14 (.a 20 (.q 21 (.q 22 (.q 23 (.a 24 (.q 25 (.nil))))))) (.ch 20 (.q 14 (.q 21 (.q 22 (.q 23 (.a 24 (.q 25 (.nil))))))) (.stop)))))) (.ch 12 (.ch 7 (.q 18 (.q 19 (.ch 14 (.a 20 (.q 21 (.q 22 (.q 23 (.a 24 (.q 25 (.nil))))))) (.ch 20 (.q 14 (.q 21 (.q 22 (.q 23 (.a 24 (.q 25 (.nil))))))) (.stop))))) (.ch 14 (.a 7 (.q 18 (.q 19 (.a 20 (.q 21 (.q 22 (.q 23 (.a 24 (.q 25 (.nil)))))))))) (.stop))) (.stop))) (.stop))) (.stop)))) (.ch 17 (.ch 7 (.q 10 (.q 11 (.q 12 (.q 18 (.q 19 (.ch 14 (.a 20 (.q 21 (.q 22 (.q 23 (.a 24 (.q 25 (.nil))))))) (.ch 20 (.q 14 (.q 21 (.q 22 (.q 23 (.a 24 (.q 25 (.nil))))))) (.stop)))))))) (.ch 10 (.ch 7 (.q 11 (.q 12 (.q 18 (.q 19 (.ch 14 (.a 20 (.q 21 (.q 22 (.q 23 (.a 24 (.q 25 (.nil))))))) (.ch 20 (.q 14 (.q 21 (.q 22 (.q 23 (.a 24 (.q 25 (.nil))))))) (.stop))))))) (.ch 11 (.ch 7 (.q 12 (.q 18 (.q 19 (.ch 14 (.a 20 (.q 21 (.q 22 (.q 23 (.a 24 (.q 25 (.nil))))))) (.ch 20 (.q 14 (.q 21 (.q 22 (.q 23 (.a 24 (.q 25 (.nil))))))) (.stop)))))) (.ch 12 (.ch 7 (.q 18 (.q 19 (.ch 14 (.a 20 (.q 21 (.q 22 (.q 23 (.a 24 (.q 25 (.nil))))))) (.ch 20 (.q 14 (.q 21 (.q 22 (.q 23 (.a 24 (.q 25 (.nil))))))) (.stop))))) (.ch 14 (.a 7 (.q 18 (.q 19 (.a 20 (.q 21 (.q 22 (.q 23 (.a 24 (.q 25 (.nil)))))))))) (.stop))) (.stop))) (.stop))) (.stop))) (.stop)))) (.ch 17 (.ch 7 (.q 9 (.q 10 (.q 11 (.q 12 (.q 18 (.q 19 (.ch 14 (.a 20 (.q 21 (.q 22 (.q 23 (.a 24 (.q 25 (.nil))))))) (.ch 20 (.q 14 (.q 21 (.q 22 (.q 23 (.a 24 (.q 25 (.nil))))))) (.stop))))))))) (.ch 9 (.ch 7 (.q 10 (.q 11 (.q 12 (.q 18 (.q 19 (.ch 14 (.a 20 (.q 21 (.q 22 (.q 23 (.a 24 (.q 25 (.nil))))))) (.ch 20 (.q 14 (.q 21 (.q 22 (.q 23 (.a 24 (.q 25 (.nil))))))) (.stop)))))))) (.ch 10 (.ch 7 (.q 11 (.q 12 (.q 18 (.q 19 (.ch 14 (.a 20 (.q 21 (.q 22 (.q 23 (.a 24 (.q 25 (.nil))))))) (.ch 20 (.q 14 (.q 21 (.q 22 (.q 23 (.a 24 (.q 25 (.nil))))))) (.stop))))))) (.ch 11 (.ch 7 (.q 12 (.q 18 (.q 19 (.ch 14 (.a 20 (.q 21 (.q 22 (.q 23 (.a 24 (.q 25 (.nil))))))) (.ch 20 (.q 14 (.q 21 (.q 22 (.q 23 (.a 24 (.q 25 (.nil))))))) (.stop)))))) (.ch 12 (.ch 7 (.q 18 (.q 19 (.ch 14 (.a 20 (.q 21 (.q 22 (.q 23 (.a 24 (.q 25 (.nil))))))) (.ch 20 (.q 14 (.q 21 (.q 22 (.q 23 (.a 24 (.q 25 (.nil))))))) (.stop))))) (.ch 14 (.a 7 (.q 18 (.q 19 (.a 20 (.q 21 (.q 22 (.q 23 (.a 24 (.q 25 (.nil)))))))))) (.stop))) (.stop))) (.stop))) (.stop))) (.stop))) (.stop))))))))))))))) tys_ok mixed (by as_aux_lemma => kernel_rfl) ?_ ?_
    · as_aux_lemma =>
      (repeat' ((conv => whnf); first | (first | refine tk1 ?_ | refine tk2 ?_ | refine tk3 ?_ | refine tk12 (fun _ => ?_) | refine tk4 ?_ | refine tk5 ?_ | refine tk6 ?_ | refine tk7 ?_ | refine tk8 ?_ | refine tk9 ?_ | refine tk10 (fun _ _ => ?_) | refine tk11 (fun _ => ?_) | refine tk13 ?_ | refine tk14 ?_) | refine And.intro ?_ ?_ | exact trivial | exact ⟨(_, _), rfl, Cv.into (by (try dsimp only); repeat' (first | with_reducible exact Cv.refl | with_reducible exact Cv.left | with_reducible exact Cv.right | with_reducible exact Cv.nil | (with_reducible apply Cv.cons; focus ((repeat (first | with_reducible exact Pick.here | with_reducible apply Pick.skip)); done)) | (apply Cv.cons; focus ((repeat (first | exact Pick.here | apply Pick.skip)); done)) | exact Cv.nil | exact Cv.refl | exact Cv.left | exact Cv.right | refine Cv.skip ?_))⟩ | (refine AppS.tc (m := n) (news := ((b.drop k).take n).map byteV) SrcK.tc (by omega) (bytes_one _) (by decide) (by omega) (by omega) (zs := (d ++ (b.drop k).take n).map byteV) (by rw [List.map_append]) (fun _ _ => ?_))))
    rintro ⟨dA, dc⟩ u
    as_aux_lemma =>
    dsimp only
    rw [hlen]
    have hd2 : (d ++ (b.drop k).take n).length ≤ k + n := by rw [← hlen]; omega
    have hk2 : chMay { s with left := s.left - n, ph := if s.left - n = 0 then 2 else 1 } = true := by
      obtain ⟨ph, left, line, trail⟩ := s
      dsimp only at hp1 hln hn3
      subst hp1
      obtain ⟨rfl, _⟩ := hln
      simp [chMay, lineMay, leftMay, trailMay] at hcm ⊢
      by_cases hz : left - (n : Int) = 0
      · simp [hz, noEnd, bare, crB, hcm]
      · simp [hz, hcm]
        omega
    by_cases hz : s.left - (n : Int) = 0
    · as_aux_lemma =>
      rw [if_pos hz] at hI hk2
      (conv => whnf); repeat ((first | refine tk1 ?_ | refine tk2 ?_ | refine tk3 ?_ | refine tk12 (fun _ => ?_) | refine tk4 ?_ | refine tk5 ?_ | refine tk6 ?_ | refine tk7 ?_ | refine tk8 ?_ | refine tk9 ?_ | refine tk10 (fun _ _ => ?_) | refine tk11 (fun _ => ?_) | refine tk13 ?_ | refine tk14 ?_); (conv => whnf))
      exact ⟨⟨k + n, ⟨2, s.left - n, s.line, s.trail⟩, d ++ (b.drop k).take n, ⟨y.lA, y.lc, dA, dc⟩⟩, ⟨by dsimp only; omega, hk2, hI, hd2⟩, rfl, Cv.into (by (try dsimp only); repeat' (first | with_reducible exact Cv.refl | with_reducible exact Cv.left | with_reducible exact Cv.right | with_reducible exact Cv.nil | (with_reducible apply Cv.cons; focus ((repeat (first | with_reducible exact Pick.here | with_reducible apply Pick.skip)); done)) | (apply Cv.cons; focus ((repeat (first | exact Pick.here | apply Pick.skip)); done)) | exact Cv.nil | exact Cv.refl | exact Cv.left | exact Cv.right | refine Cv.skip ?_)), by dsimp only; omega⟩
    · as_aux_lemma =>
      rw [if_neg hz] at hI hk2
      rw [hp1]
      (conv => whnf); repeat ((first | refine tk1 ?_ | refine tk2 ?_ | refine tk3 ?_ | refine tk12 (fun _ => ?_) | refine tk4 ?_ | refine tk5 ?_ | refine tk6 ?_ | refine tk7 ?_ | refine tk8 ?_ | refine tk9 ?_ | refine tk10 (fun _ _ => ?_) | refine tk11 (fun _ => ?_) | refine tk13 ?_ | refine tk14 ?_); (conv => whnf))
      exact ⟨⟨k + n, ⟨1, s.left - n, s.line, s.trail⟩, d ++ (b.drop k).take n, ⟨y.lA, y.lc, dA, dc⟩⟩, ⟨by dsimp only; omega, hk2, hI, hd2⟩, rfl, Cv.into (by (try dsimp only); repeat' (first | with_reducible exact Cv.refl | with_reducible exact Cv.left | with_reducible exact Cv.right | with_reducible exact Cv.nil | (with_reducible apply Cv.cons; focus ((repeat (first | with_reducible exact Pick.here | with_reducible apply Pick.skip)); done)) | (apply Cv.cons; focus ((repeat (first | exact Pick.here | apply Pick.skip)); done)) | exact Cv.nil | exact Cv.refl | exact Cv.left | exact Cv.right | refine Cv.skip ?_)), by dsimp only; omega⟩
end Go.Proofs.YtbgnogdlkmhnkaaGreatDoor.Vex
/- Bodies under way compared, the statements' own first body, and ChunkKeeps, reckoned. -/
namespace Go.Proofs.YtbgnogdlkmhnkaaGreatDoor.Vex
open Go Go.RowKit
set_option maxRecDepth 100000
set_option linter.unusedSectionVars false
variable {gI : GI} [HasMax gI] [HasUtf gI] [HasErr gI]

theorem CSame_r (s t : CSt) (A B : Option Addr) (cp cq : Nat) (hs : s.line.length ≤ 1000000000) (ht : t.line.length ≤ 1000000000) :
    FnR Tryz.prog gI 13 [cV s A cp, cV t B cq] [(A, s.line.map byteV), (B, t.line.map byteV)] (.bool (decide (s = t))) := by
  obtain ⟨ap, al, an, at'⟩ := s
  obtain ⟨bp, bl, bn, bt⟩ := t
  unfold cV
  dsimp only at hs ht ⊢
  refine FnE.of tys_ok Tryz.func13 rfl (by kernel_rfl) rfl rfl ?_; intro w hG hP
  have hA : ∀ H, RdA (mkC Tryz.prog gI w hG) H A (an.map byteV) := fun H => ⟨hP.1.now⟩
  have hB : ∀ H, RdA (mkC Tryz.prog gI w hG) H B (bn.map byteV) := fun H => ⟨hP.2.1.now⟩
  (conv => whnf); repeat ((first | refine tk1 ?_ | refine tk2 ?_ | refine tk3 ?_ | refine tk12 (fun _ => ?_) | refine tk4 ?_ | refine tk5 ?_ | refine tk6 ?_ | refine tk7 ?_ | refine tk8 ?_ | refine tk9 ?_ | refine tk10 (fun _ _ => ?_) | refine tk11 (fun _ => ?_) | refine tk13 ?_ | refine tk14 ?_); (conv => whnf))
  refine Cmp.cases (fun h1 => ?_) (fun h1 => ?_)
  rotate_left
  · rw [decide_eq_false (show ¬ (⟨ap, al, an, at'⟩ : CSt) = ⟨bp, bl, bn, bt⟩ from fun h => h1 (by rw [show ap = bp from congrArg CSt.ph h]))]
    (conv => whnf); repeat ((first | refine tk1 ?_ | refine tk2 ?_ | refine tk3 ?_ | refine tk12 (fun _ => ?_) | refine tk4 ?_ | refine tk5 ?_ | refine tk6 ?_ | refine tk7 ?_ | refine tk8 ?_ | refine tk9 ?_ | refine tk10 (fun _ _ => ?_) | refine tk11 (fun _ => ?_) | refine tk13 ?_ | refine tk14 ?_); (conv => whnf))
    exact fun w' _ => rfl
  (conv => whnf); repeat ((first | refine tk1 ?_ | refine tk2 ?_ | refine tk3 ?_ | refine tk12 (fun _ => ?_) | refine tk4 ?_ | refine tk5 ?_ | refine tk6 ?_ | refine tk7 ?_ | refine tk8 ?_ | refine tk9 ?_ | refine tk10 (fun _ _ => ?_) | refine tk11 (fun _ => ?_) | refine tk13 ?_ | refine tk14 ?_); (conv => whnf))
  refine Cmp.cases (fun h2 => ?_) (fun h2 => ?_)
  rotate_left
  · rw [decide_eq_false (show ¬ (⟨ap, al, an, at'⟩ : CSt) = ⟨bp, bl, bn, bt⟩ from fun h => h2 (congrArg CSt.left h))]
    (conv => whnf); repeat ((first | refine tk1 ?_ | refine tk2 ?_ | refine tk3 ?_ | refine tk12 (fun _ => ?_) | refine tk4 ?_ | refine tk5 ?_ | refine tk6 ?_ | refine tk7 ?_ | refine tk8 ?_ | refine tk9 ?_ | refine tk10 (fun _ _ => ?_) | refine tk11 (fun _ => ?_) | refine tk13 ?_ | refine tk14 ?_); (conv => whnf))
    exact fun w' _ => rfl
  (conv => whnf); repeat ((first | refine tk1 ?_ | refine tk2 ?_ | refine tk3 ?_ | refine tk12 (fun _ => ?_) | refine tk4 ?_ | refine tk5 ?_ | refine tk6 ?_ | refine tk7 ?_ | refine tk8 ?_ | refine tk9 ?_ | refine tk10 (fun _ _ => ?_) | refine tk11 (fun _ => ?_) | refine tk13 ?_ | refine tk14 ?_); (conv => whnf))
  refine B2S.rd (hA _).ok rfl ?_
  (conv => whnf); repeat ((first | refine tk1 ?_ | refine tk2 ?_ | refine tk3 ?_ | refine tk12 (fun _ => ?_) | refine tk4 ?_ | refine tk5 ?_ | refine tk6 ?_ | refine tk7 ?_ | refine tk8 ?_ | refine tk9 ?_ | refine tk10 (fun _ _ => ?_) | refine tk11 (fun _ => ?_) | refine tk13 ?_ | refine tk14 ?_); (conv => whnf))
  refine B2S.rd (hB _).ok rfl ?_
  (conv => whnf); repeat ((first | refine tk1 ?_ | refine tk2 ?_ | refine tk3 ?_ | refine tk12 (fun _ => ?_) | refine tk4 ?_ | refine tk5 ?_ | refine tk6 ?_ | refine tk7 ?_ | refine tk8 ?_ | refine tk9 ?_ | refine tk10 (fun _ _ => ?_) | refine tk11 (fun _ => ?_) | refine tk13 ?_ | refine tk14 ?_); (conv => whnf))
  refine Cmp.cases (fun h3 => ?_) (fun h3 => ?_)
  rotate_left
  · rw [decide_eq_false (show ¬ (⟨ap, al, an, at'⟩ : CSt) = ⟨bp, bl, bn, bt⟩ from fun h => h3 (congrArg CSt.line h))]
    (conv => whnf); repeat ((first | refine tk1 ?_ | refine tk2 ?_ | refine tk3 ?_ | refine tk12 (fun _ => ?_) | refine tk4 ?_ | refine tk5 ?_ | refine tk6 ?_ | refine tk7 ?_ | refine tk8 ?_ | refine tk9 ?_ | refine tk10 (fun _ _ => ?_) | refine tk11 (fun _ => ?_) | refine tk13 ?_ | refine tk14 ?_); (conv => whnf))
    exact fun w' _ => rfl
  (conv => whnf); repeat ((first | refine tk1 ?_ | refine tk2 ?_ | refine tk3 ?_ | refine tk12 (fun _ => ?_) | refine tk4 ?_ | refine tk5 ?_ | refine tk6 ?_ | refine tk7 ?_ | refine tk8 ?_ | refine tk9 ?_ | refine tk10 (fun _ _ => ?_) | refine tk11 (fun _ => ?_) | refine tk13 ?_ | refine tk14 ?_); (conv => whnf))
  refine Cmp.of (decide ((⟨ap, al, an, at'⟩ : CSt) = ⟨bp, bl, bn, bt⟩)) (by rw [decide_eq_true_eq, CSt.mk.injEq]; exact ⟨fun h => h.2.2.2, fun h => ⟨by omega, h2, h3, h⟩⟩) ?_
  (conv => whnf); repeat ((first | refine tk1 ?_ | refine tk2 ?_ | refine tk3 ?_ | refine tk12 (fun _ => ?_) | refine tk4 ?_ | refine tk5 ?_ | refine tk6 ?_ | refine tk7 ?_ | refine tk8 ?_ | refine tk9 ?_ | refine tk10 (fun _ _ => ?_) | refine tk11 (fun _ => ?_) | refine tk13 ?_ | refine tk14 ?_); (conv => whnf))
  exact fun w' _ => rfl
theorem rdw0 {w : World} {A : Option Addr} : Rdw w A [] := fun j u h => by simp at h
def aliveC : List UInt8 := [51, 13, 10, 97, 98, 99, 13, 10, 48, 13, 10, 13, 10, 120]
theorem alive_feed : feedG cst0 aliveC = ⟨⟨4, 0, [], 0⟩, [97, 98, 99], 13, 0⟩ := by decide +kernel
theorem alive22_f : Fn Tryz.prog gI 8 [] (.bool true) := by
  refine Fn.of tys_ok Tryz.func8 rfl (by kernel_rfl) rfl rfl ?_; intro w hG
  (conv => whnf); repeat ((first | refine tk1 ?_ | refine tk2 ?_ | refine tk3 ?_ | refine tk12 (fun _ => ?_) | refine tk4 ?_ | refine tk5 ?_ | refine tk6 ?_ | refine tk7 ?_ | refine tk8 ?_ | refine tk9 ?_ | refine tk10 (fun _ _ => ?_) | refine tk11 (fun _ => ?_) | refine tk13 ?_ | refine tk14 ?_); (conv => whnf))
  rename_i b7
  refine Oth.same tys_ok rfl rfl rfl (fun o7 ho7 => ?_)
  have hR7 : ∀ H, RdA (mkC Tryz.prog gI w hG) (.obj b7 o7 :: H) (some ⟨b7, 0, none⟩) _ := ho7.rd
  have hs := Feed_f (gI := gI) cst0 none 0 (some ⟨b7, 0, none⟩) 14 aliveC (by decide) (by decide)
  rw [alive_feed] at hs
  (conv => whnf); repeat ((first | refine tk1 ?_ | refine tk2 ?_ | refine tk3 ?_ | refine tk12 (fun _ => ?_) | refine tk4 ?_ | refine tk5 ?_ | refine tk6 ?_ | refine tk7 ?_ | refine tk8 ?_ | refine tk9 ?_ | refine tk10 (fun _ _ => ?_) | refine tk11 (fun _ => ?_) | refine tk13 ?_ | refine tk14 ?_); (conv => whnf))
  refine CallK.fnT hs (fun w1 hw1 => ⟨⟨rdw0, RdA.ok (xs := aliveC.map byteV) w1 hw1, trivial⟩, by decide, by decide⟩) ?_
  intro y _
  dsimp only [FeedV, FeedH, cV, List.cons_append, List.nil_append, List.append_nil]
  (conv => whnf); repeat ((first | refine tk1 ?_ | refine tk2 ?_ | refine tk3 ?_ | refine tk12 (fun _ => ?_) | refine tk4 ?_ | refine tk5 ?_ | refine tk6 ?_ | refine tk7 ?_ | refine tk8 ?_ | refine tk9 ?_ | refine tk10 (fun _ _ => ?_) | refine tk11 (fun _ => ?_) | refine tk13 ?_ | refine tk14 ?_); (conv => whnf))
  refine B2S.tc (xs := [97, 98, 99].map byteV) (l := [97, 98, 99]) rfl rfl ?_
  (conv => whnf); repeat ((first | refine tk1 ?_ | refine tk2 ?_ | refine tk3 ?_ | refine tk12 (fun _ => ?_) | refine tk4 ?_ | refine tk5 ?_ | refine tk6 ?_ | refine tk7 ?_ | refine tk8 ?_ | refine tk9 ?_ | refine tk10 (fun _ _ => ?_) | refine tk11 (fun _ => ?_) | refine tk13 ?_ | refine tk14 ?_); (conv => whnf))
/-- What goes on tells either all or nothing. -/
theorem feed_ok (s : CSt) (b : List UInt8) : ((feedG s b).e = 0 ∧ (feedG s b).data.length ≤ (feedG s b).used ∧ (feedG s b).used ≤ b.length ∧ ((feedG s b).used = b.length ∨ (feedG s b).c.ph = 4) ∧ chMay (feedG s b).c = true ∧ feedG s b = fedG s [] 0 b ∧ chMay s = true ∧ s.ph ≠ 4 ∧ b.length ≤ 131072) ∨
    ((feedG s b).e ≠ 0 ∧ feedG s b = ⟨cst0, [], 0, (feedG s b).e⟩) := by
  unfold feedG
  cases hm : chMay s
  · exact .inr ⟨by simp, by simp⟩
  rw [if_pos rfl]
  by_cases h4 : s.ph = 4
  · rw [if_pos h4]; exact .inr ⟨by decide, rfl⟩
  rw [if_neg h4]
  by_cases hb : b.length ≤ 131072
  · rw [if_pos hb]
    rcases fed_used b s [] 0 (Nat.le_refl _) with ⟨a1, a2, a3, a4⟩ | h
    · exact .inl ⟨a1, a2, by omega, by rcases a4 with a | a; exact .inl (by omega); exact .inr a, fed_keeps b s [] 0 hm a1, rfl, rfl, h4, hb⟩
    · exact .inr h
  · rw [if_neg hb]; exact .inr ⟨by decide, rfl⟩
theorem may_257 {s : CSt} (h : chMay s = true) : s.line.length ≤ 257 := by
  obtain ⟨ph, left, line, trail⟩ := s
  have hb : line.length ≤ (bare line).length + 1 := by
    unfold bare
    split
    · rw [List.length_dropLast]; omega
    · omega
  unfold chMay lineMay at h
  rw [Bool.and_eq_true] at h
  have h := h.1
  dsimp only at h ⊢
  split at h
  · simp only [Bool.and_eq_true, decide_eq_true_eq] at h; have := h.2; omega
  split at h
  · simp only [decide_eq_true_eq] at h; subst h; simp
  split at h
  · simp only [Bool.and_eq_true, decide_eq_true_eq] at h; have : (bare line).length = 0 := by rw [h.2]; rfl
    omega
  split at h
  · simp only [Bool.and_eq_true, decide_eq_true_eq] at h; have := h.2; omega
  · cases h
end Go.Proofs.YtbgnogdlkmhnkaaGreatDoor.Vex
/- Plain laws on bodies in chunks: what is wrapped is read. No program in sight. -/
namespace Go.Proofs.YtbgnogdlkmhnkaaGreatDoor.Vex

def hxD (n : Nat) : UInt8 := if n < 10 then (48 + n).toUInt8 else (87 + n).toUInt8
def hxF : Nat → Nat → List UInt8
  | 0, n => [hxD (n % 16)]
  | f + 1, n => if n < 16 then [hxD n] else hxF f (n / 16) ++ [hxD (n % 16)]
def hxS (n : Nat) : List UInt8 := hxF 16 n
def wrapG (b : List UInt8) : List UInt8 := if b = [] then [] else hxS b.length ++ [13, 10] ++ b ++ [13, 10]
theorem hxD_dig : ∀ k : Nat, k < 16 → digI (hxD k).toNat = k := by decide +kernel
theorem hexN_snoc (l : List UInt8) (x : UInt8) : hexN (l ++ [x]) = 16 * hexN l + digI x.toNat := by
  unfold hexN
  rw [List.foldl_append]
  rfl
theorem hxF_all : ∀ (f n : Nat), (hxF f n).all hexB = true
  | 0, n => by
    have := hxD_dig (n % 16) (by omega)
    simp only [hxF, List.all_cons, List.all_nil, Bool.and_true]
    exact (hexB_iff _).2 (by omega)
  | f + 1, n => by
    unfold hxF
    split
    · have := hxD_dig n (by omega)
      simp only [List.all_cons, List.all_nil, Bool.and_true]
      exact (hexB_iff _).2 (by omega)
    · have := hxD_dig (n % 16) (by omega)
      rw [List.all_append, hxF_all f]
      simp only [List.all_cons, List.all_nil, Bool.and_true, Bool.true_and]
      exact (hexB_iff _).2 (by omega)
theorem hxF_num : ∀ (f n : Nat), n < 16 ^ (f + 1) → hexN (hxF f n) = n
  | 0, n, h => by
    have := hxD_dig (n % 16) (by omega)
    simp only [hxF, hexN, List.foldl_cons, List.foldl_nil]
    omega
  | f + 1, n, h => by
    unfold hxF
    split
    · have := hxD_dig n (by omega)
      simp only [hexN, List.foldl_cons, List.foldl_nil]
      omega
    · have := hxD_dig (n % 16) (by omega)
      rw [hexN_snoc, hxF_num f (n / 16) (by rw [Nat.pow_succ] at h; omega)]
      omega
theorem hxF_long : ∀ (f k n : Nat), n < 16 ^ (k + 1) → (hxF f n).length ≤ k + 1
  | 0, k, n, h => by simp [hxF]
  | f + 1, k, n, h => by
    unfold hxF
    split
    · simp
    · cases k with
      | zero => omega
      | succ k =>
        rw [List.length_append]
        have := hxF_long f k (n / 16) (by rw [Nat.pow_succ] at h; omega)
        simp only [List.length_singleton]
        omega
theorem hxF_some : ∀ (f n : Nat), 1 ≤ (hxF f n).length
  | 0, n => by simp [hxF]
  | f + 1, n => by
    unfold hxF
    split
    · simp
    · simp
theorem drop_none {p : UInt8 → Bool} : ∀ (l : List UInt8), (∀ x ∈ l, p x = false) → l.dropWhile p = l
  | [], _ => rfl
  | x :: r, h => by rw [List.dropWhile_cons, h x (List.mem_cons_self ..)]; rfl
theorem hex_no {l : List UInt8} (h : l.all hexB = true) (x : UInt8) (hx : hexB x = false) : x ∉ l := fun hm => by
  rw [List.all_eq_true] at h
  rw [h x hm] at hx
  cases hx
theorem hex_digs (l : List UInt8) (h : l.all hexB = true) : digsOf l = l ∧ (cutB 59 l).2.2 = false := by
  have hc := cutB_none 59 l (hex_no h 59 (by decide))
  unfold digsOf
  rw [hc]
  refine ⟨?_, rfl⟩
  dsimp only
  rw [drop_none, List.reverse_reverse]
  intro x hx
  have hm := List.mem_reverse.1 hx
  have h1 : x ≠ 32 := fun e => hex_no h 32 (by decide) (e ▸ hm)
  have h2 : x ≠ 9 := fun e => hex_no h 9 (by decide) (e ▸ hm)
  simp [h1, h2]
theorem hxS_num (n : Nat) (h : n < 16777216) : numC (hxS n) = n := by
  have ha := hxF_all 16 n
  obtain ⟨hd, hf⟩ := hex_digs _ ha
  have hl : (hxF 16 n).length ≤ 6 := hxF_long 16 5 n (by omega)
  unfold numC hxS
  rw [hd, hf, ha, hxF_num 16 n (Nat.lt_of_lt_of_le h (by decide))]
  have hs := hxF_some 16 n
  simp [hs, hl]
theorem hex_cr {l : List UInt8} (h : l.all hexB = true) : crB l = false := by
  unfold crB
  cases he : l.getLast? == some 13 with
  | false => rfl
  | true =>
    rw [beq_iff_eq] at he
    exact absurd (List.mem_of_getLast? he) (hex_no h 13 (by decide))
theorem fed_hex : ∀ (h l d : List UInt8) (i : Nat) (r : List UInt8), h.all hexB = true → l.all hexB = true → l.length + h.length ≤ 64 →
    fedG ⟨0, 0, l, 0⟩ d i (h ++ r) = fedG ⟨0, 0, l ++ h, 0⟩ d (i + h.length) r
  | [], l, d, i, r, _, _, _ => by rw [List.nil_append, List.append_nil]; rfl
  | x :: t, l, d, i, r, hh, hl, hn => by
    rw [List.all_cons, Bool.and_eq_true] at hh
    have hcr := hex_cr hl
    have h13 : x ≠ 13 := fun e => by rw [e] at hh; exact absurd hh.1 (by decide)
    have h10 : x ≠ 10 := fun e => by rw [e] at hh; exact absurd hh.1 (by decide)
    rw [List.length_cons] at hn
    have ho : oneG ⟨0, 0, l, 0⟩ x = (⟨0, 0, l ++ [x], 0⟩, 0) := by
      unfold oneG lineG
      simp only [if_true]
      rw [if_neg (by intro h; omega)]
      simp [hcr, h10]
    rw [List.cons_append, fed_cons, if_neg (by dsimp only; decide), if_neg (by dsimp only; decide), ho, if_pos rfl]
    rw [fed_hex t (l ++ [x]) d (i + 1) r hh.2 (by rw [List.all_append, hl]; simp [hh.1]) (by rw [List.length_append]; simp only [List.length_singleton]; omega)]
    rw [List.append_assoc, List.length_cons]
    rw [show i + 1 + t.length = i + (t.length + 1) by omega]
    rfl
theorem fed_crlf (l d : List UInt8) (i n : Nat) (r : List UInt8) (hl : l.all hexB = true) (hn : numC l = (n : Nat)) (h1 : 1 ≤ n) :
    fedG ⟨0, 0, l, 0⟩ d i (13 :: 10 :: r) = fedG ⟨1, n, [], 0⟩ d (i + 2) r := by
  have hcr := hex_cr hl
  have ho : oneG ⟨0, 0, l, 0⟩ 13 = (⟨0, 0, l ++ [13], 0⟩, 0) := by
    unfold oneG lineG
    simp only [if_true]
    rw [if_neg (by intro h; exact h.2.1 rfl)]
    simp [hcr]
  have ho2 : oneG ⟨0, 0, l ++ [13], 0⟩ 10 = (⟨1, n, [], 0⟩, 0) := by
    have hc2 : crB (l ++ [13]) = true := by rw [cr_snoc]; rfl
    unfold oneG lineG
    simp only [if_true]
    rw [if_neg (by intro h; exact h.2.2.1 rfl)]
    simp only [hc2, Bool.true_and, decide_true, if_true, List.dropLast_concat]
    rw [if_neg (by omega), if_neg (by omega), hn]
  rw [fed_cons, if_neg (by dsimp only; decide), if_neg (by dsimp only; decide), ho, if_pos rfl, fed_cons, if_neg (by dsimp only; decide), if_neg (by dsimp only; decide), ho2, if_pos rfl]
theorem fed_over2 (d : List UInt8) (i : Nat) (r : List UInt8) : fedG ⟨2, 0, [], 0⟩ d i (13 :: 10 :: r) = fedG cst0 d (i + 2) r := by
  have ho : oneG ⟨2, 0, [], 0⟩ 13 = (⟨2, 0, [13], 0⟩, 0) := by decide
  have ho2 : oneG ⟨2, 0, [13], 0⟩ 10 = (cst0, 0) := by decide
  rw [fed_cons, if_neg (by dsimp only; decide), if_neg (by dsimp only; decide), ho, if_pos rfl, fed_cons, if_neg (by dsimp only; decide), if_neg (by dsimp only; decide), ho2, if_pos rfl]
theorem wrapG_long (b : List UInt8) (h : b.length < 16777216) : (wrapG b).length ≤ b.length + 10 := by
  unfold wrapG
  split
  · simp
  · have := hxF_long 16 5 b.length (by omega)
    unfold hxS
    simp only [List.length_append, List.length_cons, List.length_nil]
    omega
/-- Bytes that are wrapped are read. -/
theorem fed_wrap (b d : List UInt8) (i : Nat) (r : List UInt8) (hb : b.length < 16777216) : fedG cst0 d i (wrapG b ++ r) = fedG cst0 (d ++ b) (i + (wrapG b).length) r := by
  by_cases h0 : b = []
  · subst h0
    rw [List.append_nil]
    rfl
  have hpos := List.length_pos_iff.2 h0
  have ha := hxF_all 16 b.length
  have hl : (hxF 16 b.length).length ≤ 6 := hxF_long 16 5 b.length (by omega)
  have hw : wrapG b = hxS b.length ++ (13 :: 10 :: (b ++ [13, 10])) := by
    unfold wrapG
    rw [if_neg h0]
    simp
  rw [hw, List.append_assoc]
  unfold hxS
  unfold cst0
  rw [fed_hex _ _ _ _ _ ha rfl (by simp only [List.length_nil]; omega), List.nil_append]
  rw [List.cons_append, List.cons_append, fed_crlf _ _ _ b.length _ ha (hxS_num _ hb) hpos, List.append_assoc]
  rw [fed_block b.length (b ++ ([13, 10] ++ r)) ⟨1, (b.length : Nat), [], 0⟩ d _ rfl hpos (by simp) (Int.le_refl _)]
  rw [List.take_left, List.drop_left]
  dsimp only
  rw [if_pos (by omega), Int.sub_self]
  rw [show ([13, 10] ++ r : List UInt8) = 13 :: 10 :: r from rfl, fed_over2]
  unfold cst0
  congr 1
  simp only [List.length_append, List.length_cons, List.length_nil]
  omega
def wrapL (l : List (List UInt8)) : List UInt8 := (l.map wrapG).flatten
theorem fed_wraps : ∀ (l : List (List UInt8)) (d : List UInt8) (i : Nat) (r : List UInt8), (∀ b ∈ l, b.length < 16777216) → fedG cst0 d i (wrapL l ++ r) = fedG cst0 (d ++ l.flatten) (i + (wrapL l).length) r
  | [], d, i, r, _ => by simp [wrapL]
  | b :: t, d, i, r, h => by
    have e : wrapL (b :: t) = wrapG b ++ wrapL t := rfl
    rw [e, List.append_assoc, fed_wrap b d i _ (h b (List.mem_cons_self ..)), fed_wraps t _ _ r (fun x hx => h x (List.mem_cons_of_mem _ hx))]
    rw [List.flatten_cons, List.append_assoc, List.length_append, Nat.add_assoc]
def lastC : List UInt8 := [48, 13, 10, 13, 10]
theorem fed_last (d : List UInt8) (i : Nat) (r : List UInt8) : fedG cst0 d i (lastC ++ r) = ⟨⟨4, 0, [], 0⟩, d, i + 5, 0⟩ := by
  have h1 : oneG cst0 48 = (⟨0, 0, [48], 0⟩, 0) := by decide +kernel
  have h2 : oneG ⟨0, 0, [48], 0⟩ 13 = (⟨0, 0, [48, 13], 0⟩, 0) := by decide +kernel
  have h3 : oneG ⟨0, 0, [48, 13], 0⟩ 10 = (⟨3, 0, [], 0⟩, 0) := by decide +kernel
  have h4 : oneG ⟨3, 0, [], 0⟩ 13 = (⟨3, 0, [13], 1⟩, 0) := by decide +kernel
  have h5 : oneG ⟨3, 0, [13], 1⟩ 10 = (⟨4, 0, [], 0⟩, 0) := by decide +kernel
  rw [show lastC ++ r = 48 :: 13 :: 10 :: 13 :: 10 :: r from rfl]
  rw [fed_cons, if_neg (by decide), if_neg (by decide), h1, if_pos rfl]
  rw [fed_cons, if_neg (by decide), if_neg (by decide), h2, if_pos rfl]
  rw [fed_cons, if_neg (by decide), if_neg (by decide), h3, if_pos rfl]
  rw [fed_cons, if_neg (by decide), if_neg (by decide), h4, if_pos rfl]
  rw [fed_cons, if_neg (by decide), if_neg (by decide), h5, if_pos rfl]
  rw [fed_over _ _ _ _ rfl]
theorem feed_pieces (l : List (List UInt8)) (h : ∀ b ∈ l, b.length < 16777216) (hl : (wrapL l).length ≤ 131072) : feedG cst0 (wrapL l) = ⟨cst0, l.flatten, (wrapL l).length, 0⟩ := by
  have hf := fed_wraps l [] 0 [] h
  rw [List.append_nil, List.nil_append, Nat.zero_add] at hf
  unfold feedG
  rw [if_pos (by decide), if_neg (by decide), if_pos hl, hf]
  rfl
theorem feed_whole (l : List (List UInt8)) (more : List UInt8) (h : ∀ b ∈ l, b.length < 16777216) (hl : (wrapL l).length + 5 + more.length ≤ 131072) :
    feedG cst0 (wrapL l ++ lastC ++ more) = ⟨⟨4, 0, [], 0⟩, l.flatten, (wrapL l).length + 5, 0⟩ := by
  have hf := fed_wraps l [] 0 (lastC ++ more) h
  rw [List.nil_append, Nat.zero_add] at hf
  unfold feedG
  rw [if_pos (by decide), if_neg (by decide), if_pos (by rw [List.length_append, List.length_append]; exact hl), List.append_assoc, hf, fed_last]
end Go.Proofs.YtbgnogdlkmhnkaaGreatDoor.Vex
/- strconv.FormatInt to the base of 16, reckoned; what of the tables it reads. -/
namespace Go.Proofs.YtbgnogdlkmhnkaaGreatDoor.Vex
open Go Go.RowKit Go.ChangeShapes
set_option maxRecDepth 100000
set_option linter.unusedSectionVars false

/-- The one entry of the table that a base of 16 reads. -/
class HasTz (g : GI) : Prop where
  ok : ∀ w, g.G w → w.cell? ⟨5, 15, none⟩ = some (.int .u8 4)
def gV : GI where
  n := max gU.n (5 + 1)
  G w := gU.G w ∧ w.cell? ⟨5, 15, none⟩ = some (.int .u8 4)
  keep w w' h := fun ⟨h1, h2⟩ => ⟨gU.keep w w' (fun k hk => h k (Nat.lt_of_lt_of_le hk (Nat.le_max_left _ _))) h1, (World.cell?_of_block (h 5 (by omega))).trans h2⟩
  size w := fun ⟨h1, h2⟩ => Nat.max_le.2 ⟨gU.size w h1, World.block_lt_of_cell? _ _ h2⟩
instance : HasMax gV := ⟨fun _ h => h.1.1.1.1⟩
instance : HasErr gV := ⟨fun _ h => h.1.1.1.2⟩
instance : HasPow gV := ⟨fun _ h => h.1.1.2⟩
instance : HasUtf gV := ⟨fun _ h => h.1.2⟩
instance : HasTz gV := ⟨fun _ h => h.2⟩
theorem tz_name : Tryz.prog.globalNamed "math/bits.deBruijn64tab" = some 5 := by kernel_rfl
def tzTab : List Int := [0, 1, 56, 2, 57, 49, 28, 3, 61, 58, 42, 50, 38, 29, 17, 4, 62, 47, 59, 36, 45, 43, 51, 22, 53, 39, 33, 30, 24, 18, 12, 5, 63, 55, 48, 27, 60, 41, 37, 16, 46, 35, 44, 21, 52, 32, 23, 11, 54, 26, 40, 15, 34, 20, 31, 10, 25, 14, 19, 9, 13, 8, 7, 6]
theorem gV_of {l : List (String × DataW Unit)} {W : World} (hL : laidMetH Tryz.prog l W) (hS : W.ShapedOpen Tryz.prog) (hp : (l.all fun x => x.2.handleName?.isNone) = true)
    (h1 : ("strconv.ErrSyntax", Rows.laid_strconv_ErrSyntax) ∈ l) (h2 : ("strconv.ErrRange", Rows.laid_strconv_ErrRange) ∈ l) (h3 : ("internal/strconv.uint64pow10", Rows.laid_internal_strconv_uint64pow10) ∈ l)
    (h4 : ("unicode/utf8.first", Rows.laid_unicode_utf8_first) ∈ l) (h5 : ("unicode/utf8.acceptRanges", Rows.laid_unicode_utf8_acceptRanges) ∈ l) (h6 : ("math/bits.deBruijn64tab", Rows.laid_math_bits_deBruijn64tab) ∈ l) : gV.G W := by
  have e6 : (Rows.laid_math_bits_deBruijn64tab : DataW Unit) = Lib.tabData .u8 tzTab := by kernel_rfl
  rw [e6] at h6
  have ht := tab_of (t := 139) (e := 5) (m := 64) (reads_of hL hp h6) tz_name (by kernel_rfl) Tryz.underlying139 Tryz.underlying5 (by kernel_rfl) (by kernel_rfl)
  exact ⟨gU_of hL hS hp h1 h2 h3 h4 h5, ht.cell tz_name 15 (by decide)⟩

section
variable {c : Ctx} {T : Ty} {H : Hp} {fr : Fr} {dst : Option Nat} {ty : TypeId} {pos : String} {after : Array Edge} {gd : Option (Nat × Bool)}
/-- An array's end, as a slice. -/
theorem OthP.slcArr {t e n : Nat} {x lo : Operand} {b : Nat} {k : IntKind} {z : Int} {K : Value → Prop} (hT : TOk c.P T) (ht : (lookT T t).d = .array n e) (he : (lookT T e).d ≠ .invalid) (hs : (lookT T e).size = 1)
    (hx : evK fr x fun v => v = .pointer (some ⟨b, 0, none⟩)) (hl : evK fr lo fun v => v = .int k z) (h0 : 0 ≤ z) (h1 : z < n) (kk : K (.slice (some ⟨b, z.toNat, none⟩) (n - z.toNat) (n - z.toNat))) :
    OthP c ⟨dst, .slice t x (some lo) none none, ty, pos, after, gd⟩ fr H K := ⟨⟨_, kk, fun w _ => by
  rw [evK_eq] at hx hl
  have hu := (lookT_ok hT (t := t) (by rw [ht]; intro h; cases h)).1
  rw [ht] at hu
  have hse := run_sizeOf (lookT_ok hT he) w
  rw [hs] at hse
  have hne : ¬ n = z.toNat := by omega
  have hle : z ≤ n := by omega
  generalize (act fr).eval = ρ at *
  simp [execOp, hx, hl, Instr.sliceAt, Instr.sliceBounds, Instr.sliceBound, asIntOf, Sem.run_bind, run_underlying hu, Instr.sureAddr, h0, hle, hse, hne, Addr.add_lit]⟩⟩
/-- A box's cells from a place on. -/
theorem RdS.boxAt {b k : Nat} {vs : List Value} {t : TypeId} {f : List Value → Hp} [h : BoxAt b H vs t f] : RdS c H (some ⟨b, k, none⟩) (vs.drop k) := fun w hw j u hj => by
  obtain ⟨H1, H2, rfl, _⟩ := h.ok
  have hg : w.heap[b]? = some (.cells ⟨vs⟩ t (0, 0)) := (hw.own (.box b vs t) (by simp)).1
  rw [List.getElem?_drop] at hj
  exact ⟨_, rfl, by rw [Addr.add_lit, cell_of_row w b (k + j) ⟨vs⟩ t _ hg]; simpa using hj⟩
end
theorem Ar.u64 {z : Int} {K : Value → Prop} (h : 0 ≤ z) (h' : z < 18446744073709551616) (k : K (.int .u64 z)) : Ar .u64 z K := ⟨z, by rw [IntKind.wrap_u64]; omega, k⟩
variable {gI : GI} [HasTz gI]
theorem Pow2_f : Fn Tryz.prog gI 61 [.int .i64 16] (.bool true) := by
  refine Fn.of tys_ok Tryz.func61 rfl (by kernel_rfl) rfl rfl ?_; intro w hG
  (conv => whnf); repeat ((first | refine tk1 ?_ | refine tk2 ?_ | refine tk3 ?_ | refine tk12 (fun _ => ?_) | refine tk4 ?_ | refine tk5 ?_ | refine tk6 ?_ | refine tk7 ?_ | refine tk8 ?_ | refine tk9 ?_ | refine tk10 (fun _ _ => ?_) | refine tk11 (fun _ => ?_) | refine tk13 ?_ | refine tk14 ?_); (conv => whnf))
  refine OthP.ints rfl rfl (v := .int .i64 0) (fun w => rfl) ?_
  (conv => whnf); repeat ((first | refine tk1 ?_ | refine tk2 ?_ | refine tk3 ?_ | refine tk12 (fun _ => ?_) | refine tk4 ?_ | refine tk5 ?_ | refine tk6 ?_ | refine tk7 ?_ | refine tk8 ?_ | refine tk9 ?_ | refine tk10 (fun _ _ => ?_) | refine tk11 (fun _ => ?_) | refine tk13 ?_ | refine tk14 ?_); (conv => whnf))
theorem Tz64_f : Fn Tryz.prog gI 87 [.int .u64 16] (.int .i64 4) := by
  refine Fn.of tys_ok Tryz.func87 rfl (by kernel_rfl) rfl rfl ?_; intro w hG
  have ht := HasTz.ok w hG
  (conv => whnf); repeat ((first | refine tk1 ?_ | refine tk2 ?_ | refine tk3 ?_ | refine tk12 (fun _ => ?_) | refine tk4 ?_ | refine tk5 ?_ | refine tk6 ?_ | refine tk7 ?_ | refine tk8 ?_ | refine tk9 ?_ | refine tk10 (fun _ _ => ?_) | refine tk11 (fun _ => ?_) | refine tk13 ?_ | refine tk14 ?_); (conv => whnf))
  refine ⟨18446744073709551600, rfl, ?_⟩
  (conv => whnf); repeat ((first | refine tk1 ?_ | refine tk2 ?_ | refine tk3 ?_ | refine tk12 (fun _ => ?_) | refine tk4 ?_ | refine tk5 ?_ | refine tk6 ?_ | refine tk7 ?_ | refine tk8 ?_ | refine tk9 ?_ | refine tk10 (fun _ _ => ?_) | refine tk11 (fun _ => ?_) | refine tk13 ?_ | refine tk14 ?_); (conv => whnf))
  refine OthP.ints rfl rfl (v := .int .u64 16) (fun w => rfl) ?_
  (conv => whnf); repeat ((first | refine tk1 ?_ | refine tk2 ?_ | refine tk3 ?_ | refine tk12 (fun _ => ?_) | refine tk4 ?_ | refine tk5 ?_ | refine tk6 ?_ | refine tk7 ?_ | refine tk8 ?_ | refine tk9 ?_ | refine tk10 (fun _ _ => ?_) | refine tk11 (fun _ => ?_) | refine tk13 ?_ | refine tk14 ?_); (conv => whnf))
  refine ⟨4573923408821661840, rfl, ?_⟩
  (conv => whnf); repeat ((first | refine tk1 ?_ | refine tk2 ?_ | refine tk3 ?_ | refine tk12 (fun _ => ?_) | refine tk4 ?_ | refine tk5 ?_ | refine tk6 ?_ | refine tk7 ?_ | refine tk8 ?_ | refine tk9 ?_ | refine tk10 (fun _ _ => ?_) | refine tk11 (fun _ => ?_) | refine tk13 ?_ | refine tk14 ?_); (conv => whnf))
  refine OthP.ints rfl rfl (v := .int .u64 15) (fun w => rfl) ?_
  (conv => whnf); repeat ((first | refine tk1 ?_ | refine tk2 ?_ | refine tk3 ?_ | refine tk12 (fun _ => ?_) | refine tk4 ?_ | refine tk5 ?_ | refine tk6 ?_ | refine tk7 ?_ | refine tk8 ?_ | refine tk9 ?_ | refine tk10 (fun _ _ => ?_) | refine tk11 (fun _ => ?_) | refine tk13 ?_ | refine tk14 ?_); (conv => whnf))
  refine OthP.idxArr (b := 5) (k := .u64) (z := 15) tys_ok rfl (fun h => nomatch h) rfl rfl rfl (by decide) (by decide) ?_
  (conv => whnf); repeat ((first | refine tk1 ?_ | refine tk2 ?_ | refine tk3 ?_ | refine tk12 (fun _ => ?_) | refine tk4 ?_ | refine tk5 ?_ | refine tk6 ?_ | refine tk7 ?_ | refine tk8 ?_ | refine tk9 ?_ | refine tk10 (fun _ _ => ?_) | refine tk11 (fun _ => ?_) | refine tk13 ?_ | refine tk14 ?_); (conv => whnf))
  refine Ld.now ht ?_
  (conv => whnf); repeat ((first | refine tk1 ?_ | refine tk2 ?_ | refine tk3 ?_ | refine tk12 (fun _ => ?_) | refine tk4 ?_ | refine tk5 ?_ | refine tk6 ?_ | refine tk7 ?_ | refine tk8 ?_ | refine tk9 ?_ | refine tk10 (fun _ _ => ?_) | refine tk11 (fun _ => ?_) | refine tk13 ?_ | refine tk14 ?_); (conv => whnf))
theorem Tz_f : Fn Tryz.prog gI 62 [.int .u64 16] (.int .i64 4) := by
  refine Fn.of tys_ok Tryz.func62 rfl (by kernel_rfl) rfl rfl ?_; intro w hG
  (conv => whnf); repeat ((first | refine tk1 ?_ | refine tk2 ?_ | refine tk3 ?_ | refine tk12 (fun _ => ?_) | refine tk4 ?_ | refine tk5 ?_ | refine tk6 ?_ | refine tk7 ?_ | refine tk8 ?_ | refine tk9 ?_ | refine tk10 (fun _ _ => ?_) | refine tk11 (fun _ => ?_) | refine tk13 ?_ | refine tk14 ?_); (conv => whnf))
  refine CallK.fn (Tz64_f (gI := gI)) ?_
  (conv => whnf); repeat ((first | refine tk1 ?_ | refine tk2 ?_ | refine tk3 ?_ | refine tk12 (fun _ => ?_) | refine tk4 ?_ | refine tk5 ?_ | refine tk6 ?_ | refine tk7 ?_ | refine tk8 ?_ | refine tk9 ?_ | refine tk10 (fun _ _ => ?_) | refine tk11 (fun _ => ?_) | refine tk13 ?_ | refine tk14 ?_); (conv => whnf))

theorem and15 (u : Nat) (h : u < 18446744073709551616) : bits .and .u64 (u : Int) 15 = ((u % 16 : Nat) : Int) := by
  have := bits_and_u64_nat u 15 h (by decide)
  rw [show ((15 : Nat) : Int) = 15 from rfl] at this
  rw [this, show (15 : Nat) = 2 ^ 4 - 1 from rfl, Nat.and_two_pow_sub_one_eq_mod]
def arrC (dg : List UInt8) : List Value := List.replicate (65 - dg.length) (.int .u8 0) ++ dg.map byteV
theorem arrC_length (dg : List UInt8) (h : dg.length ≤ 65) : (arrC dg).length = 65 := by
  unfold arrC
  rw [List.length_append, List.length_replicate, List.length_map]
  omega
theorem arrC_set (dg : List UInt8) (x : UInt8) (h : dg.length < 65) : (arrC dg).set (64 - dg.length) (.int .u8 x.toNat) = arrC (x :: dg) := by
  unfold arrC
  rw [show 65 - dg.length = (64 - dg.length) + 1 by omega, List.replicate_succ', List.append_assoc, List.set_append_right _ _ (by rw [List.length_replicate]; exact Nat.le_refl _)]
  rw [List.length_replicate, Nat.sub_self, List.length_cons, show 65 - (dg.length + 1) = 64 - dg.length by omega]
  rfl
theorem arrC_drop (dg : List UInt8) : (arrC dg).drop (65 - dg.length) = dg.map byteV := by
  unfold arrC
  rw [List.drop_append_of_le_length (by rw [List.length_replicate]; exact Nat.le_refl _), List.drop_of_length_le (by rw [List.length_replicate]; exact Nat.le_refl _), List.nil_append]
def digL : List UInt8 := [48, 49, 50, 51, 52, 53, 54, 55, 56, 57, 97, 98, 99, 100, 101, 102, 103, 104, 105, 106, 107, 108, 109, 110, 111, 112, 113, 114, 115, 116, 117, 118, 119, 120, 121, 122]
theorem digL_at : ∀ k : Nat, k < 16 → digL[k]? = some (hxD k) := by decide +kernel
structure FB where
  f : Nat
  u : Nat
  dg : List UInt8
set_option maxHeartbeats 4000000 in
theorem formatBits_f (n : Nat) (hn : n < 18446744073709551616) : FnE Tryz.prog gI 40 [.slice none 0 0, .int .u64 n, .int .i64 16, .bool false, .bool false] (fun _ => True) fun _ v _ => v = .tuple #[.slice none 0 0, str (hxS n)] := by
  refine FnE.of tys_ok Tryz.func40 rfl (by kernel_rfl) rfl rfl ?_; intro w hG hP
  (conv => whnf); repeat ((first | refine tk1 ?_ | refine tk2 ?_ | refine tk3 ?_ | refine tk12 (fun _ => ?_) | refine tk4 ?_ | refine tk5 ?_ | refine tk6 ?_ | refine tk7 ?_ | refine tk8 ?_ | refine tk9 ?_ | refine tk10 (fun _ _ => ?_) | refine tk11 (fun _ => ?_) | refine tk13 ?_ | refine tk14 ?_); (conv => whnf))
  rename_i b
  refine CallK.fn (Pow2_f (gI := gI)) ?_
  (conv => whnf); repeat ((first | refine tk1 ?_ | refine tk2 ?_ | refine tk3 ?_ | refine tk12 (fun _ => ?_) | refine tk4 ?_ | refine tk5 ?_ | refine tk6 ?_ | refine tk7 ?_ | refine tk8 ?_ | refine tk9 ?_ | refine tk10 (fun _ _ => ?_) | refine tk11 (fun _ => ?_) | refine tk13 ?_ | refine tk14 ?_); (conv => whnf))
  refine Ar.u64 (by decide) (by decide) ?_
  (conv => whnf); repeat ((first | refine tk1 ?_ | refine tk2 ?_ | refine tk3 ?_ | refine tk12 (fun _ => ?_) | refine tk4 ?_ | refine tk5 ?_ | refine tk6 ?_ | refine tk7 ?_ | refine tk8 ?_ | refine tk9 ?_ | refine tk10 (fun _ _ => ?_) | refine tk11 (fun _ => ?_) | refine tk13 ?_ | refine tk14 ?_); (conv => whnf))
  refine CallK.fn (Tz_f (gI := gI)) ?_
  (conv => whnf); repeat ((first | refine tk1 ?_ | refine tk2 ?_ | refine tk3 ?_ | refine tk12 (fun _ => ?_) | refine tk4 ?_ | refine tk5 ?_ | refine tk6 ?_ | refine tk7 ?_ | refine tk8 ?_ | refine tk9 ?_ | refine tk10 (fun _ _ => ?_) | refine tk11 (fun _ => ?_) | refine tk13 ?_ | refine tk14 ?_); (conv => whnf))
  refine Ar.u64 (by decide) (by decide) ?_
  (conv => whnf); repeat ((first | refine tk1 ?_ | refine tk2 ?_ | refine tk3 ?_ | refine tk12 (fun _ => ?_) | refine tk4 ?_ | refine tk5 ?_ | refine tk6 ?_ | refine tk7 ?_ | refine tk8 ?_ | refine tk9 ?_ | refine tk10 (fun _ _ => ?_) | refine tk11 (fun _ => ?_) | refine tk13 ?_ | refine tk14 ?_); (conv => whnf))
  refine Ar.u64 (by decide) (by decide) ?_
  (conv => whnf); repeat ((first | refine tk1 ?_ | refine tk2 ?_ | refine tk3 ?_ | refine tk12 (fun _ => ?_) | refine tk4 ?_ | refine tk5 ?_ | refine tk6 ?_ | refine tk7 ?_ | refine tk8 ?_ | refine tk9 ?_ | refine tk10 (fun _ _ => ?_) | refine tk11 (fun _ => ?_) | refine tk13 ?_ | refine tk14 ?_); (conv => whnf))
  refine Ar.u64 (by decide) (by decide) ?_
  (conv => whnf); repeat ((first | refine tk1 ?_ | refine tk2 ?_ | refine tk3 ?_ | refine tk12 (fun _ => ?_) | refine tk4 ?_ | refine tk5 ?_ | refine tk6 ?_ | refine tk7 ?_ | refine tk8 ?_ | refine tk9 ?_ | refine tk10 (fun _ _ => ?_) | refine tk11 (fun _ => ?_) | refine tk13 ?_ | refine tk14 ?_); (conv => whnf))
  refine Ar.u64 (by decide) (by decide) ?_
  (conv => whnf); repeat ((first | refine tk1 ?_ | refine tk2 ?_ | refine tk3 ?_ | refine tk12 (fun _ => ?_) | refine tk4 ?_ | refine tk5 ?_ | refine tk6 ?_ | refine tk7 ?_ | refine tk8 ?_ | refine tk9 ?_ | refine tk10 (fun _ _ => ?_) | refine tk11 (fun _ => ?_) | refine tk13 ?_ | refine tk14 ?_); (conv => whnf))
  refine LoopS.lp tys_ok (fun (x : FB) u => [.slice none 0 0, .int .u64 (x.u : Nat), u 2, .bool false, .bool false, u 5, u 6, u 7, u 8, u 9, .slice none 0 0, str [], .pointer (some ⟨b, 0, none⟩), .int .i64 (65 - (x.dg.length : Int)), .int .u64 4, .int .u64 16, .int .u64 15, u 17, u 18, u 19, u 20, u 21, u 22, u 23, u 24, u 25, u 26, u 27, u 28, u 29, u 30, u 31, u 32, u 33, u 34, u 35, u 36, u 37, u 38, u 39, u 40, u 41, u 42, u 43, u 44, u 45, u 46, u 47, u 48, u 49, u 50, u 51, u 52, u 53, u 54, u 55, u 56, u 57, u 58, u 59, u 60, u 61, u 62, u 63, u 64, u 65, u 66, u 67, u 68, u 69, u 70, u 71, u 72, u 73, u 74, u 75, u 76, u 77, u 78, u 79, u 80, u 81, u 82, u 83, u 84, u 85, u 86, u 87, u 88, u 89, u 90, u 91, u 92, u 93, u 94, u 95, u 96, u 97, u 98, u 99, u 100, u 101])
    (fun x => [.box b (arrC x.dg) 103])
    (fun x => x.u < 16 ^ (x.f + 1) ∧ hxF 16 n = hxF x.f x.u ++ x.dg ∧ x.f + x.dg.length = 16 ∧ x.u < 18446744073709551616) (fun x => x.u) ⟨16, n, []⟩ ⟨by dsimp only; omega, by rw [List.append_nil], rfl, hn⟩ rfl (by repeat' (first | exact List.Sublist.refl _ | exact List.nil_sublist _ | apply List.Sublist.cons_cons | apply List.Sublist.cons)) ?_
  rintro ⟨f, u, dg⟩ uu ⟨h1, h2, h3, h4⟩
  dsimp only at h1 h2 h3 h4 ⊢
  have hset := arrC_set dg (hxD (u % 16)) (by omega)
  have hlen := arrC_length dg (by omega)
  (conv => whnf); repeat ((first | refine tk1 ?_ | refine tk2 ?_ | refine tk3 ?_ | refine tk12 (fun _ => ?_) | refine tk4 ?_ | refine tk5 ?_ | refine tk6 ?_ | refine tk7 ?_ | refine tk8 ?_ | refine tk9 ?_ | refine tk10 (fun _ _ => ?_) | refine tk11 (fun _ => ?_) | refine tk13 ?_ | refine tk14 ?_); (conv => whnf))
  refine Cmp.cases (fun c1 => ?_) (fun c1 => ?_)
  · obtain ⟨f, rfl⟩ : ∃ g, f = g + 1 := ⟨f - 1, by rcases f with _ | f; (exfalso; simp at h1; omega); omega⟩
    have hpow : u / 16 < 16 ^ (f + 1) := by rw [Nat.pow_succ] at h1; omega
    have hstep : hxF (f + 1) u = hxF f (u / 16) ++ [hxD (u % 16)] := by rw [hxF, if_neg (by omega)]
    have hand := and15 u h4
    have hdv : ((u : Nat) : Int).fdiv 16 = ((u / 16 : Nat) : Int) := by rw [Int.fdiv_eq_ediv_of_nonneg _ (by decide)]; omega
    (conv => whnf); repeat ((first | refine tk1 ?_ | refine tk2 ?_ | refine tk3 ?_ | refine tk12 (fun _ => ?_) | refine tk4 ?_ | refine tk5 ?_ | refine tk6 ?_ | refine tk7 ?_ | refine tk8 ?_ | refine tk9 ?_ | refine tk10 (fun _ _ => ?_) | refine tk11 (fun _ => ?_) | refine tk13 ?_ | refine tk14 ?_); (conv => whnf))
    refine OthP.ints rfl rfl (v := .int .u64 ((u % 16 : Nat) : Int)) (fun w => by show Result.ok (Value.int .u64 (bits .and .u64 (u : Int) 15)) w = _; rw [hand]) ?_
    (conv => whnf); repeat ((first | refine tk1 ?_ | refine tk2 ?_ | refine tk3 ?_ | refine tk12 (fun _ => ?_) | refine tk4 ?_ | refine tk5 ?_ | refine tk6 ?_ | refine tk7 ?_ | refine tk8 ?_ | refine tk9 ?_ | refine tk10 (fun _ _ => ?_) | refine tk11 (fun _ => ?_) | refine tk13 ?_ | refine tk14 ?_); (conv => whnf))
    refine IdxS.at (hxD (u % 16)) (digL_at (u % 16) (Nat.mod_lt _ (by decide))) (by omega) ?_
    (conv => whnf); repeat ((first | refine tk1 ?_ | refine tk2 ?_ | refine tk3 ?_ | refine tk12 (fun _ => ?_) | refine tk4 ?_ | refine tk5 ?_ | refine tk6 ?_ | refine tk7 ?_ | refine tk8 ?_ | refine tk9 ?_ | refine tk10 (fun _ _ => ?_) | refine tk11 (fun _ => ?_) | refine tk13 ?_ | refine tk14 ?_); (conv => whnf))
    refine OthP.idxArr (b := b) (k := .i64) (z := 65 - (dg.length : Int) - 1) tys_ok rfl (fun h => nomatch h) rfl rfl rfl (by omega) (by omega) ?_
    (conv => whnf); repeat ((first | refine tk1 ?_ | refine tk2 ?_ | refine tk3 ?_ | refine tk12 (fun _ => ?_) | refine tk4 ?_ | refine tk5 ?_ | refine tk6 ?_ | refine tk7 ?_ | refine tk8 ?_ | refine tk9 ?_ | refine tk10 (fun _ _ => ?_) | refine tk11 (fun _ => ?_) | refine tk13 ?_ | refine tk14 ?_); (conv => whnf))
    refine Sto.tc (vs' := arrC (hxD (u % 16) :: dg)) (by rw [show (65 - (dg.length : Int) - 1).toNat = 64 - dg.length by omega]; exact hset) (by rw [hlen]; omega) rfl ?_
    (conv => whnf); repeat ((first | refine tk1 ?_ | refine tk2 ?_ | refine tk3 ?_ | refine tk12 (fun _ => ?_) | refine tk4 ?_ | refine tk5 ?_ | refine tk6 ?_ | refine tk7 ?_ | refine tk8 ?_ | refine tk9 ?_ | refine tk10 (fun _ _ => ?_) | refine tk11 (fun _ => ?_) | refine tk13 ?_ | refine tk14 ?_); (conv => whnf))
    refine OthP.ints rfl rfl (v := .int .u64 (((u : Nat) : Int).fdiv 16)) (fun w => rfl) ?_
    rw [hdv]
    (conv => whnf); repeat ((first | refine tk1 ?_ | refine tk2 ?_ | refine tk3 ?_ | refine tk12 (fun _ => ?_) | refine tk4 ?_ | refine tk5 ?_ | refine tk6 ?_ | refine tk7 ?_ | refine tk8 ?_ | refine tk9 ?_ | refine tk10 (fun _ _ => ?_) | refine tk11 (fun _ => ?_) | refine tk13 ?_ | refine tk14 ?_); (conv => whnf))
    exact ⟨⟨f, u / 16, hxD (u % 16) :: dg⟩, ⟨hpow, by rw [h2, hstep, List.append_assoc]; rfl, by dsimp only; rw [List.length_cons]; omega, by dsimp only; omega⟩, by dsimp only; rw [show (65 : Int) - ((hxD (u % 16) :: dg).length : Int) = 65 - (dg.length : Int) - 1 by rw [List.length_cons]; omega]; rfl, (by repeat' (first | exact List.Sublist.refl _ | exact List.nil_sublist _ | apply List.Sublist.cons_cons | apply List.Sublist.cons)), by dsimp only; omega⟩
  · have hu : u < 16 := by omega
    have hlast : hxF f u = [hxD u] := by
      cases f with
      | zero => rw [hxF, Nat.mod_eq_of_lt hu]
      | succ f => rw [hxF, if_pos hu]
    have hset := arrC_set dg (hxD u) (by omega)
    have hfin : hxS n = hxD u :: dg := by unfold hxS; rw [h2, hlast]; rfl
    (conv => whnf); repeat ((first | refine tk1 ?_ | refine tk2 ?_ | refine tk3 ?_ | refine tk12 (fun _ => ?_) | refine tk4 ?_ | refine tk5 ?_ | refine tk6 ?_ | refine tk7 ?_ | refine tk8 ?_ | refine tk9 ?_ | refine tk10 (fun _ _ => ?_) | refine tk11 (fun _ => ?_) | refine tk13 ?_ | refine tk14 ?_); (conv => whnf))
    refine IdxS.at (hxD u) (digL_at u hu) (by omega) ?_
    (conv => whnf); repeat ((first | refine tk1 ?_ | refine tk2 ?_ | refine tk3 ?_ | refine tk12 (fun _ => ?_) | refine tk4 ?_ | refine tk5 ?_ | refine tk6 ?_ | refine tk7 ?_ | refine tk8 ?_ | refine tk9 ?_ | refine tk10 (fun _ _ => ?_) | refine tk11 (fun _ => ?_) | refine tk13 ?_ | refine tk14 ?_); (conv => whnf))
    refine OthP.idxArr (b := b) (k := .i64) (z := 65 - (dg.length : Int) - 1) tys_ok rfl (fun h => nomatch h) rfl rfl rfl (by omega) (by omega) ?_
    (conv => whnf); repeat ((first | refine tk1 ?_ | refine tk2 ?_ | refine tk3 ?_ | refine tk12 (fun _ => ?_) | refine tk4 ?_ | refine tk5 ?_ | refine tk6 ?_ | refine tk7 ?_ | refine tk8 ?_ | refine tk9 ?_ | refine tk10 (fun _ _ => ?_) | refine tk11 (fun _ => ?_) | refine tk13 ?_ | refine tk14 ?_); (conv => whnf))
    refine Sto.tc (vs' := arrC (hxD u :: dg)) (by rw [show (65 - (dg.length : Int) - 1).toNat = 64 - dg.length by omega]; exact hset) (by rw [hlen]; omega) rfl ?_
    (conv => whnf); repeat ((first | refine tk1 ?_ | refine tk2 ?_ | refine tk3 ?_ | refine tk12 (fun _ => ?_) | refine tk4 ?_ | refine tk5 ?_ | refine tk6 ?_ | refine tk7 ?_ | refine tk8 ?_ | refine tk9 ?_ | refine tk10 (fun _ _ => ?_) | refine tk11 (fun _ => ?_) | refine tk13 ?_ | refine tk14 ?_); (conv => whnf))
    refine OthP.slcArr (b := b) (k := .i64) (z := 65 - (dg.length : Int) - 1) tys_ok rfl (fun h => nomatch h) rfl rfl rfl (by omega) (by omega) ?_
    (conv => whnf); repeat ((first | refine tk1 ?_ | refine tk2 ?_ | refine tk3 ?_ | refine tk12 (fun _ => ?_) | refine tk4 ?_ | refine tk5 ?_ | refine tk6 ?_ | refine tk7 ?_ | refine tk8 ?_ | refine tk9 ?_ | refine tk10 (fun _ _ => ?_) | refine tk11 (fun _ => ?_) | refine tk13 ?_ | refine tk14 ?_); (conv => whnf))
    refine B2S.rd (l := hxD u :: dg) ?_ (by rw [List.length_cons]; omega) ?_
    · have hd := arrC_drop (hxD u :: dg)
      rw [← hd, show (65 - (dg.length : Int) - 1).toNat = 65 - (hxD u :: dg).length by rw [List.length_cons]; omega]
      exact RdS.boxAt
    rw [hfin]
    (conv => whnf); repeat ((first | refine tk1 ?_ | refine tk2 ?_ | refine tk3 ?_ | refine tk12 (fun _ => ?_) | refine tk4 ?_ | refine tk5 ?_ | refine tk6 ?_ | refine tk7 ?_ | refine tk8 ?_ | refine tk9 ?_ | refine tk10 (fun _ _ => ?_) | refine tk11 (fun _ => ?_) | refine tk13 ?_ | refine tk14 ?_); (conv => whnf))
    exact fun w' _ => rfl
theorem FormatInt_f (n : Nat) (hn : n < 9223372036854775808) : Fn Tryz.prog gI 16 [.int .i64 n, .int .i64 16] (str (hxS n)) := by
  have hf := formatBits_f (gI := gI) n (by omega)
  have h2 : FnE Tryz.prog gI 27 [.int .i64 n, .int .i64 16] (fun _ => True) fun _ v _ => v = str (hxS n) := by
    refine FnE.of tys_ok Tryz.func27 rfl (by kernel_rfl) rfl rfl ?_; intro w hG hP
    (conv => whnf); repeat ((first | refine tk1 ?_ | refine tk2 ?_ | refine tk3 ?_ | refine tk12 (fun _ => ?_) | refine tk4 ?_ | refine tk5 ?_ | refine tk6 ?_ | refine tk7 ?_ | refine tk8 ?_ | refine tk9 ?_ | refine tk10 (fun _ _ => ?_) | refine tk11 (fun _ => ?_) | refine tk13 ?_ | refine tk14 ?_); (conv => whnf))
    refine Ar.u64 (by omega) (by omega) ?_
    (conv => whnf); repeat ((first | refine tk1 ?_ | refine tk2 ?_ | refine tk3 ?_ | refine tk12 (fun _ => ?_) | refine tk4 ?_ | refine tk5 ?_ | refine tk6 ?_ | refine tk7 ?_ | refine tk8 ?_ | refine tk9 ?_ | refine tk10 (fun _ _ => ?_) | refine tk11 (fun _ => ?_) | refine tk13 ?_ | refine tk14 ?_); (conv => whnf))
    refine CallK.fnEV hf (fun _ _ => trivial) ?_
    (conv => whnf); repeat ((first | refine tk1 ?_ | refine tk2 ?_ | refine tk3 ?_ | refine tk12 (fun _ => ?_) | refine tk4 ?_ | refine tk5 ?_ | refine tk6 ?_ | refine tk7 ?_ | refine tk8 ?_ | refine tk9 ?_ | refine tk10 (fun _ _ => ?_) | refine tk11 (fun _ => ?_) | refine tk13 ?_ | refine tk14 ?_); (conv => whnf))
    exact fun w' _ => rfl
  refine Fn.of tys_ok Tryz.func16 rfl (by kernel_rfl) rfl rfl ?_; intro w hG
  (conv => whnf); repeat ((first | refine tk1 ?_ | refine tk2 ?_ | refine tk3 ?_ | refine tk12 (fun _ => ?_) | refine tk4 ?_ | refine tk5 ?_ | refine tk6 ?_ | refine tk7 ?_ | refine tk8 ?_ | refine tk9 ?_ | refine tk10 (fun _ _ => ?_) | refine tk11 (fun _ => ?_) | refine tk13 ?_ | refine tk14 ?_); (conv => whnf))
  refine CallK.fnEV h2 (fun _ _ => trivial) ?_
  (conv => whnf); repeat ((first | refine tk1 ?_ | refine tk2 ?_ | refine tk3 ?_ | refine tk12 (fun _ => ?_) | refine tk4 ?_ | refine tk5 ?_ | refine tk6 ?_ | refine tk7 ?_ | refine tk8 ?_ | refine tk9 ?_ | refine tk10 (fun _ _ => ?_) | refine tk11 (fun _ => ?_) | refine tk13 ?_ | refine tk14 ?_); (conv => whnf))
end Go.Proofs.YtbgnogdlkmhnkaaGreatDoor.Vex
/- slices.Concat of three, chunk.Wrap, chunk.Last, reckoned. -/
namespace Go.Proofs.YtbgnogdlkmhnkaaGreatDoor.Vex
open Go Go.RowKit Go.ChangeShapes
set_option maxRecDepth 100000
set_option linter.unusedSectionVars false

def growRen : Go.Shelf.Ren := ⟨fun | 4 => 28 | n => n, fun | 0 => 0 | 3 => 3 | 4 => 4 | 9 => 9 | 20 => 20 | 22 => 22 | 25 => 5 | n => n, fun n => n⟩
theorem growLays : Go.Proofs.Lays8.n4 Tryz.prog growRen := {
  mixed := by kernel_rfl
  f4 := ⟨"slices.Grow[[]byte,byte]", by decide, Tryz.func28.trans (congrArg some (by kernel_rfl))⟩
  t0 := Tryz.underlying0
  a0 := Tryz.isAgg0
  z0 := Tryz.sizeOf0
  v0 := Tryz.zeroValue0
  t3 := Tryz.underlying3
  a3 := Tryz.isAgg3
  z3 := Tryz.sizeOf3
  v3 := Tryz.zeroValue3
  t4 := Tryz.underlying4
  a4 := Tryz.isAgg4
  z4 := Tryz.sizeOf4
  v4 := Tryz.zeroValue4
  t9 := Tryz.underlying9
  a9 := Tryz.isAgg9
  z9 := Tryz.sizeOf9
  v9 := Tryz.zeroValue9
  t20 := Tryz.underlying20
  a20 := Tryz.isAgg20
  z20 := Tryz.sizeOf20
  v20 := Tryz.zeroValue20
  t22 := Tryz.underlying22
  a22 := Tryz.isAgg22
  z22 := Tryz.sizeOf22
  v22 := Tryz.zeroValue22 }
theorem u8Info : ∃ i, Tryz.prog.info? 5 = some i ∧ i.zero = some (.int .u8 0) ∧ i.size = 1 ∧ i.bytes = 1 := by
  have h : (Tryz.prog.info? 5).map (fun i => (i.zero, i.size, i.bytes)) = some (some (Value.int .u8 0), 1, 1) := by kernel_rfl
  cases hi : Tryz.prog.info? 5 with
  | none => rw [hi] at h; cases h
  | some i =>
    rw [hi] at h
    simp only [Option.map_some, Option.some.injEq, Prod.mk.injEq] at h
    exact ⟨i, rfl, h.1, h.2.1, h.2.2⟩
variable {gI : GI}
/-- A nil slice, with room for some bytes. -/
theorem Grow_f (n : Nat) (h1 : 1 ≤ n) (h : n ≤ 1000000000) : FnS Tryz.prog gI 28 [.slice none 0 0, .int .i64 n] [] 5 1 0 [] :=
  ⟨callable Tryz.func28 rfl (by kernel_rfl), fun w hG _ => by
    obtain ⟨i0, hi, hz, hs, hb⟩ := u8Info
    refine (Any8.slices_Grow_grow growLays i0 (.int .u8 0) hi hz (by omega) none 0 0 n [] w (Nat.le_refl _) (by omega) (by rw [hb]; omega) (by omega) (by simp) (fun _ => rfl) (fun a ha => by cases ha)).mono fun e w' ⟨he, hw⟩ => ⟨_, he, ?_, ?_⟩
    · subst hw
      obtain ⟨G, hGe⟩ : ∃ G, grownCap w (0 + n) 0 (growRen.t 25) = G := ⟨_, rfl⟩
      have hg1 : n ≤ G := by have := grownCap_ge w (0 + n) 0 (growRen.t 25); omega
      have hg2 : G ≤ maxLen := by rw [← hGe]; exact grownCap_le_maxLen w (0 + n) 0 _ (by unfold maxLen; omega)
      rw [hGe]
      refine ⟨⟨rfl, .inr ⟨w.heap.size, G, _, (0, 0), rfl, heap_alloc_new w.drew _, Nat.zero_le _, hg2, ?_, ?_, .inl (Nat.le_refl _)⟩⟩, fun b hb => ?_⟩
      · simp only [Array.size_append, size_zeroCells, List.size_toArray, List.length_nil]
        show 0 + (0 + n - 0) * 1 + (G - (0 + n)) * 1 = G * 1
        omega
      · simp
      · cases hb
        exact ⟨Nat.le_refl _, by rw [World.size_alloc]; exact Nat.lt_succ_self _⟩
    · subst hw
      exact (R.drew w).alloc (Nat.le_refl _) _⟩
structure CPt where
  A : Option Addr
  cp : Nat
  l : List UInt8
def CPt.v (x : CPt) : Value := .slice x.A x.l.length x.cp
def sumC (a b c : CPt) : Nat → Int | 0 => 0 | 1 => 0 + a.l.length | 2 => 0 + a.l.length + b.l.length | _ => 0 + a.l.length + b.l.length + c.l.length
def catC (a b c : CPt) : Nat → List UInt8 | 0 => [] | 1 => a.l | 2 => a.l ++ b.l | _ => a.l ++ b.l ++ c.l
set_option maxHeartbeats 4000000 in
theorem Concat3_f (P : Option Addr) (pc : Nat) (a b c : CPt) (h1 : 1 ≤ a.l.length) (h : a.l.length + b.l.length + c.l.length ≤ 1000000000) :
    FnS Tryz.prog gI 17 [.slice P 3 pc] [(P, [a.v, b.v, c.v]), (a.A, a.l.map byteV), (b.A, b.l.map byteV), (c.A, c.l.map byteV)] 5 1 (a.l ++ b.l ++ c.l).length ((a.l ++ b.l ++ c.l).map byteV) := by
  have hg := Grow_f (gI := gI) (a.l.length + b.l.length + c.l.length) (by omega) h
  refine FnE.of tys_ok Tryz.func17 rfl (by kernel_rfl) rfl rfl ?_; intro w hG hP
  have hR : ∀ H, RdA (mkC Tryz.prog gI w hG) H P [a.v, b.v, c.v] := fun H => ⟨hP.1.now⟩
  have hA : ∀ H, RdA (mkC Tryz.prog gI w hG) H a.A (a.l.map byteV) := fun H => ⟨hP.2.1.now⟩
  have hB : ∀ H, RdA (mkC Tryz.prog gI w hG) H b.A (b.l.map byteV) := fun H => ⟨hP.2.2.1.now⟩
  have hC : ∀ H, RdA (mkC Tryz.prog gI w hG) H c.A (c.l.map byteV) := fun H => ⟨hP.2.2.2.1.now⟩
  clear hP
  (conv => whnf); repeat ((first | refine tk1 ?_ | refine tk2 ?_ | refine tk3 ?_ | refine tk12 (fun _ => ?_) | refine tk4 ?_ | refine tk5 ?_ | refine tk6 ?_ | refine tk7 ?_ | refine tk8 ?_ | refine tk9 ?_ | refine tk10 (fun _ _ => ?_) | refine tk11 (fun _ => ?_) | refine tk13 ?_ | refine tk14 ?_); (conv => whnf))
  refine LoopS.lp tys_ok (fun (k : Nat) u => [.slice P 3 pc, u 1, u 2, .int .i64 (sumC a b c k), u 4, u 5, u 6, u 7, u 8, .slice P 3 pc, .int .i64 3, .int .i64 (k : Nat), u 12, u 13, u 14, u 15, u 16, u 17, u 18, u 19, u 20, u 21, u 22, u 23, u 24, u 25, u 26, u 27, u 28, u 29, u 30, u 31, u 32, u 33, u 34, u 35]) (fun _ => []) (fun k => k ≤ 3) (fun k => 3 - k) 0 (by decide) rfl (by repeat' (first | exact List.Sublist.refl _ | exact List.nil_sublist _ | apply List.Sublist.cons_cons | apply List.Sublist.cons)) ?_
  intro k u hk
  have hk4 : k = 0 ∨ k = 1 ∨ k = 2 ∨ k = 3 := by omega
  rcases hk4 with rfl | rfl | rfl | rfl <;> dsimp only [sumC]
  · (conv => whnf); repeat ((first | refine tk1 ?_ | refine tk2 ?_ | refine tk3 ?_ | refine tk12 (fun _ => ?_) | refine tk4 ?_ | refine tk5 ?_ | refine tk6 ?_ | refine tk7 ?_ | refine tk8 ?_ | refine tk9 ?_ | refine tk10 (fun _ _ => ?_) | refine tk11 (fun _ => ?_) | refine tk13 ?_ | refine tk14 ?_); (conv => whnf))
    refine IdxA.tc (xs := [a.v, b.v, c.v]) (by simp) (by decide) (by decide) ?_
    (conv => whnf); repeat ((first | refine tk1 ?_ | refine tk2 ?_ | refine tk3 ?_ | refine tk12 (fun _ => ?_) | refine tk4 ?_ | refine tk5 ?_ | refine tk6 ?_ | refine tk7 ?_ | refine tk8 ?_ | refine tk9 ?_ | refine tk10 (fun _ _ => ?_) | refine tk11 (fun _ => ?_) | refine tk13 ?_ | refine tk14 ?_); (conv => whnf))
    refine Ld.ta (xs := [a.v, b.v, c.v]) (v := a.v) rfl ?_
    unfold CPt.v
    (conv => whnf); repeat ((first | refine tk1 ?_ | refine tk2 ?_ | refine tk3 ?_ | refine tk12 (fun _ => ?_) | refine tk4 ?_ | refine tk5 ?_ | refine tk6 ?_ | refine tk7 ?_ | refine tk8 ?_ | refine tk9 ?_ | refine tk10 (fun _ _ => ?_) | refine tk11 (fun _ => ?_) | refine tk13 ?_ | refine tk14 ?_); (conv => whnf))
    exact ⟨1, by decide, rfl, (by repeat' (first | exact List.Sublist.refl _ | exact List.nil_sublist _ | apply List.Sublist.cons_cons | apply List.Sublist.cons)), by decide⟩
  · (conv => whnf); repeat ((first | refine tk1 ?_ | refine tk2 ?_ | refine tk3 ?_ | refine tk12 (fun _ => ?_) | refine tk4 ?_ | refine tk5 ?_ | refine tk6 ?_ | refine tk7 ?_ | refine tk8 ?_ | refine tk9 ?_ | refine tk10 (fun _ _ => ?_) | refine tk11 (fun _ => ?_) | refine tk13 ?_ | refine tk14 ?_); (conv => whnf))
    refine IdxA.tc (xs := [a.v, b.v, c.v]) (by simp) (by decide) (by decide) ?_
    (conv => whnf); repeat ((first | refine tk1 ?_ | refine tk2 ?_ | refine tk3 ?_ | refine tk12 (fun _ => ?_) | refine tk4 ?_ | refine tk5 ?_ | refine tk6 ?_ | refine tk7 ?_ | refine tk8 ?_ | refine tk9 ?_ | refine tk10 (fun _ _ => ?_) | refine tk11 (fun _ => ?_) | refine tk13 ?_ | refine tk14 ?_); (conv => whnf))
    refine Ld.ta (xs := [a.v, b.v, c.v]) (v := b.v) rfl ?_
    unfold CPt.v
    (conv => whnf); repeat ((first | refine tk1 ?_ | refine tk2 ?_ | refine tk3 ?_ | refine tk12 (fun _ => ?_) | refine tk4 ?_ | refine tk5 ?_ | refine tk6 ?_ | refine tk7 ?_ | refine tk8 ?_ | refine tk9 ?_ | refine tk10 (fun _ _ => ?_) | refine tk11 (fun _ => ?_) | refine tk13 ?_ | refine tk14 ?_); (conv => whnf))
    exact ⟨2, by decide, rfl, (by repeat' (first | exact List.Sublist.refl _ | exact List.nil_sublist _ | apply List.Sublist.cons_cons | apply List.Sublist.cons)), by decide⟩
  · (conv => whnf); repeat ((first | refine tk1 ?_ | refine tk2 ?_ | refine tk3 ?_ | refine tk12 (fun _ => ?_) | refine tk4 ?_ | refine tk5 ?_ | refine tk6 ?_ | refine tk7 ?_ | refine tk8 ?_ | refine tk9 ?_ | refine tk10 (fun _ _ => ?_) | refine tk11 (fun _ => ?_) | refine tk13 ?_ | refine tk14 ?_); (conv => whnf))
    refine IdxA.tc (xs := [a.v, b.v, c.v]) (by simp) (by decide) (by decide) ?_
    (conv => whnf); repeat ((first | refine tk1 ?_ | refine tk2 ?_ | refine tk3 ?_ | refine tk12 (fun _ => ?_) | refine tk4 ?_ | refine tk5 ?_ | refine tk6 ?_ | refine tk7 ?_ | refine tk8 ?_ | refine tk9 ?_ | refine tk10 (fun _ _ => ?_) | refine tk11 (fun _ => ?_) | refine tk13 ?_ | refine tk14 ?_); (conv => whnf))
    refine Ld.ta (xs := [a.v, b.v, c.v]) (v := c.v) rfl ?_
    unfold CPt.v
    (conv => whnf); repeat ((first | refine tk1 ?_ | refine tk2 ?_ | refine tk3 ?_ | refine tk12 (fun _ => ?_) | refine tk4 ?_ | refine tk5 ?_ | refine tk6 ?_ | refine tk7 ?_ | refine tk8 ?_ | refine tk9 ?_ | refine tk10 (fun _ _ => ?_) | refine tk11 (fun _ => ?_) | refine tk13 ?_ | refine tk14 ?_); (conv => whnf))
    exact ⟨3, by decide, rfl, (by repeat' (first | exact List.Sublist.refl _ | exact List.nil_sublist _ | apply List.Sublist.cons_cons | apply List.Sublist.cons)), by decide⟩
  · rw [show (0 : Int) + a.l.length + b.l.length + c.l.length = ((a.l.length + b.l.length + c.l.length : Nat) : Int) by omega]
    (conv => whnf); repeat ((first | refine tk1 ?_ | refine tk2 ?_ | refine tk3 ?_ | refine tk12 (fun _ => ?_) | refine tk4 ?_ | refine tk5 ?_ | refine tk6 ?_ | refine tk7 ?_ | refine tk8 ?_ | refine tk9 ?_ | refine tk10 (fun _ _ => ?_) | refine tk11 (fun _ => ?_) | refine tk13 ?_ | refine tk14 ?_); (conv => whnf))
    refine CallK.fnS hg trivial (fun B bc => ?_)
    (conv => whnf); repeat ((first | refine tk1 ?_ | refine tk2 ?_ | refine tk3 ?_ | refine tk12 (fun _ => ?_) | refine tk4 ?_ | refine tk5 ?_ | refine tk6 ?_ | refine tk7 ?_ | refine tk8 ?_ | refine tk9 ?_ | refine tk10 (fun _ _ => ?_) | refine tk11 (fun _ => ?_) | refine tk13 ?_ | refine tk14 ?_); (conv => whnf))
    refine LoopS.lp tys_ok (fun (x : Nat × Option Addr × Nat) u => [u 0, u 1, u 2, u 3, u 4, u 5, .slice x.2.1 (catC a b c x.1).length x.2.2, u 7, u 8, u 9, u 10, u 11, u 12, u 13, u 14, u 15, u 16, u 17, u 18, u 19, u 20, u 21, u 22, u 23, u 24, .slice P 3 pc, .int .i64 3, .int .i64 (x.1 : Nat), u 28, u 29, u 30, u 31, u 32, u 33, u 34, u 35]) (fun x => [.row (.slice x.2.1 (catC a b c x.1).length x.2.2) 5 1 (catC a b c x.1).length ((catC a b c x.1).map byteV)]) (fun x => x.1 ≤ 3) (fun x => 3 - x.1) ⟨0, B, bc⟩ (by dsimp only; omega) rfl (by repeat' (first | exact List.Sublist.refl _ | exact List.nil_sublist _ | apply List.Sublist.cons_cons | apply List.Sublist.cons)) ?_
    rintro ⟨k, B, bc⟩ u hk
    dsimp only at hk ⊢
    have hk4 : k = 0 ∨ k = 1 ∨ k = 2 ∨ k = 3 := by omega
    rcases hk4 with rfl | rfl | rfl | rfl
    · have hl0 : (catC a b c 0).length + a.l.length = (catC a b c 1).length := by simp [catC]; try omega
      have hl1 : (catC a b c 1).length ≤ 1000000000 := by simp [catC]; omega
      (conv => whnf); repeat ((first | refine tk1 ?_ | refine tk2 ?_ | refine tk3 ?_ | refine tk12 (fun _ => ?_) | refine tk4 ?_ | refine tk5 ?_ | refine tk6 ?_ | refine tk7 ?_ | refine tk8 ?_ | refine tk9 ?_ | refine tk10 (fun _ _ => ?_) | refine tk11 (fun _ => ?_) | refine tk13 ?_ | refine tk14 ?_); (conv => whnf))
      refine IdxA.tc (xs := [a.v, b.v, c.v]) (by simp) (by decide) (by decide) ?_
      (conv => whnf); repeat ((first | refine tk1 ?_ | refine tk2 ?_ | refine tk3 ?_ | refine tk12 (fun _ => ?_) | refine tk4 ?_ | refine tk5 ?_ | refine tk6 ?_ | refine tk7 ?_ | refine tk8 ?_ | refine tk9 ?_ | refine tk10 (fun _ _ => ?_) | refine tk11 (fun _ => ?_) | refine tk13 ?_ | refine tk14 ?_); (conv => whnf))
      refine Ld.ta (xs := [a.v, b.v, c.v]) (v := a.v) rfl ?_
      unfold CPt.v
      (conv => whnf); repeat ((first | refine tk1 ?_ | refine tk2 ?_ | refine tk3 ?_ | refine tk12 (fun _ => ?_) | refine tk4 ?_ | refine tk5 ?_ | refine tk6 ?_ | refine tk7 ?_ | refine tk8 ?_ | refine tk9 ?_ | refine tk10 (fun _ _ => ?_) | refine tk11 (fun _ => ?_) | refine tk13 ?_ | refine tk14 ?_); (conv => whnf))
      refine AppS.tc SrcK.tc (by simp) (bytes_one a.l) (by decide) (by omega) (by omega) (zs := (catC a b c 1).map byteV) (by simp [catC]) (fun B' bc' => ?_)
      rw [hl0]
      (conv => whnf); repeat ((first | refine tk1 ?_ | refine tk2 ?_ | refine tk3 ?_ | refine tk12 (fun _ => ?_) | refine tk4 ?_ | refine tk5 ?_ | refine tk6 ?_ | refine tk7 ?_ | refine tk8 ?_ | refine tk9 ?_ | refine tk10 (fun _ _ => ?_) | refine tk11 (fun _ => ?_) | refine tk13 ?_ | refine tk14 ?_); (conv => whnf))
      exact ⟨(1, B', bc'), by dsimp only; omega, rfl, (by repeat' (first | exact List.Sublist.refl _ | exact List.nil_sublist _ | apply List.Sublist.cons_cons | apply List.Sublist.cons)), by dsimp only; omega⟩
    · have hl0 : (catC a b c 1).length + b.l.length = (catC a b c 2).length := by simp [catC]; try omega
      have hl1 : (catC a b c 2).length ≤ 1000000000 := by simp [catC]; omega
      (conv => whnf); repeat ((first | refine tk1 ?_ | refine tk2 ?_ | refine tk3 ?_ | refine tk12 (fun _ => ?_) | refine tk4 ?_ | refine tk5 ?_ | refine tk6 ?_ | refine tk7 ?_ | refine tk8 ?_ | refine tk9 ?_ | refine tk10 (fun _ _ => ?_) | refine tk11 (fun _ => ?_) | refine tk13 ?_ | refine tk14 ?_); (conv => whnf))
      refine IdxA.tc (xs := [a.v, b.v, c.v]) (by simp) (by decide) (by decide) ?_
      (conv => whnf); repeat ((first | refine tk1 ?_ | refine tk2 ?_ | refine tk3 ?_ | refine tk12 (fun _ => ?_) | refine tk4 ?_ | refine tk5 ?_ | refine tk6 ?_ | refine tk7 ?_ | refine tk8 ?_ | refine tk9 ?_ | refine tk10 (fun _ _ => ?_) | refine tk11 (fun _ => ?_) | refine tk13 ?_ | refine tk14 ?_); (conv => whnf))
      refine Ld.ta (xs := [a.v, b.v, c.v]) (v := b.v) rfl ?_
      unfold CPt.v
      (conv => whnf); repeat ((first | refine tk1 ?_ | refine tk2 ?_ | refine tk3 ?_ | refine tk12 (fun _ => ?_) | refine tk4 ?_ | refine tk5 ?_ | refine tk6 ?_ | refine tk7 ?_ | refine tk8 ?_ | refine tk9 ?_ | refine tk10 (fun _ _ => ?_) | refine tk11 (fun _ => ?_) | refine tk13 ?_ | refine tk14 ?_); (conv => whnf))
      refine AppS.tc SrcK.tc (by simp) (bytes_one b.l) (by decide) (by omega) (by omega) (zs := (catC a b c 2).map byteV) (by simp [catC]) (fun B' bc' => ?_)
      rw [hl0]
      (conv => whnf); repeat ((first | refine tk1 ?_ | refine tk2 ?_ | refine tk3 ?_ | refine tk12 (fun _ => ?_) | refine tk4 ?_ | refine tk5 ?_ | refine tk6 ?_ | refine tk7 ?_ | refine tk8 ?_ | refine tk9 ?_ | refine tk10 (fun _ _ => ?_) | refine tk11 (fun _ => ?_) | refine tk13 ?_ | refine tk14 ?_); (conv => whnf))
      exact ⟨(2, B', bc'), by dsimp only; omega, rfl, (by repeat' (first | exact List.Sublist.refl _ | exact List.nil_sublist _ | apply List.Sublist.cons_cons | apply List.Sublist.cons)), by dsimp only; omega⟩
    · have hl0 : (catC a b c 2).length + c.l.length = (catC a b c 3).length := by simp [catC]; try omega
      have hl1 : (catC a b c 3).length ≤ 1000000000 := by simp [catC]; omega
      (conv => whnf); repeat ((first | refine tk1 ?_ | refine tk2 ?_ | refine tk3 ?_ | refine tk12 (fun _ => ?_) | refine tk4 ?_ | refine tk5 ?_ | refine tk6 ?_ | refine tk7 ?_ | refine tk8 ?_ | refine tk9 ?_ | refine tk10 (fun _ _ => ?_) | refine tk11 (fun _ => ?_) | refine tk13 ?_ | refine tk14 ?_); (conv => whnf))
      refine IdxA.tc (xs := [a.v, b.v, c.v]) (by simp) (by decide) (by decide) ?_
      (conv => whnf); repeat ((first | refine tk1 ?_ | refine tk2 ?_ | refine tk3 ?_ | refine tk12 (fun _ => ?_) | refine tk4 ?_ | refine tk5 ?_ | refine tk6 ?_ | refine tk7 ?_ | refine tk8 ?_ | refine tk9 ?_ | refine tk10 (fun _ _ => ?_) | refine tk11 (fun _ => ?_) | refine tk13 ?_ | refine tk14 ?_); (conv => whnf))
      refine Ld.ta (xs := [a.v, b.v, c.v]) (v := c.v) rfl ?_
      unfold CPt.v
      (conv => whnf); repeat ((first | refine tk1 ?_ | refine tk2 ?_ | refine tk3 ?_ | refine tk12 (fun _ => ?_) | refine tk4 ?_ | refine tk5 ?_ | refine tk6 ?_ | refine tk7 ?_ | refine tk8 ?_ | refine tk9 ?_ | refine tk10 (fun _ _ => ?_) | refine tk11 (fun _ => ?_) | refine tk13 ?_ | refine tk14 ?_); (conv => whnf))
      refine AppS.tc SrcK.tc (by simp) (bytes_one c.l) (by decide) (by omega) (by omega) (zs := (catC a b c 3).map byteV) (by simp [catC]) (fun B' bc' => ?_)
      rw [hl0]
      (conv => whnf); repeat ((first | refine tk1 ?_ | refine tk2 ?_ | refine tk3 ?_ | refine tk12 (fun _ => ?_) | refine tk4 ?_ | refine tk5 ?_ | refine tk6 ?_ | refine tk7 ?_ | refine tk8 ?_ | refine tk9 ?_ | refine tk10 (fun _ _ => ?_) | refine tk11 (fun _ => ?_) | refine tk13 ?_ | refine tk14 ?_); (conv => whnf))
      exact ⟨(3, B', bc'), by dsimp only; omega, rfl, (by repeat' (first | exact List.Sublist.refl _ | exact List.nil_sublist _ | apply List.Sublist.cons_cons | apply List.Sublist.cons)), by dsimp only; omega⟩
    · (conv => whnf); repeat ((first | refine tk1 ?_ | refine tk2 ?_ | refine tk3 ?_ | refine tk12 (fun _ => ?_) | refine tk4 ?_ | refine tk5 ?_ | refine tk6 ?_ | refine tk7 ?_ | refine tk8 ?_ | refine tk9 ?_ | refine tk10 (fun _ _ => ?_) | refine tk11 (fun _ => ?_) | refine tk13 ?_ | refine tk14 ?_); (conv => whnf))
      exact rowPost.of (by simp [catC])
theorem Last_f : FnT Tryz.prog gI 7 [] (fun _ => True) (fun (x : Nat × Obj) => .slice (some ⟨x.1, 0, none⟩) 5 5) (fun x => RowO x.2 (lastC.map byteV)) (fun x => [.obj x.1 x.2]) (fun _ => []) := by
  refine FnE.of tys_ok Tryz.func7 rfl (by kernel_rfl) rfl rfl ?_; intro w hG hP
  (conv => whnf); repeat ((first | refine tk1 ?_ | refine tk2 ?_ | refine tk3 ?_ | refine tk12 (fun _ => ?_) | refine tk4 ?_ | refine tk5 ?_ | refine tk6 ?_ | refine tk7 ?_ | refine tk8 ?_ | refine tk9 ?_ | refine tk10 (fun _ _ => ?_) | refine tk11 (fun _ => ?_) | refine tk13 ?_ | refine tk14 ?_); (conv => whnf))
  refine Oth.same tys_ok rfl rfl rfl (fun o ho => ?_)
  (conv => whnf); repeat ((first | refine tk1 ?_ | refine tk2 ?_ | refine tk3 ?_ | refine tk12 (fun _ => ?_) | refine tk4 ?_ | refine tk5 ?_ | refine tk6 ?_ | refine tk7 ?_ | refine tk8 ?_ | refine tk9 ?_ | refine tk10 (fun _ _ => ?_) | refine tk11 (fun _ => ?_) | refine tk13 ?_ | refine tk14 ?_); (conv => whnf))
  exact fun w' hw' => ⟨(_, o), rfl, ho, newH.into hw' (Cv.into (by (try dsimp only); repeat' (first | with_reducible exact Cv.refl | with_reducible exact Cv.left | with_reducible exact Cv.right | with_reducible exact Cv.nil | (with_reducible apply Cv.cons; focus ((repeat (first | with_reducible exact Pick.here | with_reducible apply Pick.skip)); done)) | (apply Cv.cons; focus ((repeat (first | exact Pick.here | apply Pick.skip)); done)) | exact Cv.nil | exact Cv.refl | exact Cv.left | exact Cv.right | refine Cv.skip ?_)))⟩
def wrapV (b : List UInt8) : List UInt8 := if b.length ≤ 131072 then wrapG b else []
def wrapE (b : List UInt8) : Int := if b.length ≤ 131072 then 0 else 4
set_option maxHeartbeats 4000000 in
theorem Wrap_f [HasTz gI] (A : Option Addr) (cp : Nat) (b : List UInt8) (hb : b.length ≤ 1000000000) :
    FnT Tryz.prog gI 5 [.slice A b.length cp] (fun w => RdL w [(A, b.map byteV)]) (fun (x : Option Addr × Nat) => .tuple #[.slice x.1 (wrapV b).length x.2, .int .i64 (wrapE b)]) (fun _ => True) (fun x => [.row (.slice x.1 (wrapV b).length x.2) 5 1 (wrapV b).length ((wrapV b).map byteV)]) (fun _ => []) := by
  have hfi := FormatInt_f (gI := gI) b.length (by omega)
  refine FnE.of tys_ok Tryz.func5 rfl (by kernel_rfl) rfl rfl ?_; intro w hG hP
  have hA : ∀ H, RdA (mkC Tryz.prog gI w hG) H A (b.map byteV) := fun H => ⟨hP.1.now⟩
  by_cases h1 : b.length ≤ 131072
  rotate_left
  · have e1 : wrapV b = [] := if_neg h1
    have e2 : wrapE b = 4 := if_neg h1
    rw [e1, e2]
    (conv => whnf); repeat ((first | refine tk1 ?_ | refine tk2 ?_ | refine tk3 ?_ | refine tk12 (fun _ => ?_) | refine tk4 ?_ | refine tk5 ?_ | refine tk6 ?_ | refine tk7 ?_ | refine tk8 ?_ | refine tk9 ?_ | refine tk10 (fun _ _ => ?_) | refine tk11 (fun _ => ?_) | refine tk13 ?_ | refine tk14 ?_); (conv => whnf))
    exact fun w' hw' => ⟨(none, 0), rfl, trivial, newH.of (hw'.nilRow 5 1)⟩
  have e2 : wrapE b = 0 := if_pos h1
  rw [e2]
  by_cases h0 : b.length = 0
  · have e1 : wrapV b = [] := by unfold wrapV; rw [if_pos h1, List.eq_nil_of_length_eq_zero h0]; rfl
    rw [e1]
    (conv => whnf); repeat ((first | refine tk1 ?_ | refine tk2 ?_ | refine tk3 ?_ | refine tk12 (fun _ => ?_) | refine tk4 ?_ | refine tk5 ?_ | refine tk6 ?_ | refine tk7 ?_ | refine tk8 ?_ | refine tk9 ?_ | refine tk10 (fun _ _ => ?_) | refine tk11 (fun _ => ?_) | refine tk13 ?_ | refine tk14 ?_); (conv => whnf))
    exact fun w' hw' => ⟨(none, 0), rfl, trivial, newH.of (hw'.nilRow 5 1)⟩
  have e1 : wrapV b = (hxS b.length ++ [13, 10]) ++ b ++ [13, 10] := by unfold wrapV wrapG; rw [if_pos h1, if_neg (fun e => h0 (by rw [e]; rfl))]
  have hl : (hxS b.length).length ≤ 6 := hxF_long 16 5 b.length (by omega)
  have hs := hxF_some 16 b.length
  rw [e1]
  (conv => whnf); repeat ((first | refine tk1 ?_ | refine tk2 ?_ | refine tk3 ?_ | refine tk12 (fun _ => ?_) | refine tk4 ?_ | refine tk5 ?_ | refine tk6 ?_ | refine tk7 ?_ | refine tk8 ?_ | refine tk9 ?_ | refine tk10 (fun _ _ => ?_) | refine tk11 (fun _ => ?_) | refine tk13 ?_ | refine tk14 ?_); (conv => whnf))
  refine CallK.fn hfi ?_
  (conv => whnf); repeat ((first | refine tk1 ?_ | refine tk2 ?_ | refine tk3 ?_ | refine tk12 (fun _ => ?_) | refine tk4 ?_ | refine tk5 ?_ | refine tk6 ?_ | refine tk7 ?_ | refine tk8 ?_ | refine tk9 ?_ | refine tk10 (fun _ _ => ?_) | refine tk11 (fun _ => ?_) | refine tk13 ?_ | refine tk14 ?_); (conv => whnf))
  refine CatS.at (by simp; omega) ?_
  (conv => whnf); repeat ((first | refine tk1 ?_ | refine tk2 ?_ | refine tk3 ?_ | refine tk12 (fun _ => ?_) | refine tk4 ?_ | refine tk5 ?_ | refine tk6 ?_ | refine tk7 ?_ | refine tk8 ?_ | refine tk9 ?_ | refine tk10 (fun _ _ => ?_) | refine tk11 (fun _ => ?_) | refine tk13 ?_ | refine tk14 ?_); (conv => whnf))
  refine S2B.go (by rw [List.length_append]; simp only [List.length_cons, List.length_nil]; omega) (fun B1 c1 => ?_)
  (conv => whnf); repeat ((first | refine tk1 ?_ | refine tk2 ?_ | refine tk3 ?_ | refine tk12 (fun _ => ?_) | refine tk4 ?_ | refine tk5 ?_ | refine tk6 ?_ | refine tk7 ?_ | refine tk8 ?_ | refine tk9 ?_ | refine tk10 (fun _ _ => ?_) | refine tk11 (fun _ => ?_) | refine tk13 ?_ | refine tk14 ?_); (conv => whnf))
  rename_i b2
  refine Oth.same tys_ok rfl rfl rfl (fun o2 ho2 => ?_)
  have hR2 : ∀ H, RdA (mkC Tryz.prog gI w hG) (.obj b2 o2 :: H) (some ⟨b2, 0, none⟩) _ := ho2.rd
  (conv => whnf); repeat ((first | refine tk1 ?_ | refine tk2 ?_ | refine tk3 ?_ | refine tk12 (fun _ => ?_) | refine tk4 ?_ | refine tk5 ?_ | refine tk6 ?_ | refine tk7 ?_ | refine tk8 ?_ | refine tk9 ?_ | refine tk10 (fun _ _ => ?_) | refine tk11 (fun _ => ?_) | refine tk13 ?_ | refine tk14 ?_); (conv => whnf))
  refine CallK.fnS (Concat3_f (gI := gI) _ 3 ⟨_, c1, hxS b.length ++ [13, 10]⟩ ⟨A, cp, b⟩ ⟨_, 2, [13, 10]⟩ (by dsimp only; simp) (by dsimp only; simp; omega)) ⟨RdA.ok, RdA.ok, (hA _).ok, RdA.ok, trivial⟩ (fun C cc => ?_)
  (conv => whnf); repeat ((first | refine tk1 ?_ | refine tk2 ?_ | refine tk3 ?_ | refine tk12 (fun _ => ?_) | refine tk4 ?_ | refine tk5 ?_ | refine tk6 ?_ | refine tk7 ?_ | refine tk8 ?_ | refine tk9 ?_ | refine tk10 (fun _ _ => ?_) | refine tk11 (fun _ => ?_) | refine tk13 ?_ | refine tk14 ?_); (conv => whnf))
  exact fun w' hw' => ⟨(C, cc), rfl, trivial, newH.into hw' (Cv.into (by (try dsimp only); repeat' (first | with_reducible exact Cv.refl | with_reducible exact Cv.left | with_reducible exact Cv.right | with_reducible exact Cv.nil | (with_reducible apply Cv.cons; focus ((repeat (first | with_reducible exact Pick.here | with_reducible apply Pick.skip)); done)) | (apply Cv.cons; focus ((repeat (first | exact Pick.here | apply Pick.skip)); done)) | exact Cv.nil | exact Cv.refl | exact Cv.left | exact Cv.right | refine Cv.skip ?_)))⟩
end Go.Proofs.YtbgnogdlkmhnkaaGreatDoor.Vex
/- The statement ChunkNames, reckoned. -/
namespace Go.Proofs.YtbgnogdlkmhnkaaGreatDoor.Vex
open Go Go.RowKit
set_option maxRecDepth 100000
set_option linter.unusedSectionVars false
variable {gI : GI} [HasMax gI] [HasUtf gI] [HasErr gI] [HasTz gI]

theorem fails_f (b : List UInt8) (hb : b.length ≤ 1000) (hf : feedG cst0 b = ⟨cst0, [], 0, 3⟩) : Fn Tryz.prog gI 9 [str b] (.bool true) := by
  have hs := fun (BA : Option Addr) (Bc : Nat) => Feed_f (gI := gI) cst0 none 0 BA Bc b (by decide) (by omega)
  rw [hf] at hs
  refine Fn.of tys_ok Tryz.func9 rfl (by kernel_rfl) rfl rfl ?_; intro w hG
  (conv => whnf); repeat ((first | refine tk1 ?_ | refine tk2 ?_ | refine tk3 ?_ | refine tk12 (fun _ => ?_) | refine tk4 ?_ | refine tk5 ?_ | refine tk6 ?_ | refine tk7 ?_ | refine tk8 ?_ | refine tk9 ?_ | refine tk10 (fun _ _ => ?_) | refine tk11 (fun _ => ?_) | refine tk13 ?_ | refine tk14 ?_); (conv => whnf))
  rename_i BB Bc
  refine CallK.fnT (hs _ _) (fun w1 hw1 => ⟨⟨rdw0, RdA.ok (xs := b.map byteV) w1 hw1, trivial⟩, by decide, row_cap (A := some ⟨BB, 0, none⟩) (e := 5) (sz := 1) (n' := b.length) (xs := b.map byteV) hw1⟩) ?_
  intro y _
  dsimp only [FeedV, FeedH, cV, cst0, List.length_nil, List.map_nil, List.cons_append, List.nil_append, List.append_nil]
  (conv => whnf); repeat ((first | refine tk1 ?_ | refine tk2 ?_ | refine tk3 ?_ | refine tk12 (fun _ => ?_) | refine tk4 ?_ | refine tk5 ?_ | refine tk6 ?_ | refine tk7 ?_ | refine tk8 ?_ | refine tk9 ?_ | refine tk10 (fun _ _ => ?_) | refine tk11 (fun _ => ?_) | refine tk13 ?_ | refine tk14 ?_); (conv => whnf))
  refine CallK.fnR (CSame_r cst0 cst0 y.lA none y.lc 0 (by decide) (by decide)) ⟨RdS.nil, RdS.nil, trivial⟩ ?_
  rw [decide_eq_true (rfl : cst0 = cst0)]
  (conv => whnf); repeat ((first | refine tk1 ?_ | refine tk2 ?_ | refine tk3 ?_ | refine tk12 (fun _ => ?_) | refine tk4 ?_ | refine tk5 ?_ | refine tk6 ?_ | refine tk7 ?_ | refine tk8 ?_ | refine tk9 ?_ | refine tk10 (fun _ _ => ?_) | refine tk11 (fun _ => ?_) | refine tk13 ?_ | refine tk14 ?_); (conv => whnf))
def abcL : List UInt8 := [97, 98, 99]
def nm1 : List UInt8 := [51, 59, 97, 61, 98, 13, 10, 97, 98]
def nm2 : List UInt8 := [99, 13]
def nm3 : List UInt8 := [103]
def zer26 : List UInt8 := List.replicate 26 0
theorem nm_f1 : feedG cst0 nm1 = ⟨⟨1, 1, [], 0⟩, [97, 98], 9, 0⟩ := by decide +kernel
theorem nm_f2 : feedG ⟨1, 1, [], 0⟩ nm2 = ⟨⟨2, 0, [13], 0⟩, [99], 2, 0⟩ := by decide +kernel
theorem nm_f3 : feedG cst0 nm3 = ⟨⟨0, 0, [103], 0⟩, [], 1, 0⟩ := by decide +kernel
theorem nm_f4 : feedG cst0 lastC = ⟨⟨4, 0, [], 0⟩, [], 5, 0⟩ := by decide +kernel
theorem nm_f5 : feedG ⟨4, 0, [], 0⟩ [] = ⟨cst0, [], 0, 6⟩ := by decide +kernel
theorem nm_w1 : wrapV abcL = [51, 13, 10, 97, 98, 99, 13, 10] ∧ wrapE abcL = 0 := by decide +kernel
theorem nm_w2 : wrapV [] = [] ∧ wrapE [] = 0 := by decide +kernel
def w3L : List UInt8 := [49, 97, 13, 10] ++ zer26 ++ [13, 10]
theorem nm_w3 : wrapV zer26 = w3L ∧ wrapE zer26 = 0 := by decide +kernel
theorem nm_b1 : feedG cst0 [103, 13, 10] = ⟨cst0, [], 0, 3⟩ := by decide +kernel
theorem nm_b2 : feedG cst0 [51, 10] = ⟨cst0, [], 0, 3⟩ := by decide +kernel
theorem nm_b3 : feedG cst0 [49, 13, 10, 97, 98] = ⟨cst0, [], 0, 3⟩ := by decide +kernel
theorem nm_b4 : feedG cst0 [48, 13, 10, 120, 13, 10] = ⟨cst0, [], 0, 3⟩ := by decide +kernel
theorem nm_b5 : feedG cst0 [13, 10] = ⟨cst0, [], 0, 3⟩ := by decide +kernel
theorem nm_b6 : feedG cst0 [49, 50, 51, 52, 53, 54, 55, 13, 10] = ⟨cst0, [], 0, 3⟩ := by decide +kernel
set_option maxHeartbeats 8000000 in
theorem ChunkNames_v : Fn Tryz.prog gI 3 [] (.bool true) := by
  have w1 := fun A cp => Wrap_f (gI := gI) A cp abcL (by decide)
  have w2 := Wrap_f (gI := gI) none 0 [] (by decide)
  have w3 := fun A cp => Wrap_f (gI := gI) A cp zer26 (by decide)
  have f1 := fun (BA : Option Addr) (Bc : Nat) => Feed_f (gI := gI) cst0 none 0 BA Bc nm1 (by decide) (by decide)
  have f2 := fun (A : Option Addr) (cp : Nat) (BA : Option Addr) (Bc : Nat) => Feed_f (gI := gI) ⟨1, 1, [], 0⟩ A cp BA Bc nm2 (by decide) (by decide)
  have f3 := fun (BA : Option Addr) (Bc : Nat) => Feed_f (gI := gI) cst0 none 0 BA Bc nm3 (by decide) (by decide)
  have f4 := fun (BA : Option Addr) (Bc : Nat) => Feed_f (gI := gI) cst0 none 0 BA Bc lastC (by decide) (by decide)
  have f5 := fun (A : Option Addr) (cp : Nat) => Feed_f (gI := gI) ⟨4, 0, [], 0⟩ A cp none 0 [] (by decide) (by decide)
  rw [nm_w1.1, nm_w1.2] at w1
  rw [nm_w2.1, nm_w2.2] at w2
  rw [nm_w3.1, nm_w3.2] at w3
  rw [nm_f1] at f1
  rw [nm_f2] at f2
  rw [nm_f3] at f3
  rw [nm_f4] at f4
  rw [nm_f5] at f5
  refine Fn.of tys_ok Tryz.func3 rfl (by kernel_rfl) rfl rfl ?_; intro w hG
  (conv => whnf); repeat ((first | refine tk1 ?_ | refine tk2 ?_ | refine tk3 ?_ | refine tk12 (fun _ => ?_) | refine tk4 ?_ | refine tk5 ?_ | refine tk6 ?_ | refine tk7 ?_ | refine tk8 ?_ | refine tk9 ?_ | refine tk10 (fun _ _ => ?_) | refine tk11 (fun _ => ?_) | refine tk13 ?_ | refine tk14 ?_); (conv => whnf))
  rename_i c1
  refine Oth.same tys_ok rfl rfl rfl (fun o1 h1 => ?_)
  have hR1 : ∀ H, RdA (mkC Tryz.prog gI w hG) (.obj c1 o1 :: H) (some ⟨c1, 0, none⟩) _ := h1.rd
  (conv => whnf); repeat ((first | refine tk1 ?_ | refine tk2 ?_ | refine tk3 ?_ | refine tk12 (fun _ => ?_) | refine tk4 ?_ | refine tk5 ?_ | refine tk6 ?_ | refine tk7 ?_ | refine tk8 ?_ | refine tk9 ?_ | refine tk10 (fun _ _ => ?_) | refine tk11 (fun _ => ?_) | refine tk13 ?_ | refine tk14 ?_); (conv => whnf))
  refine CallK.fnT (w1 _ _) (fun w1 hw1 => ⟨RdA.ok (xs := abcL.map byteV) w1 hw1, trivial⟩) ?_
  rintro ⟨vA, vc⟩ _
  dsimp only [List.cons_append, List.nil_append, List.append_nil]
  (conv => whnf); repeat ((first | refine tk1 ?_ | refine tk2 ?_ | refine tk3 ?_ | refine tk12 (fun _ => ?_) | refine tk4 ?_ | refine tk5 ?_ | refine tk6 ?_ | refine tk7 ?_ | refine tk8 ?_ | refine tk9 ?_ | refine tk10 (fun _ _ => ?_) | refine tk11 (fun _ => ?_) | refine tk13 ?_ | refine tk14 ?_); (conv => whnf))
  refine CallK.fnT w2 (fun w1 hw1 => ⟨rdw0, trivial⟩) ?_
  rintro ⟨uA, uc⟩ _
  dsimp only [List.cons_append, List.nil_append, List.append_nil]
  (conv => whnf); repeat ((first | refine tk1 ?_ | refine tk2 ?_ | refine tk3 ?_ | refine tk12 (fun _ => ?_) | refine tk4 ?_ | refine tk5 ?_ | refine tk6 ?_ | refine tk7 ?_ | refine tk8 ?_ | refine tk9 ?_ | refine tk10 (fun _ _ => ?_) | refine tk11 (fun _ => ?_) | refine tk13 ?_ | refine tk14 ?_); (conv => whnf))
  refine Oth.make (n := 26) tys_ok rfl (fun h => nomatch h) rfl rfl rfl rfl rfl (by decide) (fun bm => ?_)
  (conv => whnf); repeat ((first | refine tk1 ?_ | refine tk2 ?_ | refine tk3 ?_ | refine tk12 (fun _ => ?_) | refine tk4 ?_ | refine tk5 ?_ | refine tk6 ?_ | refine tk7 ?_ | refine tk8 ?_ | refine tk9 ?_ | refine tk10 (fun _ _ => ?_) | refine tk11 (fun _ => ?_) | refine tk13 ?_ | refine tk14 ?_); (conv => whnf))
  refine CallK.fnT (w3 _ _) (fun w1 hw1 => ⟨RdA.ok (xs := zer26.map byteV) w1 hw1, trivial⟩) ?_
  rintro ⟨tA, tc⟩ _
  dsimp only [List.cons_append, List.nil_append, List.append_nil]
  (conv => whnf); repeat ((first | refine tk1 ?_ | refine tk2 ?_ | refine tk3 ?_ | refine tk12 (fun _ => ?_) | refine tk4 ?_ | refine tk5 ?_ | refine tk6 ?_ | refine tk7 ?_ | refine tk8 ?_ | refine tk9 ?_ | refine tk10 (fun _ _ => ?_) | refine tk11 (fun _ => ?_) | refine tk13 ?_ | refine tk14 ?_); (conv => whnf))
  rename_i c2
  refine Oth.same tys_ok rfl rfl rfl (fun o2 h2 => ?_)
  have hR2 : ∀ H, RdA (mkC Tryz.prog gI w hG) (.obj c2 o2 :: H) (some ⟨c2, 0, none⟩) _ := h2.rd
  (conv => whnf); repeat ((first | refine tk1 ?_ | refine tk2 ?_ | refine tk3 ?_ | refine tk12 (fun _ => ?_) | refine tk4 ?_ | refine tk5 ?_ | refine tk6 ?_ | refine tk7 ?_ | refine tk8 ?_ | refine tk9 ?_ | refine tk10 (fun _ _ => ?_) | refine tk11 (fun _ => ?_) | refine tk13 ?_ | refine tk14 ?_); (conv => whnf))
  refine CallK.fnT (f1 _ _) (fun w1 hw1 => ⟨⟨rdw0, RdA.ok (xs := nm1.map byteV) w1 hw1, trivial⟩, Nat.zero_le _, by decide⟩) ?_
  intro x1 _
  dsimp only [FeedV, FeedH, cV, cst0, List.length_nil, List.map_nil, List.cons_append, List.nil_append, List.append_nil]
  (conv => whnf); repeat ((first | refine tk1 ?_ | refine tk2 ?_ | refine tk3 ?_ | refine tk12 (fun _ => ?_) | refine tk4 ?_ | refine tk5 ?_ | refine tk6 ?_ | refine tk7 ?_ | refine tk8 ?_ | refine tk9 ?_ | refine tk10 (fun _ _ => ?_) | refine tk11 (fun _ => ?_) | refine tk13 ?_ | refine tk14 ?_); (conv => whnf))
  rename_i c3
  refine Oth.same tys_ok rfl rfl rfl (fun o3 h3 => ?_)
  have hR3 : ∀ H, RdA (mkC Tryz.prog gI w hG) (.obj c3 o3 :: H) (some ⟨c3, 0, none⟩) _ := h3.rd
  (conv => whnf); repeat ((first | refine tk1 ?_ | refine tk2 ?_ | refine tk3 ?_ | refine tk12 (fun _ => ?_) | refine tk4 ?_ | refine tk5 ?_ | refine tk6 ?_ | refine tk7 ?_ | refine tk8 ?_ | refine tk9 ?_ | refine tk10 (fun _ _ => ?_) | refine tk11 (fun _ => ?_) | refine tk13 ?_ | refine tk14 ?_); (conv => whnf))
  refine CallK.fnT (f2 x1.lA x1.lc _ _) (fun w1 hw1 => ⟨⟨rdw0, RdA.ok (xs := nm2.map byteV) w1 hw1, trivial⟩, Nat.zero_le _, by decide⟩) ?_
  intro x2 _
  dsimp only [FeedV, FeedH, cV, cst0, List.length_nil, List.map_nil, List.cons_append, List.nil_append, List.append_nil]
  (conv => whnf); repeat ((first | refine tk1 ?_ | refine tk2 ?_ | refine tk3 ?_ | refine tk12 (fun _ => ?_) | refine tk4 ?_ | refine tk5 ?_ | refine tk6 ?_ | refine tk7 ?_ | refine tk8 ?_ | refine tk9 ?_ | refine tk10 (fun _ _ => ?_) | refine tk11 (fun _ => ?_) | refine tk13 ?_ | refine tk14 ?_); (conv => whnf))
  rename_i c4
  refine Oth.same tys_ok rfl rfl rfl (fun o4 h4 => ?_)
  have hR4 : ∀ H, RdA (mkC Tryz.prog gI w hG) (.obj c4 o4 :: H) (some ⟨c4, 0, none⟩) _ := h4.rd
  (conv => whnf); repeat ((first | refine tk1 ?_ | refine tk2 ?_ | refine tk3 ?_ | refine tk12 (fun _ => ?_) | refine tk4 ?_ | refine tk5 ?_ | refine tk6 ?_ | refine tk7 ?_ | refine tk8 ?_ | refine tk9 ?_ | refine tk10 (fun _ _ => ?_) | refine tk11 (fun _ => ?_) | refine tk13 ?_ | refine tk14 ?_); (conv => whnf))
  refine CallK.fnT (f3 _ _) (fun w1 hw1 => ⟨⟨rdw0, RdA.ok (xs := nm3.map byteV) w1 hw1, trivial⟩, Nat.zero_le _, by decide⟩) ?_
  intro x3 _
  dsimp only [FeedV, FeedH, cV, cst0, List.length_nil, List.map_nil, List.cons_append, List.nil_append, List.append_nil]
  (conv => whnf); repeat ((first | refine tk1 ?_ | refine tk2 ?_ | refine tk3 ?_ | refine tk12 (fun _ => ?_) | refine tk4 ?_ | refine tk5 ?_ | refine tk6 ?_ | refine tk7 ?_ | refine tk8 ?_ | refine tk9 ?_ | refine tk10 (fun _ _ => ?_) | refine tk11 (fun _ => ?_) | refine tk13 ?_ | refine tk14 ?_); (conv => whnf))
  refine CallK.fnT Last_f (fun _ _ => trivial) ?_
  rintro ⟨lb, lo⟩ hlo
  have hRl : ∀ H, RdA (mkC Tryz.prog gI w hG) (.obj lb lo :: H) (some ⟨lb, 0, none⟩) _ := hlo.rd
  dsimp only [List.cons_append, List.nil_append, List.append_nil]
  (conv => whnf); repeat ((first | refine tk1 ?_ | refine tk2 ?_ | refine tk3 ?_ | refine tk12 (fun _ => ?_) | refine tk4 ?_ | refine tk5 ?_ | refine tk6 ?_ | refine tk7 ?_ | refine tk8 ?_ | refine tk9 ?_ | refine tk10 (fun _ _ => ?_) | refine tk11 (fun _ => ?_) | refine tk13 ?_ | refine tk14 ?_); (conv => whnf))
  refine CallK.fnT (f4 _ _) (fun w1 hw1 => ⟨⟨rdw0, RdA.ok (xs := lastC.map byteV) w1 hw1, trivial⟩, Nat.zero_le _, by decide⟩) ?_
  intro x4 _
  dsimp only [FeedV, FeedH, cV, cst0, List.length_nil, List.map_nil, List.cons_append, List.nil_append, List.append_nil]
  (conv => whnf); repeat ((first | refine tk1 ?_ | refine tk2 ?_ | refine tk3 ?_ | refine tk12 (fun _ => ?_) | refine tk4 ?_ | refine tk5 ?_ | refine tk6 ?_ | refine tk7 ?_ | refine tk8 ?_ | refine tk9 ?_ | refine tk10 (fun _ _ => ?_) | refine tk11 (fun _ => ?_) | refine tk13 ?_ | refine tk14 ?_); (conv => whnf))
  refine CallK.fnT (f5 x4.lA x4.lc) (fun w1 hw1 => ⟨⟨rdw0, rdw0, trivial⟩, Nat.zero_le _, by decide⟩) ?_
  intro x5 _
  dsimp only [FeedV, FeedH, cV, cst0, List.length_nil, List.map_nil, List.cons_append, List.nil_append, List.append_nil]
  (conv => whnf); repeat ((first | refine tk1 ?_ | refine tk2 ?_ | refine tk3 ?_ | refine tk12 (fun _ => ?_) | refine tk4 ?_ | refine tk5 ?_ | refine tk6 ?_ | refine tk7 ?_ | refine tk8 ?_ | refine tk9 ?_ | refine tk10 (fun _ _ => ?_) | refine tk11 (fun _ => ?_) | refine tk13 ?_ | refine tk14 ?_); (conv => whnf))
  refine B2S.tc (xs := ([51, 13, 10, 97, 98, 99, 13, 10] : List UInt8).map byteV) (l := [51, 13, 10, 97, 98, 99, 13, 10]) rfl rfl ?_
  (conv => whnf); repeat ((first | refine tk1 ?_ | refine tk2 ?_ | refine tk3 ?_ | refine tk12 (fun _ => ?_) | refine tk4 ?_ | refine tk5 ?_ | refine tk6 ?_ | refine tk7 ?_ | refine tk8 ?_ | refine tk9 ?_ | refine tk10 (fun _ _ => ?_) | refine tk11 (fun _ => ?_) | refine tk13 ?_ | refine tk14 ?_); (conv => whnf))
  refine SlcV.to (by decide) (by decide) ?_
  (conv => whnf); repeat ((first | refine tk1 ?_ | refine tk2 ?_ | refine tk3 ?_ | refine tk12 (fun _ => ?_) | refine tk4 ?_ | refine tk5 ?_ | refine tk6 ?_ | refine tk7 ?_ | refine tk8 ?_ | refine tk9 ?_ | refine tk10 (fun _ _ => ?_) | refine tk11 (fun _ => ?_) | refine tk13 ?_ | refine tk14 ?_); (conv => whnf))
  refine B2S.rd (l := [49, 97, 13, 10]) (RdS.take (RdA.ok (xs := w3L.map byteV)) 4) rfl ?_
  (conv => whnf); repeat ((first | refine tk1 ?_ | refine tk2 ?_ | refine tk3 ?_ | refine tk12 (fun _ => ?_) | refine tk4 ?_ | refine tk5 ?_ | refine tk6 ?_ | refine tk7 ?_ | refine tk8 ?_ | refine tk9 ?_ | refine tk10 (fun _ _ => ?_) | refine tk11 (fun _ => ?_) | refine tk13 ?_ | refine tk14 ?_); (conv => whnf))
  refine B2S.tc (xs := ([97, 98] : List UInt8).map byteV) (l := [97, 98]) rfl rfl ?_
  (conv => whnf); repeat ((first | refine tk1 ?_ | refine tk2 ?_ | refine tk3 ?_ | refine tk12 (fun _ => ?_) | refine tk4 ?_ | refine tk5 ?_ | refine tk6 ?_ | refine tk7 ?_ | refine tk8 ?_ | refine tk9 ?_ | refine tk10 (fun _ _ => ?_) | refine tk11 (fun _ => ?_) | refine tk13 ?_ | refine tk14 ?_); (conv => whnf))
  refine B2S.tc (xs := ([99] : List UInt8).map byteV) (l := [99]) rfl rfl ?_
  (conv => whnf); repeat ((first | refine tk1 ?_ | refine tk2 ?_ | refine tk3 ?_ | refine tk12 (fun _ => ?_) | refine tk4 ?_ | refine tk5 ?_ | refine tk6 ?_ | refine tk7 ?_ | refine tk8 ?_ | refine tk9 ?_ | refine tk10 (fun _ _ => ?_) | refine tk11 (fun _ => ?_) | refine tk13 ?_ | refine tk14 ?_); (conv => whnf))
  refine CallK.fn alive22_f ?_
  (conv => whnf); repeat ((first | refine tk1 ?_ | refine tk2 ?_ | refine tk3 ?_ | refine tk12 (fun _ => ?_) | refine tk4 ?_ | refine tk5 ?_ | refine tk6 ?_ | refine tk7 ?_ | refine tk8 ?_ | refine tk9 ?_ | refine tk10 (fun _ _ => ?_) | refine tk11 (fun _ => ?_) | refine tk13 ?_ | refine tk14 ?_); (conv => whnf))
  refine CallK.fn (fails_f _ (by decide) nm_b1) ?_
  (conv => whnf); repeat ((first | refine tk1 ?_ | refine tk2 ?_ | refine tk3 ?_ | refine tk12 (fun _ => ?_) | refine tk4 ?_ | refine tk5 ?_ | refine tk6 ?_ | refine tk7 ?_ | refine tk8 ?_ | refine tk9 ?_ | refine tk10 (fun _ _ => ?_) | refine tk11 (fun _ => ?_) | refine tk13 ?_ | refine tk14 ?_); (conv => whnf))
  refine CallK.fn (fails_f _ (by decide) nm_b2) ?_
  (conv => whnf); repeat ((first | refine tk1 ?_ | refine tk2 ?_ | refine tk3 ?_ | refine tk12 (fun _ => ?_) | refine tk4 ?_ | refine tk5 ?_ | refine tk6 ?_ | refine tk7 ?_ | refine tk8 ?_ | refine tk9 ?_ | refine tk10 (fun _ _ => ?_) | refine tk11 (fun _ => ?_) | refine tk13 ?_ | refine tk14 ?_); (conv => whnf))
  refine CallK.fn (fails_f _ (by decide) nm_b3) ?_
  (conv => whnf); repeat ((first | refine tk1 ?_ | refine tk2 ?_ | refine tk3 ?_ | refine tk12 (fun _ => ?_) | refine tk4 ?_ | refine tk5 ?_ | refine tk6 ?_ | refine tk7 ?_ | refine tk8 ?_ | refine tk9 ?_ | refine tk10 (fun _ _ => ?_) | refine tk11 (fun _ => ?_) | refine tk13 ?_ | refine tk14 ?_); (conv => whnf))
  refine CallK.fn (fails_f _ (by decide) nm_b4) ?_
  (conv => whnf); repeat ((first | refine tk1 ?_ | refine tk2 ?_ | refine tk3 ?_ | refine tk12 (fun _ => ?_) | refine tk4 ?_ | refine tk5 ?_ | refine tk6 ?_ | refine tk7 ?_ | refine tk8 ?_ | refine tk9 ?_ | refine tk10 (fun _ _ => ?_) | refine tk11 (fun _ => ?_) | refine tk13 ?_ | refine tk14 ?_); (conv => whnf))
  refine CallK.fn (fails_f _ (by decide) nm_b5) ?_
  (conv => whnf); repeat ((first | refine tk1 ?_ | refine tk2 ?_ | refine tk3 ?_ | refine tk12 (fun _ => ?_) | refine tk4 ?_ | refine tk5 ?_ | refine tk6 ?_ | refine tk7 ?_ | refine tk8 ?_ | refine tk9 ?_ | refine tk10 (fun _ _ => ?_) | refine tk11 (fun _ => ?_) | refine tk13 ?_ | refine tk14 ?_); (conv => whnf))
  refine CallK.fn (fails_f _ (by decide) nm_b6) ?_
  (conv => whnf); repeat ((first | refine tk1 ?_ | refine tk2 ?_ | refine tk3 ?_ | refine tk12 (fun _ => ?_) | refine tk4 ?_ | refine tk5 ?_ | refine tk6 ?_ | refine tk7 ?_ | refine tk8 ?_ | refine tk9 ?_ | refine tk10 (fun _ _ => ?_) | refine tk11 (fun _ => ?_) | refine tk13 ?_ | refine tk14 ?_); (conv => whnf))
  refine CallK.fnT Last_f (fun _ _ => trivial) ?_
  rintro ⟨mb, mo⟩ hmo
  have hRm : ∀ H, RdA (mkC Tryz.prog gI w hG) (.obj mb mo :: H) (some ⟨mb, 0, none⟩) _ := hmo.rd
  dsimp only [List.cons_append, List.nil_append, List.append_nil]
  (conv => whnf); repeat ((first | refine tk1 ?_ | refine tk2 ?_ | refine tk3 ?_ | refine tk12 (fun _ => ?_) | refine tk4 ?_ | refine tk5 ?_ | refine tk6 ?_ | refine tk7 ?_ | refine tk8 ?_ | refine tk9 ?_ | refine tk10 (fun _ _ => ?_) | refine tk11 (fun _ => ?_) | refine tk13 ?_ | refine tk14 ?_); (conv => whnf))
  refine B2S.tc (xs := lastC.map byteV) (l := lastC) rfl rfl ?_
  (conv => whnf); repeat ((first | refine tk1 ?_ | refine tk2 ?_ | refine tk3 ?_ | refine tk12 (fun _ => ?_) | refine tk4 ?_ | refine tk5 ?_ | refine tk6 ?_ | refine tk7 ?_ | refine tk8 ?_ | refine tk9 ?_ | refine tk10 (fun _ _ => ?_) | refine tk11 (fun _ => ?_) | refine tk13 ?_ | refine tk14 ?_); (conv => whnf))
  have hck := CCheck_f (gI := gI) ⟨5, 0, [], 0⟩ none 0 (by decide)
  rw [show chE ⟨5, 0, [], 0⟩ = 8 by decide] at hck
  refine CallK.fnEV hck (fun w1 hw1 => ⟨⟨rdw0, trivial⟩, Nat.zero_le _⟩) ?_
  (conv => whnf); repeat ((first | refine tk1 ?_ | refine tk2 ?_ | refine tk3 ?_ | refine tk12 (fun _ => ?_) | refine tk4 ?_ | refine tk5 ?_ | refine tk6 ?_ | refine tk7 ?_ | refine tk8 ?_ | refine tk9 ?_ | refine tk10 (fun _ _ => ?_) | refine tk11 (fun _ => ?_) | refine tk13 ?_ | refine tk14 ?_); (conv => whnf))
end Go.Proofs.YtbgnogdlkmhnkaaGreatDoor.Vex
/- Arguments that are bodies under way. -/
namespace Go.Proofs.YtbgnogdlkmhnkaaGreatDoor.Vex
open Go Go.RowKit Go.ChangeShapes Go.WideShapes Go.Deep
set_option maxRecDepth 100000

structure ChA where
  ph : UInt8
  left : Int
  L : Sl UInt8
  trail : Int
def ChA.cells (x : ChA) : List Value := [byteV x.ph, .int .i64 x.left, .slice x.L.A x.L.l.length x.L.cp, .int .i64 x.trail]
def ChA.st (x : ChA) : CSt := ⟨x.ph.toNat, x.left, x.L.l, x.trail⟩
abbrev chShape : Shape := ⟨ChA, 4, ChA.cells, fun w x => bytesShape.ok w x.L ∧ (-9223372036854775808 ≤ x.left ∧ x.left ≤ 9223372036854775807) ∧ -9223372036854775808 ≤ x.trail ∧ x.trail ≤ 9223372036854775807, fun x => 3 + bytesShape.wt x.L⟩
theorem opens_chunks : Opens Tryz.prog 27 chShape := by
  have h := opens_struct Tryz.underlying27 (by kernel_rfl) (opensL_cons rfl opens_u8 (opensL_cons rfl opens_i64 (opensL_cons rfl opens_bytes (opensL_cons rfl opens_i64 (opensL_nil _)))))
  exact opens_map h (fun x => ChA.mk x.1 x.2.1 x.2.2.1 x.2.2.2.1) rfl (fun _ _ _ => rfl) (fun _ _ h => ⟨h.2.2.1, h.2.1, h.2.2.2.1⟩) (fun _ _ _ => by dsimp only; omega)
abbrev cptShape : Shape := ⟨CPt, 1, fun x => [x.v], fun w x => x.l.length ≤ x.cp ∧ Rdw w x.A (x.l.map byteV), fun x => x.l.length⟩
theorem wt_bytes (l : List UInt8) : (l.map byteShape.wt).sum = l.length := by
  induction l with
  | nil => rfl
  | cons a r ih => rw [List.map_cons, List.sum_cons, ih, List.length_cons]; exact Nat.add_comm 1 _
theorem opens_cpt : Opens Tryz.prog 22 cptShape :=
  opens_map opens_bytes (fun x => CPt.mk x.A x.cp x.l) rfl (fun _ _ _ => rfl) (fun _ _ h => ⟨h.1, rd_bytes h⟩) (fun _ x _ => by show x.l.length ≤ (x.l.map byteShape.wt).sum + 1; rw [wt_bytes]; omega)
theorem opens_bytess : Opens Tryz.prog 54 (sliceShape cptShape) := opens_slice Tryz.underlying54 (by kernel_rfl) opens_cpt
theorem flat_cpts (l : List CPt) : l.flatMap (fun b => [b.v]) = l.map CPt.v := by
  induction l with
  | nil => rfl
  | cons a r ih => rw [List.flatMap_cons, ih]; rfl
theorem rd_cpts {W : World} {x : Sl CPt} (h : (sliceShape cptShape).ok W x) : Rdw W x.A (x.l.map CPt.v) ∧ ∀ e ∈ x.l, Rdw W e.A (e.l.map byteV) := ⟨flat_cpts x.l ▸ h.2.1, fun e he => (h.2.2 e he).2⟩
theorem bytes_wt (x : Sl UInt8) : x.l.length ≤ bytesShape.wt x := by show x.l.length ≤ (x.l.map byteShape.wt).sum + 1; rw [wt_bytes]; omega
end Go.Proofs.YtbgnogdlkmhnkaaGreatDoor.Vex
namespace Go.Proofs.YtbgnogdlkmhnkaaGreatDoor.chunkNames
open Go.ChangeShapes Go.WideShapes Go.ChangeAt Go.RowKit

set_option maxRecDepth 100000 in
theorem contract (H : Type) (enc : TypeId × Value → H) (W : World) (base : Nat) (args : Array Value) (ds gs : List (DataW H)) (before : List MemPlace)
    (hval : ∀ (j : Nat) t v, Tryz.f3.params[j]? = some t → args[j]? = some v → Value.okWide Tryz.prog W .any base t v)
    (hW : DataW.Whole enc Tryz.prog Tryz.f3.params.toList Rows.chunkNamesSpec.vars false W args.toList ds gs before) (hL : laidMetH Tryz.prog Rows.chunkNamesRow.laid W) (hS : W.ShapedOpen Tryz.prog) :
    Calls Tryz.prog 3 args W fun e W' => ∃ v, e = .returned v ∧ Rows.chunkNamesSpec.post enc Tryz.prog Tryz.f3 false true false false W args v W' := by
  have hW' := hW
  obtain ⟨p, q, hA, hV, rfl, hfz, hnd⟩ := hW
  rw [Tryz.params3] at hA hval
  obtain ⟨hargs, rfl, rfl⟩ := trodAll_nil hA
  obtain rfl : args = #[] := by rw [← Array.toList_inj]; exact hargs
  obtain ⟨rfl, rfl⟩ := trodVars_none hV
  have hG := Vex.gV_of hL hS (by kernel_rfl) (List.mem_of_getElem? (i := 5) rfl) (List.mem_of_getElem? (i := 4) rfl) (List.mem_of_getElem? (i := 2) rfl) (List.mem_of_getElem? (i := 6) rfl) (List.mem_of_getElem? (i := 3) rfl) (List.mem_of_getElem? (i := 1) rfl)
  refine (Vex.done_F Vex.ChunkNames_v hG).mono fun e W' ⟨he, hb⟩ => ?_
  exact ⟨_, he, law_post laidOut rfl hW' (by kernel_rfl) (by kernel_rfl) Tryz.underlying4 (by kernel_rfl) hb⟩

abbrev start : Array Value := #[]
theorem laid_met (os : Os) : laidMet Tryz.prog Rows.chunkNamesRow.laid ((laidWorld os start).forCall (fun _ _ => 0) ⟨#[], start, []⟩).memory :=
  laidMet_of_run' 8 (by kernel_rfl) (by kernel_rfl)
theorem reads (os : Os) {H : Type} (enc : TypeId × Value → H) : ∃ places, DataW.whole enc Tryz.prog ((laidWorld os start).forCall (fun _ _ => 0) ⟨#[], start, []⟩).memory Tryz.f3.params.toList Rows.chunkNamesSpec.vars false start.toList 8 = some ([], [], places) :=
  ⟨[], by kernel_rfl⟩

set_option maxRecDepth 100000 in
theorem lifted (os : Os) (started : os.Started) (H : Type) (enc : TypeId × Value → H) (F : Stop.Interp) :
    ReturnsInHanded {} Tryz.checked os 3 .any ((OpenSpec.ofChange Rows.chunkNamesSpec).preRow enc Tryz.prog Tryz.f3 Rows.chunkNamesRow.domain false Rows.chunkNamesRow.laid) (((OpenSpec.ofChange Rows.chunkNamesSpec).at F).post enc Tryz.prog Tryz.f3 false true false false) := by
  obtain ⟨places, hx⟩ := reads os enc
  refine returnsInHanded_of_row (C := Tryz.checked) (s := OpenSpec.ofChange Rows.chunkNamesSpec) own started (by kernel_rfl) Tryz.func3
    (witness_row_atRef (enc := enc) (C := Tryz.checked) false (laidWorld os start) start rfl (by kernel_rfl) (by kernel_rfl) (by kernel_rfl)
      (OpenSpec.preRow_of_cond 8 hx (by kernel_rfl) (fun k hk => by cases hk) (by kernel_rfl) (laid_met os))) ?_
  intro W base args ds gs before hval hW _ _ _ hL hS _
  exact contract H enc W base args ds gs before hval hW hL hS

theorem said : Rows.ChunkNamesSaid :=
  OpenClaim.holds_of_cond 3 Tryz.f3 rfl rfl rfl rfl rfl rfl rfl ⟨rfl, rfl, rfl, rfl, rfl⟩ rfl rfl rfl rfl rfl (by kernel_rfl) Tryz.func3 (by kernel_rfl)
    (of_decide_eq_true (by kernel_rfl)) (by unfold Func.isWrapper; first | (rw [if_pos (by decide +kernel)]; kernel_rfl) | (rw [if_neg (by decide +kernel)]; exact ⟨rfl, rfl⟩))
    (fun os started H enc _ F => by rw [OpenClaim.pre_eq_preRow]; exact lifted os started H enc F)

/-- No parameter wants a stand-in; the program's own looks. -/
theorem plain (f : FuncId) (fn : Func) (hf : Tryz.pinned.checked.prog.funcNamed "bellows/bellowslaw22.ChunkNames" = some f) (hfn : Tryz.pinned.checked.prog.funcs[f]? = some fn) :
    true = Tryz.pinned.checked.prog.looks [] ∧ ∀ (j : Nat) t, fn.params[j]? = some t → Tryz.pinned.checked.prog.wantsStandIn t = false := by
  obtain rfl : f = 3 := Option.some.inj ((show Tryz.prog.funcNamed "bellows/bellowslaw22.ChunkNames" = some 3 by kernel_rfl).symm.trans hf) |>.symm
  obtain rfl : fn = Tryz.f3 := (Option.some.inj (Tryz.func3.symm.trans hfn)).symm
  refine ⟨by kernel_rfl, fun j t ht => ?_⟩
  have hall : (Tryz.f3.params.toList.all fun t => !Tryz.prog.wantsStandIn t) = true := by kernel_rfl
  have := List.all_eq_true.1 hall t (Array.mem_toList_iff.2 (Array.mem_of_getElem? ht))
  exact (show Tryz.prog.wantsStandIn t = false by simpa using this)

theorem proved : Rows.ChunkNamesCardSaid :=
  Claim7.holds_tied_plain_at .later [] _ _ _ _ said (fun _ h => by cases h) (by kernel_rfl) (fun _ h => by cases h) chunkNames_row_tie rfl ⟨rfl, rfl⟩ (by kernel_rfl) rfl plain (by kernel_rfl)
end Go.Proofs.YtbgnogdlkmhnkaaGreatDoor.chunkNames
