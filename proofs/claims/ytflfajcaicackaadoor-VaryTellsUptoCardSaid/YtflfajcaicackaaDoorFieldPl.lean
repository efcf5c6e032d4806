/- Plain laws on fields: a field's line tells it. No program in sight. -/
import Derived.Test.YtflfajcaicackaaDoorFieldV
namespace Go.Proofs.YtflfajcaicackaaDoor

theorem tok_no_colon (x : UInt8) (h : tokB x = true) : ¬ x.toNat = 58 := by
  intro h58
  have : x = 58 := b8 (n := 58) (by decide) h58
  subst this
  revert h
  decide
theorem cutC_token (n r : List UInt8) (h : n.all tokB = true) : cutC (n ++ 58 :: r) = (n, r, true) := by
  induction n with
  | nil => rw [List.nil_append, cutC, if_pos (by decide)]
  | cons x n ih =>
    rw [List.all_cons, Bool.and_eq_true] at h
    rw [List.cons_append, cutC, if_neg (tok_no_colon x h.1), ih h.2]
theorem fieldOK_parts {n v : List UInt8} (h : fieldOK n v = true) : n.length ≤ 4096 ∧ v.length ≤ 4096 ∧ tokenOf n = true ∧ smallOf n = n ∧ valueOf v = true := by
  unfold fieldOK at h
  simpa using h
theorem token_all {n : List UInt8} (h : tokenOf n = true) : n.all tokB = true := by
  unfold tokenOf at h
  rw [Bool.and_eq_true] at h
  exact h.2
theorem value_trim {v : List UInt8} (h : valueOf v = true) : trimB v = v := by
  unfold valueOf at h
  rw [Bool.and_eq_true, beq_iff_eq] at h
  exact h.1
theorem trimB_front (x : UInt8) (l : List UInt8) (h : blankB x = true) : trimB (x :: l) = trimB l := by rw [trimB_eq, trimB_eq, trimLB_blank x l h]
theorem trimB_back (x : UInt8) (l : List UInt8) (h : blankB x = true) : trimB (l ++ [x]) = trimB l := by
  unfold trimB Lib.trimS
  have : Lib.trimRightS (l ++ [x]) [32, 9] = Lib.trimRightS l [32, 9] := trimRB_blank x l h
  rw [this]
theorem trimB_blanks (k : Nat) (l : List UInt8) : trimB (List.replicate k 32 ++ l) = trimB l := by
  induction k with
  | zero => rfl
  | succ k ih => rw [List.replicate_succ, List.cons_append, trimB_front _ _ (by decide), ih]
/-- A line of a field, with blanks about its value, is read as that field. -/
theorem parse_line (n v l : List UInt8) (h : fieldOK n v = true) (hl : (n ++ 58 :: l).length ≤ 4096) (ht : trimB l = v) : parseOK (n ++ 58 :: l) = true ∧ parseN (n ++ 58 :: l) = n ∧ parseV (n ++ 58 :: l) = v := by
  obtain ⟨_, _, h3, h4, h5⟩ := fieldOK_parts h
  have hc := cutC_token n l (token_all h3)
  have hok : parseOK (n ++ 58 :: l) = true := by
    unfold parseOK
    rw [hc]
    simp only [Bool.and_eq_true, decide_eq_true_eq]
    exact ⟨hl, trivial, by rw [h4, ht]; exact h⟩
  refine ⟨hok, ?_, ?_⟩
  · unfold parseN; rw [if_pos hok, hc]; exact h4
  · unfold parseV; rw [if_pos hok, hc]; exact ht
theorem parse_plain (n v : List UInt8) (h : fieldOK n v = true) (hl : n.length + v.length ≤ 4000) : parseOK (lineOf n v) = true ∧ parseN (lineOf n v) = n ∧ parseV (lineOf n v) = v := by
  have e : lineOf n v = n ++ 58 :: (32 :: v) := by unfold lineOf; rw [if_pos h]; simp
  rw [e]
  exact parse_line n v _ h (by simp; omega) (by rw [trimB_front _ _ (by decide), value_trim (fieldOK_parts h).2.2.2.2])
theorem parse_wide (n v : List UInt8) (k : Nat) (h : fieldOK n v = true) (hl : n.length + v.length ≤ 4000) (hk : k ≤ 9) :
    parseOK (n ++ [58] ++ List.replicate k 32 ++ v ++ [9]) = true ∧ parseN (n ++ [58] ++ List.replicate k 32 ++ v ++ [9]) = n ∧ parseV (n ++ [58] ++ List.replicate k 32 ++ v ++ [9]) = v := by
  have e : n ++ [58] ++ List.replicate k 32 ++ v ++ [9] = n ++ 58 :: (List.replicate k 32 ++ (v ++ [9])) := by simp
  rw [e]
  refine parse_line n v _ h (by simp; omega) ?_
  rw [trimB_blanks, trimB_back _ _ (by decide), value_trim (fieldOK_parts h).2.2.2.2]
theorem cutC_length : ∀ l : List UInt8, (cutC l).1.length + (cutC l).2.1.length ≤ l.length
  | [] => by simp [cutC]
  | x :: l => by
    have ih := cutC_length l
    rw [cutC]
    split
    · simp
    · simp only [List.length_cons]; omega
theorem trimB_length (l : List UInt8) : (trimB l).length ≤ l.length := by
  rw [trimB_eq]
  exact Nat.le_trans (trimRB_short _) (trimLB_short _)
theorem parse_field {l : List UInt8} (h : parseOK l = true) : fieldOK (parseN l) (parseV l) = true ∧ (parseN l).length + (parseV l).length ≤ l.length := by
  have hN : parseN l = smallOf (cutC l).1 := by unfold parseN; rw [if_pos h]
  have hV : parseV l = trimB (cutC l).2.1 := by unfold parseV; rw [if_pos h]
  rw [hN, hV]
  constructor
  · unfold parseOK at h
    rw [Bool.and_eq_true, Bool.and_eq_true] at h
    exact h.2.2
  · have h1 := cutC_length l
    have h2 := trimB_length (cutC l).2.1
    rw [smallOf_length]
    omega
end Go.Proofs.YtflfajcaicackaaDoor
