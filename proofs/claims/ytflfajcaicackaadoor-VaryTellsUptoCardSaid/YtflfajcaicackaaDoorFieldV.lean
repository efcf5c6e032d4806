/- Plain facts on fields: what a value is, by its ends; the cut at a colon. -/
import Derived.Test.YtflfajcaicackaaDoorFieldS
import Derived.Lib.IndexMore
namespace Go.Proofs.YtflfajcaicackaaDoor

theorem trimLB_short (l : List UInt8) : (trimLB l).length ≤ l.length := trimLB_le l
theorem trimRB_short (l : List UInt8) : (trimRB l).length ≤ l.length := by
  unfold trimRB Lib.trimRightS
  have := (List.dropWhile_sublist (([32, 9] : List UInt8).contains ·) (l := l.reverse)).length_le
  simpa using this
/-- A text is its own trimmed one just where it is empty, or no blank stands at an end. -/
theorem trimB_self (x : UInt8) (l : List UInt8) (m : List UInt8) (y : UInt8) (h : x :: l = m ++ [y]) : (trimB (x :: l) == x :: l) = (!blankB x && !blankB y) := by
  rw [Bool.eq_iff_iff]
  simp only [beq_iff_eq, Bool.and_eq_true, Bool.not_eq_true']
  rw [trimB_eq]
  constructor
  · intro he
    cases hx : blankB x
    · refine ⟨rfl, ?_⟩
      cases hy : blankB y
      · rfl
      · rw [trimLB_other x l hx, h, trimRB_blank y m hy] at he
        have := trimRB_short m
        rw [he] at this
        simp at this
        omega
    · rw [trimLB_blank x l hx] at he
      have h1 := trimRB_short (trimLB l)
      have h2 := trimLB_short l
      rw [he] at h1
      simp at h1
      omega
  · intro ⟨hx, hy⟩
    rw [trimLB_other x l hx, h, trimRB_other y m hy]
theorem valueOf_nil : valueOf [] = true := rfl
theorem valueOf_ends (x : UInt8) (l m : List UInt8) (y : UInt8) (h : x :: l = m ++ [y]) : valueOf (x :: l) = ((x :: l).all valB && (!blankB x && !blankB y)) := by
  unfold valueOf
  rw [trimB_self x l m y h, Bool.and_comm]
/-! The cut at a colon. -/
theorem index_colon (x : UInt8) (l : List UInt8) : Lib.index (x :: l) [58] = if x.toNat = 58 then 0 else (if Lib.index l [58] = -1 then -1 else Lib.index l [58] + 1) := by
  rw [Lib.index]
  by_cases hx : x.toNat = 58
  · have hx' : x = 58 := b8 (n := 58) (by decide) hx
    subst hx'
    simp
  · have hx' : ¬ (58 : UInt8) = x := fun h => hx (by rw [← h]; rfl)
    rw [if_neg (by simp [hx']), if_neg hx]
    simp only [beq_iff_eq]
theorem cut_colon : ∀ l : List UInt8, Lib.cut l [58] = cutC l
  | [] => rfl
  | x :: l => by
    have ih := cut_colon l
    have hge := Lib.index_ge l [58]
    unfold Lib.cut at ih ⊢
    rw [index_colon, cutC]
    by_cases hx : x.toNat = 58
    · simp [hx]
    · rw [if_neg hx, if_neg hx]
      by_cases hi : Lib.index l [58] = -1
      · rw [if_pos hi]
        rw [hi] at ih
        simp only [show ¬ (0 : Int) ≤ -1 by omega, if_false] at ih ⊢
        rw [← ih]
      · rw [if_neg hi]
        have h0 : 0 ≤ Lib.index l [58] := by omega
        rw [if_pos h0] at ih
        rw [if_pos (by omega), ← ih]
        have e : (Lib.index l [58] + 1).toNat = (Lib.index l [58]).toNat + 1 := by omega
        rw [e]
        simp only [List.take_succ_cons, List.length_cons, List.length_nil, Nat.zero_add, List.drop_succ_cons]
theorem cutC_at : ∀ (l : List UInt8) (k : Nat), (∀ j (x : UInt8), j < k → l[j]? = some x → ¬ x.toNat = 58) → ∀ x, l[k]? = some x → x.toNat = 58 → cutC l = (l.take k, l.drop (k + 1), true)
  | [], k, _, x, hx, _ => by simp at hx
  | y :: l, 0, _, x, hx, h58 => by
    simp at hx
    subst hx
    rw [cutC, if_pos h58]
    rfl
  | y :: l, k + 1, h, x, hx, h58 => by
    have hy := h 0 y (by omega) rfl
    have ih := cutC_at l k (fun j x hj hx => h (j + 1) x (by omega) (by simpa using hx)) x (by simpa using hx) h58
    rw [cutC, if_neg hy, ih]
    rfl
theorem cutC_none : ∀ (l : List UInt8), (∀ x ∈ l, ¬ x.toNat = 58) → (cutC l).2.2 = false
  | [], _ => rfl
  | y :: l, h => by
    rw [cutC, if_neg (h y (by simp))]
    exact cutC_none l fun x hx => h x (by simp [hx])
end Go.Proofs.YtflfajcaicackaaDoor
