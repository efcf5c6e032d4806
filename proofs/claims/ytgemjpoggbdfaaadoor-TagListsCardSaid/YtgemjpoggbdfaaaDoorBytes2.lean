/- Plain facts on entity tags: what stands ahead of the rest of a text is an entity tag by itself. -/
import Derived.Test.YtgemjpoggbdfaaaDoorBytes
namespace Go.Proofs.YtgemjpoggbdfaaaDoor

theorem quoteEnd_app : ∀ (l c r t : List UInt8), quoteEnd l = some (c, r) → quoteEnd (c ++ 34 :: t) = some (c, t)
  | [], c, r, t, h => by simp [quoteEnd] at h
  | x :: l, c, r, t, h => by
    unfold quoteEnd at h
    split at h
    · simp only [Option.some.injEq, Prod.mk.injEq] at h
      obtain ⟨rfl, rfl⟩ := h
      rw [List.nil_append, quoteEnd, if_pos (by decide)]
    · rename_i hx
      split at h
      · simp at h
      · rename_i hs
        cases hq : quoteEnd l with
        | none => simp [hq] at h
        | some p =>
          obtain ⟨c', r'⟩ := p
          simp only [hq, Option.map_some, Option.some.injEq, Prod.mk.injEq] at h
          obtain ⟨rfl, rfl⟩ := h
          rw [List.cons_append, quoteEnd, if_neg hx, if_neg hs, quoteEnd_app l c' r' t hq]
          rfl
theorem stripW_quote (l : List UInt8) : stripW (34 :: l) = 34 :: l := stripW_no _ fun r h => by injection h with h1; exact absurd h1 (by decide)
theorem entity_shape (l c r : List UInt8) (h : entity l = some (c, r)) : (l = 34 :: (c ++ 34 :: r) ∨ l = 87 :: 47 :: 34 :: (c ++ 34 :: r)) ∧ ∀ t, quoteEnd (c ++ 34 :: t) = some (c, t) := by
  have hs : stripW l = 34 :: (c ++ 34 :: r) ∧ ∀ t, quoteEnd (c ++ 34 :: t) = some (c, t) := by
    unfold entity at h
    split at h
    · simp at h
    · rename_i x r' hx
      split at h
      · rename_i h34
        refine ⟨?_, fun t => quoteEnd_app _ _ _ _ h⟩
        rw [hx, quoteEnd_le _ _ _ h, b8 (n := 34) (by decide) h34]
        rfl
      · simp at h
  refine ⟨?_, hs.2⟩
  by_cases hw : ∃ r, l = 87 :: 47 :: r
  · obtain ⟨r', rfl⟩ := hw
    right
    have := hs.1
    rw [stripW_yes] at this
    rw [this]
  · left
    rw [← hs.1]
    exact (stripW_no l fun r' hr => hw ⟨r', hr⟩).symm
theorem entity_one (c t : List UInt8) (h : ∀ t, quoteEnd (c ++ 34 :: t) = some (c, t)) : entity (34 :: (c ++ 34 :: t)) = some (c, t) := by
  unfold entity
  rw [stripW_quote]
  simp only
  rw [if_pos (by decide), h]
theorem entity_two (c t : List UInt8) (h : ∀ t, quoteEnd (c ++ 34 :: t) = some (c, t)) : entity (87 :: 47 :: 34 :: (c ++ 34 :: t)) = some (c, t) := by
  unfold entity
  rw [stripW_yes]
  simp only
  rw [if_pos (by decide), h]
/-- An entity tag at the head, cut off, is a mark whose core is the same. -/
theorem entity_cut (l c r : List UInt8) (h : entity l = some (c, r)) : coreOf (l.take (l.length - r.length)) = some c ∧ l.drop (l.length - r.length) = r := by
  obtain ⟨hs, hq⟩ := entity_shape l c r h
  have hc : ∀ p : List UInt8, entity p = some (c, []) → coreOf p = some c := fun p hp => by unfold coreOf; rw [hp]
  rcases hs with rfl | rfl
  · have e : (34 :: (c ++ 34 :: r) : List UInt8) = (34 :: (c ++ [34])) ++ r := by simp
    have n : ((34 :: (c ++ 34 :: r) : List UInt8)).length - r.length = (34 :: (c ++ [34]) : List UInt8).length := by simp; omega
    rw [n, e, List.take_left, List.drop_left]
    exact ⟨hc _ (entity_one c [] hq), rfl⟩
  · have e : (87 :: 47 :: 34 :: (c ++ 34 :: r) : List UInt8) = (87 :: 47 :: 34 :: (c ++ [34])) ++ r := by simp
    have n : ((87 :: 47 :: 34 :: (c ++ 34 :: r) : List UInt8)).length - r.length = (87 :: 47 :: 34 :: (c ++ [34]) : List UInt8).length := by simp; omega
    rw [n, e, List.take_left, List.drop_left]
    exact ⟨hc _ (entity_two c [] hq), rfl⟩
end Go.Proofs.YtgemjpoggbdfaaaDoor
