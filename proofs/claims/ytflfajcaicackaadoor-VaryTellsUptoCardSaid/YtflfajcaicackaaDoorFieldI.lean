/- Texts between the places of a byte; items of a value. No program in sight. -/
import Derived.Test.YtflfajcaicackaaDoorFieldPl
import Derived.Test.YtflfajcaicackaaDoorFieldV
namespace Go.Proofs.YtflfajcaicackaaDoor

def splitB (c : UInt8) : List UInt8 → List (List UInt8)
  | [] => [[]]
  | x :: r => if x = c then [] :: splitB c r else (match splitB c r with | [] => [[x]] | p :: q => (x :: p) :: q)
theorem splitB_ne (c : UInt8) (l : List UInt8) : splitB c l ≠ [] := by
  cases l with
  | nil => simp [splitB]
  | cons x r =>
    unfold splitB
    split
    · simp
    · split <;> simp
theorem splitB_app (c : UInt8) : ∀ (a b : List UInt8), c ∉ a → splitB c (a ++ c :: b) = a :: splitB c b
  | [], b, _ => by simp [splitB]
  | x :: a, b, h => by
    have hx : x ≠ c := fun e => h (by simp [e])
    simp only [List.cons_append, splitB, if_neg hx, splitB_app c a b (fun e => h (List.mem_cons_of_mem _ e))]
theorem splitB_none (c : UInt8) : ∀ (l : List UInt8), c ∉ l → splitB c l = [l]
  | [], _ => rfl
  | x :: r, h => by
    have hx : x ≠ c := fun e => h (by simp [e])
    simp only [splitB, if_neg hx, splitB_none c r (fun e => h (List.mem_cons_of_mem _ e))]
theorem splitB_join (c : UInt8) : ∀ (a b : List UInt8), splitB c (a ++ c :: b) = splitB c a ++ splitB c b
  | [], b => by simp [splitB]
  | x :: a, b => by
    simp only [List.cons_append, splitB, splitB_join c a b]
    by_cases hx : x = c
    · simp [hx]
    · simp only [if_neg hx]
      cases h : splitB c a with
      | nil => exact absurd h (splitB_ne c a)
      | cons p q => rfl
theorem splitB_at (c : UInt8) (l : List UInt8) (k : Nat) (h : c ∉ l.take k) (hk : l[k]? = some c) : splitB c l = l.take k :: splitB c (l.drop (k + 1)) := by
  obtain ⟨hlt, he⟩ := List.getElem?_eq_some_iff.1 hk
  conv => lhs; rw [← List.take_append_drop k l, List.drop_eq_getElem_cons hlt, he]
  exact splitB_app c _ _ h
theorem splitB_mem (c : UInt8) : ∀ (l p : List UInt8), p ∈ splitB c l → c ∉ p ∧ p.length ≤ l.length
  | [], p, h => by simp [splitB] at h; subst h; simp
  | x :: r, p, h => by
    unfold splitB at h
    split at h
    · rcases List.mem_cons.1 h with rfl | h
      · simp
      · have := splitB_mem c r p h
        exact ⟨this.1, by simp; omega⟩
    · rename_i hx
      split at h
      · rename_i h0; exact absurd h0 (splitB_ne c r)
      · rename_i q qs hq
        rcases List.mem_cons.1 h with rfl | h
        · have := splitB_mem c r q (by rw [hq]; simp)
          refine ⟨fun hm => ?_, by simp; omega⟩
          rcases List.mem_cons.1 hm with e | e
          · exact hx e.symm
          · exact this.1 e
        · have := splitB_mem c r p (by rw [hq]; exact List.mem_cons_of_mem _ h)
          exact ⟨this.1, by simp; omega⟩
theorem splitB_length (c : UInt8) : ∀ l : List UInt8, (splitB c l).length ≤ l.length + 1
  | [] => by simp [splitB]
  | x :: r => by
    have := splitB_length c r
    unfold splitB
    split
    · simp; omega
    · split
      · simp
      · rename_i h; rw [h] at this; simp at this ⊢; omega
theorem index_one (c : UInt8) : ∀ l : List UInt8, (Lib.index l [c] = -1 ∧ c ∉ l) ∨ ∃ k : Nat, Lib.index l [c] = k ∧ k < l.length ∧ c ∉ l.take k ∧ l[k]? = some c
  | [] => .inl ⟨rfl, by simp⟩
  | x :: r => by
    unfold Lib.index
    by_cases hx : c = x
    · subst hx
      exact .inr ⟨0, by simp [List.isPrefixOf], by simp, by simp, by simp⟩
    · have h0 : ([c] : List UInt8).isPrefixOf (x :: r) = false := by simp [List.isPrefixOf, hx]
      rw [h0]
      rcases index_one c r with ⟨h1, h2⟩ | ⟨k, h1, h2, h3, h4⟩
      · exact .inl ⟨by simp [h1], by simp [hx, h2]⟩
      · refine .inr ⟨k + 1, ?_, by simp; omega, by simp [hx, h3], by simpa using h4⟩
        rw [h1]
        simp only [Bool.false_eq_true, if_false]
        rw [if_neg (by simp)]
        omega
theorem drop_drop_idem (p : UInt8 → Bool) : ∀ l : List UInt8, (l.dropWhile p).dropWhile p = l.dropWhile p
  | [] => rfl
  | x :: r => by
    by_cases h : p x
    · simp [List.dropWhile_cons, h, drop_drop_idem p r]
    · simp [List.dropWhile_cons, h]
theorem trimLB_idem (l : List UInt8) : trimLB (trimLB l) = trimLB l := drop_drop_idem _ l
theorem trimRB_idem (l : List UInt8) : trimRB (trimRB l) = trimRB l := by
  unfold trimRB Lib.trimRightS
  rw [List.reverse_reverse, drop_drop_idem]
theorem trimB_idem (l : List UInt8) : trimB (trimB l) = trimB l := by
  rw [trimB_eq (trimB l), trimB_eq l]
  have h : ∀ m, trimLB (trimRB m) = trimRB (trimLB m) := fun m => trim_comm [32, 9] m
  rw [h, trimLB_idem, trimRB_idem]
theorem trimB_sub (x : UInt8) (l : List UInt8) (h : x ∈ trimB l) : x ∈ l := by
  unfold trimB Lib.trimS Lib.trimLeftS Lib.trimRightS at h
  have h1 := (List.dropWhile_sublist _).subset h
  rw [List.mem_reverse] at h1
  have h2 := (List.dropWhile_sublist _).subset h1
  exact List.mem_reverse.1 h2

/-- What stands between commas, trimmed, if anything is left. -/
def itemsOf (l : List UInt8) : List (List UInt8) := ((splitB 44 l).map trimB).filter fun s => !s.isEmpty
def itemOf (p : List UInt8) : List (List UInt8) := if trimB p = [] then [] else [trimB p]
theorem items_cons (l p : List UInt8) (q : List (List UInt8)) (h : splitB 44 l = p :: q) : itemsOf l = itemOf p ++ (q.map trimB).filter fun s => !s.isEmpty := by
  unfold itemsOf itemOf
  rw [h, List.map_cons, List.filter_cons]
  by_cases h0 : trimB p = []
  · simp [h0]
  · rw [if_pos (by simpa using h0), if_neg h0]; rfl
theorem items_at (l : List UInt8) (k : Nat) (h : 44 ∉ l.take k) (hk : l[k]? = some 44) : itemsOf l = itemOf (l.take k) ++ itemsOf (l.drop (k + 1)) :=
  items_cons _ _ _ (splitB_at 44 l k h hk)
theorem items_none (l : List UInt8) (h : 44 ∉ l) : itemsOf l = itemOf l := by
  rw [items_cons _ _ _ (splitB_none 44 l h)]
  simp
theorem items_join (a b : List UInt8) : itemsOf (a ++ 44 :: b) = itemsOf a ++ itemsOf b := by
  unfold itemsOf
  rw [splitB_join, List.map_append, List.filter_append]
theorem items_mem {l s : List UInt8} (h : s ∈ itemsOf l) : s ≠ [] ∧ trimB s = s ∧ 44 ∉ s ∧ s.length ≤ l.length := by
  unfold itemsOf at h
  obtain ⟨h1, h2⟩ := List.mem_filter.1 h
  obtain ⟨p, hp, rfl⟩ := List.mem_map.1 h1
  obtain ⟨h3, h4⟩ := splitB_mem 44 l p hp
  refine ⟨by simpa using h2, trimB_idem p, fun hm => h3 (trimB_sub _ _ hm), Nat.le_trans (trimB_length p) h4⟩
theorem items_length (l : List UInt8) : (itemsOf l).length ≤ l.length + 1 := by
  unfold itemsOf
  refine Nat.le_trans (List.length_filter_le _ _) ?_
  rw [List.length_map]
  exact splitB_length 44 l
theorem itemOf_length (p : List UInt8) : (itemOf p).length ≤ 1 := by unfold itemOf; split <;> simp
end Go.Proofs.YtflfajcaicackaaDoor
