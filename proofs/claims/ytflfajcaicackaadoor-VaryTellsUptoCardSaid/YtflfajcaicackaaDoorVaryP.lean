/- The law VaryAll, over byte lists: what is put together names all that was named; a second time it changes nothing. No program in sight. -/
import Derived.Test.YtflfajcaicackaaDoorVaryS
namespace Go.Proofs.YtflfajcaicackaaDoor

theorem tok_byte (x : UInt8) (h : tokB x = true) : x ≠ 44 ∧ blankB x = false := by
  have : ∀ n : Fin 256, tokB n.val.toUInt8 = true → n.val.toUInt8 ≠ 44 ∧ blankB n.val.toUInt8 = false := by decide +kernel
  have h2 := this ⟨x.toNat, x.toNat_lt⟩
  simp at h2
  exact h2 h
theorem trimLB_no (l : List UInt8) (h : ∀ x ∈ l, blankB x = false) : trimLB l = l := by
  cases l with
  | nil => rfl
  | cons x r => exact trimLB_other _ _ (h x (List.mem_cons_self ..))
theorem trimRB_no (l : List UInt8) (h : ∀ x ∈ l, blankB x = false) : trimRB l = l := by
  rcases List.eq_nil_or_concat l with rfl | ⟨m, y, rfl⟩
  · rfl
  · rw [List.concat_eq_append] at h ⊢
    exact trimRB_other _ _ (h y (by simp))
theorem tok_parts {s : List UInt8} (h : tokenOf s = true) : s ≠ [] ∧ 44 ∉ s ∧ trimB s = s := by
  have ha := token_all h
  rw [List.all_eq_true] at ha
  refine ⟨fun e => by subst e; simp [tokenOf] at h, fun hm => (tok_byte _ (ha _ hm)).1 rfl, ?_⟩
  rw [trimB_eq, trimLB_no s fun x hx => (tok_byte x (ha x hx)).2, trimRB_no s fun x hx => (tok_byte x (ha x hx)).2]
theorem items_tok {s : List UInt8} (h : tokenOf s = true) : itemsOf s = [s] := by
  obtain ⟨h1, h2, h3⟩ := tok_parts h
  rw [items_none s h2]
  unfold itemOf
  rw [h3, if_neg h1]
theorem items_blank (x : UInt8) (m : List UInt8) (hx : blankB x = true) : itemsOf (x :: m) = itemsOf m := by
  have h44 : x ≠ 44 := fun e => by subst e; revert hx; decide
  unfold itemsOf
  simp only [splitB, if_neg h44]
  cases h : splitB 44 m with
  | nil => exact absurd h (splitB_ne 44 m)
  | cons p q => simp only [List.map_cons, trimB_front x p hx]
theorem items_out : ∀ out : List (List UInt8), (∀ x ∈ out, tokenOf x = true) → itemsOf (Lib.join out [44, 32]) = out
  | [], _ => by decide
  | [x], h => by rw [Lib.join_one]; exact items_tok (h x (List.mem_cons_self ..))
  | x :: y :: r, h => by
    rw [join_cons, show x ++ [44, 32] ++ Lib.join (y :: r) [44, 32] = x ++ 44 :: (32 :: Lib.join (y :: r) [44, 32]) by simp, items_join, items_tok (h x (List.mem_cons_self ..)), items_blank 32 _ (by decide), items_out (y :: r) fun z hz => h z (List.mem_cons_of_mem _ hz)]
    rfl
def nodS (l : List (List UInt8)) : Prop := l.Pairwise fun a b => smallOf a ≠ smallOf b
theorem inS_false {l : List (List UInt8)} {s : List UInt8} (h : inS l s = false) : ∀ x ∈ l, smallOf x ≠ smallOf s := by
  unfold inS at h
  rw [List.any_eq_false] at h
  exact fun x hx e => h x hx (by simp [e])
theorem inS_true {l : List (List UInt8)} {s : List UInt8} : inS l s = true ↔ ∃ x ∈ l, smallOf x = smallOf s := by
  unfold inS
  rw [List.any_eq_true]
  simp
theorem dedup_nod : ∀ (l out : List (List UInt8)), nodS out → nodS (dedup out l)
  | [], _, h => h
  | s :: r, out, h => by
    unfold dedup
    refine dedup_nod r _ ?_
    cases hs : inS out s with
    | true => exact h
    | false => exact List.pairwise_append.2 ⟨h, List.pairwise_singleton _ _, fun a ha b hb => by rw [List.mem_singleton] at hb; subst hb; exact inS_false hs a ha⟩
theorem dedup_same : ∀ (l out : List (List UInt8)), nodS (out ++ l) → dedup out l = out ++ l
  | [], out, _ => by simp [dedup]
  | s :: r, out, h => by
    have hs : inS out s = false := by
      cases hi : inS out s with
      | false => rfl
      | true =>
        obtain ⟨x, hx, he⟩ := inS_true.1 hi
        exact absurd he ((List.pairwise_append.1 h).2.2 x hx s (List.mem_cons_self ..))
    unfold dedup
    rw [hs, if_neg Bool.false_ne_true, dedup_same r (out ++ [s]) (by simpa using h)]
    simp
theorem dedup_append : ∀ (a b out : List (List UInt8)), dedup out (a ++ b) = dedup (dedup out a) b
  | [], _, _ => rfl
  | s :: a, b, out => by simp only [List.cons_append, dedup]; exact dedup_append a b _
theorem mergeO_tok {values : List (List UInt8)} {name : List UInt8} (h : mergeOK values name = true) : ∀ x ∈ mergeO values name, tokenOf x = true := fun x hx => by
  unfold mergeOK at h
  rw [List.all_eq_true] at h
  exact h x ((dedup_mem _ _ x hx).elim (fun h => by cases h) id)
theorem inS_mergeO (values : List (List UInt8)) (name s : List UInt8) : inS (mergeO values name) s = inS (allV values name) s := by
  unfold mergeO
  rw [inS_dedup]
  simp [inS]
theorem inS_name (values : List (List UInt8)) (name : List UInt8) : inS (allV values name) name = true := by
  rw [inS_true]
  exact ⟨name, by simp [allV], rfl⟩
theorem mergeO_nil (values : List (List UInt8)) (name : List UInt8) : mergeO values name ≠ [] := fun h => by
  have := inS_mergeO values name name
  rw [inS_name, h] at this
  cases this
/-- What is put together is the item * just where one of all is it. -/
theorem merge_star {values : List (List UInt8)} {name : List UInt8} (h : mergeOK values name = true) : mergeS values name = [42] ↔ inS (mergeO values name) [42] = true := by
  unfold mergeS
  rw [if_pos h]
  constructor
  · intro he
    cases hs : inS (mergeO values name) [42] with
    | true => rfl
    | false =>
      exfalso
      rw [hs, if_neg Bool.false_ne_true] at he
      have h1 := items_out _ (mergeO_tok h)
      rw [he] at h1
      rw [← h1] at hs
      revert hs
      decide
  · intro hs
    rw [hs, if_pos rfl]
theorem merge_items {values : List (List UInt8)} {name : List UInt8} (h : mergeOK values name = true) : itemsOf (mergeS values name) = if inS (mergeO values name) [42] then [[42]] else mergeO values name := by
  unfold mergeS
  rw [if_pos h]
  split
  · decide
  · exact items_out _ (mergeO_tok h)
theorem merge_again {values : List (List UInt8)} {name : List UInt8} (h : mergeOK values name = true) : mergeOK [mergeS values name] name = true ∧ mergeS [mergeS values name] name = mergeS values name := by
  have hn : tokenOf name = true := by
    unfold mergeOK allV at h
    rw [List.all_append] at h
    simp at h
    exact h.2
  have hi := merge_items h
  have hall : allV [mergeS values name] name = itemsOf (mergeS values name) ++ [name] := by simp [allV]
  have hok : mergeOK [mergeS values name] name = true := by
    unfold mergeOK
    rw [hall, hi, List.all_append]
    split
    · simp [hn]; decide
    · rw [List.all_eq_true.2 (mergeO_tok h)]; simp [hn]
  refine ⟨hok, ?_⟩
  cases hs : inS (mergeO values name) [42] with
  | true =>
    rw [(merge_star h).2 hs]
    have : inS (mergeO [[42]] name) [42] = true := by
      rw [inS_mergeO]
      unfold allV
      rw [inS_append]
      have : inS ([[42]].flatMap itemsOf) [42] = true := by decide
      rw [this]; rfl
    have hok2 : mergeOK [[42]] name = true := by rw [(merge_star h).2 hs] at hok; exact hok
    exact (merge_star hok2).2 this
  | false =>
    have ho : mergeO [mergeS values name] name = mergeO values name := by
      have hnod : nodS (mergeO values name) := dedup_nod _ _ List.Pairwise.nil
      show dedup [] (allV [mergeS values name] name) = _
      rw [hall, hi, hs, if_neg Bool.false_ne_true, dedup_append, dedup_same _ [] (by simpa using hnod)]
      have hin : inS (mergeO values name) name = true := by rw [inS_mergeO, inS_name]
      simp only [List.nil_append, dedup, hin, if_true]
    have hse : mergeS values name = Lib.join (mergeO values name) [44, 32] := by unfold mergeS; rw [if_pos h, hs, if_neg Bool.false_ne_true]
    rw [hse] at hok ho ⊢
    unfold mergeS
    rw [if_pos hok, ho, hs, if_neg Bool.false_ne_true]
theorem merge_names {values : List (List UInt8)} {name : List UInt8} (h : mergeOK values name = true) (s : List UInt8) : namesOf (mergeS values name) s = (inS (mergeO values name) [42] || inS (mergeO values name) s) := by
  rw [names_in, merge_items h]
  cases hs : inS (mergeO values name) [42] with
  | true =>
    have : inS [[42]] [42] = true := by decide
    simp [this]
  | false => simp [hs]
theorem inS_flat (s : List UInt8) : ∀ values : List (List UInt8), inS (values.flatMap itemsOf) s = values.any fun v => inS (itemsOf v) s
  | [] => rfl
  | v :: r => by rw [List.flatMap_cons, inS_append, inS_flat s r, List.any_cons]
/-- What is named behind: what was named, or the name, or all. -/
theorem merge_was {values : List (List UInt8)} {name : List UInt8} (h : mergeOK values name = true) (s : List UInt8) :
    namesOf (mergeS values name) s = ((smallOf s == smallOf name || values.any fun v => namesOf v s) || decide (mergeS values name = [42])) := by
  rw [merge_names h]
  cases hs : inS (mergeO values name) [42] with
  | true => rw [decide_eq_true ((merge_star h).2 hs)]; simp
  | false =>
    rw [decide_eq_false (fun e => by rw [(merge_star h).1 e] at hs; cases hs)]
    have hno : ∀ v ∈ values, inS (itemsOf v) [42] = false := fun v hv => by
      rw [inS_mergeO] at hs
      unfold allV at hs
      rw [inS_append, inS_flat, Bool.or_eq_false_iff, List.any_eq_false] at hs
      simpa using hs.1 v hv
    have hv : (values.any fun v => namesOf v s) = values.any fun v => inS (itemsOf v) s := by
      rw [Bool.eq_iff_iff, List.any_eq_true, List.any_eq_true]
      constructor
      · rintro ⟨v, hv, h1⟩
        rw [names_in, hno v hv] at h1
        exact ⟨v, hv, h1⟩
      · rintro ⟨v, hv, h1⟩
        exact ⟨v, hv, by rw [names_in, h1]; simp⟩
    rw [hv, inS_mergeO]
    unfold allV
    rw [inS_append, inS_flat]
    have : inS [name] s = (smallOf s == smallOf name) := by simp [inS, Bool.beq_comm]
    rw [this, Bool.false_or, Bool.or_false, Bool.or_comm]
/-! ## How long -/
def lsum (l : List (List UInt8)) : Nat := (l.map fun s => s.length + 1).sum
theorem lsum_cons (x : List UInt8) (l : List (List UInt8)) : lsum (x :: l) = x.length + 1 + lsum l := rfl
theorem lsum_append : ∀ a b : List (List UInt8), lsum (a ++ b) = lsum a + lsum b
  | [], b => by simp [lsum]
  | x :: a, b => by rw [List.cons_append, lsum_cons, lsum_cons, lsum_append a b]; omega
theorem split_sum (c : UInt8) : ∀ l : List UInt8, lsum (splitB c l) = l.length + 1
  | [] => rfl
  | x :: r => by
    have ih := split_sum c r
    unfold splitB
    split
    · rw [lsum_cons, ih]; simp; omega
    · cases h : splitB c r with
      | nil => exact absurd h (splitB_ne c r)
      | cons p q => rw [h, lsum_cons] at ih; rw [lsum_cons]; simp only [List.length_cons]; omega
theorem lsum_trim : ∀ l : List (List UInt8), lsum ((l.map trimB).filter fun s => !s.isEmpty) ≤ lsum l
  | [] => Nat.le_refl _
  | x :: r => by
    have ih := lsum_trim r
    have := trimB_length x
    rw [List.map_cons, List.filter_cons, lsum_cons]
    split
    · rw [lsum_cons]; omega
    · omega
theorem items_sum (l : List UInt8) : lsum (itemsOf l) ≤ l.length + 1 := by
  unfold itemsOf
  rw [← split_sum 44 l]
  exact lsum_trim _
theorem dedup_sum : ∀ (l out : List (List UInt8)), lsum (dedup out l) ≤ lsum out + lsum l
  | [], out => by simp [dedup]
  | s :: r, out => by
    unfold dedup
    rw [lsum_cons]
    cases inS out s with
    | true => have := dedup_sum r out; simp only [if_true]; omega
    | false =>
      have := dedup_sum r (out ++ [s])
      rw [lsum_append] at this
      have h1 : lsum [s] = s.length + 1 := rfl
      simp only [Bool.false_eq_true, if_false]
      omega
theorem join2_length : ∀ l : List (List UInt8), (Lib.join l [44, 32]).length ≤ 2 * lsum l := fun l => by
  refine Nat.le_trans (join_length l [44, 32]) ?_
  induction l with
  | nil => simp
  | cons x r ih => rw [lsum_cons]; simp only [List.map_cons, List.sum_cons, List.length_cons, List.length_nil] at ih ⊢; omega
theorem allV_sum (values : List (List UInt8)) (name : List UInt8) : lsum (allV values name) ≤ (Lib.join values [44]).length + 1 + name.length + 1 := by
  unfold allV
  rw [lsum_append, ← items_of_join]
  have := items_sum (Lib.join values [44])
  have h1 : lsum [name] = name.length + 1 := rfl
  omega
theorem mergeS_length (values : List (List UInt8)) (name : List UInt8) : (mergeS values name).length ≤ 2 * ((Lib.join values [44]).length + name.length + 2) := by
  have h1 := allV_sum values name
  have h2 := dedup_sum (allV values name) []
  have h3 := join2_length (mergeO values name)
  have h4 : lsum [] = 0 := rfl
  unfold mergeO at h3
  unfold mergeS
  split
  · split
    · simp; omega
    · unfold mergeO; omega
  · simp
theorem join_snoc : ∀ (l : List (List UInt8)) (x sep : List UInt8), l ≠ [] → Lib.join (l ++ [x]) sep = Lib.join l sep ++ sep ++ x
  | [], _, _, h => absurd rfl h
  | [y], x, sep, _ => by rw [List.singleton_append, join_cons, Lib.join_one, Lib.join_one]
  | y :: z :: r, x, sep, _ => by
    rw [List.cons_append, List.cons_append, join_cons, ← List.cons_append, join_snoc (z :: r) x sep (by simp), join_cons]
    simp
end Go.Proofs.YtflfajcaicackaaDoor
