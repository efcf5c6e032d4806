/- Plain laws on tags: marks in two codings do not match; a mark in a list is found. No program in sight. -/
import Derived.Test.YtgemjpoggbdfaaaDoorBytes2
namespace Go.Proofs.YtgemjpoggbdfaaaDoor

/-- Bytes that may stand between two quotes. -/
def inB (x : UInt8) : Bool := !(stopB x) && !(x.toNat == 34)
theorem quoteEnd_in : ∀ (c r : List UInt8), c.all inB = true → quoteEnd (c ++ 34 :: r) = some (c, r)
  | [], r, _ => by rw [List.nil_append, quoteEnd, if_pos (by decide)]
  | x :: c, r, h => by
    rw [List.all_cons, Bool.and_eq_true] at h
    obtain ⟨h1, h2⟩ := h
    simp [inB] at h1
    rw [List.cons_append, quoteEnd, if_neg h1.2, if_neg (by simp [h1.1]), quoteEnd_in c r h2]
    rfl
theorem tag_in (x : UInt8) (h : tagB x = true) : inB x = true := by
  simp [tagB, tagI] at h
  simp [inB, stopB, stopI]
  omega
theorem all_tag_in (l : List UInt8) (h : l.all tagB = true) : l.all inB = true := by
  rw [List.all_eq_true] at h ⊢
  exact fun x hx => tag_in x (h x hx)
/-- A mark made of a core. -/
def plainMark (c : List UInt8) : List UInt8 := 34 :: (c ++ [34])
def weakMark (c : List UInt8) : List UInt8 := 87 :: 47 :: 34 :: (c ++ [34])
def isMark (m c : List UInt8) : Prop := (m = plainMark c ∨ m = weakMark c) ∧ ∀ t, quoteEnd (c ++ 34 :: t) = some (c, t)
theorem isMark_of (m c : List UInt8) (h : coreOf m = some c) : isMark m c := by
  have he : entity m = some (c, []) := by
    unfold coreOf at h
    cases he : entity m with
    | none => simp [he] at h
    | some p =>
      obtain ⟨c', r⟩ := p
      rw [he] at h
      cases r with
      | nil => simp at h; rw [h]
      | cons x r => simp at h
  exact entity_shape m c [] he
theorem isMark_entity {m c : List UInt8} (h : isMark m c) (t : List UInt8) : entity (m ++ t) = some (c, t) := by
  obtain ⟨rfl | rfl, hq⟩ := h
  · have := entity_one c t hq
    simpa [plainMark] using this
  · have := entity_two c t hq
    simpa [weakMark] using this
theorem isMark_core {m c : List UInt8} (h : isMark m c) : coreOf m = some c := by
  have := isMark_entity h []
  rw [List.append_nil] at this
  unfold coreOf
  rw [this]
theorem trimLB_mark {m c : List UInt8} (h : isMark m c) (t : List UInt8) : trimLB (m ++ t) = m ++ t := by
  obtain ⟨rfl | rfl, _⟩ := h
  · exact trimLB_other _ _ (by decide)
  · exact trimLB_other _ _ (by decide)
/-! A list goes on behind a comma. -/
theorem trimLB_comma (v t : List UInt8) : trimLB (v ++ 44 :: t) = trimLB v ++ 44 :: t := by
  unfold trimLB Lib.trimLeftS
  rw [List.dropWhile_append]
  split
  · rename_i h
    rw [List.isEmpty_iff] at h
    rw [h, List.dropWhile_cons, if_neg (by decide)]
    rfl
  · rfl
theorem entity_app (v c r t : List UInt8) (h : entity v = some (c, r)) : entity (v ++ t) = some (c, r ++ t) := by
  obtain ⟨hs, hq⟩ := entity_shape v c r h
  rcases hs with rfl | rfl
  · have := entity_one c (r ++ t) hq
    simpa using this
  · have := entity_two c (r ++ t) hq
    simpa using this
theorem entity_comma (t : List UInt8) : entity (44 :: t) = none := by
  unfold entity
  rw [stripW_no _ fun r h => by injection h with h1; exact absurd h1 (by decide)]
  simp only
  rw [if_neg (by decide)]
theorem entity_nil : entity [] = none := rfl
theorem trimLB_idem (l : List UInt8) : trimLB (trimLB l) = trimLB l := by
  cases h : trimLB l with
  | nil => rfl
  | cons x r =>
    have hb : blankB x = false := by
      have := List.head?_dropWhile_not (([32, 9] : List UInt8).contains ·) l
      unfold trimLB Lib.trimLeftS at h
      rw [h] at this
      simp only [List.head?_cons] at this
      rw [← blank_mem]
      simpa using this
    exact trimLB_other x r hb
theorem trimLB_comma0 (t : List UInt8) : trimLB (44 :: t) = 44 :: t := trimLB_other _ _ (by decide)
/-- One step of a list of which more stands behind a comma. -/
theorem listStep_app (v t : List UInt8) (h : (listStep v).2 = [] ∨ ∃ r, (listStep v).2 = 44 :: r) :
    listStep (v ++ 44 :: t) = ((listStep v).1, (listStep v).2 ++ 44 :: t) := by
  unfold listStep at h ⊢
  rw [trimLB_comma]
  cases he : entity (trimLB v) with
  | some p =>
    obtain ⟨c, r⟩ := p
    rw [entity_app _ _ _ _ he]
    simp only [trimLB_comma]
  | none =>
    simp only [he, trimLB_idem] at h ⊢
    rcases h with h | ⟨r, h⟩
    · rw [h, List.nil_append, trimLB_comma0, entity_comma]
    · rw [h, List.cons_append, trimLB_comma0, entity_comma]
theorem cores_app : ∀ (n : Nat) (acc : List (List UInt8)) (v : List UInt8) (cs : List (List UInt8)), coresN n acc v = (cs, true) → v.length < n → ∀ (t : List UInt8) (m : Nat), t.length < m → coresN (n + m) acc (v ++ 44 :: t) = coresN m cs t
  | 0, _, _, _, _, h, _, _, _ => by omega
  | n + 1, acc, v, cs, h, hv, t, m, hm => by
    have hle := listStep_le v
    rw [coresN] at h
    cases hl : (listStep v).2 with
    | nil =>
      rw [hl] at h
      simp only [Prod.mk.injEq] at h
      rw [show n + 1 + m = (n + m) + 1 from by omega, coresN, listStep_app v t (.inl hl), hl]
      simp only [List.nil_append]
      rw [if_pos (by decide), h.1, coresN_fuel (n + m) _ _ (by omega), ← coresN_fuel m _ _ hm]
    | cons x r =>
      rw [hl] at h hle
      simp only [List.length_cons] at hle
      simp only at h
      by_cases hx : x.toNat = 44
      · rw [if_pos hx] at h
        have hx' : x = 44 := b8 (n := 44) (by decide) hx
        subst hx'
        rw [show n + 1 + m = (n + m) + 1 from by omega, coresN, listStep_app v t (.inr ⟨r, hl⟩), hl]
        simp only [List.cons_append]
        rw [if_pos (by decide)]
        exact cores_app n _ r cs h (by omega) t m hm
      · rw [if_neg hx] at h
        simp at h
theorem cores_acc : ∀ (n : Nat) (acc : List (List UInt8)) (v : List UInt8) (cs a0 : List (List UInt8)), coresN n acc v = (cs, true) → coresN n (a0 ++ acc) v = (a0 ++ cs, true)
  | 0, _, _, _, _, h => by simp [coresN] at h
  | n + 1, acc, v, cs, a0, h => by
    rw [coresN] at h ⊢
    cases hl : (listStep v).2 with
    | nil =>
      rw [hl] at h
      simp only [Prod.mk.injEq, decide_eq_true_eq] at h ⊢
      rw [List.append_assoc, h.1]
      refine ⟨rfl, ?_⟩
      have := h.2
      rw [h.1] at this
      simp only [List.length_append]
      omega
    | cons x r =>
      rw [hl] at h
      simp only at h ⊢
      by_cases hx : x.toNat = 44
      · rw [if_pos hx] at h ⊢
        rw [List.append_assoc]
        exact cores_acc n _ r cs a0 h
      · rw [if_neg hx] at h
        simp at h
theorem listStep_of {v c : List UInt8} {r : List UInt8} (h : entity (trimLB v) = some (c, r)) : listStep v = ([c], trimLB r) := by
  unfold listStep
  rw [h]
theorem cores_one (n : Nat) (acc : List (List UInt8)) (v c : List UInt8) (h : listStep v = ([c], [])) : coresN (n + 1) acc v = (acc ++ [c], true) := by
  rw [coresN, h]
  simp
theorem step_mark {m c : List UInt8} (h : isMark m c) : listStep m = ([c], []) := by
  have h1 := trimLB_mark h []
  have h2 := isMark_entity h []
  rw [List.append_nil] at h1 h2
  exact listStep_of (r := []) (by rw [h1]; exact h2)
theorem step_blank {m c : List UInt8} (h : isMark m c) (x : UInt8) (hx : blankB x = true) : listStep (x :: m) = ([c], []) := by
  have h1 := trimLB_mark h []
  have h2 := isMark_entity h []
  rw [List.append_nil] at h1 h2
  exact listStep_of (r := []) (by rw [trimLB_blank x m hx, h1]; exact h2)
theorem step_behind {m c : List UInt8} (h : isMark m c) : listStep (m ++ [32]) = ([c], []) := by
  have h1 := trimLB_mark h [32]
  have h2 := isMark_entity h [32]
  rw [listStep_of (r := [32]) (by rw [h1]; exact h2)]
  rfl
theorem match_of {v m c : List UInt8} {cs : List (List UInt8)} (hm : coreOf m = some c) (hv : coresOf v = (cs, true)) (hc : cs.contains c = true) : matchOf v m = true := by
  unfold matchOf
  rw [hm]
  simp only
  split
  · rfl
  · rw [hv]; simp only [hc, Bool.and_self]
theorem match_from {v m n c d : List UInt8} (hm : coreOf m = some c) (hn : coreOf n = some d) (h1 : matchOf v m = true) (h2 : matchOf v n = false) : ∃ cs, coresOf v = (cs, true) ∧ cs.contains c = true := by
  unfold matchOf at h1 h2
  rw [hm] at h1
  rw [hn] at h2
  simp only at h1 h2
  by_cases hs : trimB v = [42]
  · rw [if_pos hs] at h2; simp at h2
  · rw [if_neg hs, Bool.and_eq_true] at h1
    exact ⟨(coresOf v).1, by rw [← h1.1], h1.2⟩
theorem match_self {m c : List UInt8} (h : coreOf m = some c) : matchOf m m = true :=
  match_of h (cores_one m.length [] m c (step_mark (isMark_of m c h))) (by simp)
/-- A mark behind a comma. -/
theorem cores_behind {v t c : List UInt8} {cs : List (List UInt8)} (hv : coresOf v = (cs, true)) (ht : listStep t = ([c], [])) : coresOf (v ++ 44 :: t) = (cs ++ [c], true) := by
  have h := cores_app (v.length + 1) [] v cs hv (by omega) t (t.length + 1) (by omega)
  rw [cores_one _ _ _ _ ht] at h
  unfold coresOf
  rw [← coresN_fuel (v.length + 1 + (t.length + 1)) [] (v ++ 44 :: t) (by simp only [List.length_append, List.length_cons]; omega)]
  exact h
/-- A mark ahead of a comma. -/
theorem cores_ahead {v t c : List UInt8} {cs : List (List UInt8)} (hv : coresOf v = (cs, true)) (ht : listStep t = ([c], [])) : coresOf (t ++ 44 :: v) = (c :: cs, true) := by
  have h := cores_app (t.length + 1) [] t [c] (cores_one _ _ _ _ ht) (by omega) v (v.length + 1) (by omega)
  have h2 := cores_acc (v.length + 1) [] v cs [c] hv
  rw [List.append_nil] at h2
  rw [h2] at h
  unfold coresOf
  rw [← coresN_fuel (t.length + 1 + (v.length + 1)) [] (t ++ 44 :: v) (by simp only [List.length_append, List.length_cons]; omega)]
  exact h

/-! Marks of tags. -/
def coreM (l : List UInt8) (c : Int) : List UInt8 := if c = 0 then l else l ++ [45] ++ codName c
theorem coreM_in (l : List UInt8) (c : Int) (h : mayB l = true) : (coreM l c).all inB = true := by
  have hl : l.all inB = true := all_tag_in l (by unfold mayB at h; rw [Bool.and_eq_true] at h; exact h.1)
  unfold coreM
  split
  · exact hl
  · rw [List.all_append, List.all_append, hl]
    unfold codName
    split
    · decide
    · split <;> decide
theorem markB_eq (l : List UInt8) (c : Int) : markB l c = if c = 0 then plainMark (coreM l c) else weakMark (coreM l c) := by
  unfold markB coreM
  split
  · rfl
  · simp [weakMark]
theorem isMark_markB (l : List UInt8) (c : Int) (h : mayB l = true) : isMark (markB l c) (coreM l c) := by
  refine ⟨?_, fun t => quoteEnd_in _ t (coreM_in l c h)⟩
  rw [markB_eq]
  split
  · exact .inl rfl
  · exact .inr rfl
theorem isMark_plain {m c : List UInt8} (h : isMark m c) : isMark (plainMark c) c := ⟨.inl rfl, h.2⟩
theorem isMark_weak {m c : List UInt8} (h : isMark m c) : isMark (weakMark c) c := ⟨.inr rfl, h.2⟩
theorem trimB_mark {m c : List UInt8} (h : isMark m c) : trimB m = m := by
  have h1 := trimLB_mark h []
  rw [List.append_nil] at h1
  rw [trimB_eq, h1]
  obtain ⟨rfl | rfl, _⟩ := h
  · have := trimRB_other 34 (34 :: c) (by decide)
    simpa [plainMark] using this
  · have := trimRB_other 34 (87 :: 47 :: 34 :: c) (by decide)
    simpa [weakMark] using this
theorem mark_star {m c : List UInt8} (h : isMark m c) : ¬ m = [42] := by
  obtain ⟨rfl | rfl, _⟩ := h <;> simp [plainMark, weakMark]
theorem match_marks {m c n d : List UInt8} (h : isMark m c) (h2 : isMark n d) : matchOf m n = (c == d) := by
  unfold matchOf
  rw [isMark_core h2]
  simp only
  rw [trimB_mark h, if_neg (mark_star h)]
  have hc : coresOf m = ([c], true) := cores_one m.length [] m c (step_mark h)
  rw [hc, Bool.eq_iff_iff]
  simp only [Bool.true_and, List.contains_cons, List.contains_nil, Bool.or_false, beq_iff_eq]
  exact ⟨Eq.symm, Eq.symm⟩
theorem codName_len (c : Int) : (codName c).length = if c = 0 then 8 else if c = 1 then 4 else 7 := by
  unfold codName
  split
  · rfl
  · split <;> rfl
theorem coreM_inj (l : List UInt8) (a b : Int) (ha : 0 ≤ a) (ha2 : a ≤ 2) (hb : 0 ≤ b) (hb2 : b ≤ 2) (h : coreM l a = coreM l b) : a = b := by
  have hl := congrArg List.length h
  unfold coreM at hl
  have e1 := codName_len a
  have e2 := codName_len b
  split at hl <;> split at hl <;> simp only [List.length_append, List.length_cons, List.length_nil] at hl <;> split at e1 <;> split at e2 <;> (try split at e1) <;> (try split at e2) <;> omega
theorem match_codings (l : List UInt8) (a b : Int) (h : mayB l = true) (ha : 0 ≤ a) (ha2 : a ≤ 2) (hb : 0 ≤ b) (hb2 : b ≤ 2) : matchOf (markB l a) (markB l b) = (a == b) := by
  rw [match_marks (isMark_markB l a h) (isMark_markB l b h), Bool.eq_iff_iff]
  simp only [beq_iff_eq]
  exact ⟨coreM_inj l a b ha ha2 hb hb2, fun h => by rw [h]⟩
theorem markE_zero (l : List UInt8) (c : Int) (h : markE l c = 0) : mayB l = true ∧ c ≤ 2 := by
  unfold markE at h
  split at h
  · rename_i hm
    refine ⟨hm, ?_⟩
    split at h
    · omega
    · omega
  · omega
theorem markS_zero (l : List UInt8) (c : Int) (h : markE l c = 0) : markS l c = markB l c := by unfold markS; rw [if_pos h]
theorem markS_other (l : List UInt8) (c : Int) (h : ¬ markE l c = 0) : markS l c = [] := by unfold markS; rw [if_neg h]
theorem markB_head (l : List UInt8) (c : Int) : ∃ r, markB l c = (if c = 0 then 34 else 87) :: r := by
  rw [markB_eq]
  split
  · exact ⟨_, rfl⟩
  · exact ⟨_, rfl⟩
end Go.Proofs.YtgemjpoggbdfaaaDoor
