/- Plain definitions on bytes and byte lists (no program in sight): what tags and fields are, as lists of bytes. -/
import Derived.Lib.SlTrimSet
import Derived.Lib.Strings
namespace Go.Proofs.YtflfajcaicackaaDoor

def blankI (x : Int) : Bool := x == 32 || x == 9
def blankB (x : UInt8) : Bool := blankI x.toNat
def trimB (l : List UInt8) : List UInt8 := Lib.trimS l [32, 9]
def trimLB (l : List UInt8) : List UInt8 := Lib.trimLeftS l [32, 9]

/-! Tags (layer 24). -/
def tagI (x : Int) : Bool := !(decide (x < 33) || decide (126 < x) || x == 34)
def tagB (x : UInt8) : Bool := tagI x.toNat
def mayB (l : List UInt8) : Bool := l.all tagB && (decide (1 ≤ l.length) && decide (l.length ≤ 64))
def codName (c : Int) : List UInt8 :=
  if c = 0 then [105, 100, 101, 110, 116, 105, 116, 121] else if c = 1 then [103, 122, 105, 112] else [100, 101, 102, 108, 97, 116, 101]
def markB (l : List UInt8) (c : Int) : List UInt8 :=
  if c = 0 then [34] ++ l ++ [34] else [87, 47, 34] ++ l ++ [45] ++ codName c ++ [34]
def checkE (l : List UInt8) : Int := if mayB l then 0 else 3
def markE (l : List UInt8) (c : Int) : Int := if mayB l then (if c > 2 then 2 else 0) else 3
def markS (l : List UInt8) (c : Int) : List UInt8 := if markE l c = 0 then markB l c else []

/-- A byte that ends the look for a quote. -/
def stopI (x : Int) : Bool := decide (x < 33) || x == 127
def stopB (x : UInt8) : Bool := stopI x.toNat
/-- What stands ahead of the next quote, and what behind it. -/
def quoteEnd : List UInt8 → Option (List UInt8 × List UInt8)
  | [] => none
  | x :: r => if x.toNat = 34 then some ([], r) else if stopB x then none else (quoteEnd r).map fun p => (x :: p.1, p.2)
def stripW (l : List UInt8) : List UInt8 := Lib.trimPrefix l [87, 47]
/-- An entity tag that stands at the head: its core, and what stands behind it. -/
def entity (l : List UInt8) : Option (List UInt8 × List UInt8) :=
  match stripW l with
  | [] => none
  | x :: r => if x.toNat = 34 then quoteEnd r else none
def coreOf (l : List UInt8) : Option (List UInt8) :=
  match entity l with
  | some (c, []) => some c
  | _ => none
/-- One step of a list: what is left behind blanks, an entity tag, and blanks; the core. -/
def listStep (l : List UInt8) : List (List UInt8) × List UInt8 :=
  match entity (trimLB l) with
  | some (c, r) => ([c], trimLB r)
  | none => ([], trimLB (trimLB l))
def coresN : Nat → List (List UInt8) → List UInt8 → List (List UInt8) × Bool
  | 0, _, _ => ([], false)
  | n + 1, acc, l =>
    match (listStep l).2 with
    | [] => (acc ++ (listStep l).1, decide (0 < (acc ++ (listStep l).1).length))
    | x :: r => if x.toNat = 44 then coresN n (acc ++ (listStep l).1) r else ([], false)
def coresOf (l : List UInt8) : List (List UInt8) × Bool := coresN (l.length + 1) [] l
def matchOf (v m : List UInt8) : Bool :=
  match coreOf m with
  | none => false
  | some c => if trimB v = [42] then true else (coresOf v).2 && (coresOf v).1.contains c

theorem b8 {x : UInt8} {n : Nat} (hn : n < 256) (h : x.toNat = n) : x = UInt8.ofNat n := by
  apply UInt8.toNat_inj.1
  rw [h]; simp; omega

theorem quoteEnd_le : ∀ (l : List UInt8) (c r : List UInt8), quoteEnd l = some (c, r) → l = c ++ 34 :: r
  | [], c, r, h => by simp [quoteEnd] at h
  | x :: l, c, r, h => by
    unfold quoteEnd at h
    split at h
    · rename_i hx
      simp only [Option.some.injEq, Prod.mk.injEq] at h
      obtain ⟨rfl, rfl⟩ := h
      simp [b8 (n := 34) (by decide) hx]
    · split at h
      · simp at h
      · cases hq : quoteEnd l with
        | none => simp [hq] at h
        | some p =>
          obtain ⟨c', r'⟩ := p
          simp [hq] at h
          obtain ⟨rfl, rfl⟩ := h
          simp [quoteEnd_le l c' r' hq]
theorem stripW_le (l : List UInt8) : (stripW l).length ≤ l.length := by
  unfold stripW Lib.trimPrefix
  split <;> simp
theorem entity_le (l c r : List UInt8) (h : entity l = some (c, r)) : r.length + 1 ≤ l.length := by
  have hs := stripW_le l
  unfold entity at h
  split at h
  · simp at h
  · rename_i x t ht
    rw [ht] at hs
    split at h
    · have := quoteEnd_le _ _ _ h
      rw [this] at hs
      simp at hs; omega
    · simp at h
theorem trimLB_le (l : List UInt8) : (trimLB l).length ≤ l.length := by
  unfold trimLB Lib.trimLeftS
  exact (List.dropWhile_sublist _).length_le
theorem listStep_le (l : List UInt8) : (listStep l).2.length ≤ l.length := by
  unfold listStep
  split
  · rename_i c r h
    have h1 := entity_le _ _ _ h
    have h2 := trimLB_le l
    have h3 := trimLB_le r
    simp only; omega
  · have h2 := trimLB_le l
    have h3 := trimLB_le (trimLB l)
    simp only; omega
theorem coresN_fuel : ∀ (n : Nat) (acc : List (List UInt8)) (l : List UInt8), l.length < n → coresN n acc l = coresN (l.length + 1) acc l
  | 0, _, _, h => by omega
  | n + 1, acc, l, h => by
    have hl := listStep_le l
    unfold coresN
    split
    · rfl
    · rename_i x r hr
      rw [hr] at hl
      simp at hl
      split
      · rw [coresN_fuel n _ r (by omega)]
        by_cases hn : l.length = 0
        · omega
        · obtain ⟨m, hm⟩ : ∃ m, l.length = m + 1 := ⟨l.length - 1, by omega⟩
          rw [hm, coresN_fuel (m + 1) _ r (by omega)]
      · rfl

/-- The place behind a quote that is looked for, as a number; below 0: there is none. -/
def qI (n : Nat) (l : List UInt8) : Int := match quoteEnd l with | some p => (n : Int) - p.2.length | none => -1
def endI (l : List UInt8) (k : Nat) : Int := match entity (l.drop k) with | some p => (l.length : Int) - p.2.length | none => -1
theorem qI_nil (n : Nat) : qI n [] = -1 := rfl
theorem qI_quote (n : Nat) (x : UInt8) (r : List UInt8) (h : x.toNat = 34) : qI n (x :: r) = (n : Int) - r.length := by
  unfold qI quoteEnd; rw [if_pos h]
theorem qI_stop (n : Nat) (x : UInt8) (r : List UInt8) (h : ¬ x.toNat = 34) (hs : stopB x = true) : qI n (x :: r) = -1 := by
  unfold qI quoteEnd; rw [if_neg h, if_pos hs]
theorem qI_on (n : Nat) (x : UInt8) (r : List UInt8) (h : ¬ x.toNat = 34) (hs : ¬ stopB x = true) : qI n (x :: r) = qI n r := by
  unfold qI; rw [quoteEnd, if_neg h, if_neg hs]; cases quoteEnd r <;> rfl
theorem endI_of (l : List UInt8) (k j : Nat) (h : stripW (l.drop k) = l.drop j) : endI l k = match l.drop j with | [] => -1 | x :: r => if x.toNat = 34 then qI l.length r else -1 := by
  unfold endI entity
  rw [h]
  cases l.drop j with
  | nil => rfl
  | cons x r =>
    by_cases hx : x.toNat = 34
    · simp only [hx, if_true]; rfl
    · simp only [hx, if_false]
theorem stripW_yes (r : List UInt8) : stripW (87 :: 47 :: r) = r := by simp [stripW, Lib.trimPrefix, Lib.hasPrefix]
theorem stripW_no (l : List UInt8) (h : ∀ r, l ≠ 87 :: 47 :: r) : stripW l = l := by
  unfold stripW Lib.trimPrefix Lib.hasPrefix
  rw [if_neg]
  intro hp
  obtain ⟨r, hr⟩ := List.isPrefixOf_iff_prefix.1 hp
  exact h r (by rw [← hr]; rfl)

/-! Trimming from both ends, in either order. -/
theorem rdrop_cons (cs : List UInt8) (x : UInt8) (l : List UInt8) : Lib.trimRightS (x :: l) cs = if Lib.trimRightS l cs = [] then (if cs.contains x then [] else [x]) else x :: Lib.trimRightS l cs := by
  unfold Lib.trimRightS
  rw [List.reverse_cons, List.dropWhile_append]
  by_cases h : (l.reverse.dropWhile (cs.contains ·)) = []
  · simp only [h, List.isEmpty_nil, if_true, List.reverse_nil]
    by_cases hx : cs.contains x = true
    · rw [if_pos hx, List.dropWhile_cons, if_pos hx]; rfl
    · rw [if_neg hx, List.dropWhile_cons, if_neg hx]; rfl
  · rw [if_neg (by simpa using h), if_neg (by simpa using h)]
    simp
theorem trim_comm (cs : List UInt8) : ∀ l : List UInt8, Lib.trimLeftS (Lib.trimRightS l cs) cs = Lib.trimRightS (Lib.trimLeftS l cs) cs
  | [] => rfl
  | x :: l => by
    have ih := trim_comm cs l
    rw [rdrop_cons]
    by_cases hx : cs.contains x = true
    · have hd : Lib.trimLeftS (x :: l) cs = Lib.trimLeftS l cs := by unfold Lib.trimLeftS; rw [List.dropWhile_cons, if_pos hx]
      rw [hd, ← ih]
      by_cases h : Lib.trimRightS l cs = []
      · rw [if_pos h, if_pos hx, h]
      · rw [if_neg h]
        unfold Lib.trimLeftS
        rw [List.dropWhile_cons, if_pos hx]
    · have hd : Lib.trimLeftS (x :: l) cs = x :: l := by unfold Lib.trimLeftS; rw [List.dropWhile_cons, if_neg hx]
      rw [hd, rdrop_cons]
      by_cases h : Lib.trimRightS l cs = []
      · rw [if_pos h, if_neg hx]
        unfold Lib.trimLeftS
        rw [List.dropWhile_cons, if_neg hx]
      · rw [if_neg h]
        unfold Lib.trimLeftS
        rw [List.dropWhile_cons, if_neg hx]
theorem blank_mem (x : UInt8) : ([32, 9] : List UInt8).contains x = blankB x := by
  unfold blankB blankI
  rw [Bool.eq_iff_iff]
  simp only [List.contains_cons, List.contains_nil, Bool.or_false, Bool.or_eq_true, beq_iff_eq]
  rw [← UInt8.toNat_inj, ← UInt8.toNat_inj]
  simp only [UInt8.reduceToNat]
  omega
/-- Without the trailing blanks. -/
def trimRB (l : List UInt8) : List UInt8 := Lib.trimRightS l [32, 9]
theorem trimB_eq (l : List UInt8) : trimB l = trimRB (trimLB l) := trim_comm _ l
theorem trimLB_blank (x : UInt8) (l : List UInt8) (h : blankB x = true) : trimLB (x :: l) = trimLB l := by
  unfold trimLB Lib.trimLeftS; rw [List.dropWhile_cons, blank_mem, if_pos h]
theorem trimLB_other (x : UInt8) (l : List UInt8) (h : blankB x = false) : trimLB (x :: l) = x :: l := by
  unfold trimLB Lib.trimLeftS; rw [List.dropWhile_cons, blank_mem, if_neg (by simp [h])]
theorem trimRB_blank (x : UInt8) (l : List UInt8) (h : blankB x = true) : trimRB (l ++ [x]) = trimRB l := by
  unfold trimRB Lib.trimRightS; rw [List.reverse_append, List.reverse_cons, List.reverse_nil, List.nil_append, List.cons_append, List.nil_append, List.dropWhile_cons, blank_mem, if_pos h]
theorem trimRB_other (x : UInt8) (l : List UInt8) (h : blankB x = false) : trimRB (l ++ [x]) = l ++ [x] := by
  unfold trimRB Lib.trimRightS; rw [List.reverse_append, List.reverse_cons, List.reverse_nil, List.nil_append, List.cons_append, List.nil_append, List.dropWhile_cons, blank_mem, if_neg (by simp [h])]; simp

end Go.Proofs.YtflfajcaicackaaDoor
