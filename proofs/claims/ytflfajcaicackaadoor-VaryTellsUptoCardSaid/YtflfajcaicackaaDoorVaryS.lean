/- What vary tells, as byte lists. No program in sight. -/
import Derived.Test.YtflfajcaicackaaDoorFieldI
import Derived.Lib.Join
namespace Go.Proofs.YtflfajcaicackaaDoor

/-- Is a text one of some, in small letters? -/
def inS (l : List (List UInt8)) (s : List UInt8) : Bool := l.any fun x => smallOf x == smallOf s
def namesOf (v n : List UInt8) : Bool := (itemsOf v).any fun s => smallOf s == [42] || smallOf s == smallOf n
/-- Each text once, in small letters, in the order of their coming. -/
def dedup : List (List UInt8) → List (List UInt8) → List (List UInt8)
  | out, [] => out
  | out, s :: r => dedup (if inS out s then out else out ++ [s]) r
def allV (values : List (List UInt8)) (name : List UInt8) : List (List UInt8) := values.flatMap itemsOf ++ [name]
def mergeOK (values : List (List UInt8)) (name : List UInt8) : Bool := (allV values name).all tokenOf
def mergeO (values : List (List UInt8)) (name : List UInt8) : List (List UInt8) := dedup [] (allV values name)
def mergeS (values : List (List UInt8)) (name : List UInt8) : List UInt8 :=
  if mergeOK values name then (if inS (mergeO values name) [42] then [42] else Lib.join (mergeO values name) [44, 32]) else []
def mergeE (values : List (List UInt8)) (name : List UInt8) : Int := if mergeOK values name then 0 else 3
theorem small_star : smallOf [42] = [42] := by decide
theorem small_eq_star {s : List UInt8} : smallOf s = [42] ↔ s = [42] := by
  constructor
  · intro h
    have hl : s.length = 1 := by rw [← smallOf_length s, h]; rfl
    match s, hl with
    | [x], _ =>
      have h1 : lowB x = 42 := by simpa [smallOf] using h
      have h2 : ∀ n : Fin 256, lowB n.val.toUInt8 = 42 → n.val.toUInt8 = 42 := by decide +kernel
      have h3 := h2 ⟨x.toNat, x.toNat_lt⟩
      simp at h3
      rw [h3 h1]
  · rintro rfl; decide
theorem names_in (v n : List UInt8) : namesOf v n = (inS (itemsOf v) [42] || inS (itemsOf v) n) := by
  unfold namesOf inS
  rw [small_star]
  induction itemsOf v with
  | nil => rfl
  | cons x r ih => simp only [List.any_cons, ih]; cases smallOf x == [42] <;> cases smallOf x == smallOf n <;> simp
/-- Items of values that are put behind one another. -/
theorem join_cons (x y : List UInt8) (r : List (List UInt8)) (sep : List UInt8) : Lib.join (x :: y :: r) sep = x ++ sep ++ Lib.join (y :: r) sep := by
  simp [Lib.join, List.intercalate]
theorem items_of_join : ∀ values : List (List UInt8), itemsOf (Lib.join values [44]) = values.flatMap itemsOf
  | [] => by decide
  | [x] => by simp [Lib.join_one]
  | x :: y :: r => by
    rw [join_cons, List.flatMap_cons, ← items_of_join (y :: r), List.append_assoc]
    exact items_join x _
theorem join_length : ∀ (values : List (List UInt8)) (sep : List UInt8), (Lib.join values sep).length ≤ (values.map fun v => v.length + sep.length).sum
  | [], sep => by simp [Lib.join, List.intercalate]
  | [x], sep => by simp [Lib.join_one]
  | x :: y :: r, sep => by
    have := join_length (y :: r) sep
    rw [join_cons, List.map_cons, List.sum_cons, List.length_append, List.length_append]
    omega
theorem dedup_length : ∀ (l out : List (List UInt8)), (dedup out l).length ≤ out.length + l.length
  | [], out => by simp [dedup]
  | s :: r, out => by
    cases h : inS out s with
    | true =>
      have := dedup_length r out
      simp only [dedup, h, if_true, List.length_cons]
      omega
    | false =>
      have := dedup_length r (out ++ [s])
      simp only [List.length_append, List.length_singleton] at this
      simp only [dedup, h, Bool.false_eq_true, if_false, List.length_cons]
      omega
theorem dedup_mem : ∀ (l out : List (List UInt8)) (x : List UInt8), x ∈ dedup out l → x ∈ out ∨ x ∈ l
  | [], out, x, h => .inl h
  | s :: r, out, x, h => by
    unfold dedup at h
    rcases dedup_mem r _ x h with h | h
    · split at h
      · exact .inl h
      · rcases List.mem_append.1 h with h | h
        · exact .inl h
        · rw [List.mem_singleton] at h
          exact .inr (by rw [h]; exact List.mem_cons_self ..)
    · exact .inr (List.mem_cons_of_mem _ h)
theorem inS_append (a b : List (List UInt8)) (s : List UInt8) : inS (a ++ b) s = (inS a s || inS b s) := by simp [inS]
/-- What is put together names all that was named. -/
theorem inS_dedup (s : List UInt8) : ∀ (l out : List (List UInt8)), inS (dedup out l) s = (inS out s || inS l s)
  | [], out => by simp [dedup, inS]
  | x :: r, out => by
    have ih := inS_dedup s r (if inS out x then out else out ++ [x])
    unfold dedup
    rw [ih]
    have hc : inS (x :: r) s = (smallOf x == smallOf s || inS r s) := by simp [inS]
    rw [hc]
    split
    · rename_i h
      cases hx : smallOf x == smallOf s with
      | false => simp
      | true =>
        have hx : smallOf x = smallOf s := by simpa using hx
        have : inS out s = true := by unfold inS at h ⊢; rw [← hx]; exact h
        simp [this]
    · rw [inS_append]
      simp [inS, Bool.or_assoc]
end Go.Proofs.YtflfajcaicackaaDoor
