/- Plain definitions on bytes and byte lists (no program in sight): what tags and fields are, as lists of bytes. -/
import Derived.Lib.SlTrimSet
import Derived.Lib.Strings
import Derived.Test.YtnaeeklnlddcaaaGreatDoorProg
import Derived.WalkKit
import Derived.WalkSpells
import Derived.WalkLawsBesides
import Derived.WalkSmall
import Derived.Outline
import Derived.OneCell
import Derived.RangeFuncBox
import Derived.Maps.AppendAt
import Derived.Lib.Hide
import Derived.Test.YtnaeeklnlddcaaaGreatDoorCards
import Derived.Test.YtnaeeklnlddcaaaGreatDoorTie
import Derived.ProofKit
import Derived.OpenShut
import Derived.Deep.DeepHandedRow
import Derived.Lib.LaidTab
import Derived.Carry
import Derived.Deep.DeepWitnessRowRef
import Derived.LaidLaws
import Derived.Still
import Derived.Laws.IdiomStrings
import Derived.Deep.AppendSrc
import Derived.Lib.ConvBytes
import Derived.Scope
import Derived.OrdersIn
import Derived.Deep.LoopGhost
import Derived.RangeFuncIn
import Derived.RangeFuncRecord
import Derived.RangeFuncLeaves
import Derived.MapKept
import Derived.Laws.MakeOwn
namespace Go.Proofs.YtnaeeklnlddcaaaGreatDoor

def blankI (x : Int) : Bool := x == 32 || x == 9
def blankB (x : UInt8) : Bool := blankI x.toNat
def trimB (l : List UInt8) : List UInt8 := Lib.trimS l [32, 9]
def trimLB (l : List UInt8) : List UInt8 := Lib.trimLeftS l [32, 9]

/-! Tags (layer 24). -/
def tagI (x : Int) : Bool := !(decide (x < 33) || decide (126 < x) || x == 34)
def tagB (x : UInt8) : Bool := tagI x.toNat
def mayB (l : List UInt8) : Bool := l.all tagB && (decide (1 ≤ l.length) && decide (l.length ≤ 64))
def codName (c : Int) : List UInt8 :=
  if c = 0 then [105, 100, 101, 110, 116, 105, 116, 121] else if c = 1 then [103, 122, 105, 112] else [100, 101, 102, 108, 97, 116, 101]
def markB (l : List UInt8) (c : Int) : List UInt8 :=
  if c = 0 then [34] ++ l ++ [34] else [87, 47, 34] ++ l ++ [45] ++ codName c ++ [34]
def checkE (l : List UInt8) : Int := if mayB l then 0 else 3
def markE (l : List UInt8) (c : Int) : Int := if mayB l then (if c > 2 then 2 else 0) else 3
def markS (l : List UInt8) (c : Int) : List UInt8 := if markE l c = 0 then markB l c else []

/-- A byte that ends the look for a quote. -/
def stopI (x : Int) : Bool := decide (x < 33) || x == 127
def stopB (x : UInt8) : Bool := stopI x.toNat
/-- What stands ahead of the next quote, and what behind it. -/
def quoteEnd : List UInt8 → Option (List UInt8 × List UInt8)
  | [] => none
  | x :: r => if x.toNat = 34 then some ([], r) else if stopB x then none else (quoteEnd r).map fun p => (x :: p.1, p.2)
def stripW (l : List UInt8) : List UInt8 := Lib.trimPrefix l [87, 47]
/-- An entity tag that stands at the head: its core, and what stands behind it. -/
def entity (l : List UInt8) : Option (List UInt8 × List UInt8) :=
  match stripW l with
  | [] => none
  | x :: r => if x.toNat = 34 then quoteEnd r else none
def coreOf (l : List UInt8) : Option (List UInt8) :=
  match entity l with
  | some (c, []) => some c
  | _ => none
/-- One step of a list: what is left behind blanks, an entity tag, and blanks; the core. -/
def listStep (l : List UInt8) : List (List UInt8) × List UInt8 :=
  match entity (trimLB l) with
  | some (c, r) => ([c], trimLB r)
  | none => ([], trimLB (trimLB l))
def coresN : Nat → List (List UInt8) → List UInt8 → List (List UInt8) × Bool
  | 0, _, _ => ([], false)
  | n + 1, acc, l =>
    match (listStep l).2 with
    | [] => (acc ++ (listStep l).1, decide (0 < (acc ++ (listStep l).1).length))
    | x :: r => if x.toNat = 44 then coresN n (acc ++ (listStep l).1) r else ([], false)
def coresOf (l : List UInt8) : List (List UInt8) × Bool := coresN (l.length + 1) [] l
def matchOf (v m : List UInt8) : Bool :=
  match coreOf m with
  | none => false
  | some c => if trimB v = [42] then true else (coresOf v).2 && (coresOf v).1.contains c

theorem b8 {x : UInt8} {n : Nat} (hn : n < 256) (h : x.toNat = n) : x = UInt8.ofNat n := by
  apply UInt8.toNat_inj.1
  rw [h]; simp; omega

theorem quoteEnd_le : ∀ (l : List UInt8) (c r : List UInt8), quoteEnd l = some (c, r) → l = c ++ 34 :: r
  | [], c, r, h => by simp [quoteEnd] at h
  | x :: l, c, r, h => by
    unfold quoteEnd at h
    split at h
    · rename_i hx
      simp only [Option.some.injEq, Prod.mk.injEq] at h
      obtain ⟨rfl, rfl⟩ := h
      simp [b8 (n := 34) (by decide) hx]
    · split at h
      · simp at h
      · cases hq : quoteEnd l with
        | none => simp [hq] at h
        | some p =>
          obtain ⟨c', r'⟩ := p
          simp [hq] at h
          obtain ⟨rfl, rfl⟩ := h
          simp [quoteEnd_le l c' r' hq]
theorem stripW_le (l : List UInt8) : (stripW l).length ≤ l.length := by
  unfold stripW Lib.trimPrefix
  split <;> simp
theorem entity_le (l c r : List UInt8) (h : entity l = some (c, r)) : r.length + 1 ≤ l.length := by
  have hs := stripW_le l
  unfold entity at h
  split at h
  · simp at h
  · rename_i x t ht
    rw [ht] at hs
    split at h
    · have := quoteEnd_le _ _ _ h
      rw [this] at hs
      simp at hs; omega
    · simp at h
theorem trimLB_le (l : List UInt8) : (trimLB l).length ≤ l.length := by
  unfold trimLB Lib.trimLeftS
  exact (List.dropWhile_sublist _).length_le
theorem listStep_le (l : List UInt8) : (listStep l).2.length ≤ l.length := by
  unfold listStep
  split
  · rename_i c r h
    have h1 := entity_le _ _ _ h
    have h2 := trimLB_le l
    have h3 := trimLB_le r
    simp only; omega
  · have h2 := trimLB_le l
    have h3 := trimLB_le (trimLB l)
    simp only; omega
theorem coresN_fuel : ∀ (n : Nat) (acc : List (List UInt8)) (l : List UInt8), l.length < n → coresN n acc l = coresN (l.length + 1) acc l
  | 0, _, _, h => by omega
  | n + 1, acc, l, h => by
    have hl := listStep_le l
    unfold coresN
    split
    · rfl
    · rename_i x r hr
      rw [hr] at hl
      simp at hl
      split
      · rw [coresN_fuel n _ r (by omega)]
        by_cases hn : l.length = 0
        · omega
        · obtain ⟨m, hm⟩ : ∃ m, l.length = m + 1 := ⟨l.length - 1, by omega⟩
          rw [hm, coresN_fuel (m + 1) _ r (by omega)]
      · rfl

/-- The place behind a quote that is looked for, as a number; below 0: there is none. -/
def qI (n : Nat) (l : List UInt8) : Int := match quoteEnd l with | some p => (n : Int) - p.2.length | none => -1
def endI (l : List UInt8) (k : Nat) : Int := match entity (l.drop k) with | some p => (l.length : Int) - p.2.length | none => -1
theorem qI_nil (n : Nat) : qI n [] = -1 := rfl
theorem qI_quote (n : Nat) (x : UInt8) (r : List UInt8) (h : x.toNat = 34) : qI n (x :: r) = (n : Int) - r.length := by
  unfold qI quoteEnd; rw [if_pos h]
theorem qI_stop (n : Nat) (x : UInt8) (r : List UInt8) (h : ¬ x.toNat = 34) (hs : stopB x = true) : qI n (x :: r) = -1 := by
  unfold qI quoteEnd; rw [if_neg h, if_pos hs]
theorem qI_on (n : Nat) (x : UInt8) (r : List UInt8) (h : ¬ x.toNat = 34) (hs : ¬ stopB x = true) : qI n (x :: r) = qI n r := by
  unfold qI; rw [quoteEnd, if_neg h, if_neg hs]; cases quoteEnd r <;> rfl
theorem endI_of (l : List UInt8) (k j : Nat) (h : stripW (l.drop k) = l.drop j) : endI l k = match l.drop j with | [] => -1 | x :: r => if x.toNat = 34 then qI l.length r else -1 := by
  unfold endI entity
  rw [h]
  cases l.drop j with
  | nil => rfl
  | cons x r =>
    by_cases hx : x.toNat = 34
    · simp only [hx, if_true]; rfl
    · simp only [hx, if_false]
theorem stripW_yes (r : List UInt8) : stripW (87 :: 47 :: r) = r := by simp [stripW, Lib.trimPrefix, Lib.hasPrefix]
theorem stripW_no (l : List UInt8) (h : ∀ r, l ≠ 87 :: 47 :: r) : stripW l = l := by
  unfold stripW Lib.trimPrefix Lib.hasPrefix
  rw [if_neg]
  intro hp
  obtain ⟨r, hr⟩ := List.isPrefixOf_iff_prefix.1 hp
  exact h r (by rw [← hr]; rfl)

/-! Trimming from both ends, in either order. -/
theorem rdrop_cons (cs : List UInt8) (x : UInt8) (l : List UInt8) : Lib.trimRightS (x :: l) cs = if Lib.trimRightS l cs = [] then (if cs.contains x then [] else [x]) else x :: Lib.trimRightS l cs := by
  unfold Lib.trimRightS
  rw [List.reverse_cons, List.dropWhile_append]
  by_cases h : (l.reverse.dropWhile (cs.contains ·)) = []
  · simp only [h, List.isEmpty_nil, if_true, List.reverse_nil]
    by_cases hx : cs.contains x = true
    · rw [if_pos hx, List.dropWhile_cons, if_pos hx]; rfl
    · rw [if_neg hx, List.dropWhile_cons, if_neg hx]; rfl
  · rw [if_neg (by simpa using h), if_neg (by simpa using h)]
    simp
theorem trim_comm (cs : List UInt8) : ∀ l : List UInt8, Lib.trimLeftS (Lib.trimRightS l cs) cs = Lib.trimRightS (Lib.trimLeftS l cs) cs
  | [] => rfl
  | x :: l => by
    have ih := trim_comm cs l
    rw [rdrop_cons]
    by_cases hx : cs.contains x = true
    · have hd : Lib.trimLeftS (x :: l) cs = Lib.trimLeftS l cs := by unfold Lib.trimLeftS; rw [List.dropWhile_cons, if_pos hx]
      rw [hd, ← ih]
      by_cases h : Lib.trimRightS l cs = []
      · rw [if_pos h, if_pos hx, h]
      · rw [if_neg h]
        unfold Lib.trimLeftS
        rw [List.dropWhile_cons, if_pos hx]
    · have hd : Lib.trimLeftS (x :: l) cs = x :: l := by unfold Lib.trimLeftS; rw [List.dropWhile_cons, if_neg hx]
      rw [hd, rdrop_cons]
      by_cases h : Lib.trimRightS l cs = []
      · rw [if_pos h, if_neg hx]
        unfold Lib.trimLeftS
        rw [List.dropWhile_cons, if_neg hx]
      · rw [if_neg h]
        unfold Lib.trimLeftS
        rw [List.dropWhile_cons, if_neg hx]
theorem blank_mem (x : UInt8) : ([32, 9] : List UInt8).contains x = blankB x := by
  unfold blankB blankI
  rw [Bool.eq_iff_iff]
  simp only [List.contains_cons, List.contains_nil, Bool.or_false, Bool.or_eq_true, beq_iff_eq]
  rw [← UInt8.toNat_inj, ← UInt8.toNat_inj]
  simp only [UInt8.reduceToNat]
  omega
/-- Without the trailing blanks. -/
def trimRB (l : List UInt8) : List UInt8 := Lib.trimRightS l [32, 9]
theorem trimB_eq (l : List UInt8) : trimB l = trimRB (trimLB l) := trim_comm _ l
theorem trimLB_blank (x : UInt8) (l : List UInt8) (h : blankB x = true) : trimLB (x :: l) = trimLB l := by
  unfold trimLB Lib.trimLeftS; rw [List.dropWhile_cons, blank_mem, if_pos h]
theorem trimLB_other (x : UInt8) (l : List UInt8) (h : blankB x = false) : trimLB (x :: l) = x :: l := by
  unfold trimLB Lib.trimLeftS; rw [List.dropWhile_cons, blank_mem, if_neg (by simp [h])]
theorem trimRB_blank (x : UInt8) (l : List UInt8) (h : blankB x = true) : trimRB (l ++ [x]) = trimRB l := by
  unfold trimRB Lib.trimRightS; rw [List.reverse_append, List.reverse_cons, List.reverse_nil, List.nil_append, List.cons_append, List.nil_append, List.dropWhile_cons, blank_mem, if_pos h]
theorem trimRB_other (x : UInt8) (l : List UInt8) (h : blankB x = false) : trimRB (l ++ [x]) = l ++ [x] := by
  unfold trimRB Lib.trimRightS; rw [List.reverse_append, List.reverse_cons, List.reverse_nil, List.nil_append, List.cons_append, List.nil_append, List.dropWhile_cons, blank_mem, if_neg (by simp [h])]; simp

end Go.Proofs.YtnaeeklnlddcaaaGreatDoor
/- General lemmas on byte lists, endings and worlds that all walks of this seat use. -/
namespace Go.Proofs.YtnaeeklnlddcaaaGreatDoor
open Go.RowKit

/-- The bytes of a string. -/
def L (s : ByteArray) : List UInt8 := s.data.toList

theorem L_length (s : ByteArray) : (L s).length = s.size := by unfold L; simp
theorem L_mk (l : List UInt8) : L ⟨l.toArray⟩ = l := by simp [L]
theorem L_nil : L ⟨#[]⟩ = [] := rfl
theorem toList_L (s : ByteArray) : s.toList = L s := Lib.toList_data s
theorem L_inj {a b : ByteArray} (h : L a = L b) : a = b := by
  unfold L at h
  cases a; cases b
  simp only [ByteArray.mk.injEq]
  exact Array.toList_inj.1 h
theorem L_get (s : ByteArray) (k : Nat) (h : k < s.size) : (L s)[k]'(by rw [L_length]; exact h) = s[k] := rfl
theorem L_get? (s : ByteArray) (k : Nat) (h : k < s.size) : (L s)[k]? = some s[k] := by
  rw [List.getElem?_eq_getElem (by rw [L_length]; exact h), L_get s k h]
theorem L_drop (s : ByteArray) (k : Nat) (h : k < s.size) : (L s).drop k = s[k] :: (L s).drop (k + 1) := by
  rw [List.drop_eq_getElem_cons (by rw [L_length]; exact h), L_get s k h]
theorem L_take (s : ByteArray) (k : Nat) (h : k < s.size) : (L s).take (k + 1) = (L s).take k ++ [s[k]] := by
  rw [List.take_succ_eq_append_getElem (by rw [L_length]; exact h), L_get s k h]

theorem size_lit (a : Array UInt8) : (⟨a⟩ : ByteArray).size = a.size := rfl

theorem ret_int {k : IntKind} {a b : Int} (h : a = b) : Ending.returned (.int k a) = .returned (.int k b) := by rw [h]
theorem ret_bool {a b : Bool} (h : a = b) : Ending.returned (.bool a) = .returned (.bool b) := by rw [h]

theorem grown_of_below {w w' : World} (h : Below w.heap.size w w') (row : Option Nat) : w.grownBy w' row := ⟨h.os, h.tape, h.output, h.size, fun i hi _ => h.block i hi⟩
theorem boxed_below {w w' : World} {b : Nat} {t : TypeId} {v : Value} (h : Boxed w b t v) (hb : Below w.heap.size w w') : Boxed w' b t v := (hb.block b h.lt).trans h
theorem grown_set {w w1 : World} {b : Nat} (h : w.grownBy w1 (some b)) (v : Value) : w.grownBy (w1.setCell ⟨b, 0, none⟩ v) (some b) := h.trans (grownBy_setCell' w1 b v)

/-- What owns a row is a slice value of just that length. -/
theorem row_form {w : World} {base : Nat} {e : TypeId} {size n : Nat} {v : Value} {xs : List Value} (h : w.ownsRow base e size v n xs) : ∃ A cap, v = .slice A n cap := by
  rcases h.2 with ⟨rfl, rfl⟩ | ⟨g, cap, _, rfl, _⟩
  · exact ⟨none, 0, rfl⟩
  · exact ⟨_, cap, rfl⟩

end Go.Proofs.YtnaeeklnlddcaaaGreatDoor
/- The step from a law's walk to its statement, once for all laws of this seat: a law that returns true, and behind whose call all that lay before lies as it lay, meets its row. -/
namespace Go.Proofs.YtnaeeklnlddcaaaGreatDoor
open Go.ChangeShapes Go.WideShapes Go.ChangeAt Go.RowKit

theorem own : ownKnob Tryz.prog.godebug = none := by kernel_rfl
theorem laidOut : laidOutB Tryz.prog = true := by kernel_rfl

/-- Each argument reads behind the call as it read before. -/
theorem args_stay {H : Type} {enc : TypeId × Value → H} {P : Program} (hl : laidOutB P = true) {W W' : World} (hb : Below W.heap.size W W') : ∀ {ts : List TypeId} {vs : List Value} {ds : List (DataW H)} {ps : List MemPlace},
    (∀ t ∈ ts, P.readableRec t = true ∧ t < P.types.size) → DataW.TrodAll enc P W 0 (fun _ => true) true ts vs ds ps → (∀ x ∈ ps, x.block < W.heap.size) →
    DataW.TrodAll enc P W' 0 (fun b => decide (b < W.heap.size)) true ts vs ds ps
  | [], vs, ds, ps, _, h, _ => by
    obtain ⟨rfl, rfl, rfl⟩ := trodAll_nil h
    exact trodAll_mk0
  | t :: ts, vs, ds, ps, ht, h, hlt => by
    obtain ⟨v, vs', d, ds', p, q, rfl, rfl, rfl, h1, h2⟩ := trodAll_cons h
    obtain ⟨hr, hs⟩ := ht t (by simp)
    exact trodAll_cons_mk (Below.trod hl hr hs h1 hb (fun x hx => hlt x (by simp [hx]))) (args_stay hl hb (fun u hu => ht u (by simp [hu])) h2 (fun x hx => hlt x (by simp [hx])))

theorem law_post {H : Type} {enc : TypeId × Value → H} {P : Program} (hl : laidOutB P = true) {f : Func} {s : ChangeSpec} {W W' : World} {args : Array Value} {ds gs : List (DataW H)} {before : List MemPlace} {T : TypeId}
    (hv : s.vars = []) (hW : DataW.Whole enc P f.params.toList s.vars false W args.toList ds gs before) (hp : (f.params.toList.all fun t => P.readableRec t && decide (t < P.types.size)) = true)
    (hr : f.resultTypes = #[T]) (hT : P.underlying T = some .bool) (hs : s.fn H (ds ++ gs) = { results := [.lit (.bool true)], args := ds }) (hb : Below W.heap.size W W') :
    s.post enc P f false true false false W args (.bool true) W' := by
  have hlt : ∀ p ∈ before, p.block < W.heap.size := fun p hp => hW.lt p hp
  have hW0 := hW
  obtain ⟨p, q, hA, hV, hpq, hz, hn⟩ := hW
  rw [hv] at hV
  obtain ⟨rfl, rfl⟩ := trodVars_none hV
  simp only [List.append_nil] at hpq
  subst hpq
  refine ⟨ds, [], before, [], before, [], hW0, ?_, ?_, ?_, World.keptBut_mono (fun x hx => ⟨hx, .inr (.inl hx)⟩) (hb.frame (· ∈ before)), fun h => by cases h⟩
  · rw [hs, hr]
    exact trodAll_mk1 (shut_bool hT true)
  · rw [hs]
    exact args_stay hl hb (fun t ht => by simpa using List.all_eq_true.1 hp t ht) hA hlt
  · rw [hs, hv]
    rfl

end Go.Proofs.YtnaeeklnlddcaaaGreatDoor
/- A world for the witness: the listed variables hold what their initialisers lay. -/
namespace Go.Proofs.YtnaeeklnlddcaaaGreatDoor
open Go.ChangeShapes Go.WideShapes Go.ChangeAt Go.RowKit
mutual
def flatV : DataW Unit → List Value
  | .lit (.int k n) => [.int k n]
  | .lit (.string s) => [.string ⟨s.toArray⟩]
  | .agg parts => flatVs parts
  | _ => []
def flatVs : List (DataW Unit) → List Value
  | [] => []
  | d :: r => flatV d ++ flatVs r
end
def setTab (l : List Value) : Obj → Obj
  | .cells _ t frozen => .cells l.toArray t frozen
  | o => o
def inPtr : DataW Unit → List Value
  | .iface _ (.ptr d) => flatV d
  | _ => []
noncomputable def laidWorld (os : Os) (args : Array Value) : World :=
  { World.holding Tryz.prog os ⟨#[], args, []⟩ with heap := ((((((((World.holding Tryz.prog os ⟨#[], args, []⟩).heap.modify 6 (setTab (flatV Rows.laid_math_bits_deBruijn32tab))).modify 7 (setTab (flatV Rows.laid_math_bits_deBruijn64tab))).modify 3 (setTab (flatV Rows.laid_internal_strconv_uint64pow10))).modify 2 (setTab (flatV Rows.laid_unicode_utf8_acceptRanges))).modify 5 (setTab [.iface 260 (.pointer (some ⟨(World.holding Tryz.prog os ⟨#[], args, []⟩).heap.size + 0, 0, none⟩))])).modify 4 (setTab [.iface 260 (.pointer (some ⟨(World.holding Tryz.prog os ⟨#[], args, []⟩).heap.size + 1, 0, none⟩))])).modify 1 (setTab (flatV Rows.laid_unicode_utf8_first))) ++ #[.cells (inPtr Rows.laid_strconv_ErrRange).toArray 262 (0, 0), .cells (inPtr Rows.laid_strconv_ErrSyntax).toArray 262 (0, 0)] }
end Go.Proofs.YtnaeeklnlddcaaaGreatDoor
/- A walk by reckoning, part one: heaps of one's own as lists of blocks; regions that draw their order, taken in one order, where every other operation may make new memory. No program in sight. -/
namespace Go.Proofs.YtnaeeklnlddcaaaGreatDoor.Vex
open Go Go.RowKit

abbrev Fr := List Value
/-- A text of these bytes. -/
abbrev str (l : List UInt8) : Value := .string ⟨⟨l⟩⟩
def L (s : ByteArray) : List UInt8 := s.data.toList
theorem str_L (s : ByteArray) : Value.string s = str (L s) := rfl

/-! ## Blocks of one's own -/
inductive Ent where
  | box (b : Nat) (vs : List Value) (t : TypeId)
  | row (v : Value) (e : TypeId) (size n : Nat) (xs : List Value)
  | obj (b : Nat) (o : Obj)
abbrev Hp := List Ent
def Ent.blk : Ent → Option Nat
  | .box b _ _ => some b
  | .row v _ _ _ _ => v.ownBlock
  | .obj b _ => some b
/-- The slice value v, of n elements (of type e, size cells each), has the cells xs in a row of its own, which may be written. -/
def RowH (w : World) (v : Value) (e size n : Nat) (xs : List Value) : Prop :=
  xs.length = n * size ∧ ((v = .slice none 0 0 ∧ n = 0) ∨
   ∃ g cap cur fz, v = .slice (some ⟨g, 0, none⟩) n cap ∧ w.heap[g]? = some (.cells cur e fz) ∧ n ≤ cap ∧ cap ≤ maxLen ∧ cur.size = cap * size ∧ cur.toList.take (n * size) = xs ∧ (fz.2 ≤ fz.1 ∨ cur.size ≤ fz.1))
def Ent.holds (w : World) : Ent → Prop
  | .box b vs t => w.heap[b]? = some (.cells ⟨vs⟩ t (0, 0))
  | .row v e size n xs => RowH w v e size n xs
  | .obj b o => w.heap[b]? = some o

/-- What is known of package-level variables: it hangs on the first blocks alone. -/
structure GI where
  n : Nat
  G : World → Prop
  keep : ∀ w w' : World, (∀ k, k < n → w'.heap[k]? = w.heap[k]?) → G w → G w'
  size : ∀ w, G w → n ≤ w.heap.size

structure Ctx where
  P : Program
  g : GI
  w0 : World
  M : List Nat
  hM : ∀ b ∈ M, g.n ≤ b
  hG : g.G w0

/-- w' is w but for new blocks and the blocks in M. -/
structure ModW (M : List Nat) (w w' : World) : Prop where
  os : w'.os = w.os
  tape : w'.tape = w.tape
  output : w'.output = w.output
  size : w.heap.size ≤ w'.heap.size
  block : ∀ k, k < w.heap.size → k ∉ M → w'.heap[k]? = w.heap[k]?

structure St (c : Ctx) (H : Hp) (w : World) : Prop where
  mod : ModW c.M c.w0 w
  own : ∀ x ∈ H, x.holds w ∧ ∀ b, x.blk = some b → b < w.heap.size ∧ (c.w0.heap.size ≤ b ∨ b ∈ c.M)
  apart : (H.filterMap Ent.blk).Nodup

theorem ModW.refl (M : List Nat) (w : World) : ModW M w w := ⟨rfl, rfl, rfl, Nat.le_refl _, fun _ _ _ => rfl⟩
theorem ModW.trans {M : List Nat} {a b d : World} (h : ModW M a b) (k : ModW M b d) : ModW M a d :=
  ⟨k.os.trans h.os, k.tape.trans h.tape, k.output.trans h.output, Nat.le_trans h.size k.size, fun i hi hm => (k.block i (Nat.lt_of_lt_of_le hi h.size) hm).trans (h.block i hi hm)⟩
theorem ModW.of_below {M : List Nat} {w w' : World} (h : Below w.heap.size w w') : ModW M w w' := ⟨h.os, h.tape, h.output, h.size, fun k hk _ => h.block k hk⟩
theorem ModW.below {w w' : World} (h : ModW [] w w') : Below w.heap.size w w' := ⟨h.os, h.tape, h.output, h.size, fun k hk => h.block k hk (by simp)⟩

theorem St.glob {c : Ctx} {H : Hp} {w : World} (h : St c H w) : c.g.G w :=
  c.g.keep c.w0 w (fun k hk => h.mod.block k (Nat.lt_of_lt_of_le hk (c.g.size _ c.hG)) fun hm => by have := c.hM k hm; omega) c.hG

/-- What a world holds hangs on the block alone. -/
theorem Ent.holds_of_block {x : Ent} {w w' : World} (h : x.holds w) (hb : ∀ b, x.blk = some b → w'.heap[b]? = w.heap[b]?) : x.holds w' := by
  cases x with
  | box b vs t => exact (hb b rfl).trans h
  | obj b o => exact (hb b rfl).trans h
  | row v e size n xs =>
    refine ⟨h.1, ?_⟩
    rcases h.2 with hn | ⟨g, cap, cur, fz, rfl, hh, r⟩
    · exact .inl hn
    · exact .inr ⟨g, cap, cur, fz, rfl, (hb g rfl).trans hh, r⟩

theorem St.start (c : Ctx) : St c [] c.w0 := ⟨ModW.refl _ _, fun _ h => (by cases h), List.nodup_nil⟩

/-- The relation of worlds behind an operation that makes new memory at most. -/
abbrev R (w w' : World) : Prop := Below w.heap.size w w'
theorem R.refl (w : World) : R w w := Below.refl _ _
theorem R.trans {a b d : World} (h : R a b) (k : R b d) : R a d := Below.trans h (k.mono h.size)

theorem St.far {c : Ctx} {H : Hp} {w w' : World} (h : St c H w) (hm : ModW c.M w w') (hb : ∀ x ∈ H, ∀ b, x.blk = some b → w'.heap[b]? = w.heap[b]?) : St c H w' :=
  ⟨h.mod.trans hm, fun x hx => ⟨Ent.holds_of_block (h.own x hx).1 (hb x hx), fun b e => ⟨Nat.lt_of_lt_of_le ((h.own x hx).2 b e).1 hm.size, ((h.own x hx).2 b e).2⟩⟩, h.apart⟩
theorem St.below {c : Ctx} {H : Hp} {w w' : World} (h : St c H w) (hb : R w w') : St c H w' :=
  h.far (ModW.of_below hb) fun x hx b e => hb.block b ((h.own x hx).2 b e).1
theorem St.perm {c : Ctx} {H H' : Hp} {w : World} (h : St c H w) (hs : H.Perm H') : St c H' w :=
  ⟨h.mod, fun x hx => h.own x (hs.mem_iff.2 hx), (hs.filterMap _).nodup_iff.1 h.apart⟩
theorem St.sub {c : Ctx} {H H' : Hp} {w : World} (h : St c H w) (hs : H'.Sublist H) : St c H' w :=
  ⟨h.mod, fun x hx => h.own x (hs.subset hx), h.apart.sublist (hs.filterMap _)⟩
theorem R.drew (w : World) : R w w.drew := (Below.refl _ _).drew

/-- A new block is laid: what stands at the head is it. -/
theorem St.push {c : Ctx} {H : Hp} {w : World} (h : St c H w) {x : Ent} (hx : x.holds w) (hb : ∀ b, x.blk = some b → b < w.heap.size ∧ (c.w0.heap.size ≤ b ∨ b ∈ c.M)) (hn : ∀ b, x.blk = some b → ∀ y ∈ H, y.blk ≠ some b) : St c (x :: H) w := by
  refine ⟨h.mod, fun y hy => ?_, ?_⟩
  · rcases List.mem_cons.1 hy with rfl | hy
    · exact ⟨hx, hb⟩
    · exact h.own y hy
  · rw [List.filterMap_cons]
    cases hxb : x.blk with
    | none => exact h.apart
    | some b =>
      refine List.nodup_cons.2 ⟨fun hm => ?_, h.apart⟩
      obtain ⟨y, hy, he⟩ := List.mem_filterMap.1 hm
      exact hn b hxb y hy he
theorem St.alloc {c : Ctx} {H : Hp} {w : World} (h : St c H w) (vs : List Value) (t : TypeId) : St c (.box w.heap.size vs t :: H) (w.alloc (.cells ⟨vs⟩ t)) := by
  have hb : R w (w.alloc (.cells ⟨vs⟩ t)) := (Below.refl _ _).alloc (Nat.le_refl _) _
  refine (h.below hb).push (heap_alloc_new w _) (fun b e => ?_) (fun b e y hy he => ?_)
  · cases e
    exact ⟨by simp, .inl h.mod.size⟩
  · cases e
    have := ((h.own y hy).2 _ he).1
    omega
end Go.Proofs.YtnaeeklnlddcaaaGreatDoor.Vex
/- A walk by reckoning, part two: a region that draws its order, taken in one order that is told: operations that yield a value that is known, in whatever world that has grown since, may be taken first. No program in sight. -/
namespace Go.Proofs.YtnaeeklnlddcaaaGreatDoor.Vex
open Go Go.RowKit

section
variable {P : Program} {ops : Array Oper} {md : Region.Mode} {Q : Exit → Act → World → Prop}

/-- The operation yields v; it makes new memory at most. -/
def quietUpon (P : Program) (w : World) (v : Value) : Result Next → Prop
  | .ok (.value u) w' => w' = w ∧ u = v
  | .ok (.enter f args) w' => w' = w ∧ Calls P f args w (fun e w'' => e = .returned v ∧ R w w'')
  | _ => False
def Quiet1 (P : Program) (o : Oper) (a : Act) (w : World) (v : Value) : Prop := quietUpon P w v ((execOp a.eval o).run P w)
def Yl (P : Program) (ops : Array Oper) (o : Oper) (v : Value) (a : Act) (w : World) : Prop :=
  (Region.wanted o (yielded ops a.tmps) = true ∧ Quiet1 P o a w v) ∨ (Region.wanted o (yielded ops a.tmps) = false ∧ v = undef)

theorem Yl.of_same {o : Oper} {v : Value} {a a' : Act} {w : World} (hy : Yl P ops o v a w) (h : execOp a'.eval o = execOp a.eval o ∧ Region.wanted o (yielded ops a'.tmps) = Region.wanted o (yielded ops a.tmps)) : Yl P ops o v a' w := by
  unfold Yl Quiet1 at *
  rw [h.1, h.2]
  exact hy

theorem Yl.wpOp {i : Nat} {o : Oper} {v : Value} {a : Act} {w : World} (hi : ops[i]? = some o) (hy : Yl P ops o v a w) {K : Act → World → Prop} (h : ∀ w', R w w' → K (a.put o.dst v) w') : wpOp P ops Q i K a w := by
  unfold Go.wpOp
  simp only [hi]
  rcases hy with ⟨hw, hv⟩ | ⟨hw, rfl⟩
  · simp only [hw, if_true]
    refine .inl ?_
    unfold Oper.wp
    unfold Quiet1 at hv
    generalize (execOp a.eval o).run P w = r at *
    cases r with
    | halt x w' => exact hv.elim
    | ok n w' =>
      cases n <;> simp only [quietUpon] at hv <;> simp only [Oper.upon]
      case value u => obtain ⟨rfl, rfl⟩ := hv; exact h _ (R.refl _)
      case enter f args =>
        obtain ⟨rfl, hc⟩ := hv
        exact hc.mono fun e w'' ⟨he, hw''⟩ => by subst he; exact h _ hw''
  · simp only [hw, Bool.false_eq_true, if_false]; exact h _ (R.refl _)

/-- One operation, with another one's value laid already, or not. -/
theorem wpOp_apart {j : Nat} {oi oj : Oper} {v : Value} (hj : ops[j]? = some oj) (hap : oi.apart ops oj = true)
    (hsi : ∀ cs b, oi.op ≠ .select cs b) (hsj : ∀ cs b, oj.op ≠ .select cs b)
    (hQ : ∀ c a w, Q (.panic c) (a.put oi.dst v) w → Q (.panic c) a w) {K : Act → World → Prop} {a : Act} {w : World}
    (h : wpOp P ops Q j K (a.put oi.dst v) w) :
    wpOp P ops Q j (fun a' w' => (execOp a'.eval oi = execOp a.eval oi ∧ Region.wanted oi (yielded ops a'.tmps) = Region.wanted oi (yielded ops a.tmps)) ∧ K (a'.put oi.dst v) w') a w := by
  obtain ⟨h1, h2, h3⟩ := Oper.apart_spec hap
  have keep : ∀ (a0 : Act) (u : Value), execOp a0.eval oi = execOp a.eval oi ∧ Region.wanted oi (yielded ops a0.tmps) = Region.wanted oi (yielded ops a.tmps) →
      execOp (a0.put oj.dst u).eval oi = execOp a.eval oi ∧ Region.wanted oi (yielded ops (a0.put oj.dst u).tmps) = Region.wanted oi (yielded ops a.tmps) := fun a0 u h0 =>
    ⟨(execOp_put oi hsi a0 oj.dst u h3).trans h0.1, (wanted_put oi a0 oj.dst u h3).trans h0.2⟩
  unfold wpOp at *
  simp only [hj] at *
  rw [wanted_put oj a oi.dst v h1] at h
  split
  · rename_i hw
    simp only [hw, if_true] at h
    rcases h with h | ⟨hasks, hlets⟩
    case inr => exact .inr ⟨by unfold Oper.asks at *; rw [execOp_put oj hsj a oi.dst v h1] at hasks; exact hasks, hlets⟩
    refine .inl ?_
    unfold Oper.wp at *
    rw [execOp_put oj hsj a oi.dst v h1] at h
    generalize (execOp a.eval oj).run P w = r at *
    cases r with
    | ok n w' =>
      cases n <;> simp only [Oper.upon] at h ⊢
      case value u => exact ⟨keep a u ⟨rfl, rfl⟩, by rw [← Act.put_comm a v u h2]; exact h⟩
      case skip => exact ⟨keep a _ ⟨rfl, rfl⟩, by rw [← Act.put_comm a v undef h2]; exact h⟩
      case defer d =>
        refine ⟨keep { a with defers := d :: a.defers } _ ⟨rfl, rfl⟩, ?_⟩
        rw [← Act.put_comm _ v undef h2, ← Act.put_defers]
        exact h
      case enter f args =>
        refine Calls.mono h fun e w'' he => ?_
        cases e with
        | returned u => exact ⟨keep a u ⟨rfl, rfl⟩, by rw [← Act.put_comm a v u h2]; exact he⟩
        | panicked c => exact hQ _ _ _ he
        | outgrown => exact he
      case row row args => exact Rows.mono h fun u w'' he => ⟨keep a u ⟨rfl, rfl⟩, by rw [← Act.put_comm a v u h2]; exact he⟩
    | halt x w' =>
      cases x <;> simp only [Oper.upon] at h ⊢
      case panic u => exact hQ _ _ _ h
  · rename_i hw
    simp only [hw] at h
    exact ⟨keep a _ ⟨rfl, rfl⟩, by rw [← Act.put_comm a v undef h2]; exact h⟩

/-- Whatever order is picked from here on, and whatever new memory is made between. -/
def wpAnyR (P : Program) (md : Region.Mode) (ops : Array Oper) (Wr : Nat → Bool) (Q : Exit → Act → World → Prop) : Nat → Array Bool → Act → World → Prop
  | 0, l, a, w => Region.ready md ops l = [] ∧ ∀ w', R w w' → Q .normal a w'
  | n + 1, l, a, w => ∀ w', R w w' → (Region.ready md ops l = [] → Q .normal a w') ∧
      ∀ i ∈ Region.ready md ops l, wpOp P ops Q i (fun a2 w2 => (Wr i = false → R w' w2) ∧ wpAnyR P md ops Wr Q n (l.setIfInBounds i true) a2 w2) a w'

theorem wpAnyR.on {Wr : Nat → Bool} : ∀ {n : Nat} {l : Array Bool} {a : Act} {w w' : World}, wpAnyR P md ops Wr Q n l a w → R w w' → wpAnyR P md ops Wr Q n l a w'
  | 0, _, _, _, _, h, hR => ⟨h.1, fun w2 h2 => h.2 w2 (hR.trans h2)⟩
  | _ + 1, _, _, _, _, h, hR => fun w2 h2 => h w2 (hR.trans h2)
theorem wpAny_of_R {Wr : Nat → Bool} : ∀ (n : Nat) (l : Array Bool) (a : Act) (w : World), wpAnyR P md ops Wr Q n l a w → wpAny P md ops Q n l a w
  | 0, _, _, _, h => ⟨h.1, h.2 _ (R.refl _)⟩
  | n + 1, _, _, _, h => ⟨(h _ (R.refl _)).1, fun i hi => wpOp_mono (fun a2 w2 h2 => wpAny_of_R n _ a2 w2 h2.2) ((h _ (R.refl _)).2 i hi)⟩

/-! ## Which operation waits for which -/
def closedL (md : Region.Mode) (ops : Array Oper) (l : Array Bool) : Prop :=
  ∀ (j : Nat) (o : Oper), l.getD j false = true → ops[j]? = some o → ∀ e ∈ o.after, Region.binds md e = true → l.getD e.on false = true
def anc (md : Region.Mode) (ops : Array Oper) : Nat → Nat → Nat → Bool
  | 0, _, _ => false
  | n + 1, j, i => match ops[j]? with
    | none => false
    | some o => o.after.any fun e => Region.binds md e && (e.on == i || anc md ops n e.on i)
theorem anc_step {n j i : Nat} (h : anc md ops (n + 1) j i = true) : ∃ o, ops[j]? = some o ∧ ∃ e ∈ o.after, Region.binds md e = true ∧ (e.on = i ∨ anc md ops n e.on i = true) := by
  unfold anc at h
  split at h
  · cases h
  · rename_i o ho
    obtain ⟨e, he, hb⟩ := Array.any_eq_true'.1 h
    simp only [Bool.and_eq_true, Bool.or_eq_true, beq_iff_eq] at hb
    exact ⟨o, ho, e, he, hb⟩
theorem anc_listed {l : Array Bool} (hc : closedL md ops l) : ∀ (n j i : Nat), l.getD j false = true → anc md ops n j i = true → l.getD i false = true
  | 0, _, _, _, h => by cases h
  | n + 1, j, i, hj, h => by
    obtain ⟨o, ho, e, he, hb, hi⟩ := anc_step h
    have hl := hc j o hj ho e he hb
    rcases hi with rfl | hi
    · exact hl
    · exact anc_listed hc n e.on i hl hi
theorem anc_ready {l : Array Bool} (hc : closedL md ops l) {n j i : Nat} (hj : j ∈ Region.ready md ops l) (h : anc md ops n j i = true) : l.getD i false = true := by
  cases n with
  | zero => cases h
  | succ n =>
    obtain ⟨o, ho, e, he, hb, hi⟩ := anc_step h
    obtain ⟨_, o', ho', hall⟩ := mem_ready.1 hj
    obtain rfl : o = o' := Option.some.inj (ho.symm.trans ho')
    have hl := hall e he hb
    rcases hi with rfl | hi
    · exact hl
    · exact anc_listed hc n e.on i hl hi
theorem closedL.set {l : Array Bool} (hc : closedL md ops l) {j : Nat} (hj : j ∈ Region.ready md ops l) : closedL md ops (l.setIfInBounds j true) := by
  intro k o hk ho e he hb
  by_cases hkj : k = j
  · subst hkj
    obtain ⟨_, o', ho', hall⟩ := mem_ready.1 hj
    obtain rfl : o = o' := Option.some.inj (ho.symm.trans ho')
    exact getD_set_true (hall e he hb)
  · rw [getD_set_ne false (Ne.symm hkj)] at hk
    exact getD_set_true (hc k o hk ho e he hb)
theorem closedL_start (m : Nat) : closedL md ops (Array.replicate m false) := by
  intro j o h
  have : (Array.replicate m false).getD j false = false := by
    simp only [Array.getD_eq_getD_getElem?, Array.getElem?_replicate]
    split <;> rfl
  rw [this] at h
  cases h

/-- **An operation that may come up may be taken first**, if in every world that has grown out of this one it yields its value, whatever stands free of it, and whatever writes waits for it. -/
theorem wpAnyR_first {Wr : Nat → Bool} {i : Nat} {oi : Oper} {v : Value} (hi : ops[i]? = some oi) (hsel : ∀ (j : Nat) (o : Oper) cs b, ops[j]? = some o → o.op ≠ .select cs b)
    (hQ : ∀ c a w, Q (.panic c) (a.put oi.dst v) w → Q (.panic c) a w) (hwi : Wr i = false) {m : Nat} :
    ∀ (fuel : Nat) (l : Array Bool) (a : Act) (w : World),
      closedL md ops l → (∀ j, Wr j = true → l.getD j true = false → anc md ops m j i = true) →
      (∀ j oj, ops[j]? = some oj → j ≠ i → l.getD j true = false → (∀ e ∈ oj.after, Region.binds md e = true → e.on ≠ i) → oi.apart ops oj = true) →
      i ∈ Region.ready md ops l → (∀ w', R w w' → Yl P ops oi v a w') →
      wpAnyR P md ops Wr Q fuel (l.setIfInBounds i true) (a.put oi.dst v) w → wpAnyR P md ops Wr Q (fuel + 1) l a w := by
  intro fuel
  have hun : ∀ {l : Array Bool}, i ∈ Region.ready md ops l → l.getD i false = false := fun {l} hr => by
    have h0 := (mem_ready.1 hr).1
    rcases Nat.lt_or_ge i l.size with h' | h'
    · simpa [h'] using h0
    · simp [Array.getElem?_eq_none h'] at h0
  have take : ∀ {n : Nat} {l : Array Bool} {a : Act} {w w' : World}, R w w' → (∀ w', R w w' → Yl P ops oi v a w') → wpAnyR P md ops Wr Q n (l.setIfInBounds i true) (a.put oi.dst v) w →
      wpOp P ops Q i (fun a2 w2 => (Wr i = false → R w' w2) ∧ wpAnyR P md ops Wr Q n (l.setIfInBounds i true) a2 w2) a w' := fun hR hY H =>
    (hY _ hR).wpOp hi fun w2 h2 => ⟨fun _ => h2, H.on (hR.trans h2)⟩
  induction fuel with
  | zero =>
    intro l a w _ _ _ hr hY H w' hR
    refine ⟨fun h => (by rw [h] at hr; cases hr), fun j hj => ?_⟩
    by_cases hji : j = i
    · subst hji; exact take hR hY H
    · have := ready_mono hj hji
      rw [H.1] at this
      cases this
  | succ fuel ih =>
    intro l a w hc hwr hfree hr hY H w' hR
    refine ⟨fun h => (by rw [h] at hr; cases hr), fun j hj => ?_⟩
    by_cases hji : j = i
    · subst hji; exact take hR hY H
    · have h1 := (H w' hR).2 j (ready_mono hj hji)
      obtain ⟨hjun, oj, hoj, hall⟩ := mem_ready.1 hj
      have hnot : ∀ e ∈ oj.after, Region.binds md e = true → e.on ≠ i := fun e he hb heq => by
        have h1 := hall e he hb
        rw [heq, hun hr] at h1
        cases h1
      have hwj : Wr j = false := by
        cases hw : Wr j with
        | false => rfl
        | true =>
          have := anc_ready hc hj (hwr j hw hjun)
          rw [hun hr] at this
          cases this
      have h2 := wpOp_apart hoj (hfree j oj hoj hji hjun hnot) (fun cs b => hsel i oi cs b hi) (fun cs b => hsel j oj cs b hoj) hQ h1
      have hfree' : ∀ k ok, ops[k]? = some ok → k ≠ i → (l.setIfInBounds j true).getD k true = false →
          (∀ e ∈ ok.after, Region.binds md e = true → e.on ≠ i) → oi.apart ops ok = true := fun k ok hk hki hun' hno => by
        refine hfree k ok hk hki ?_ hno
        by_cases hjk : j = k
        · subst hjk; exact hjun
        · rw [getD_set_ne true hjk] at hun'; exact hun'
      have hwr' : ∀ k, Wr k = true → (l.setIfInBounds j true).getD k true = false → anc md ops m k i = true := fun k hk hun' => by
        refine hwr k hk ?_
        by_cases hjk : j = k
        · subst hjk; exact hjun
        · rw [getD_set_ne true hjk] at hun'; exact hun'
      refine wpOp_mono (fun a' w2 h3 => ?_) h2
      obtain ⟨hs, hRj, hN⟩ := h3
      refine ⟨hRj, ih (l.setIfInBounds j true) a' w2 (hc.set hj) hwr' hfree' (ready_mono hr (Ne.symm hji)) (fun w3 h3 => (hY w3 (hR.trans ((hRj hwj).trans h3))).of_same hs) ?_⟩
      rw [Array.setIfInBounds_comm _ _ hji]
      exact hN

/-- An operation that may come up alone. -/
theorem wpAnyR_alone {Wr : Nat → Bool} {i : Nat} {n : Nat} {l : Array Bool} {a : Act} {w : World} (hr : Region.ready md ops l = [i])
    (h : ∀ w', R w w' → wpOp P ops Q i (fun a2 w2 => (Wr i = false → R w' w2) ∧ wpAnyR P md ops Wr Q n (l.setIfInBounds i true) a2 w2) a w') : wpAnyR P md ops Wr Q (n + 1) l a w :=
  fun w' hR => ⟨fun h0 => (by rw [hr] at h0; cases h0), fun j hj => by
    rw [hr] at hj
    obtain rfl := List.mem_singleton.1 hj
    exact h w' hR⟩
theorem wpAnyR_done {Wr : Nat → Bool} {n : Nat} {l : Array Bool} {a : Act} {w : World} (hr : Region.ready md ops l = []) (h : ∀ w', R w w' → Q .normal a w') : wpAnyR P md ops Wr Q n l a w := by
  cases n with
  | zero => exact ⟨hr, h⟩
  | succ n => exact fun w' hR => ⟨fun _ => h w' hR, fun j hj => by rw [hr] at hj; cases hj⟩

theorem wp_region_R {Wr : Nat → Bool} {id : Nat} {a : Act} {w : World} (hm : P.follows .mixedOrders = true)
    (h : wpAnyR P .any ops Wr Q ops.size (Array.replicate ops.size false) a w) : (Code.region id ops true).wp P Q a w :=
  wp_region_any hm (wpAny_of_R _ _ _ _ (h.on (R.drew w)))
end
end Go.Proofs.YtnaeeklnlddcaaaGreatDoor.Vex
/- A walk by reckoning, part three: what each operation asks, in words that reckon by themselves. No program in sight. -/
namespace Go.Proofs.YtnaeeklnlddcaaaGreatDoor.Vex
open Go Go.RowKit

/-! ## Frames -/
noncomputable def getK (l : List Value) : Nat → (Value → Prop) → Prop :=
  List.rec (motive := fun _ => Nat → (Value → Prop) → Prop) (fun _ K => K undef) (fun a _ ih n K => Nat.rec (motive := fun _ => Prop) (K a) (fun m _ => ih m K) n) l
noncomputable def setK (l : List Value) : Nat → Value → (List Value → Prop) → Prop :=
  List.rec (motive := fun _ => Nat → Value → (List Value → Prop) → Prop) (fun _ _ K => K []) (fun a l ih n v K => Nat.rec (motive := fun _ => Prop) (K (v :: l)) (fun m _ => ih m v fun l' => K (a :: l')) n) l
noncomputable def setO (fr : Fr) (o : Option Nat) (v : Value) (K : Fr → Prop) : Prop := match o with | some d => setK fr d v K | none => K fr
noncomputable def evK (fr : Fr) (x : Operand) (K : Value → Prop) : Prop := match x with
  | .tmp t => getK fr t K | .const v => K v | .global g => K (.pointer (some ⟨g, 0, none⟩)) | .func f => K (.func (.func f) #[] #[])
noncomputable def evLK (fr : Fr) (l : List Operand) : (List Value → Prop) → Prop :=
  List.rec (motive := fun _ => (List Value → Prop) → Prop) (fun K => K []) (fun o _ ih K => evK fr o fun v => ih fun l => K (v :: l)) l
noncomputable def evPK (fr : Fr) (l : List (Nat × Operand)) : (List (Nat × Value) → Prop) → Prop :=
  List.rec (motive := fun _ => (List (Nat × Value) → Prop) → Prop) (fun K => K []) (fun o _ ih K => evK fr o.2 fun v => ih fun l => K ((o.1, v) :: l)) l

def act (fr : Fr) : Act := ⟨⟨fr⟩, []⟩
/-- .. with deferred calls. -/
def actD (ds : List Deferred) (fr : Fr) : Act := ⟨⟨fr⟩, ds⟩
theorem getK_eq : ∀ (l : List Value) (n : Nat) (K : Value → Prop), getK l n K = K (l.getD n undef)
  | [], _, _ => rfl
  | _ :: _, 0, _ => rfl
  | _ :: l, n + 1, K => getK_eq l n K
theorem setK_eq : ∀ (l : List Value) (n : Nat) (v : Value) (K : List Value → Prop), setK l n v K = K (l.set n v)
  | [], _, _, _ => rfl
  | _ :: _, 0, _, _ => rfl
  | a :: l, n + 1, v, K => setK_eq l n v fun l' => K (a :: l')
theorem act_put (fr : Fr) (o : Option Nat) (v : Value) : (act fr).put o v = act (match o with | some d => fr.set d v | none => fr) := by
  cases o <;> simp [Act.put, act]
theorem setO_eq (fr : Fr) (o : Option Nat) (v : Value) (K : Fr → Prop) : setO fr o v K = K (match o with | some d => fr.set d v | none => fr) := by
  cases o with
  | none => rfl
  | some d => exact setK_eq fr d v K
theorem act_tmp (fr : Fr) (t : Nat) : (act fr).eval (.tmp t) = fr.getD t undef := by simp [Act.eval, act]
theorem evK_eq (fr : Fr) (x : Operand) (K : Value → Prop) : evK fr x K = K ((act fr).eval x) := by
  cases x with
  | tmp t => rw [act_tmp]; exact getK_eq fr t K
  | _ => rfl
theorem evLK_eq (fr : Fr) : ∀ (l : List Operand) (K : List Value → Prop), evLK fr l K = K (l.map (act fr).eval)
  | [], _ => rfl
  | o :: l, K => (evK_eq fr o _).trans (evLK_eq fr l fun l' => K ((act fr).eval o :: l'))
theorem evPK_eq (fr : Fr) : ∀ (l : List (Nat × Operand)) (K : List (Nat × Value) → Prop), evPK fr l K = K (l.map fun p => (p.1, (act fr).eval p.2))
  | [], _ => rfl
  | o :: l, K => (evK_eq fr o.2 _).trans (evPK_eq fr l fun l' => K ((o.1, (act fr).eval o.2) :: l'))

/-! ## Types -/
structure TI where
  d : TypeDesc
  zero : Value
  size : Nat
  bytes : Nat
  offs : List (Nat × Nat)
def TIok (P : Program) (t : TypeId) (i : TI) : Prop :=
  P.underlying t = some i.d ∧ (P.info? t).map (fun x => (x.zero, x.size, x.bytes)) = some (some i.zero, i.size, i.bytes) ∧
  (match i.d with | .struct fs => fs.toList.map (fun f => (f.offset, (P.info? f.type).map (·.size))) = i.offs.map (fun p => (p.1, some p.2)) | _ => True)
abbrev Ty := List (Nat × TI)
noncomputable def lookT (T : Ty) (t : Nat) : TI := List.rec (motive := fun _ => TI) ⟨.invalid, undef, 0, 0, []⟩ (fun p _ ih => match Nat.beq p.1 t with | true => p.2 | false => ih) T
def TOk (P : Program) (T : Ty) : Prop := ∀ p ∈ T, TIok P p.1 p.2
theorem TOk.nil (P : Program) : TOk P [] := fun _ h => by cases h
theorem TOk.cons {P : Program} {t : TypeId} {i : TI} {T : Ty} (h : TIok P t i) (r : TOk P T) : TOk P ((t, i) :: T) := fun p hp => by
  rcases List.mem_cons.1 hp with rfl | hp
  · exact h
  · exact r p hp
theorem lookT_ok {P : Program} {t : Nat} : ∀ {T : Ty}, TOk P T → (lookT T t).d ≠ .invalid → TIok P t (lookT T t)
  | [], _, hd => absurd rfl hd
  | (u, i) :: T, h, hd => by
    have e : lookT ((u, i) :: T) t = match Nat.beq u t with | true => i | false => lookT T t := rfl
    rw [e] at hd ⊢
    cases hb : Nat.beq u t with
    | true =>
      obtain rfl := Nat.eq_of_beq_eq_true hb
      exact h (u, i) (by simp)
    | false =>
      rw [hb] at hd
      exact lookT_ok (fun p hp => h p (List.mem_cons_of_mem _ hp)) hd
noncomputable def aggN (i : TI) : Option Nat := match i.d with | .struct _ => some i.size | .array _ _ => some i.size | _ => none

/-! ## Stops: what the walk leaves to the prover -/
structure Ar (k : IntKind) (z : Int) (K : Value → Prop) : Prop where ok : ∃ r, r = k.wrap z ∧ K (.int k r)
structure Cmp (p : Prop) (K : Value → Prop) : Prop where ok : ∀ c : Bool, (c = true ↔ p) → K (.bool c)
structure CatS (a b : List UInt8) (K : Value → Prop) : Prop where ok : a.length + b.length ≤ 9223372036854775807 ∧ K (str (a ++ b))
structure IdxS (l : List UInt8) (i : Int) (K : Value → Prop) : Prop where ok : 0 ≤ i ∧ ∃ x : UInt8, l[i.toNat]? = some x ∧ K (.int .u8 x.toNat)
structure SlcS (l : List UInt8) (lo hi : Int) (K : Value → Prop) : Prop where ok : 0 ≤ lo ∧ lo ≤ hi ∧ hi ≤ l.length ∧ K (str ((l.take hi.toNat).drop lo.toNat))
structure DivS (op : BinOp) (k : IntKind) (a b : Int) (K : Value → Prop) : Prop where ok : b ≠ 0 ∧ ((op = .quo ∧ ∃ r, r = k.wrap (a.tdiv b) ∧ K (.int k r)) ∨ (op = .rem ∧ ∃ r, r = a.tmod b ∧ K (.int k r)))
/-- The element's address: of a slice that lies at A. -/
abbrev at0 : Addr := ⟨0, 0, none⟩
structure IdxA (c : Ctx) (H : Hp) (A : Option Addr) (n : Nat) (i : Int) (sz : Nat) (K : Value → Prop) : Prop where ok : 0 ≤ i ∧ i < n ∧ (∀ w, St c H w → A.isSome = true) ∧ K (.pointer (some ((A.getD at0).add (i.toNat * sz))))
structure SlcV (c : Ctx) (H : Hp) (A : Option Addr) (n cp : Nat) (lo : Int) (hi : Option Int) (sz : Nat) (K : Value → Prop) : Prop where
  ok : 0 ≤ lo ∧ lo ≤ hi.getD n ∧ (∀ h, hi = some h → ∀ w, St c H w → h ≤ cp) ∧ K (.slice (if (cp : Int) = lo then A else A.map (·.add (lo.toNat * sz))) ((hi.getD n).toNat - lo.toNat) (cp - lo.toNat))
def Rd (w : World) (p : Addr) (n : Option Nat) (v : Value) : Prop := match n with
  | none => w.cell? p = some v
  | some n => ∃ vs, v = .agg ⟨vs⟩ ∧ vs.length = n ∧ ∀ j u, vs[j]? = some u → w.cell? (p.add j) = some u
structure Ld (c : Ctx) (H : Hp) (a : Value) (n : Option Nat) (K : Value → Prop) : Prop where ok : ∃ v p, a = .pointer (some p) ∧ (∀ w, St c H w → Rd w p n v) ∧ K v
structure Sto (c : Ctx) (H : Hp) (a v : Value) (sz : Nat) (K : Hp → Prop) : Prop where
  ok : ∃ p H', a = .pointer (some p) ∧ v.cells.size = sz ∧ K H' ∧ H'.filterMap Ent.blk = H.filterMap Ent.blk ∧
    ∀ w, St c H w → p.block ∈ H.filterMap Ent.blk ∧ ∃ w', (storeCells p v.cells.toList).run c.P w = .ok () w' ∧ St c H' w' ∧ w.heap.size ≤ w'.heap.size ∧ ∀ k, k ≠ p.block → w'.heap[k]? = w.heap[k]?
structure Alc (vs : List Value) (t : Nat) (H : Hp) (K : Value → Hp → Prop) : Prop where ok : ∀ b, K (.pointer (some ⟨b, 0, none⟩)) (.box b vs t :: H)
structure BSl (vs : List Value) (e sz n : Nat) (H : Hp) (K : Value → Hp → Prop) : Prop where ok : vs.length = n * sz ∧ n * sz ≤ 16777216 ∧ n ≤ 16777216 ∧ ∀ b, K (.slice (some ⟨b, 0, none⟩) n n) (.row (.slice (some ⟨b, 0, none⟩) n n) e sz n vs :: H)
def byteV (x : UInt8) : Value := .int .u8 x.toNat
structure S2B (l : List UInt8) (e : Nat) (H : Hp) (K : Value → Hp → Prop) : Prop where ok : l.length ≤ 9223372036854775807 ∧ ∀ b cp, K (.slice (some ⟨b, 0, none⟩) l.length cp) (.row (.slice (some ⟨b, 0, none⟩) l.length cp) e 1 l.length (l.map byteV) :: H)
structure B2S (c : Ctx) (H : Hp) (A : Option Addr) (n : Nat) (K : Value → Prop) : Prop where ok : ∃ l : List UInt8, l.length = n ∧ (∀ w, St c H w → ∀ (j : Nat) (x : UInt8), l[j]? = some x → ∃ a, A = some a ∧ w.cell? (a.add j) = some (byteV x)) ∧ K (str l)
/-- What is appended: its cells. -/
def SrcK (c : Ctx) (H : Hp) (x : Value) (m : Nat) (news : List Value) : Prop := match x with
  | .slice A n _ => n = m ∧ ∀ w, St c H w → ∀ (j : Nat) (u : Value), news[j]? = some u → ∃ a, A = some a ∧ w.cell? (a.add j) = some u
  | .string ⟨⟨l⟩⟩ => m = l.length ∧ news = l.map byteV
  | _ => False
def isStr : Value → Bool | .string _ => true | _ => false
structure AppS (c : Ctx) (v x : Value) (e sz bytes : Nat) (H : Hp) (K : Value → Hp → Prop) : Prop where
  ok : 0 < sz ∧ ∃ n xs m news H2, (∀ w, St c H w → St c (.row v e sz n xs :: H2) w) ∧ SrcK c H x m news ∧ news.length = m * sz ∧ (∀ u ∈ news, u.oneCell' = true) ∧ n + m ≤ 9223372036854775807 ∧ (n + m) * bytes ≤ 140737488355328 ∧
    ∀ A cp, K (.slice A (n + m) cp) (.row (.slice A (n + m) cp) e sz (n + m) (xs ++ news) :: H2)
/-- A function that is entered when it is called. -/
def Callable (P : Program) (f : FuncId) : Prop := ∃ fn, P.funcs[f]? = some fn ∧ (fn.name == "runtime.NumGoroutine") = false ∧ fn.body.isNone = false
/-- A call of a function; m: in the midst of a region that draws its order it may make new memory at most. -/
structure CallK (c : Ctx) (m : Bool) (f : Nat) (args : List Value) (H : Hp) (K : Value → Hp → Prop) : Prop where
  go : (Callable c.P f ∧ ∀ w, St c H w → Calls c.P f ⟨args⟩ w fun e w' => ∃ v H', e = .returned v ∧ St c H' w' ∧ K v H' ∧ (m = true → R w w')) ∨
    (∀ w, St c H w → ∃ v w' H', (callFunc f ⟨args⟩).run c.P w = .ok (.value v) w' ∧ St c H' w' ∧ K v H' ∧ (m = true → R w w'))
theorem CallK.of {c : Ctx} {m : Bool} {f : Nat} {args : List Value} {H : Hp} {K : Value → Hp → Prop} (can : Callable c.P f) (ok : ∀ w, St c H w → Calls c.P f ⟨args⟩ w fun e w' => ∃ v H', e = .returned v ∧ St c H' w' ∧ K v H' ∧ (m = true → R w w')) : CallK c m f args H K := ⟨.inl ⟨can, ok⟩⟩
/-- A call of yield: a round of the loop whose record is l. -/
structure YldK (c : Ctx) (l : Nat) (args : List Value) (H : Hp) (K : Value → Hp → Prop) : Prop where
  ok : ∀ w, St c H w → ∃ fn tmps as' body, (Instr.yield l ⟨args⟩).run c.P w = .ok (.round l fn tmps as' body) w ∧ RoundIn Fence.wide 0 c.P l fn tmps as' body w fun e w' => ∃ v H', e = .returned v ∧ St c H' w' ∧ K v H'
structure CallQ (c : Ctx) (f : Nat) (args : List Value) (H : Hp) (K : Value → Prop) : Prop where
  can : Callable c.P f
  ok : ∃ v, K v ∧ ∀ w, St c H w → Calls c.P f ⟨args⟩ w fun e w' => e = .returned v ∧ R w w'
/-- Any other operation that writes, or makes memory: by its own law. -/
structure Oth (c : Ctx) (m : Bool) (o : Oper) (fr : Fr) (H : Hp) (K : Value → Hp → Prop) : Prop where
  ok : ∀ w, St c H w → ∃ v w' H', (execOp (act fr).eval o).run c.P w = .ok (.value v) w' ∧ St c H' w' ∧ K v H' ∧ (m = true → R w w')
/-- .. that yields nothing. -/
structure OthU (c : Ctx) (o : Oper) (fr : Fr) (H : Hp) (K : Value → Hp → Prop) : Prop where
  ok : ∀ w, St c H w → ∃ w' H', (execOp (act fr).eval o).run c.P w = .ok .skip w' ∧ St c H' w' ∧ K undef H'
/-- .. that leaves the world alone. -/
structure OthP (c : Ctx) (o : Oper) (fr : Fr) (H : Hp) (K : Value → Prop) : Prop where
  ok : ∃ v, K v ∧ ∀ w, St c H w → (execOp (act fr).eval o).run c.P w = .ok (.value v) w

noncomputable def wcmp (op : BinOp) (a b : Int) (K : Value → Prop) (E : Prop) : Prop := match op with
  | .lss => Cmp (a < b) K | .leq => Cmp (a ≤ b) K | .gtr => Cmp (b < a) K | .geq => Cmp (b ≤ a) K
  | .eql => Cmp (a = b) K | .neq => Cmp (a ≠ b) K | _ => E
def nilB : Value → Option Bool
  | .pointer none => some true | .pointer (some _) => some false
  | .slice none _ _ => some true | .slice (some _) _ _ => some false
  | .nilFunc => some true | .func .. => some false
  | .map none => some true | .map (some _) => some false
  | _ => none
noncomputable def wbin (T : Ty) (op : BinOp) (t : TypeId) (x y : Value) (K : Value → Prop) (E : Prop) : Prop :=
  match x, y with
  | .int k a, .int k' b => (match decide (k = k') with
    | true => (match op with
      | .add => Ar k (a + b) K | .sub => Ar k (a - b) K | .mul => Ar k (a * b) K
      | .quo => DivS .quo k a b K | .rem => DivS .rem k a b K
      | op => wcmp op a b K E)
    | false => E)
  | .string ⟨⟨a⟩⟩, .string ⟨⟨b⟩⟩ => (match op with
    | .add => CatS a b K
    | .eql => Cmp (a = b) K | .neq => Cmp (a ≠ b) K
    | _ => E)
  | .bool a, .bool b => (match op, (lookT T t).d with
    | .eql, .bool => Cmp (a = b) K | .neq, .bool => Cmp (a ≠ b) K
    | _, _ => E)
  | _, _ => E

noncomputable def partK (cs : List Value) (off : Nat) (i : TI) (K : Value → Prop) : Prop := match aggN i with
  | some n => K (.agg ⟨(cs.drop off).take n⟩)
  | none => match cs[off]? with | some v => K v | none => False

def fillL (offs : List (Nat × Nat)) : List (Nat × Value) → List Value → Option (List Value)
  | [], z => some z
  | (i, v) :: r, z => match offs[i]? with
    | some (o, s) => match v.cells with
      | ⟨cs⟩ => match decide (cs.length = s ∧ o + s ≤ z.length) with
        | true => fillL offs r (z.take o ++ cs ++ z.drop (o + s))
        | false => none
    | none => none

inductive Md where | plain | quiet | act | wact
def wr (op : Op) : Bool := match op with
  | .store .. | .entryStore .. | .mapUpdate .. | .mapEntry .. | .next .. | .insert .. => true
  | .call c => (match c.callee with | .builtin .len => false | .builtin .min => false | .builtin .max => false | .builtin .cap => false | .builtin _ => true | _ => false)
  | _ => false

/-- One operation. -/
noncomputable def wop (c : Ctx) (T : Ty) (m : Md) (o : Oper) (fr : Fr) (H : Hp) (K : Value → Hp → Prop) : Prop :=
  match o.op with
  | .move x => evK fr x fun v => K v H
  | .assign x => evK fr x fun v => K v H
  | .pick q a b => evK fr q fun q => (match q with | .bool b' => (match b' with | true => evK fr a fun v => K v H | false => evK fr b fun v => K v H) | _ => False)
  | .unOp op _ x => evK fr x fun x => (match op, x with | .not, .bool b => K (.bool (!b)) H | .neg, .int k a => Ar k (0 - a) fun v => K v H | _, _ => False)
  | .binOp op t x y _ => evK fr x fun x' => evK fr y fun y' => wbin T op t x' y' (fun v => K v H) (OthP c o fr H fun v => K v H)
  | .convert src dst x => evK fr x fun x' => (match (lookT T dst).d, x' with
      | .int k, .int _ n => (match (lookT T src).d with | .invalid => False | _ => Ar k n fun v => K v H)
      | .string, .string _ => (match (lookT T src).d with | .invalid => False | _ => K x' H)
      | .string, .slice A n _ => (match (lookT T src).d with
        | .slice e => (match (lookT T e).d with | .int .u8 => B2S c H A n fun v => K v H | _ => OthP c o fr H fun v => K v H)
        | _ => OthP c o fr H fun v => K v H)
      | .string, _ => OthP c o fr H fun v => K v H
      | .slice e, .string ⟨⟨l⟩⟩ => (match (lookT T src).d, (lookT T e).d with
        | .string, .int .u8 => (match m with | .quiet => False | _ => S2B l e H K)
        | _, _ => False)
      | _, _ => (match m with | .quiet => False | .plain => Oth c false o fr H K | .act => Oth c (!wr o.op) o fr H K | .wact => Oth c false o fr H K))
  | .extract x i => evK fr x fun x => (match x with | .tuple ⟨vs⟩ => (match vs[i]? with | some v => K v H | none => False) | _ => False)
  | .fieldAddr s x f => evK fr x fun x => (match x with
      | .pointer (some a) => (match (lookT T s).d with
        | .struct _ => (match (lookT T s).offs[f]? with | some p => (match p.2 with | 0 => False | _ + 1 => K (.pointer (some (a.add p.1))) H) | none => False)
        | _ => False)
      | _ => False)
  | .field s x f => evK fr x fun x => (match x with
      | .agg ⟨cs⟩ => (match (lookT T s).d with
        | .struct fs => (match fs.toList[f]? with | some g => (match (lookT T g.type).d with | .invalid => False | _ => partK cs g.offset (lookT T g.type) fun v => K v H) | none => False)
        | _ => False)
      | _ => False)
  | .index t x i => evK fr x fun x' => evK fr i fun i' => (match x', i' with
      | .string ⟨⟨l⟩⟩, .int _ i => (match (lookT T t).d with | .string => IdxS l i fun v => K v H | _ => False)
      | _, _ => OthP c o fr H fun v => K v H)
  | .indexAddr t x i => evK fr x fun x => evK fr i fun i => (match x, i, (lookT T t).d with
      | .slice A n _, .int _ i, .slice e => (match lookT T e with | ⟨d, _, sz, _, _⟩ => (match d with | .invalid => False | _ => IdxA c H A n i sz fun v => K v H))
      | _, _, _ => OthP c o fr H fun v => K v H)
  | .slice t x lo hi mx => evK fr x fun x' => (match mx with
      | some _ => OthP c o fr H fun v => K v H
      | none => (match x', (lookT T t).d with
        | .string ⟨⟨l⟩⟩, .string => (match lo, hi with
          | none, none => K x' H
          | some a, none => evK fr a fun a => (match a with | .int _ a => SlcS l a l.length fun v => K v H | _ => False)
          | none, some b => evK fr b fun b => (match b with | .int _ b => SlcS l 0 b fun v => K v H | _ => False)
          | some a, some b => evK fr a fun a => evK fr b fun b => (match a, b with | .int _ a, .int _ b => SlcS l a b fun v => K v H | _, _ => False))
        | .slice A n cp, .slice e => (match lookT T e with | ⟨d, _, sz, _, _⟩ => (match d with
          | .invalid => False
          | _ => (match lo, hi with
            | none, none => SlcV c H A n cp 0 none sz fun v => K v H
            | some a, none => evK fr a fun a => (match a with | .int _ a => SlcV c H A n cp a none sz fun v => K v H | _ => False)
            | none, some b => evK fr b fun b => (match b with | .int _ b => SlcV c H A n cp 0 (some b) sz fun v => K v H | _ => False)
            | some a, some b => evK fr a fun a => evK fr b fun b => (match a, b with | .int _ a, .int _ b => SlcV c H A n cp a (some b) sz fun v => K v H | _, _ => False))))
        | _, _ => OthP c o fr H fun v => K v H))
  | .build t ps => evPK fr ps.toList fun ps => (match (lookT T t).d with
      | .struct _ => (match (lookT T t).zero with
        | .agg ⟨z⟩ => (match fillL (lookT T t).offs ps z with | some cs => K (.agg ⟨cs⟩) H | none => False)
        | _ => False)
      | _ => OthP c o fr H fun v => K v H)
  | .nilCheck x => evK fr x fun x => (match x with
      | .pointer (some _) => K x H
      | .func (.func _) _ _ => K x H
      | _ => False)
  | .load t a => evK fr a fun a => (match (lookT T t).d with | .invalid => False | _ => Ld c H a (aggN (lookT T t)) fun v => K v H)
  | .makeFunc fn first captured => evLK fr first.toList fun fs => evLK fr captured.toList fun cs => K (.func fn ⟨fs⟩ ⟨cs⟩) H
  | .store t a x => (match m with | .quiet => False | _ => evK fr a fun a => evK fr x fun x => (match lookT T t with | ⟨d, _, sz, _, _⟩ => (match d with | .invalid => False | _ => Sto c H a x sz fun H' => K undef H')))
  | .alloc t => (match m with | .quiet => False | _ => (match (lookT T t).d with | .invalid => False | _ => (match (lookT T t).zero.cells with | ⟨z⟩ => Alc z t H K)))
  | .box t x => (match m with | .quiet => False | _ => evK fr x fun x => (match x.cells with | ⟨z⟩ => Alc z t H K))
  | .call ca => (match ca.callee with
      | .value f => evK fr f fun f => evLK fr ca.args.toList fun ar => (match f with
        | .func (.func id) ⟨first⟩ ⟨cap⟩ => (match m with
          | .plain => CallK c false id (first ++ ar ++ cap) H K
          | .act => CallK c true id (first ++ ar ++ cap) H K
          | .wact => CallK c false id (first ++ ar ++ cap) H K
          | .quiet => CallQ c id (first ++ ar ++ cap) H fun v => K v H)
        | .func (.yield l) ⟨[]⟩ ⟨[]⟩ => (match m with | .plain => YldK c l ar H K | _ => False)
        | _ => False)
      | .invoke _ _ => False
      | .builtin .len => evLK fr ca.args.toList fun ar => (match ca.argTypes.toList with
        | t :: _ => (match ar, (lookT T t).d with
          | [.string ⟨⟨l⟩⟩], .string => K (.int .i64 l.length) H
          | [.slice _ n _], .slice _ => K (.int .i64 n) H
          | _, _ => OthP c o fr H fun v => K v H)
        | [] => False)
      | .builtin .append => (match m with
        | .quiet => False
        | _ => evLK fr ca.args.toList fun ar => (match ca.argTypes.toList, ar with
          | [t, tx], [v, x] => (match (lookT T t).d, (lookT T tx).d with
            | .slice e, .slice _ => (match lookT T e with | ⟨d, z, sz, by', _⟩ => (match d, decide (z.cells.size = sz) with | .invalid, _ => False | _, false => False | _, true => (match isStr x with | false => AppS c v x e sz by' H K | true => False)))
            | .slice e, .string => (match lookT T e with | ⟨d, z, sz, by', _⟩ => (match d, decide (z.cells.size = 1), decide (sz = 1) with | .int .u8, true, true => (match isStr x with | true => AppS c v x e 1 by' H K | false => False) | _, _, _ => False))
            | _, _ => False)
          | _, _ => False))
      | .builtin _ => (match wr o.op with
        | true => (match m with | .quiet => False | .plain => Oth c false o fr H K | .act => Oth c (!wr o.op) o fr H K | .wact => Oth c false o fr H K)
        | false => OthP c o fr H fun v => K v H))
  | .buildSlice t n ps => (match m with
      | .quiet => False
      | _ => evPK fr ps.toList fun ps => (match (lookT T t).d with
        | .slice e => (match lookT T e with | ⟨d, z, sz, _, _⟩ => (match d, z.cells with
          | .invalid, _ => False
          | _, ⟨z⟩ => (match decide (z.length = sz) with
            | false => False
            | true => (match fillL ((List.range n).map fun i => (i * sz, sz)) ps (List.replicate n z).flatten with
              | some cs => BSl cs e sz n H K
              | none => False))))
        | _ => False))
  | .makeSlice .. => (match m with | .quiet => False | .plain => Oth c false o fr H K | .act => Oth c (!wr o.op) o fr H K | .wact => Oth c false o fr H K)
  | .range .. => (match m with | .quiet => False | .plain => Oth c false o fr H K | .act => Oth c (!wr o.op) o fr H K | .wact => Oth c false o fr H K)
  | .makeMap .. => (match m with | .quiet => False | .plain => Oth c false o fr H K | .act => Oth c (!wr o.op) o fr H K | .wact => Oth c false o fr H K)
  | .mapUpdate .. => (match m with | .quiet => False | _ => OthU c o fr H K)
  | .mapEntry .. => (match m with | .quiet => False | .plain => Oth c false o fr H K | .act => Oth c (!wr o.op) o fr H K | .wact => Oth c false o fr H K)
  | .entryStore .. => (match m with | .quiet => False | _ => OthU c o fr H K)
  | .insert .. => (match m with | .quiet => False | _ => OthU c o fr H K)
  | .next .. => (match m with | .quiet => False | .plain => Oth c false o fr H K | .act => Oth c (!wr o.op) o fr H K | .wact => Oth c false o fr H K)
  | .entry .. => OthP c o fr H fun v => K v H
  | .lookup .. => OthP c o fr H fun v => K v H
  | .makeInterface .. => OthP c o fr H fun v => K v H
  | .typeAssert .. => OthP c o fr H fun v => K v H
  | _ => False
end Go.Proofs.YtnaeeklnlddcaaaGreatDoor.Vex
/- A walk by reckoning, part four: each operation does what its words say. No program in sight. -/
namespace Go.Proofs.YtnaeeklnlddcaaaGreatDoor.Vex
open Go Go.RowKit

/-- The operation yields one value, in every world with this heap, and leaves the world alone. -/
def PureD (c : Ctx) (o : Oper) (fr : Fr) (H : Hp) (K : Value → Hp → Prop) : Prop :=
  ∃ v, K v H ∧ ∀ w, St c H w → (execOp (act fr).eval o).run c.P w = .ok (.value v) w

section
variable {c : Ctx} {T : Ty} {m : Md} {fr : Fr} {H : Hp} {K : Value → Hp → Prop} {d : Option Tmp} {ty : TypeId} {pos : String} {after : Array Edge} {gd : Option (Nat × Bool)}

theorem run_vbind {P : Program} {s : Sem Value} {v : Value} {w : World} (h : s.run P w = .ok v w) : (do pure (.value (← s)) : Sem Next).run P w = .ok (.value v) w := by
  simp [h]

theorem run_sizeOf {P : Program} {t : TypeId} {i : TI} (h : TIok P t i) (w : World) : (sizeOf t).run P w = .ok i.size w := by
  obtain ⟨_, h2, _⟩ := h
  cases hi : P.info? t with
  | none => rw [hi] at h2; cases h2
  | some x =>
    rw [hi] at h2
    simp at h2
    simp [sizeOf, typeInfo, hi, h2.2.1]
theorem run_zeroValue {P : Program} {t : TypeId} {i : TI} (h : TIok P t i) (w : World) : (zeroValue t).run P w = .ok i.zero w := by
  obtain ⟨_, h2, _⟩ := h
  cases hi : P.info? t with
  | none => rw [hi] at h2; cases h2
  | some x =>
    rw [hi] at h2
    simp at h2
    simp [zeroValue, typeInfo, hi, h2.1]
theorem run_isAgg {P : Program} {t : TypeId} {i : TI} (h : TIok P t i) (w : World) : (isAgg t).run P w = .ok (aggN i).isSome w := by
  unfold isAgg aggN
  rw [Sem.run_bind, run_underlying h.1]
  cases i.d <;> rfl
theorem aggN_size {i : TI} {n : Nat} (h : aggN i = some n) : n = i.size := by
  unfold aggN at h
  split at h <;> simp_all

theorem p_move (x : Operand) (h : wop c T m ⟨d, .move x, ty, pos, after, gd⟩ fr H K) : PureD c ⟨d, .move x, ty, pos, after, gd⟩ fr H K := by
  simp only [wop, evK_eq] at h
  exact ⟨_, h, fun w _ => rfl⟩
theorem p_assign (x : Operand) (h : wop c T m ⟨d, .assign x, ty, pos, after, gd⟩ fr H K) : PureD c ⟨d, .assign x, ty, pos, after, gd⟩ fr H K := by
  simp only [wop, evK_eq] at h
  exact ⟨_, h, fun w _ => rfl⟩
theorem p_pick (q a b : Operand) (h : wop c T m ⟨d, .pick q a b, ty, pos, after, gd⟩ fr H K) : PureD c ⟨d, .pick q a b, ty, pos, after, gd⟩ fr H K := by
  simp only [wop, evK_eq] at h
  split at h
  · rename_i b' hq
    cases b'
    · exact ⟨_, h, fun w _ => by simp [execOp, hq, asBool]⟩
    · exact ⟨_, h, fun w _ => by simp [execOp, hq, asBool]⟩
  · exact h.elim
theorem p_unOp (op : UnOp) (xt : TypeId) (x : Operand) (h : wop c T m ⟨d, .unOp op xt x, ty, pos, after, gd⟩ fr H K) : PureD c ⟨d, .unOp op xt x, ty, pos, after, gd⟩ fr H K := by
  simp only [wop, evK_eq] at h
  split at h
  · rename_i b hx
    exact ⟨_, h, fun w _ => by simp [execOp, hx, Op.unary]⟩
  · rename_i k a hx
    obtain ⟨r, rfl, hr⟩ := h.ok
    exact ⟨_, hr, fun w _ => by simp [execOp, hx, Op.unary, Op.intArith]⟩
  · exact h.elim
theorem p_extract (x : Operand) (i : Nat) (h : wop c T m ⟨d, .extract x i, ty, pos, after, gd⟩ fr H K) : PureD c ⟨d, .extract x i, ty, pos, after, gd⟩ fr H K := by
  simp only [wop, evK_eq] at h
  split at h
  · rename_i vs hx
    split at h
    · rename_i v hv
      exact ⟨v, h, fun w _ => by simp [execOp, hx, Instr.extract, hv]⟩
    · exact h.elim
  · exact h.elim
theorem some_info {P : Program} {t : TypeId} {i : TI} (h : TIok P t i) : ∃ x, P.info? t = some x ∧ x.zero = some i.zero ∧ x.size = i.size ∧ x.bytes = i.bytes := by
  obtain ⟨_, h2, _⟩ := h
  cases hi : P.info? t with
  | none => rw [hi] at h2; cases h2
  | some x => rw [hi] at h2; simp at h2; exact ⟨x, rfl, h2⟩
theorem p_fieldAddr (hT : TOk c.P T) (s : TypeId) (x : Operand) (f : Nat) (h : wop c T m ⟨d, .fieldAddr s x f, ty, pos, after, gd⟩ fr H K) : PureD c ⟨d, .fieldAddr s x f, ty, pos, after, gd⟩ fr H K := by
  simp only [wop, evK_eq] at h
  split at h
  · rename_i a0 hx
    split at h
    · rename_i fs hd
      have hi := lookT_ok hT (t := s) (by rw [hd]; exact fun h => by cases h)
      split at h
      · rename_i p hp
        split at h
        · exact h.elim
        · rename_i n hn
          refine ⟨_, h, fun w _ => ?_⟩
          have h3 := hi.2.2
          rw [hd] at h3
          simp only at h3
          have h4 : (fs.toList.map (fun f => (f.offset, (c.P.info? f.type).map (·.size))))[f]? = some (p.1, some p.2) := by rw [h3]; simp [hp]
          rw [List.getElem?_map] at h4
          cases hf : fs.toList[f]? with
          | none => rw [hf] at h4; cases h4
          | some g =>
            rw [hf] at h4
            simp at h4
            obtain ⟨h4, x', hx', hs⟩ := h4
            have hf' : fs[f]? = some g := by simpa using hf
            have hu := hi.1
            rw [hd] at hu
            generalize (act fr).eval = ρ at *
            simp [execOp, hx, Instr.fieldAt, Sem.run_bind, run_underlying hu, hf', Instr.sureAddr, fieldPlace, sizeOf, typeInfo, hx', hs, hn, h4]
      · exact h.elim
    · exact h.elim
  · exact h.elim
theorem p_index (hT : TOk c.P T) (t : TypeId) (x i : Operand) (h : wop c T m ⟨d, .index t x i, ty, pos, after, gd⟩ fr H K) : PureD c ⟨d, .index t x i, ty, pos, after, gd⟩ fr H K := by
  simp only [wop, evK_eq] at h
  split at h
  · rename_i l k n hx hi
    split at h
    · rename_i hd
      have ht := (lookT_ok hT (t := t) (by rw [hd]; exact fun h => by cases h)).1
      rw [hd] at ht
      obtain ⟨h0, u, hu, hK⟩ := h.ok
      refine ⟨_, hK, fun w _ => ?_⟩
      generalize (act fr).eval = ρ at *
      have hg : (⟨⟨l⟩⟩ : ByteArray)[n.toNat]? = some u := by
        have hlt : n.toNat < l.length := (List.getElem?_eq_some_iff.1 hu).1
        have hlt' : n.toNat < (⟨⟨l⟩⟩ : ByteArray).size := hlt
        rw [getElem?_pos (⟨⟨l⟩⟩ : ByteArray) n.toNat hlt']
        exact congrArg some (List.getElem?_eq_some_iff.1 hu).2
      simp [execOp, hx, hi, Instr.index, Sem.run_bind, run_underlying ht, asIntOf, h0, hg]
    · exact h.elim
  · exact ⟨_, h.ok.choose_spec.1, h.ok.choose_spec.2⟩
theorem p_indexAddr (hT : TOk c.P T) (t : TypeId) (x i : Operand) (h : wop c T m ⟨d, .indexAddr t x i, ty, pos, after, gd⟩ fr H K) : PureD c ⟨d, .indexAddr t x i, ty, pos, after, gd⟩ fr H K := by
  simp only [wop, evK_eq] at h
  split at h
  · rename_i A len cp k n e hx hi hd
    replace h : (match (lookT T e).d with | .invalid => False | _ => IdxA c H A len n (lookT T e).size fun v => K v H) := h
    split at h
    · exact h.elim
    · rename_i he
      have ht := (lookT_ok hT (t := t) (by rw [hd]; exact fun h => by cases h)).1
      rw [hd] at ht
      have hs := run_sizeOf (lookT_ok hT (t := e) he)
      obtain ⟨h0, h1, hA, hK⟩ := h.ok
      refine ⟨_, hK, fun w hw => ?_⟩
      cases A with
      | none => have := hA w hw; cases this
      | some a =>
        generalize (act fr).eval = ρ at *
        simp [execOp, hx, hi, Instr.indexAt, Sem.run_bind, run_underlying ht, asIntOf, h0, h1, hs]
  · exact ⟨_, h.ok.choose_spec.1, h.ok.choose_spec.2⟩
theorem p_nilCheck (x : Operand) (h : wop c T m ⟨d, .nilCheck x, ty, pos, after, gd⟩ fr H K) : PureD c ⟨d, .nilCheck x, ty, pos, after, gd⟩ fr H K := by
  simp only [wop, evK_eq] at h
  split at h
  · rename_i p hx
    exact ⟨_, h, fun w _ => by simp [execOp, hx]⟩
  · rename_i f a b hx
    exact ⟨_, h, fun w _ => by simp [execOp, hx]⟩
  · exact h.elim
theorem p_makeFunc (f : Fn) (a b : Array Operand) (h : wop c T m ⟨d, .makeFunc f a b, ty, pos, after, gd⟩ fr H K) : PureD c ⟨d, .makeFunc f a b, ty, pos, after, gd⟩ fr H K := by
  simp only [wop, evLK_eq] at h
  refine ⟨_, h, fun w _ => ?_⟩
  have e1 : ∀ x : Array Operand, (⟨x.toList.map (act fr).eval⟩ : Array Value) = x.map (act fr).eval := fun x => by
    rw [← Array.toList_inj]; simp
  rw [e1, e1]
  simp only [execOp, Instr.makeFunc]
  rfl
theorem rd_run {P : Program} {t : TypeId} {i : TI} (h : TIok P t i) {w : World} {p : Addr} {v : Value} (hr : Rd w p (aggN i) v) : (loadVar t p).run P w = .ok v w := by
  unfold loadVar
  rw [Sem.run_bind, run_isAgg h]
  cases ha : aggN i with
  | none =>
    rw [ha] at hr
    have hr' : w.cell? p = some v := hr
    simp [load, Sem.run, hr']
  | some n =>
    rw [ha] at hr
    obtain ⟨vs, rfl, hl, hc⟩ := hr
    have hn := aggN_size ha
    have := run_loadCells_list (P := P) w p vs hc
    rw [hl, hn] at this
    simp [Sem.run_bind, run_sizeOf h, this]
theorem p_load (hT : TOk c.P T) (t : TypeId) (a : Operand) (h : wop c T m ⟨d, .load t a, ty, pos, after, gd⟩ fr H K) : PureD c ⟨d, .load t a, ty, pos, after, gd⟩ fr H K := by
  simp only [wop, evK_eq] at h
  split at h
  · exact h.elim
  · rename_i he
    obtain ⟨v, p, ha, hr, hK⟩ := h.ok
    refine ⟨v, hK, fun w hw => ?_⟩
    have := rd_run (lookT_ok hT he) (hr w hw)
    generalize (act fr).eval = ρ at *
    simp [execOp, ha, Instr.loadAt, Instr.sureAddr, this]
theorem p_slice (hT : TOk c.P T) (t : TypeId) (x : Operand) (lo hi mx : Option Operand) (h : wop c T m ⟨d, .slice t x lo hi mx, ty, pos, after, gd⟩ fr H K) : PureD c ⟨d, .slice t x lo hi mx, ty, pos, after, gd⟩ fr H K := by
  simp only [wop, evK_eq] at h
  split at h
  · exact ⟨_, h.ok.choose_spec.1, h.ok.choose_spec.2⟩
  · split at h
    · rename_i l hx hd
      have ht := (lookT_ok hT (t := t) (by rw [hd]; exact fun h => by cases h)).1
      rw [hd] at ht
      have hex : ∀ a b : Nat, (⟨⟨l⟩⟩ : ByteArray).extract a b = ⟨⟨(l.take b).drop a⟩⟩ := fun a b => by
        apply ByteArray.ext
        rw [← Array.toList_inj, Lib.extract_data, List.drop_take]
      have hz : (⟨⟨l⟩⟩ : ByteArray).size = l.length := rfl
      split at h
      · refine ⟨_, h, fun w _ => ?_⟩
        generalize (act fr).eval = ρ at *
        have := hex 0 l.length
        simp at this
        simp [execOp, hx, Instr.sliceAt, Instr.slice, Instr.sliceBounds, Sem.run_bind, run_underlying ht]
      · split at h
        · rename_i k n hn
          obtain ⟨h0, h1, h2, hK⟩ := h.ok
          refine ⟨_, hK, fun w _ => ?_⟩
          generalize (act fr).eval = ρ at *
          simp [execOp, hx, hn, Instr.sliceAt, Instr.slice, Instr.sliceBounds, Instr.sliceBound, asIntOf, Sem.run_bind, run_underlying ht, hz, h0, h1, hex]
        · exact h.elim
      · split at h
        · rename_i k n hn
          obtain ⟨h0, h1, h2, hK⟩ := h.ok
          refine ⟨_, hK, fun w _ => ?_⟩
          generalize (act fr).eval = ρ at *
          simp [execOp, hx, hn, Instr.sliceAt, Instr.slice, Instr.sliceBounds, Instr.sliceBound, asIntOf, Sem.run_bind, run_underlying ht, hz, h1, h2, hex]
        · exact h.elim
      · split at h
        · rename_i k n k' n' hn hn'
          obtain ⟨h0, h1, h2, hK⟩ := h.ok
          refine ⟨_, hK, fun w _ => ?_⟩
          generalize (act fr).eval = ρ at *
          have h3 : (n : Int) ≤ (n'.toNat : Int) := by omega
          have h4 : 0 ≤ n' := by omega
          have h5 : ¬ max n' 0 < n := by omega
          simp [execOp, hx, hn, hn', Instr.sliceAt, Instr.slice, Instr.sliceBounds, Instr.sliceBound, asIntOf, Sem.run_bind, run_underlying ht, hz, h0, h2, h4, h5, hex]
        · exact h.elim
    · rename_i A n cp e hx hd
      have ht := (lookT_ok hT (t := t) (by rw [hd]; exact fun h => by cases h)).1
      rw [hd] at ht
      replace h : (match (lookT T e).d with
          | .invalid => False
          | _ => (match (generalizing := false) lo, hi with
            | none, none => SlcV c H A n cp 0 none (lookT T e).size fun v => K v H
            | some a, none => (match (act fr).eval a with | .int _ a => SlcV c H A n cp a none (lookT T e).size fun v => K v H | _ => False)
            | none, some b => (match (act fr).eval b with | .int _ b => SlcV c H A n cp 0 (some b) (lookT T e).size fun v => K v H | _ => False)
            | some a, some b => (match (act fr).eval a, (act fr).eval b with | .int _ a, .int _ b => SlcV c H A n cp a (some b) (lookT T e).size fun v => K v H | _, _ => False))) := h
      split at h
      · exact h.elim
      · rename_i he
        have hs := run_sizeOf (lookT_ok hT (t := e) he)
        have ite_eq : ∀ (l : Nat) (j : Int), 0 ≤ j → j.toNat = l → (if cp = l then A else A.map (·.add (l * (lookT T e).size))) = (if (cp : Int) = j then A else A.map (·.add (j.toNat * (lookT T e).size))) := fun l j hj hl => by
          subst hl
          by_cases hc : (cp : Int) = j
          · rw [if_pos hc, if_pos (by omega)]
          · rw [if_neg hc, if_neg (by omega)]
        split at h
        · obtain ⟨h0, h1, h2, hK⟩ := h.ok
          refine ⟨_, hK, fun w _ => ?_⟩
          rw [← ite_eq 0 0 (by omega) rfl]
          generalize (act fr).eval = ρ at *
          simp [execOp, hx, Instr.sliceAt, Instr.slice, Instr.sliceBounds, Sem.run_bind, run_underlying ht, hs]
        · split at h
          · rename_i k j hj
            obtain ⟨h0, h1, h2, hK⟩ := h.ok
            simp only [Option.getD_none] at h1
            refine ⟨_, hK, fun w _ => ?_⟩
            rw [← ite_eq j.toNat j h0 rfl]
            generalize (act fr).eval = ρ at *
            simp [execOp, hx, hj, Instr.sliceAt, Instr.slice, Instr.sliceBounds, Instr.sliceBound, asIntOf, Sem.run_bind, run_underlying ht, hs, h0, h1]
          · exact h.elim
        · split at h
          · rename_i k j hj
            obtain ⟨h0, h1, h2, hK⟩ := h.ok
            simp only [Option.getD_some] at h1
            refine ⟨_, hK, fun w hw => ?_⟩
            have h3 := h2 j rfl w hw
            rw [← ite_eq 0 0 (by omega) rfl]
            generalize (act fr).eval = ρ at *
            simp [execOp, hx, hj, Instr.sliceAt, Instr.slice, Instr.sliceBounds, Instr.sliceBound, asIntOf, Sem.run_bind, run_underlying ht, hs, h1, h3]
          · exact h.elim
        · split at h
          · rename_i k j k' j' hj hj'
            obtain ⟨h0, h1, h2, hK⟩ := h.ok
            simp only [Option.getD_some] at h1
            refine ⟨_, hK, fun w hw => ?_⟩
            have h3 := h2 j' rfl w hw
            rw [← ite_eq j.toNat j h0 rfl]
            have h4 : 0 ≤ j' := by omega
            have h5 : ¬ max j' 0 < j := by omega
            have h6 : j ≤ (j'.toNat : Int) := by omega
            generalize (act fr).eval = ρ at *
            simp [execOp, hx, hj, hj', Instr.sliceAt, Instr.slice, Instr.sliceBounds, Instr.sliceBound, asIntOf, Sem.run_bind, run_underlying ht, hs, h0, h3, h4, h5]
          · exact h.elim
    · exact ⟨_, h.ok.choose_spec.1, h.ok.choose_spec.2⟩
theorem beq_toList (a b : List UInt8) : ((⟨⟨a⟩⟩ : ByteArray).toList == (⟨⟨b⟩⟩ : ByteArray).toList) = decide (a = b) := by
  rw [Lib.toList_data, Lib.toList_data]
  show (a == b) = _
  rw [Bool.eq_iff_iff]; simp
theorem run_equal_bool {P : Program} {t : TypeId} (ht : P.underlying t = some .bool) (a b : Bool) (w : World) : (Op.equal t (.bool a) (.bool b)).run P w = .ok (a == b) w := by
  have e : Op.equal t (.bool a) (.bool b) = Op.equalIn (9999 + 1) t (.bool a) (.bool b) := rfl
  rw [e, Op.equalIn, Sem.run_bind, run_underlying ht]
  rfl
theorem run_bool_eq {P : Program} {ρ : Operand → Value} {x y : Operand} {t : TypeId} {yt : TypeId} {a b : Bool} (hx : ρ x = .bool a) (hy : ρ y = .bool b) (ht : P.underlying t = some .bool) (w : World) :
    (execOp ρ ⟨d, .binOp .eql t x y yt, ty, pos, after, gd⟩).run P w = .ok (.value (.bool (a == b))) w := by
  have hg : (eqGuard .eql t x y (.bool a) (.bool b)).run P w = .ok () w := rfl
  have hb : (binOp .eql t (.bool a) (.bool b)).run P w = .ok (.bool (a == b)) w := by
    show (do pure (.bool (← Op.equal t (.bool a) (.bool b))) : Sem Value).run P w = _
    rw [Sem.run_bind, run_equal_bool ht]
    rfl
  simp only [execOp, hx, hy, Sem.run_bind, hg, Result.andThen_ok, hb]
  rfl
theorem run_bool_neq {P : Program} {ρ : Operand → Value} {x y : Operand} {t : TypeId} {yt : TypeId} {a b : Bool} (hx : ρ x = .bool a) (hy : ρ y = .bool b) (ht : P.underlying t = some .bool) (w : World) :
    (execOp ρ ⟨d, .binOp .neq t x y yt, ty, pos, after, gd⟩).run P w = .ok (.value (.bool (!(a == b)))) w := by
  have hg : (eqGuard .neq t x y (.bool a) (.bool b)).run P w = .ok () w := rfl
  have hb : (binOp .neq t (.bool a) (.bool b)).run P w = .ok (.bool (!(a == b))) w := by
    show (do pure (.bool (!(← Op.equal t (.bool a) (.bool b)))) : Sem Value).run P w = _
    rw [Sem.run_bind, run_equal_bool ht]
    rfl
  simp only [execOp, hx, hy, Sem.run_bind, hg, Result.andThen_ok, hb]
  rfl
theorem p_binOp (hT : TOk c.P T) (op : BinOp) (t : TypeId) (x y : Operand) (yt : TypeId) (h : wop c T m ⟨d, .binOp op t x y yt, ty, pos, after, gd⟩ fr H K) : PureD c ⟨d, .binOp op t x y yt, ty, pos, after, gd⟩ fr H K := by
  simp only [wop, evK_eq] at h
  have other : OthP c ⟨d, .binOp op t x y yt, ty, pos, after, gd⟩ fr H (fun v => K v H) → PureD c ⟨d, .binOp op t x y yt, ty, pos, after, gd⟩ fr H K := fun h => ⟨_, h.ok.choose_spec.1, h.ok.choose_spec.2⟩
  unfold wbin at h
  split at h
  · rename_i k a k' b hx hy
    split at h
    · rename_i hk
      have hk := of_decide_eq_true hk
      subst hk
      have run : ∀ {z : Value} {w : World}, (binOp op t (.int k a) (.int k b)).run c.P w = .ok z w → (execOp (act fr).eval ⟨d, .binOp op t x y yt, ty, pos, after, gd⟩).run c.P w = .ok (.value z) w := fun {z w} hz => by
        generalize (act fr).eval = ρ at *
        have hg : (eqGuard op t x y (.int k a) (.int k b)).run c.P w = .ok () w := by
          unfold eqGuard
          split <;> rfl
        simp [execOp, hx, hy, Sem.run_bind, hg, hz]
      have cmp : ∀ {p : Prop} {z : Bool}, Cmp p (fun v => K v H) → (∀ w, (binOp op t (.int k a) (.int k b)).run c.P w = .ok (.bool z) w) → (z = true ↔ p) → PureD c ⟨d, .binOp op t x y yt, ty, pos, after, gd⟩ fr H K :=
        fun hc hz hp => ⟨_, hc.ok _ hp, fun w _ => run (hz w)⟩
      split at h
      · obtain ⟨r, rfl, hr⟩ := h.ok
        exact ⟨_, hr, fun w _ => run (by simp [binOp, Op.intArith])⟩
      · obtain ⟨r, rfl, hr⟩ := h.ok
        exact ⟨_, hr, fun w _ => run (by simp [binOp, Op.intArith])⟩
      · obtain ⟨r, rfl, hr⟩ := h.ok
        exact ⟨_, hr, fun w _ => run (by simp [binOp, Op.intArith])⟩
      · obtain ⟨h0, ⟨_, r, rfl, hr⟩ | ⟨h1, _⟩⟩ := h.ok
        · exact ⟨_, hr, fun w _ => run (by simp [binOp, Op.intDiv, h0])⟩
        · cases h1
      · obtain ⟨h0, ⟨h1, _⟩ | ⟨_, r, rfl, hr⟩⟩ := h.ok
        · cases h1
        · exact ⟨_, hr, fun w _ => run (by simp [binOp, Op.intDiv, h0])⟩
      · unfold wcmp at h
        split at h
        · exact cmp h (fun w => by simp only [binOp, Op.intCmp]; simp) decide_eq_true_iff
        · exact cmp h (fun w => by simp only [binOp, Op.intCmp]; simp) decide_eq_true_iff
        · exact cmp h (fun w => by simp only [binOp, Op.intCmp]; simp) decide_eq_true_iff
        · exact cmp h (fun w => by simp only [binOp, Op.intCmp]; simp) decide_eq_true_iff
        · exact cmp h (fun w => by simp only [binOp, Op.intCmp]; simp) beq_iff_eq
        · exact cmp h (fun w => by simp only [binOp, Op.intCmp]; simp) bne_iff_ne
        · exact other h
    · exact other h
  · rename_i a b hx hy
    have run : ∀ {z : Value} {w : World}, (Op.stringOp op ⟨⟨a⟩⟩ ⟨⟨b⟩⟩).run c.P w = .ok z w → (execOp (act fr).eval ⟨d, .binOp op t x y yt, ty, pos, after, gd⟩).run c.P w = .ok (.value z) w := fun {z w} hz => by
      generalize (act fr).eval = ρ at *
      have hg : (eqGuard op t x y (.string ⟨⟨a⟩⟩) (.string ⟨⟨b⟩⟩)).run c.P w = .ok () w := by
        unfold eqGuard
        split <;> rfl
      have hb : binOp op t (.string ⟨⟨a⟩⟩) (.string ⟨⟨b⟩⟩) = Op.stringOp op ⟨⟨a⟩⟩ ⟨⟨b⟩⟩ := by cases op <;> rfl
      simp [execOp, hx, hy, Sem.run_bind, hg, hb, hz]
    split at h
    · obtain ⟨hl, hK⟩ := h.ok
      refine ⟨_, hK, fun w _ => run ?_⟩
      have e : ((⟨⟨a⟩⟩ : ByteArray) ++ ⟨⟨b⟩⟩) = ⟨⟨a ++ b⟩⟩ := by
        apply ByteArray.ext
        rw [ByteArray.data_append, ← Array.toList_inj, Array.toList_append]
      have hz : ∀ l : List UInt8, (⟨⟨l⟩⟩ : ByteArray).size = l.length := fun l => rfl
      unfold Op.stringOp
      simp only [hz, e]
      rw [if_neg (by show ¬ (_ > (9223372036854775807 : Int)); omega)]
      rfl
    · exact ⟨_, h.ok _ decide_eq_true_iff, fun w _ => run (by unfold Op.stringOp; simp only [beq_toList]; rfl)⟩
    · exact ⟨_, h.ok (!decide (a = b)) (by simp), fun w _ => run (by unfold Op.stringOp; simp only [beq_toList]; rfl)⟩
    · exact other h
  · rename_i a b hx hy
    split at h
    · rename_i hd
      have ht := (lookT_ok hT (t := t) (by rw [hd]; exact fun h => by cases h)).1
      rw [hd] at ht
      exact ⟨_, h.ok _ beq_iff_eq, fun w _ => run_bool_eq hx hy ht w⟩
    · rename_i hd
      have ht := (lookT_ok hT (t := t) (by rw [hd]; exact fun h => by cases h)).1
      rw [hd] at ht
      exact ⟨_, h.ok (!(a == b)) (by simp), fun w _ => run_bool_neq hx hy ht w⟩
    · exact other h
  · exact other h
theorem bytes_row {w : World} {A : Addr} {l : List UInt8} (h : ∀ (j : Nat) (x : UInt8), l[j]? = some x → w.cell? (A.add j) = some (byteV x)) : ∀ (j : Nat) (hj : j < l.length), w.cell? (A.add j) = some (.int .u8 (l[j].toNat : Int)) :=
  fun j hj => h j l[j] (List.getElem?_eq_getElem hj)
/-- A conversion: plain, or of a text to bytes, or by its own law. -/
theorem p_convert (hT : TOk c.P T) (src dst : TypeId) (x : Operand) (h : wop c T m ⟨d, .convert src dst x, ty, pos, after, gd⟩ fr H K) :
    PureD c ⟨d, .convert src dst x, ty, pos, after, gd⟩ fr H K ∨
    ((match m with | .quiet => False | _ => True) ∧ ∃ l e s, (act fr).eval x = str l ∧ (c.P.underlying src = some s) ∧ c.P.underlying dst = some (.slice e) ∧ c.P.underlying e = some (.int .u8) ∧ S2B l e H K) ∨
    ∃ b, Oth c b ⟨d, .convert src dst x, ty, pos, after, gd⟩ fr H K ∧ (match m with | .quiet => False | .plain => b = false | .act => b = true | .wact => b = false) := by
  simp only [wop, evK_eq] at h
  split at h
  · rename_i k k' n hd hx
    left
    split at h
    · exact h.elim
    · rename_i hs
      have ht := (lookT_ok hT (t := dst) (by rw [hd]; exact fun h => by cases h)).1
      rw [hd] at ht
      have hs := (lookT_ok hT (t := src) hs).1
      obtain ⟨r, rfl, hr⟩ := h.ok
      refine ⟨_, hr, fun w _ => ?_⟩
      generalize (act fr).eval = ρ at *
      simp [execOp, hx, Sem.run_bind, convert, run_underlying ht, run_underlying hs, Conv.intToInt]
  · rename_i s hd hx
    left
    split at h
    · exact h.elim
    · rename_i hs
      have ht := (lookT_ok hT (t := dst) (by rw [hd]; exact fun h => by cases h)).1
      rw [hd] at ht
      have hs := (lookT_ok hT (t := src) hs).1
      refine ⟨_, h, fun w _ => ?_⟩
      generalize (act fr).eval = ρ at *
      simp [execOp, hx, Sem.run_bind, convert, run_underlying ht, run_underlying hs]
  · rename_i A n cp hd hx
    left
    have ht := (lookT_ok hT (t := dst) (by rw [hd]; exact fun h => by cases h)).1
    rw [hd] at ht
    split at h
    · rename_i e hs
      have hsu := (lookT_ok hT (t := src) (by rw [hs]; exact fun h => by cases h)).1
      rw [hs] at hsu
      split at h
      · rename_i he
        have heu := (lookT_ok hT (t := e) (by rw [he]; exact fun h => by cases h)).1
        rw [he] at heu
        obtain ⟨l, rfl, hr, hK⟩ := h.ok
        refine ⟨_, hK, fun w hw => ?_⟩
        have hb := hr w hw
        cases A with
        | none =>
          have hl : l = [] := by
            cases l with
            | nil => rfl
            | cons y l => obtain ⟨a, ha, _⟩ := hb 0 y rfl; cases ha
          subst hl
          generalize (act fr).eval = ρ at *
          simp [execOp, hx, Sem.run_bind, convert, run_underlying ht, run_underlying hsu, run_underlying heu, Conv.bytesToString]
          rfl
        | some a =>
          have hb' : ∀ (j : Nat) (x : UInt8), l[j]? = some x → w.cell? (a.add j) = some (byteV x) := fun j x hj => by
            obtain ⟨a', ha, hc⟩ := hb j x hj
            cases ha
            exact hc
          have := run_convert_bytes_back (P := c.P) w src dst e a cp l hsu heu ht (bytes_row hb')
          generalize (act fr).eval = ρ at *
          simp only [execOp, hx, Sem.run_bind, this, Result.andThen_ok, Sem.run_pure]
      · exact ⟨_, h.ok.choose_spec.1, h.ok.choose_spec.2⟩
    · exact ⟨_, h.ok.choose_spec.1, h.ok.choose_spec.2⟩
  · exact .inl ⟨_, h.ok.choose_spec.1, h.ok.choose_spec.2⟩
  · rename_i e l hd hx
    right; left
    split at h
    · rename_i hs he
      have ht := (lookT_ok hT (t := dst) (by rw [hd]; exact fun h => by cases h)).1
      rw [hd] at ht
      have hsu := (lookT_ok hT (t := src) (by rw [hs]; exact fun h => by cases h)).1
      rw [hs] at hsu
      have heu := (lookT_ok hT (t := e) (by rw [he]; exact fun h => by cases h)).1
      rw [he] at heu
      cases m with
      | quiet => exact h.elim
      | plain => exact ⟨trivial, l, e, _, hx, hsu, ht, heu, h⟩
      | act => exact ⟨trivial, l, e, _, hx, hsu, ht, heu, h⟩
      | wact => exact ⟨trivial, l, e, _, hx, hsu, ht, heu, h⟩
    · exact h.elim
  · right; right
    cases m with
    | quiet => exact h.elim
    | plain => exact ⟨_, h, rfl⟩
    | act => exact ⟨_, h, rfl⟩
    | wact => exact ⟨_, h, rfl⟩
end
end Go.Proofs.YtnaeeklnlddcaaaGreatDoor.Vex
/- A walk by reckoning, part five: operations that write, make memory or call; all of them together. No program in sight. -/
namespace Go.Proofs.YtnaeeklnlddcaaaGreatDoor.Vex
open Go Go.RowKit

section
variable {c : Ctx} {T : Ty} {m : Md} {fr : Fr} {H : Hp} {K : Value → Hp → Prop} {d : Option Tmp} {ty : TypeId} {pos : String} {after : Array Edge} {gd : Option (Nat × Bool)}

theorem p_field (hT : TOk c.P T) (s : TypeId) (x : Operand) (f : Nat) (h : wop c T m ⟨d, .field s x f, ty, pos, after, gd⟩ fr H K) : PureD c ⟨d, .field s x f, ty, pos, after, gd⟩ fr H K := by
  simp only [wop, evK_eq] at h
  split at h
  · rename_i cs hx
    split at h
    · rename_i fs hd
      have ht := (lookT_ok hT (t := s) (by rw [hd]; exact fun h => by cases h)).1
      rw [hd] at ht
      split at h
      · rename_i g hg
        have hg' : fs[f]? = some g := by simpa using hg
        split at h
        · exact h.elim
        · rename_i hgd
          have hgt := lookT_ok hT hgd
          have base : ∀ {v : Value} {w : World}, (part g.type ⟨cs⟩ g.offset).run c.P w = .ok v w → (execOp (act fr).eval ⟨d, .field s x f, ty, pos, after, gd⟩).run c.P w = .ok (.value v) w := fun {v w} hv => by
            generalize (act fr).eval = ρ at *
            simp [execOp, hx, Instr.field, Sem.run_bind, run_underlying ht, hg', asAgg, hv]
          unfold partK at h
          split at h
          · rename_i n hn
            have hn2 := aggN_size hn
            subst hn2
            refine ⟨_, h, fun w _ => base ?_⟩
            unfold part
            rw [Sem.run_bind, run_isAgg hgt, hn]
            have e : (⟨cs⟩ : Array Value).extract g.offset (g.offset + (lookT T g.type).size) = ⟨(cs.drop g.offset).take (lookT T g.type).size⟩ := by
              rw [← Array.toList_inj, Array.toList_extract]
              simp [List.extract_eq_take_drop]
            simp [run_sizeOf hgt]
          · rename_i hn
            split at h
            · rename_i v hv
              refine ⟨_, h, fun w _ => base ?_⟩
              unfold part
              rw [Sem.run_bind, run_isAgg hgt, hn]
              simp [hv]
            · exact h.elim
      · exact h.elim
    · exact h.elim
  · exact h.elim

theorem splice_fold : ∀ (cs z : List Value) (off k : Nat), off + k + cs.length ≤ z.length → (cs.zipIdx k).foldl (fun (acc : Array Value) p => acc.setIfInBounds (off + p.2) p.1) ⟨z⟩ = ⟨z.take (off + k) ++ cs ++ z.drop (off + k + cs.length)⟩
  | [], z, off, k, _ => by simp
  | x :: r, z, off, k, h => by
    simp only [List.length_cons] at h
    rw [List.zipIdx_cons, List.foldl_cons]
    have e : (⟨z⟩ : Array Value).setIfInBounds (off + k) x = ⟨z.set (off + k) x⟩ := by rw [← Array.toList_inj]; simp
    rw [e, splice_fold r (z.set (off + k) x) off (k + 1) (by rw [List.length_set]; omega)]
    congr 1
    have e1 : (z.set (off + k) x).take (off + (k + 1)) = z.take (off + k) ++ [x] := by
      rw [show off + (k + 1) = off + k + 1 by omega, List.take_succ_eq_append_getElem (by rw [List.length_set]; omega), List.take_set_of_le (Nat.le_refl _)]
      simp
    have e2 : (z.set (off + k) x).drop (off + (k + 1) + r.length) = z.drop (off + k + (r.length + 1)) := by
      rw [List.drop_set_of_lt (by omega)]
      congr 1; omega
    rw [e1, e2]
    simp
theorem fill_eq (offs : List (Nat × Nat)) (place : Nat → Option (Nat × Nat)) (hp : ∀ i p, offs[i]? = some p → place i = some p) : ∀ (ps : List (Nat × Value)) (z cs : List Value), fillL offs ps z = some cs → Instr.fill place ⟨z⟩ ps = some ⟨cs⟩
  | [], z, cs, h => by
    simp only [fillL, Option.some.injEq] at h
    subst h; rfl
  | (i, v) :: r, z, cs, h => by
    unfold fillL at h
    split at h
    · rename_i o s ho
      split at h
      rename_i vs hv
      split at h
      · rename_i hd
        have hd := of_decide_eq_true hd
        unfold Instr.fill
        rw [hp i _ ho]
        simp only
        have hz : v.cells.size = vs.length := by rw [hv]; rfl
        rw [if_neg (by rw [hz]; simp; exact ⟨hd.1, by omega⟩)]
        have e : v.cells.zipIdx.foldl (fun cs (x : Value × Nat) => cs.setIfInBounds (o + x.2) x.1) (⟨z⟩ : Array Value) = ⟨z.take o ++ vs ++ z.drop (o + s)⟩ := by
          rw [← Array.foldl_toList, Array.toList_zipIdx, hv]
          have := splice_fold vs z o 0 (by omega)
          simp only [Nat.add_zero] at this
          rw [hd.1] at this
          exact this
        have e' : v.cells.zipIdx.foldl (fun cs x => match x with | (c, j) => cs.setIfInBounds (o + j) c) (⟨z⟩ : Array Value) = ⟨z.take o ++ vs ++ z.drop (o + s)⟩ := e
        rw [e']
        exact fill_eq offs place hp r _ cs h
      · cases h
    · cases h
theorem run_places {P : Program} : ∀ (fs : List Field) (offs : List (Nat × Nat)) (w : World), fs.map (fun f => (f.offset, (P.info? f.type).map (·.size))) = offs.map (fun p => (p.1, some p.2)) →
    (fs.mapM fun f => do pure (f.offset, ← sizeOf f.type) : Sem (List (Nat × Nat))).run P w = .ok offs w
  | [], [], w, _ => rfl
  | [], _ :: _, w, h => by cases h
  | _ :: _, [], w, h => by cases h
  | f :: fs, p :: offs, w, h => by
    simp only [List.map_cons, List.cons.injEq, Prod.mk.injEq] at h
    obtain ⟨⟨h1, h2⟩, h3⟩ := h
    have ih := run_places fs offs w h3
    have hs : (sizeOf f.type).run P w = .ok p.2 w := by
      cases hi : P.info? f.type with
      | none => rw [hi] at h2; cases h2
      | some x => rw [hi] at h2; simp at h2; simp [sizeOf, typeInfo, hi, h2]
    rw [List.mapM_cons]
    simp only [Sem.run_bind, hs, Result.andThen_ok, ih, Sem.run_pure]
    rw [h1]
theorem p_build (hT : TOk c.P T) (t : TypeId) (ps : Array (Nat × Operand)) (h : wop c T m ⟨d, .build t ps, ty, pos, after, gd⟩ fr H K) : PureD c ⟨d, .build t ps, ty, pos, after, gd⟩ fr H K := by
  simp only [wop, evPK_eq] at h
  split at h
  · rename_i fs hd
    have hi := lookT_ok hT (t := t) (by rw [hd]; exact fun h => by cases h)
    split at h
    · rename_i z hz
      split at h
      · rename_i cs hcs
        refine ⟨_, h, fun w _ => ?_⟩
        have hu := hi.1
        rw [hd] at hu
        have h3 := hi.2.2
        rw [hd] at h3
        have hzv := run_zeroValue hi (w := w)
        rw [hz] at hzv
        have hpl : (fs.mapM fun f => do pure (f.offset, ← sizeOf f.type) : Sem (Array (Nat × Nat))).run c.P w = .ok ⟨(lookT T t).offs⟩ w := by
          have := run_places (P := c.P) fs.toList (lookT T t).offs w h3
          rw [Array.mapM_eq_mapM_toList, Sem.run_map, this]
          rfl
        have hf := fill_eq (lookT T t).offs (fun i => (⟨(lookT T t).offs⟩ : Array (Nat × Nat))[i]?) (fun i p h => by simpa using h) _ z cs hcs
        have e : (ps.map fun (x : Nat × Operand) => (x.1, (act fr).eval x.2)).toList = ps.toList.map fun p => (p.1, (act fr).eval p.2) := by simp
        have hb : (Instr.build t (ps.map fun (i, x) => (i, (act fr).eval x))).run c.P w = .ok (.agg ⟨cs⟩) w := by
          unfold Instr.build
          have e2 : (Array.map (fun x => match x with | (i, x) => (i, (act fr).eval x)) ps).toList = ps.toList.map fun p => (p.1, (act fr).eval p.2) := by simp
          simp only [Sem.run_bind, hzv, Result.andThen_ok, run_underlying hu, hpl, Value.cells, e2, hf, Sem.run_pure]
        simp only [execOp, Sem.run_bind, hb, Result.andThen_ok, Sem.run_pure]
      · exact h.elim
    · exact h.elim
  · exact ⟨_, h.ok.choose_spec.1, h.ok.choose_spec.2⟩

/-- What is asked of an operation's outcome. -/
def Good (c : Ctx) (r : Bool) (w : World) (K : Value → Hp → Prop) : Result Next → Prop
  | .ok (.value v) w' => ∃ H', St c H' w' ∧ K v H' ∧ (r = true → R w w')
  | .ok .skip w' => ∃ H', St c H' w' ∧ K undef H' ∧ (r = true → R w w')
  | .ok (.enter f args) w' => w' = w ∧ Calls c.P f args w (fun e w'' => ∃ v H', e = .returned v ∧ St c H' w'' ∧ K v H' ∧ (r = true → R w w''))
  | _ => False
def rOf (m : Md) (op : Op) : Bool := match m with | .act => !wr op | _ => false
def GoodD (c : Ctx) (m : Md) (o : Oper) (fr : Fr) (H : Hp) (K : Value → Hp → Prop) : Prop :=
  ∀ w, St c H w → Good c (rOf m o.op) w K ((execOp (act fr).eval o).run c.P w)
/-- .. of a quiet one. -/
def QuietD (c : Ctx) (o : Oper) (fr : Fr) (H : Hp) (K : Value → Hp → Prop) : Prop :=
  ∃ v, K v H ∧ ∀ w, St c H w → Quiet1 c.P o (act fr) w v
/-- Either, by the mode. -/
def Did (c : Ctx) (m : Md) (o : Oper) (fr : Fr) (H : Hp) (K : Value → Hp → Prop) : Prop := match m with
  | .quiet => QuietD c o fr H K
  | m => GoodD c m o fr H K
theorem PureD.did {o : Oper} (h : PureD c o fr H K) : Did c m o fr H K := by
  obtain ⟨v, hK, hr⟩ := h
  cases m with
  | quiet => exact ⟨v, hK, fun w hw => by unfold Quiet1; rw [hr w hw]; exact ⟨rfl, rfl⟩⟩
  | plain => exact fun w hw => by rw [hr w hw]; exact ⟨H, hw, hK, fun _ => R.refl _⟩
  | act => exact fun w hw => by rw [hr w hw]; exact ⟨H, hw, hK, fun _ => R.refl _⟩
  | wact => exact fun w hw => by rw [hr w hw]; exact ⟨H, hw, hK, fun _ => R.refl _⟩
theorem OthP.did {o : Oper} (h : OthP c o fr H fun v => K v H) : Did c m o fr H K := PureD.did ⟨_, h.ok.choose_spec.1, h.ok.choose_spec.2⟩
theorem Oth.good {o : Oper} {b : Bool} (h : Oth c b o fr H K) (hb : rOf m o.op = true → b = true) : GoodD c m o fr H K := fun w hw => by
  obtain ⟨v, w', H', hr, hs, hK, hR⟩ := h.ok w hw
  rw [hr]
  exact ⟨H', hs, hK, fun h => hR (hb h)⟩
theorem othU_did {o : Oper} (hw : wr o.op = true) (h : match m with | .quiet => False | _ => OthU c o fr H K) : Did c m o fr H K := by
  have key : OthU c o fr H K → rOf m o.op = false → GoodD c m o fr H K := fun h hr w hw => by
    obtain ⟨w', H', hrun, hs, hK⟩ := h.ok w hw
    rw [hrun]
    exact ⟨H', hs, hK, fun h => by rw [hr] at h; cases h⟩
  cases m with
  | quiet => exact h.elim
  | plain => exact key h rfl
  | act => exact key h (by unfold rOf; rw [hw]; rfl)
  | wact => exact key h rfl
theorem oth_did {o : Oper} (h : match m with | .quiet => False | .plain => Oth c false o fr H K | .act => Oth c (!wr o.op) o fr H K | .wact => Oth c false o fr H K) : Did c m o fr H K := by
  cases m with
  | quiet => exact h.elim
  | plain => exact Oth.good (m := .plain) h (fun h => h)
  | act => exact Oth.good (m := .act) h (fun h => h)
  | wact => exact Oth.good (m := .wact) h (fun h => h)

theorem d_store (hT : TOk c.P T) (t : TypeId) (a x : Operand) (h : wop c T m ⟨d, .store t a x, ty, pos, after, gd⟩ fr H K) : Did c m ⟨d, .store t a x, ty, pos, after, gd⟩ fr H K := by
  have key : (evK fr a fun a => evK fr x fun x => (match lookT T t with | ⟨d, _, sz, _, _⟩ => (match d with | .invalid => False | _ => Sto c H a x sz fun H' => K undef H'))) → (m = .act → wr (.store t a x) = true) → GoodD c m ⟨d, .store t a x, ty, pos, after, gd⟩ fr H K := by
    intro h hm w hw
    rw [evK_eq, evK_eq] at h
    replace h : (match (lookT T t).d with | .invalid => False | _ => Sto c H ((act fr).eval a) ((act fr).eval x) (lookT T t).size fun H' => K undef H') := h
    split at h
    · exact h.elim
    · rename_i hd
      have hi := lookT_ok hT hd
      obtain ⟨p, H', ha, hsz, hK, _, hst⟩ := h.ok
      obtain ⟨_, w', hr, hs, _⟩ := hst w hw
      have hx : (execOp (act fr).eval ⟨d, .store t a x, ty, pos, after, gd⟩).run c.P w = .ok .skip w' := by
        generalize (act fr).eval = ρ at *
        simp [execOp, ha, Instr.storeAt, Instr.sureAddr, storeVar, Sem.run_bind, run_sizeOf hi, hsz, hr]
      rw [hx]
      refine ⟨H', hs, hK, fun h => ?_⟩
      cases m <;> simp_all [rOf]
  cases m with
  | quiet => exact h.elim
  | plain => exact key h (fun h => by cases h)
  | act => exact key h (fun _ => rfl)
  | wact => exact key h (fun h => by cases h)
theorem d_alloc (hT : TOk c.P T) (t : TypeId) (h : wop c T m ⟨d, .alloc t, ty, pos, after, gd⟩ fr H K) : Did c m ⟨d, .alloc t, ty, pos, after, gd⟩ fr H K := by
  have key : (match (lookT T t).d with | .invalid => False | _ => (match (lookT T t).zero.cells with | ⟨z⟩ => Alc z t H K)) → GoodD c m ⟨d, .alloc t, ty, pos, after, gd⟩ fr H K := by
    intro h w hw
    split at h
    · exact h.elim
    · rename_i hd
      have hi := lookT_ok hT hd
      split at h
      rename_i z hz
      have hx : (execOp (act fr).eval ⟨d, .alloc t, ty, pos, after, gd⟩).run c.P w = .ok (.value (.pointer (some ⟨w.heap.size, 0, none⟩))) (w.alloc (.cells ⟨z⟩ t)) := by
        simp [execOp, Instr.alloc, Sem.run_bind, run_zeroValue hi, newVar, newRow, newObj, Sem.run, hz]
      rw [hx]
      exact ⟨_, hw.alloc z t, h.ok _, fun _ => (Below.refl _ _).alloc (Nat.le_refl _) _⟩
  cases m with
  | quiet => exact h.elim
  | plain => exact key h
  | act => exact key h
  | wact => exact key h
theorem d_box (t : TypeId) (x : Operand) (h : wop c T m ⟨d, .box t x, ty, pos, after, gd⟩ fr H K) : Did c m ⟨d, .box t x, ty, pos, after, gd⟩ fr H K := by
  have key : (evK fr x fun x => (match x.cells with | ⟨z⟩ => Alc z t H K)) → GoodD c m ⟨d, .box t x, ty, pos, after, gd⟩ fr H K := by
    intro h w hw
    simp only [evK_eq] at h
    have hx : (execOp (act fr).eval ⟨d, .box t x, ty, pos, after, gd⟩).run c.P w = .ok (.value (.pointer (some ⟨w.heap.size, 0, none⟩))) (w.alloc (.cells ((act fr).eval x).cells t)) := by
      generalize (act fr).eval = ρ at *
      simp [execOp, Instr.box, newVar, newRow, newObj, Sem.run]
    rw [hx]
    exact ⟨_, hw.alloc ((act fr).eval x).cells.toList t, h.ok _, fun _ => (Below.refl _ _).alloc (Nat.le_refl _) _⟩
  cases m with
  | quiet => exact h.elim
  | plain => exact key h
  | act => exact key h
  | wact => exact key h
/-! ## Rows of bytes and others -/
theorem setCells_fields (g : Nat) : ∀ (vs : List Value) (o : Nat) (w : World), (w.setCells g o vs).os = w.os ∧ (w.setCells g o vs).tape = w.tape ∧ (w.setCells g o vs).output = w.output ∧ (w.setCells g o vs).heap.size = w.heap.size ∧ ∀ k, k ≠ g → (w.setCells g o vs).heap[k]? = w.heap[k]?
  | [], _, _ => ⟨rfl, rfl, rfl, rfl, fun _ _ => rfl⟩
  | v :: r, o, w => by
    obtain ⟨h1, h2, h3, h4, h5⟩ := setCells_fields g r (o + 1) (w.setCell ⟨g, o, none⟩ v)
    refine ⟨h1, h2, h3, h4.trans (by simp [World.setCell]), fun k hk => (h5 k hk).trans (Below.heap_setCell _ _ _ _ hk)⟩
theorem heap_setCells (g e : Nat) (fz : Nat × Nat) : ∀ (vs : List Value) (o : Nat) (cur : List Value) (w : World), w.heap[g]? = some (.cells ⟨cur⟩ e fz) → o + vs.length ≤ cur.length →
    (w.setCells g o vs).heap[g]? = some (.cells ⟨cur.take o ++ vs ++ cur.drop (o + vs.length)⟩ e fz)
  | [], o, cur, w, h, _ => by simpa [World.setCells] using h
  | v :: r, o, cur, w, h, hl => by
    simp only [List.length_cons] at hl
    have h1 : (w.setCell ⟨g, o, none⟩ v).heap[g]? = some (.cells ⟨cur.set o v⟩ e fz) := by
      simp only [World.setCell, Array.getElem?_modify, if_true, h, Option.map_some]
      simp
    rw [World.setCells, heap_setCells g e fz r (o + 1) (cur.set o v) _ h1 (by rw [List.length_set]; omega)]
    congr 3
    have e1 : (cur.set o v).take (o + 1) = cur.take o ++ [v] := by
      rw [List.take_succ_eq_append_getElem (by rw [List.length_set]; omega), List.take_set_of_le (Nat.le_refl _)]
      simp
    have e2 : (cur.set o v).drop (o + 1 + r.length) = cur.drop (o + (r.length + 1)) := by
      rw [List.drop_set_of_lt (by omega)]
      congr 1; omega
    rw [e1, e2]
    simp

theorem d_s2b {o : Oper} {src dst : TypeId} {x : Operand} (ho : o.op = .convert src dst x) {l : List UInt8} {e : Nat} {s : TypeDesc} (hx : (act fr).eval x = str l) (hs : c.P.underlying src = some s) (hd : c.P.underlying dst = some (.slice e)) (he : c.P.underlying e = some (.int .u8))
    (h : S2B l e H K) (hm : m = .quiet → False) : Did c m o fr H K := by
  have key : GoodD c m o fr H K := by
    intro w hw
    obtain ⟨hl, hK⟩ := h.ok
    have hr := Lib.run_convert_string_bytes (P := c.P) w src dst e ⟨⟨l⟩⟩ hs hd he
    have hrun : (execOp (act fr).eval o).run c.P w = .ok (.value (.slice (some ⟨w.heap.size, 0, none⟩) l.length (grownCap w l.length 0 e))) (Lib.bytesWorld w e ⟨⟨l⟩⟩) := by
      have hr' : (convert src dst (str l)).run c.P w = .ok (.slice (some ⟨w.heap.size, 0, none⟩) l.length (grownCap w l.length 0 e)) (Lib.bytesWorld w e ⟨⟨l⟩⟩) := hr
      generalize (act fr).eval = ρ at *
      simp only [execOp, ho, hx, Sem.run_bind, hr', Result.andThen_ok, Sem.run_pure]
    rw [hrun]
    have hge := grownCap_ge w l.length 0 e
    have hcs : (Lib.bytesCells w e ⟨⟨l⟩⟩).size = grownCap w l.length 0 e := by
      have hz : (⟨⟨l⟩⟩ : ByteArray).size = l.length := rfl
      simp [Lib.bytesCells, hz]; omega
    have hR : R w (Lib.bytesWorld w e ⟨⟨l⟩⟩) := ⟨rfl, rfl, rfl, by rw [Lib.bytesWorld_size]; omega, fun k hk => Lib.bytesWorld_at_old w e _ k hk⟩
    refine ⟨_, (hw.below hR).push (x := .row (.slice (some ⟨w.heap.size, 0, none⟩) l.length (grownCap w l.length 0 e)) e 1 l.length (l.map byteV)) ⟨by simp, .inr ⟨w.heap.size, _, _, _, rfl, Lib.bytesWorld_at_new w e _, hge, grownCap_le_maxLen w _ _ e (by simp only [maxLen]; omega), by rw [hcs]; simp, ?_, .inr (Nat.le_refl _)⟩⟩ (fun b e' => ?_) (fun b e' y hy he' => ?_), hK _ _, fun _ => hR⟩
    · simp only [Lib.bytesCells, Array.toList_append, Array.toList_map, Nat.mul_one]
      rw [List.take_append_of_le_length (by simp), List.take_of_length_le (by simp)]
      rfl
    · obtain rfl : w.heap.size = b := Option.some.inj e'
      exact ⟨by rw [Lib.bytesWorld_size]; omega, .inl hw.mod.size⟩
    · obtain rfl : w.heap.size = b := Option.some.inj e'
      have := ((hw.own y hy).2 _ he').1
      omega
  cases m with
  | quiet => exact (hm rfl).elim
  | plain => exact key
  | act => exact key
  | wact => exact key

theorem zero_row (s : Nat) (z : List Value) (hz : z.length = s) : ∀ n : Nat, (List.range (n * s)).map (fun i => z[i % s]!) = (List.replicate n z).flatten
  | 0 => by simp
  | n + 1 => by
    rw [show (n + 1) * s = s + n * s by rw [Nat.add_mul]; omega, List.range_add, List.map_append, List.map_map, List.replicate_succ, List.flatten_cons]
    congr 1
    · apply List.ext_getElem
      · simp [hz]
      · intro i h1 h2
        simp only [List.length_map, List.length_range] at h1
        simp [Nat.mod_eq_of_lt h1, h2]
    · rw [← zero_row s z hz n]
      apply List.map_congr_left
      intro i _
      simp
theorem d_buildSlice (hT : TOk c.P T) (t : TypeId) (n : Nat) (ps : Array (Nat × Operand)) (h : wop c T m ⟨d, .buildSlice t n ps, ty, pos, after, gd⟩ fr H K) : Did c m ⟨d, .buildSlice t n ps, ty, pos, after, gd⟩ fr H K := by
  have key : (evPK fr ps.toList fun ps => (match (lookT T t).d with
        | .slice e => (match lookT T e with | ⟨d, z, sz, _, _⟩ => (match d, z.cells with
          | .invalid, _ => False
          | _, ⟨z⟩ => (match decide (z.length = sz) with
            | false => False
            | true => (match fillL ((List.range n).map fun i => (i * sz, sz)) ps (List.replicate n z).flatten with
              | some cs => BSl cs e sz n H K
              | none => False))))
        | _ => False)) → GoodD c m ⟨d, .buildSlice t n ps, ty, pos, after, gd⟩ fr H K := by
    intro h w hw
    · rw [evPK_eq] at h
      split at h
      · rename_i e hd
        have ht := (lookT_ok hT (t := t) (by rw [hd]; exact fun h => by cases h)).1
        rw [hd] at ht
        replace h : (match (lookT T e).d, (lookT T e).zero.cells with
          | .invalid, _ => False
          | _, ⟨z⟩ => (match decide (z.length = (lookT T e).size) with
            | false => False
            | true => (match fillL ((List.range n).map fun i => (i * (lookT T e).size, (lookT T e).size)) (ps.toList.map fun p => (p.1, (act fr).eval p.2)) (List.replicate n z).flatten with
              | some cs => BSl cs e (lookT T e).size n H K
              | none => False))) := h
        split at h
        · exact h.elim
        · rename_i z hz he
          have hi := lookT_ok hT he
          split at h
          · exact h.elim
          · rename_i hdz
            have hdz := of_decide_eq_true hdz
            split at h
            · rename_i cs hcs
              obtain ⟨hl, h24, hn24, hK⟩ := h.ok
              have hf := fill_eq _ (fun i => some (i * (lookT T e).size, (lookT T e).size)) (fun i p hp => by
                rw [List.getElem?_map] at hp
                cases hr : (List.range n)[i]? with
                | none => rw [hr] at hp; cases hp
                | some j =>
                  rw [hr] at hp
                  obtain ⟨hj, he'⟩ := List.getElem?_eq_some_iff.1 hr
                  simp at he'
                  subst he'
                  simpa using hp) _ _ cs hcs
              have hzc : (lookT T e).zero.cells = ⟨z⟩ := hz
              have hfill : Instr.fill (fun i => some (i * (lookT T e).size, (lookT T e).size)) ((Array.range (n * (lookT T e).size)).map ((if n * (lookT T e).size = 0 then #[] else (⟨z⟩ : Array Value))[· % (if n * (lookT T e).size = 0 then #[] else (⟨z⟩ : Array Value)).size]!)) (ps.toList.map fun p => (p.1, (act fr).eval p.2)) = some ⟨cs⟩ := by
                rw [← hf]
                congr 1
                rw [← Array.toList_inj]
                by_cases h0 : n * (lookT T e).size = 0
                · have := zero_row (lookT T e).size z hdz n
                  rw [h0] at this
                  simp only [List.range_zero, List.map_nil] at this
                  simp [h0, ← this]
                · rw [if_neg h0, ← zero_row (lookT T e).size z hdz n, ← hdz]
                  simp
              have e2 : (Array.map (fun x => match x with | (i, x) => (i, (act fr).eval x)) ps).toList = ps.toList.map fun p => (p.1, (act fr).eval p.2) := by simp
              have hb : (Instr.buildSlice t n (ps.map fun (i, x) => (i, (act fr).eval x))).run c.P w = .ok (.slice (some ⟨w.heap.size, 0, none⟩) n n) (w.alloc (.cells ⟨cs⟩ e)) := by
                unfold Instr.buildSlice
                simp only [Sem.run_bind, run_underlying ht, Result.andThen_ok, run_sizeOf hi, if_neg (show ¬ n * (lookT T e).size > 2 ^ 24 by omega)]
                by_cases h0 : n * (lookT T e).size = 0
                · rw [if_pos h0] at hfill
                  simp only [if_pos h0, Sem.run_pure, Result.andThen_ok, e2, hfill, newRow, newObj, Sem.run_bind, Sem.run]
                  rfl
                · rw [if_neg h0] at hfill
                  simp only [if_neg h0, Sem.run_bind, run_zeroValue hi, hzc, Sem.run_pure, Result.andThen_ok, e2, hfill, newRow, newObj, Sem.run]
                  rfl
              have hx : (execOp (act fr).eval ⟨d, .buildSlice t n ps, ty, pos, after, gd⟩).run c.P w = .ok (.value (.slice (some ⟨w.heap.size, 0, none⟩) n n)) (w.alloc (.cells ⟨cs⟩ e)) := by
                simp only [execOp, Sem.run_bind, hb, Result.andThen_ok, Sem.run_pure]
              rw [hx]
              have hR : R w (w.alloc (.cells ⟨cs⟩ e)) := (Below.refl _ _).alloc (Nat.le_refl _) _
              refine ⟨_, (hw.below hR).push (x := .row (.slice (some ⟨w.heap.size, 0, none⟩) n n) e (lookT T e).size n cs) ⟨hl, .inr ⟨w.heap.size, n, ⟨cs⟩, (0, 0), rfl, heap_alloc_new w _, Nat.le_refl _, by simp only [maxLen]; omega, hl, List.take_of_length_le (by rw [← hl]; exact Nat.le_refl _), .inl (Nat.le_refl _)⟩⟩ (fun b e' => ?_) (fun b e' y hy he' => ?_), hK _, fun _ => hR⟩
              · obtain rfl : w.heap.size = b := Option.some.inj e'
                exact ⟨by simp, .inl hw.mod.size⟩
              · obtain rfl : w.heap.size = b := Option.some.inj e'
                have := ((hw.own y hy).2 _ he').1
                omega
            · exact h.elim
      · exact h.elim
  cases m with
  | quiet => exact h.elim
  | plain => exact key h
  | act => exact key h
  | wact => exact key h
theorem run_append {P : Program} {t tx ty e : TypeId} {i : TI} (ht : P.underlying t = some (.slice e)) (hi : TIok P e i) (hz : i.zero.cells.size = i.size) (_hsz : 0 < i.size) {w : World} {v : Value} {n : Nat} {xs : List Value} (hr : RowH w v e i.size n xs)
    {x : Value} {m : Nat} {news : List Value} (hs : Src P i.size tx x m news w) (h63 : n + m ≤ 9223372036854775807) (hb : (n + m) * i.bytes ≤ 140737488355328) :
    (∃ A cp w', (Builtin.append_ #[t, tx] ty #[v, x]).run P w = .ok (.slice A (n + m) cp) w' ∧ RowH w' (.slice A (n + m) cp) e i.size (n + m) (xs ++ news) ∧
      (Value.slice A (n + m) cp).ownBlock = v.ownBlock ∧ (∀ k, some k ≠ v.ownBlock → k < w.heap.size → w'.heap[k]? = w.heap[k]?) ∧ w'.os = w.os ∧ w'.tape = w.tape ∧ w'.output = w.output ∧ w.heap.size ≤ w'.heap.size) ∨
    ∃ A cp w', (Builtin.append_ #[t, tx] ty #[v, x]).run P w = .ok (.slice A (n + m) cp) w' ∧ RowH w' (.slice A (n + m) cp) e i.size (n + m) (xs ++ news) ∧
      (Value.slice A (n + m) cp).ownBlock = some w.heap.size ∧ R w w' ∧ w.heap.size < w'.heap.size := by
  obtain ⟨x0, hx0, hx1, hx2, hx3⟩ := some_info hi
  have hlen : (xs ++ news).length = (n + m) * i.size := by rw [List.length_append, hr.1, hs.newsLen, Nat.add_mul]
  have grow : ∀ (base : Option Addr) (cap : Nat), cap < n + m → (Builtin.firstCells i.size n (.slice base n cap)).run P w.drew = .ok xs.toArray w.drew → v = .slice base n cap → ∃ A cp w', (Builtin.append_ #[t, tx] ty #[v, x]).run P w = .ok (.slice A (n + m) cp) w' ∧ RowH w' (.slice A (n + m) cp) e i.size (n + m) (xs ++ news) ∧
      (Value.slice A (n + m) cp).ownBlock = some w.heap.size ∧ R w w' ∧ w.heap.size < w'.heap.size := by
    intro base cap hc hf hv
    subst hv
    have hrun := run_append_grow_src (P := P) w t tx ty e x0 i.zero ht hx0 hx1 base n cap xs (by rw [hx2]; exact hf) x m news (by rw [hx2]; exact hs) hc (by omega) (by rw [hx3]; exact growslice_fits hc hb)
    have hge := grownCap_ge w (n + m) cap e
    refine ⟨_, _, _, hrun, ⟨hlen, .inr ⟨w.heap.size, _, _, (0, 0), rfl, heap_alloc_new w.drew _, hge, grownCap_le_maxLen w _ _ e (by simp only [maxLen]; omega), ?_, ?_, .inl (Nat.le_refl _)⟩⟩, rfl, ((Below.refl _ _).drew).alloc (by simp) _, by simp⟩
    · simp only [Array.size_append, List.size_toArray, size_zeroCells, hz, hlen, ← Nat.add_mul]
      congr 1
      omega
    · simp only [Array.toList_append]
      rw [← hlen]
      exact List.take_left
  rcases hr.2 with ⟨rfl, rfl⟩ | ⟨g, cap, cur, fz, rfl, hg, hnc, hcm, hcs, htake, hfz⟩
  · have hx : xs = [] := List.eq_nil_of_length_eq_zero (by simpa using hr.1)
    subst hx
    by_cases hm : m = 0
    · subst hm
      have hn : news = [] := List.eq_nil_of_length_eq_zero (by simpa using hs.newsLen)
      subst hn
      left
      refine ⟨none, 0, w, ?_, ⟨by simp, .inl ⟨rfl, rfl⟩⟩, rfl, fun _ _ _ => rfl, rfl, rfl, rfl, Nat.le_refl _⟩
      have hc := hs.cells
      rw [← hx2] at hc
      rcases hs.kind with ⟨e', hk⟩ | hk <;> simp [Builtin.append_, run_underlying ht, run_underlying hk, sizeOf, typeInfo, hx0, hs.len, hc]
    · right
      exact grow none 0 (by omega) (run_firstCells_none w.drew _ _ _ _) rfl
  · by_cases hroom : n + m ≤ cap
    · left
      have hfit : n * i.size + news.length ≤ cur.size := by rw [hs.newsLen, hcs, ← Nat.add_mul]; exact Nat.mul_le_mul_right _ hroom
      have hrun := run_append_room_src (P := P) w t tx ty e x0 ht hx0 g 0 n cap x m news (by rw [hx2]; exact hs) hroom (fun j hj => by
        rw [cell_of_row w g _ cur e fz hg, hx2]
        simp; omega) (fun j hj => by
        simp only [World.frozen?, hg, hx2]
        simp; omega)
      rw [hx2, Nat.zero_add] at hrun
      have hh := heap_setCells g e fz news (n * i.size) cur.toList w (by simpa using hg) (by simpa using hfit)
      obtain ⟨h1, h2, h3, h4, h5⟩ := setCells_fields g news (n * i.size) w
      refine ⟨_, _, _, hrun, ⟨hlen, .inr ⟨g, cap, _, fz, rfl, hh, hroom, hcm, ?_, ?_, ?_⟩⟩, rfl, fun k hk _ => h5 k (fun e => hk (by rw [e]; rfl)), h1, h2, h3, by rw [h4]; exact Nat.le_refl _⟩
      · simp only [List.size_toArray, List.length_append, List.length_take, List.length_drop, Array.length_toList]
        omega
      · rw [htake, ← hlen]
        exact List.take_left
      · rcases hfz with h | h
        · exact .inl h
        · right
          simp only [List.size_toArray, List.length_append, List.length_take, List.length_drop, Array.length_toList]
          omega
    · right
      refine grow (some ⟨g, 0, none⟩) cap (by omega) ?_ rfl
      refine run_firstCells_some w.drew i.size n ⟨g, 0, none⟩ n cap xs hr.1 fun j u hj => ?_
      have hc : w.drew.heap[g]? = some (.cells cur e fz) := hg
      rw [Addr.add_lit, Nat.zero_add, cell_of_row w.drew g j cur e fz hc]
      have : cur.toList[j]? = some u := by
        rw [← htake, List.getElem?_take] at hj
        split at hj
        · exact hj
        · cases hj
      simpa using this
theorem d_append (hT : TOk c.P T) {args : Array Operand} {ats : Array TypeId} (h : wop c T m ⟨d, .call ⟨.builtin .append, args, ats⟩, ty, pos, after, gd⟩ fr H K) : Did c m ⟨d, .call ⟨.builtin .append, args, ats⟩, ty, pos, after, gd⟩ fr H K := by
  have main : ∀ {t tx e : TypeId} {v x : Value} {sz : Nat}, ats = #[t, tx] → args.map (act fr).eval = #[v, x] → c.P.underlying t = some (.slice e) → ((∃ e', c.P.underlying tx = some (.slice e') ∧ ∃ A n cp, x = .slice A n cp) ∨ (c.P.underlying tx = some .string ∧ sz = 1 ∧ ∃ l, x = str l)) → TIok c.P e (lookT T e) → (lookT T e).size = sz → (lookT T e).zero.cells.size = sz →
      AppS c v x e sz (lookT T e).bytes H K → GoodD c m ⟨d, .call ⟨.builtin .append, args, ats⟩, ty, pos, after, gd⟩ fr H K := by
    intro t tx e v x sz hats hargs ht hkind hi hsz hz h w hw
    subst hsz
    obtain ⟨h0, n, xs, mm, news, H2, hp, hsrc, hnl, h1, h63, hb, hK⟩ := h.ok
    have hw2 := hp w hw
    have hrow : RowH w v e (lookT T e).size n xs := (hw2.own _ (List.mem_cons_self ..)).1
    have hlt := (hw2.own _ (List.mem_cons_self ..)).2
    have hsr : Src c.P (lookT T e).size tx x mm news w := by
      rcases hkind with ⟨e', hk, A, n', cp, rfl⟩ | ⟨hk, hs1, l, rfl⟩
      · obtain ⟨rfl, hc⟩ := hsrc
        cases A with
        | none =>
          have hn : news = [] := by
            cases news with
            | nil => rfl
            | cons u r => obtain ⟨a, ha, _⟩ := hc w hw 0 u rfl; cases ha
          subst hn
          have hm : n' = 0 := by
            simp only [List.length_nil] at hnl
            rcases Nat.mul_eq_zero.1 hnl.symm with h | h
            · exact h
            · omega
          subst hm
          exact Src.ofNil w hk cp
        | some a =>
          refine Src.ofSlice w hk a n' cp news hnl (fun j u hj => ?_) h1
          obtain ⟨a', ha, hcell⟩ := hc w hw j u hj
          cases ha
          exact hcell
      · obtain ⟨rfl, rfl⟩ := hsrc
        rw [hs1]
        exact Src.ofString w hk ⟨⟨l⟩⟩
    have run : ∀ {r : Value} {w' : World}, (Builtin.append_ #[t, tx] ty #[v, x]).run c.P w = .ok r w' → (execOp (act fr).eval ⟨d, .call ⟨.builtin .append, args, ats⟩, ty, pos, after, gd⟩).run c.P w = .ok (.value r) w' := fun {r w'} hr => by
      simp only [execOp, resolve, Sem.run_bind, Sem.run_pure, Result.andThen_ok, invoke, builtin, hargs, hats, hr]
    have hm : rOf m (.call ⟨.builtin .append, args, ats⟩) = true → False := by
      cases m <;> simp [rOf, wr]
    have hrest : St c H2 w := hw2.sub (List.sublist_cons_self _ _)
    have hnin : ∀ b, v.ownBlock = some b → ∀ y ∈ H2, y.blk ≠ some b := fun b hb y hy he => by
      have hap := hw2.apart
      rw [List.filterMap_cons] at hap
      have hvb : (Ent.row v e (lookT T e).size n xs).blk = some b := hb
      rw [hvb] at hap
      exact (List.nodup_cons.1 hap).1 (List.mem_filterMap.2 ⟨y, hy, he⟩)
    rcases run_append (ty := ty) ht hi hz h0 hrow hsr h63 hb with ⟨A, cp, w', hr, hrow', hblk, hfar, hos, htp, hou, hsz'⟩ | ⟨A, cp, w', hr, hrow', hblk, hR, hlt'⟩
    · rw [run hr]
      have hmod : ModW c.M c.w0 w' := ⟨hos.trans hw.mod.os, htp.trans hw.mod.tape, hou.trans hw.mod.output, Nat.le_trans hw.mod.size hsz', fun k hk hM => by
        refine (hfar k (fun e' => ?_) (Nat.lt_of_lt_of_le hk hw.mod.size)).trans (hw.mod.block k hk hM)
        rcases (hlt k e'.symm).2 with h | h
        · omega
        · exact hM h⟩
      have hrest' : St c H2 w' := ⟨hmod, fun y hy => ⟨Ent.holds_of_block (hrest.own y hy).1 fun b hb => hfar b (fun e' => hnin b e'.symm y hy hb) ((hrest.own y hy).2 b hb).1, fun b hb => ⟨Nat.lt_of_lt_of_le ((hrest.own y hy).2 b hb).1 hsz', ((hrest.own y hy).2 b hb).2⟩⟩, hrest.apart⟩
      refine ⟨_, hrest'.push (x := .row (.slice A (n + mm) cp) e (lookT T e).size (n + mm) (xs ++ news)) hrow' (fun b hb => ?_) (fun b hb y hy => ?_), hK A cp, fun h => (hm h).elim⟩
      · have hb' : v.ownBlock = some b := hblk.symm.trans hb
        exact ⟨Nat.lt_of_lt_of_le (hlt b hb').1 hsz', (hlt b hb').2⟩
      · exact hnin b (hblk.symm.trans hb) y hy
    · rw [run hr]
      have hrest' : St c H2 w' := hrest.below hR
      refine ⟨_, hrest'.push (x := .row (.slice A (n + mm) cp) e (lookT T e).size (n + mm) (xs ++ news)) hrow' (fun b hb => ?_) (fun b hb y hy he => ?_), hK A cp, fun h => (hm h).elim⟩
      · obtain rfl : w.heap.size = b := Option.some.inj (hblk.symm.trans hb)
        exact ⟨hlt', .inl hw.mod.size⟩
      · obtain rfl : w.heap.size = b := Option.some.inj (hblk.symm.trans hb)
        have := ((hrest.own y hy).2 _ he).1
        omega
  have key : (evLK fr args.toList fun ar => (match ats.toList, ar with
          | [t, tx], [v, x] => (match (lookT T t).d, (lookT T tx).d with
            | .slice e, .slice _ => (match lookT T e with | ⟨d, z, sz, by', _⟩ => (match d, decide (z.cells.size = sz) with | .invalid, _ => False | _, false => False | _, true => (match isStr x with | false => AppS c v x e sz by' H K | true => False)))
            | .slice e, .string => (match lookT T e with | ⟨d, z, sz, by', _⟩ => (match d, decide (z.cells.size = 1), decide (sz = 1) with | .int .u8, true, true => (match isStr x with | true => AppS c v x e 1 by' H K | false => False) | _, _, _ => False))
            | _, _ => False)
          | _, _ => False)) → GoodD c m ⟨d, .call ⟨.builtin .append, args, ats⟩, ty, pos, after, gd⟩ fr H K := by
    intro h
    rw [evLK_eq] at h
    split at h
    · rename_i t tx v x hats hargs
      have hats' : ats = #[t, tx] := by rw [← Array.toList_inj]; exact hats
      have hargs' : args.map (act fr).eval = #[v, x] := by rw [← Array.toList_inj, Array.toList_map]; exact hargs
      split at h
      · rename_i e e' hd hd'
        have ht := (lookT_ok hT (t := t) (by rw [hd]; exact fun h => by cases h)).1
        rw [hd] at ht
        have htx := (lookT_ok hT (t := tx) (by rw [hd']; exact fun h => by cases h)).1
        rw [hd'] at htx
        replace h : (match (lookT T e).d, decide ((lookT T e).zero.cells.size = (lookT T e).size) with | .invalid, _ => False | _, false => False | _, true => (match isStr x with | false => AppS c v x e (lookT T e).size (lookT T e).bytes H K | true => False)) := h
        split at h
        · exact h.elim
        · exact h.elim
        · rename_i hz he
          have hz := of_decide_eq_true hz
          split at h
          case h_2 => exact h.elim
          rename_i hstr
          have hx : ∃ A n cp, x = .slice A n cp := by
            obtain ⟨_, _, _, _, _, _, _, hs, _⟩ := h.ok
            unfold SrcK at hs
            split at hs
            · exact ⟨_, _, _, rfl⟩
            · cases hstr
            · exact hs.elim
          exact main hats' hargs' ht (.inl ⟨e', htx, hx⟩) (lookT_ok hT he) rfl hz h
      · rename_i e hd hd'
        have ht := (lookT_ok hT (t := t) (by rw [hd]; exact fun h => by cases h)).1
        rw [hd] at ht
        have htx := (lookT_ok hT (t := tx) (by rw [hd']; exact fun h => by cases h)).1
        rw [hd'] at htx
        replace h : (match (lookT T e).d, decide ((lookT T e).zero.cells.size = 1), decide ((lookT T e).size = 1) with | .int .u8, true, true => (match isStr x with | true => AppS c v x e 1 (lookT T e).bytes H K | false => False) | _, _, _ => False) := h
        split at h
        · rename_i he hz hs1
          have hz := of_decide_eq_true hz
          have hs1 := of_decide_eq_true hs1
          split at h
          case h_2 => exact h.elim
          rename_i hstr
          have hx : ∃ l, x = str l := by
            obtain ⟨_, _, _, _, _, _, _, hs, _⟩ := h.ok
            unfold SrcK at hs
            split at hs
            · cases hstr
            · exact ⟨_, rfl⟩
            · exact hs.elim
          exact main hats' hargs' ht (.inr ⟨htx, rfl, hx⟩) (lookT_ok hT (by rw [he]; exact fun h => by cases h)) hs1 hz h
        · exact h.elim
      · exact h.elim
    · exact h.elim
  cases m with
  | quiet => exact h.elim
  | plain => exact key h
  | act => exact key h
  | wact => exact key h
theorem run_call {P : Program} {f : FuncId} {first cap : List Value} {ρ : Operand → Value} {x : Operand} {args : Array Operand} {ats : Array TypeId} (hx : ρ x = .func (.func f) ⟨first⟩ ⟨cap⟩) (hc : Callable P f) (w : World) :
    (execOp ρ ⟨d, .call ⟨.value x, args, ats⟩, ty, pos, after, gd⟩).run P w = .ok (.enter f ⟨first ++ args.toList.map ρ ++ cap⟩) w := by
  obtain ⟨fn, h1, h2, h3⟩ := hc
  have e : ((⟨first⟩ : Array Value) ++ args.map ρ) ++ (⟨cap⟩ : Array Value) = ⟨first ++ args.toList.map ρ ++ cap⟩ := by rw [← Array.toList_inj]; simp
  simp only [execOp, resolve, hx, Deferred.ofValue, invoke, Sem.run_bind, Sem.run_pure, Result.andThen_ok, callFunc, program, Sem.run, h1, h2, h3, e]
  simp
theorem run_callX {P : Program} {f : FuncId} {first cap : List Value} {ρ : Operand → Value} {x : Operand} {args : Array Operand} {ats : Array TypeId} (hx : ρ x = .func (.func f) ⟨first⟩ ⟨cap⟩) (w : World) :
    (execOp ρ ⟨d, .call ⟨.value x, args, ats⟩, ty, pos, after, gd⟩).run P w = (callFunc f ⟨first ++ args.toList.map ρ ++ cap⟩).run P w := by
  have e : ((⟨first⟩ : Array Value) ++ args.map ρ) ++ (⟨cap⟩ : Array Value) = ⟨first ++ args.toList.map ρ ++ cap⟩ := by rw [← Array.toList_inj]; simp
  simp only [execOp, resolve, hx, Deferred.ofValue, invoke, Sem.run_bind, Sem.run_pure, Result.andThen_ok, e]
theorem run_yieldCall {P : Program} {l : Nat} {ρ : Operand → Value} {x : Operand} {args : Array Operand} {ats : Array TypeId} (hx : ρ x = .func (.yield l) ⟨[]⟩ ⟨[]⟩) (w : World) :
    (execOp ρ ⟨d, .call ⟨.value x, args, ats⟩, ty, pos, after, gd⟩).run P w = (Instr.yield l ⟨args.toList.map ρ⟩).run P w := by
  have e : (⟨[]⟩ : Array Value) ++ args.map ρ = ⟨args.toList.map ρ⟩ := by rw [← Array.toList_inj]; simp
  simp only [execOp, resolve, hx, Deferred.ofValue, invoke, Sem.run_bind, Sem.run_pure, Result.andThen_ok, e]
/-- A round is begun. -/
def YieldD (c : Ctx) (o : Oper) (fr : Fr) (H : Hp) (K : Value → Hp → Prop) : Prop := ∀ w, St c H w → ∃ l fn tmps as' body, (execOp (act fr).eval o).run c.P w = .ok (.round l fn tmps as' body) w ∧ RoundIn Fence.wide 0 c.P l fn tmps as' body w fun e w' => ∃ v H', e = .returned v ∧ St c H' w' ∧ K v H'
def Did2 (c : Ctx) (m : Md) (o : Oper) (fr : Fr) (H : Hp) (K : Value → Hp → Prop) : Prop := Did c m o fr H K ∨ (m = .plain ∧ YieldD c o fr H K)
theorem d_call (ca : Call) (h : wop c T m ⟨d, .call ca, ty, pos, after, gd⟩ fr H K) (hT : TOk c.P T) : Did2 c m ⟨d, .call ca, ty, pos, after, gd⟩ fr H K := by
  obtain ⟨callee, args, ats⟩ := ca
  cases callee with
  | invoke r s => exact h.elim
  | value x =>
    simp only [wop, evK_eq, evLK_eq] at h
    split at h
    · rename_i f first cap hx
      refine .inl ?_
      have ext : ∀ {b : Bool} {w : World}, (∃ v w' H', (callFunc f ⟨first ++ args.toList.map (act fr).eval ++ cap⟩).run c.P w = .ok (.value v) w' ∧ St c H' w' ∧ K v H' ∧ (b = true → R w w')) → ∀ r : Bool, (r = true → b = true) → Good c r w K ((execOp (act fr).eval ⟨d, .call ⟨.value x, args, ats⟩, ty, pos, after, gd⟩).run c.P w) := by
        rintro b w ⟨v, w', H', hr, hs, hK, hR⟩ r hrb
        rw [run_callX hx w, hr]
        exact ⟨H', hs, hK, fun h => hR (hrb h)⟩
      cases m with
      | plain =>
        rcases h.go with ⟨hc, hok⟩ | hx'
        · intro w hw
          rw [run_call hx hc]
          exact ⟨rfl, (hok w hw).mono fun e w' ⟨v, H', he, hs, hK, _⟩ => ⟨v, H', he, hs, hK, fun h => by cases h⟩⟩
        · exact fun w hw => ext (hx' w hw) _ (fun h => h)
      | act =>
        rcases h.go with ⟨hc, hok⟩ | hx'
        · intro w hw
          rw [run_call hx hc]
          exact ⟨rfl, (hok w hw).mono fun e w' ⟨v, H', he, hs, hK, hR⟩ => ⟨v, H', he, hs, hK, fun _ => hR rfl⟩⟩
        · exact fun w hw => ext (hx' w hw) _ (fun _ => rfl)
      | wact =>
        rcases h.go with ⟨hc, hok⟩ | hx'
        · intro w hw
          rw [run_call hx hc]
          exact ⟨rfl, (hok w hw).mono fun e w' ⟨v, H', he, hs, hK, _⟩ => ⟨v, H', he, hs, hK, fun h => by cases h⟩⟩
        · exact fun w hw => ext (hx' w hw) _ (fun h => h)
      | quiet =>
        obtain ⟨v, hK, hC⟩ := h.ok
        refine ⟨v, hK, fun w hw => ?_⟩
        unfold Quiet1
        rw [run_call hx h.can]
        exact ⟨rfl, hC w hw⟩
    · rename_i l hx
      cases m with
      | plain =>
        refine .inr ⟨rfl, fun w hw => ?_⟩
        obtain ⟨fn, tmps, as', body, hy, hr⟩ := h.ok w hw
        exact ⟨l, fn, tmps, as', body, (run_yieldCall hx w).trans hy, hr⟩
      | _ => exact h.elim
    · exact h.elim
  | builtin b =>
    refine .inl ?_
    have len : ∀ (h : wop c T m ⟨d, .call ⟨.builtin .len, args, ats⟩, ty, pos, after, gd⟩ fr H K), Did c m ⟨d, .call ⟨.builtin .len, args, ats⟩, ty, pos, after, gd⟩ fr H K := by
      intro h
      simp only [wop, evLK_eq] at h
      have ea : args.map (act fr).eval = ⟨args.toList.map (act fr).eval⟩ := by rw [← Array.toList_inj]; simp
      split at h
      · rename_i t r hat
        have hat' : ats[0]? = some t := by
          have : ats[0]? = ats.toList[0]? := by simp
          rw [this, hat]; rfl
        have run : ∀ {v x : Value} {w : World}, args.toList.map (act fr).eval = [x] → (Builtin.len_ ats ty #[x]).run c.P w = .ok v w → (execOp (act fr).eval ⟨d, .call ⟨.builtin .len, args, ats⟩, ty, pos, after, gd⟩).run c.P w = .ok (.value v) w := fun {v x w} hx hv => by
          simp only [execOp, resolve, Sem.run_bind, Sem.run_pure, Result.andThen_ok, invoke, builtin, ea, hx]
          rw [show (⟨[x]⟩ : Array Value) = #[x] from rfl, hv]
          rfl
        split at h
        · rename_i l ha hd
          have ht := (lookT_ok hT (by rw [hd]; exact fun h => by cases h)).1
          rw [hd] at ht
          refine PureD.did ⟨_, h, fun w _ => run ha ?_⟩
          simp only [Builtin.len_, hat']
          simp [Sem.run_bind, run_underlying ht, goInt]
          rfl
        · rename_i a n cp e ha hd
          have ht := (lookT_ok hT (by rw [hd]; exact fun h => by cases h)).1
          rw [hd] at ht
          refine PureD.did ⟨_, h, fun w _ => run ha ?_⟩
          simp only [Builtin.len_, hat']
          simp [Sem.run_bind, run_underlying ht, goInt]
        · exact OthP.did h
      · exact h.elim
    cases b with
    | len => exact len h
    | append => exact d_append hT h
    | _ => first
      | exact oth_did h
      | exact OthP.did h


theorem wop_did1 (hT : TOk c.P T) (o : Oper) (hc : ∀ ca, o.op ≠ .call ca) (h : wop c T m o fr H K) : Did c m o fr H K := by
  obtain ⟨d, op, ty, pos, after, gd⟩ := o
  cases op with
  | move x => exact (p_move x h).did
  | assign x => exact (p_assign x h).did
  | pick q a b => exact (p_pick q a b h).did
  | unOp op t x => exact (p_unOp op t x h).did
  | binOp op t x y yt => exact (p_binOp hT op t x y yt h).did
  | extract x i => exact (p_extract x i h).did
  | fieldAddr s x f => exact (p_fieldAddr hT s x f h).did
  | field s x f => exact (p_field hT s x f h).did
  | index t x i => exact (p_index hT t x i h).did
  | indexAddr t x i => exact (p_indexAddr hT t x i h).did
  | slice t x lo hi mx => exact (p_slice hT t x lo hi mx h).did
  | build t ps => exact (p_build hT t ps h).did
  | nilCheck x => exact (p_nilCheck x h).did
  | load t a => exact (p_load hT t a h).did
  | makeFunc f a b => exact (p_makeFunc f a b h).did
  | store t a x => exact d_store hT t a x h
  | alloc t => exact d_alloc hT t h
  | box t x => exact d_box t x h
  | call ca => exact absurd rfl (hc ca)
  | convert src dst x =>
    rcases p_convert hT src dst x h with h | ⟨hq, l, e, s, hx, hs, hd, he, h⟩ | ⟨b, ho, hm⟩
    · exact h.did
    · exact d_s2b rfl hx hs hd he h (fun e => by subst e; exact hq)
    · cases m with
      | quiet => exact hm.elim
      | plain => exact Oth.good (m := .plain) ho (fun h => by cases h)
      | act => exact Oth.good (m := .act) ho (fun _ => hm)
      | wact => exact Oth.good (m := .wact) ho (fun h => by cases h)
  | buildSlice t n ps => exact d_buildSlice hT t n ps h
  | makeSlice _ _ _ => exact oth_did h
  | range _ _ => exact oth_did h
  | makeMap _ _ => exact oth_did h
  | mapUpdate _ _ _ _ => exact othU_did rfl h
  | mapEntry _ _ _ => exact oth_did h
  | entryStore _ _ _ _ => exact othU_did rfl h
  | insert _ _ _ _ => exact othU_did rfl h
  | next _ _ => exact oth_did h
  | entry _ => exact OthP.did h
  | lookup _ _ _ _ => exact OthP.did h
  | makeInterface _ _ => exact OthP.did h
  | typeAssert _ _ _ _ => exact OthP.did h
  | _ => exact h.elim
theorem wop_did (hT : TOk c.P T) (o : Oper) (h : wop c T m o fr H K) : Did2 c m o fr H K := by
  by_cases hc : ∃ ca, o.op = .call ca
  · obtain ⟨ca, hc⟩ := hc
    obtain ⟨d, op, ty, pos, after, gd⟩ := o
    subst hc
    exact d_call ca h hT
  · exact .inl (wop_did1 hT o (fun ca e => hc ⟨ca, e⟩) h)
theorem wop_noDefer (o : Oper) (h : wop c T m o fr H K) : ∀ ca, o.op ≠ .defer ca := fun ca e => by
  obtain ⟨d, op, ty, pos, after, gd⟩ := o
  subst e
  exact h.elim
end
end Go.Proofs.YtnaeeklnlddcaaaGreatDoor.Vex
/- A walk by reckoning, part six: statements, loops, functions. No program in sight. -/
namespace Go.Proofs.YtnaeeklnlddcaaaGreatDoor.Vex
open Go Go.RowKit

/-- The slot of a guard. -/
noncomputable def guardT (l : List Oper) : Nat → Option Nat :=
  List.rec (motive := fun _ => Nat → Option Nat) (fun _ => none) (fun o _ ih n => Nat.rec (motive := fun _ => Option Nat) o.dst (fun m _ => ih m) n) l
theorem guardT_eq : ∀ (l : List Oper) (n : Nat), guardT l n = (l[n]?).bind (·.dst)
  | [], n => by simp [guardT]
  | o :: l, 0 => rfl
  | o :: l, n + 1 => by
    have : guardT (o :: l) (n + 1) = guardT l n := rfl
    rw [this, guardT_eq l n]; simp

/-- One operation with its guard; behind it 'ih'. -/
noncomputable def wstep (c : Ctx) (T : Ty) (m : Md) (ops : List Oper) (o : Oper) (fr : Fr) (H : Hp) (ih : Fr → Hp → Prop) : Prop :=
  match o.guard with
  | none => wop c T m o fr H fun v H' => setO fr o.dst v fun fr' => ih fr' H'
  | some (j, want) => match guardT ops j with
    | none => False
    | some t => getK fr t fun g => (match g with
      | .bool b => (match b with
        | true => (match want with | true => wop c T m o fr H fun v H' => setO fr o.dst v fun fr' => ih fr' H' | false => setO fr o.dst undef fun fr' => ih fr' H)
        | false => (match want with | false => wop c T m o fr H fun v H' => setO fr o.dst v fun fr' => ih fr' H' | true => setO fr o.dst undef fun fr' => ih fr' H))
      | .tuple _ => setO fr o.dst undef fun fr' => ih fr' H
      | _ => False)
noncomputable def wlist (c : Ctx) (T : Ty) (ops : List Oper) (l : List Oper) : (Fr → Hp → Prop) → Fr → Hp → Prop :=
  List.rec (motive := fun _ => (Fr → Hp → Prop) → Fr → Hp → Prop) (fun K fr H => K fr H) (fun o _ ih K fr H => wstep c T .plain ops o fr H (ih K)) l
noncomputable def nthK (l : List Oper) : Nat → (Oper → Prop) → Prop :=
  List.rec (motive := fun _ => Nat → (Oper → Prop) → Prop) (fun _ _ => False) (fun o _ ih n K => Nat.rec (motive := fun _ => Prop) (K o) (fun m _ => ih m K) n) l
/-- A text that is cut is a text. -/
noncomputable def strOk (T : Ty) (fr : Fr) (gd : Option (Nat × Bool)) (op : Op) (K : Prop) : Prop := match gd, op with
  | none, .slice t x _ _ none => (match (lookT T t).d with | .string => evK fr x (fun v => match v with | .string _ => K | _ => False) | _ => K)
  | _, _ => K
theorem strOk_out {T : Ty} {fr : Fr} {gd : Option (Nat × Bool)} {op : Op} {K : Prop} (h : strOk T fr gd op K) : K ∧ ∀ t x lo hi, gd = none → op = .slice t x lo hi none → (lookT T t).d = .string → ∃ s, (act fr).eval x = .string s := by
  unfold strOk at h
  split at h
  · split at h
    · rw [evK_eq] at h
      split at h
      · rename_i s hs
        exact ⟨h, fun t x lo hi _ e _ => by cases e; exact ⟨s, hs⟩⟩
      · exact h.elim
    · rename_i hd
      exact ⟨h, fun t x lo hi _ e h2 => by cases e; exact absurd h2 hd⟩
  · rename_i hn
    exact ⟨h, fun t x lo hi g e _ => absurd e (hn t x lo hi g)⟩
/-- The operations in an order that is told: (number, quiet); the calls ws may write. -/
noncomputable def wdraw (c : Ctx) (T : Ty) (ws : List Nat) (ops : List Oper) (l : List (Nat × Bool)) : (Fr → Hp → Prop) → Fr → Hp → Prop :=
  List.rec (motive := fun _ => (Fr → Hp → Prop) → Fr → Hp → Prop) (fun K fr H => K fr H)
    (fun p _ ih K fr H => nthK ops p.1 fun o => strOk T fr o.guard o.op (wstep c T (match p.2 with | true => .quiet | false => (match ws.contains p.1 with | true => .wact | false => .act)) ops o fr H (ih K))) l

structure LoopS (c : Ctx) (T : Ty) (body : Code) (Q : Exit → Fr → Hp → Prop) (fr : Fr) (H : Hp) : Prop where
  ok : ∀ ds w, St c H w → (Code.loop body).wp c.P (fun e a w => ∃ fr H, a = actD ds fr ∧ St c H w ∧ Q e fr H) (actD ds fr) w
structure DrawS (c : Ctx) (T : Ty) (id : Nat) (ops : List Oper) (K : Fr → Hp → Prop) (fr : Fr) (H : Hp) : Prop where
  ok : c.P.follows .mixedOrders = true ∧ (∀ (j : Nat) (o : Oper) (ca : Call), (⟨ops⟩ : Array Oper)[j]? = some o → o.op ≠ .defer ca) ∧ ∀ ds w, St c H w →
    wpAny c.P .any ⟨ops⟩ (fun e a w => ∃ fr H, a = actD ds fr ∧ St c H w ∧ e = .normal ∧ K fr H) ops.length (Array.replicate ops.length false) (actD ds fr) w.drew
structure OthC (c : Ctx) (T : Ty) (cd : Code) (Q : Exit → Fr → Hp → Prop) (fr : Fr) (H : Hp) : Prop where
  ok : ∀ ds w, St c H w → cd.wp c.P (fun e a w => ∃ fr H, a = actD ds fr ∧ St c H w ∧ Q e fr H) (actD ds fr) w

noncomputable def thenQ (next : Fr → Hp → Prop) (Q : Exit → Fr → Hp → Prop) (e : Exit) (fr : Fr) (H : Hp) : Prop := match e with | .normal => next fr H | e => Q e fr H
noncomputable def blockQ (id : Nat) (Q : Exit → Fr → Hp → Prop) (e : Exit) (fr : Fr) (H : Hp) : Prop := match e with | .exit id' => (match Nat.beq id' id with | true => Q .normal fr H | false => Q (.exit id') fr H) | e => Q e fr H
/-- A scope of labels: no jump comes up here. -/
noncomputable def scopeQ (Q : Exit → Fr → Hp → Prop) (e : Exit) (fr : Fr) (H : Hp) : Prop := match e with | .goto _ => False | e => Q e fr H
/-- A statement. -/
noncomputable def wc (c : Ctx) (T : Ty) (cd : Code) : (Exit → Fr → Hp → Prop) → Fr → Hp → Prop :=
  Code.rec (motive := fun _ => (Exit → Fr → Hp → Prop) → Fr → Hp → Prop)
    (fun Q fr H => Q .normal fr H)
    (fun id ops dr Q fr H => match dr with | false => wlist c T ops.toList ops.toList (Q .normal) fr H | true => DrawS c T id ops.toList (Q .normal) fr H)
    (fun _ _ iha ihb Q fr H => iha (thenQ (ihb Q) Q) fr H)
    (fun x _ _ iha ihb Q fr H => evK fr x fun x => (match x with | .bool t => (match t with | true => iha Q fr H | false => ihb Q fr H) | _ => False))
    (fun id _ ih Q fr H => ih (blockQ id Q) fr H)
    (fun body _ Q fr H => LoopS c T body Q fr H)
    (fun f ps as' body _ _ Q fr H => OthC c T (.rangeFunc f ps as' body) Q fr H)
    (fun id Q fr H => Q (.exit id) fr H)
    (fun _ ih Q fr H => ih (scopeQ Q) fr H)
    (fun _ Q fr H => Q .normal fr H)
    (fun l Q fr H => Q (.goto l) fr H)
    (fun Q fr H => Q .ret fr H)
    (fun _ _ _ _ => False) cd

/-- What is behind an exit, of a world. -/
abbrev Lift (c : Ctx) (ds : List Deferred) (Q : Exit → Fr → Hp → Prop) (e : Exit) (a : Act) (w : World) : Prop := ∃ fr H, a = actD ds fr ∧ St c H w ∧ Q e fr H

section
variable {c : Ctx} {T : Ty}
theorem setO_act {ds : List Deferred} {fr : Fr} {o : Option Nat} {v : Value} {K : Fr → Prop} (h : setO fr o v K) : ∃ fr', (actD ds fr).put o v = actD ds fr' ∧ K fr' := by
  rw [setO_eq] at h
  have e : (actD ds fr).put o v = { (act fr).put o v with defers := ds } := by cases o <;> rfl
  exact ⟨_, by rw [e, act_put]; rfl, h⟩
/-- A guard, read off the frame. -/
theorem yielded_eq {ops : List Oper} {fr : Fr} {j t : Nat} (ht : guardT ops j = some t) : yielded ⟨ops⟩ (act fr).tmps j = match fr.getD t undef with | .bool b => some b | _ => none := by
  rw [guardT_eq] at ht
  have h1 : ((⟨ops⟩ : Array Oper)[j]?).bind (·.dst) = some t := by simpa using ht
  unfold yielded
  rw [h1]
  simp only [Option.bind_some]
  have h2 : (act fr).tmps[t]? = fr[t]? := by simp [act]
  rw [h2]
  cases hf : fr[t]? with
  | none => simp [List.getD, hf, undef]
  | some v => cases v <;> simp [List.getD, hf]
/-- One guarded operation: carried out, or passed over. -/
theorem wstep_cases (hT : TOk c.P T) {m : Md} {ops : List Oper} {o : Oper} {fr : Fr} {H : Hp} {ih : Fr → Hp → Prop} (h : wstep c T m ops o fr H ih) :
    (Region.wanted o (yielded ⟨ops⟩ (act fr).tmps) = true ∧ (Did2 c m o fr H fun v H' => setO fr o.dst v fun fr' => ih fr' H') ∧ ∀ ca, o.op ≠ .defer ca) ∨
    (Region.wanted o (yielded ⟨ops⟩ (act fr).tmps) = false ∧ setO fr o.dst undef fun fr' => ih fr' H) := by
  unfold wstep at h
  unfold Region.wanted
  split at h
  · rename_i hg
    rw [hg]
    exact .inl ⟨rfl, wop_did hT o h, wop_noDefer o h⟩
  · rename_i j want hg
    rw [hg]
    simp only
    split at h
    · exact h.elim
    · rename_i t ht
      rw [getK_eq] at h
      rw [yielded_eq ht]
      split at h
      · rename_i b hb
        rw [hb]
        cases b <;> cases want <;> first | exact .inl ⟨rfl, wop_did hT o h, wop_noDefer o h⟩ | exact .inr ⟨rfl, h⟩
      · rename_i x hb
        rw [hb]
        exact .inr ⟨rfl, h⟩
      · exact h.elim
theorem Good.wp {ds : List Deferred} {o : Oper} {fr : Fr} {w : World} {r : Bool} {K : Value → Hp → Prop} {K' : Act → World → Prop} {Q : Exit → Act → World → Prop} (h : Good c r w K ((execOp (act fr).eval o).run c.P w))
    (hK : ∀ v H' w', St c H' w' → K v H' → (r = true → R w w') → K' ((actD ds fr).put o.dst v) w') : o.wp c.P (actD ds fr) w K' Q := by
  unfold Oper.wp
  rw [show (actD ds fr).eval = (act fr).eval from rfl]
  generalize (execOp (act fr).eval o).run c.P w = x at *
  cases x with
  | halt x w' => exact h.elim
  | ok n w' =>
    cases n <;> simp only [Good] at h <;> simp only [Oper.upon]
    case value v => obtain ⟨H', hs, hk, hr⟩ := h; exact hK _ _ _ hs hk hr
    case skip => obtain ⟨H', hs, hk, hr⟩ := h; exact hK _ _ _ hs hk hr
    case enter f args =>
      obtain ⟨rfl, h⟩ := h
      refine h.mono fun e w'' ⟨v, H', he, hs, hk, hr⟩ => ?_
      subst he
      exact hK _ _ _ hs hk hr
/-- The open fence, in a round or in none. -/
abbrev wideR (rd : Option Nat) : Fence := { Fence.wide with round := rd }
theorem Did2.wpIn {rd : Option Nat} {ds : List Deferred} {o : Oper} {fr : Fr} {H : Hp} {w : World} {K : Value → Hp → Prop} {K' : Act → World → Prop} {Q : Exit → Act → World → Prop} (hd : ∀ ca, o.op ≠ .defer ca) (h : Did2 c .plain o fr H K) (hw : St c H w)
    (hK : ∀ v H' w', St c H' w' → K v H' → K' ((actD ds fr).put o.dst v) w') : o.wpIn (wideR rd) 0 c.P (actD ds fr) w K' Q := by
  refine ⟨fun _ _ => trivial, ?_⟩
  rw [Oper.semAt_eq _ _ _ hd, show (actD ds fr).eval = (act fr).eval from rfl]
  rcases h with h | ⟨_, h⟩
  · have h : Good c (rOf .plain o.op) w K ((execOp (act fr).eval o).run c.P w) := h w hw
    generalize (execOp (act fr).eval o).run c.P w = x at *
    cases x with
    | halt x w' => exact h.elim
    | ok n w' =>
      cases n <;> simp only [Good] at h <;> simp only [Oper.uponIn]
      case value v => obtain ⟨H', hs, hk, _⟩ := h; exact hK _ _ _ hs hk
      case skip => obtain ⟨H', hs, hk, _⟩ := h; exact hK _ _ _ hs hk
      case enter f args =>
        obtain ⟨rfl, h⟩ := h
        refine ⟨fun h => (by cases h), ?_⟩
        have h2 : CallsIn (wideR rd) 0 c.P f args w' _ := callsIn_wide.2 h
        refine h2.mono fun e w'' ⟨v, H', he, hs, hk, _⟩ => ?_
        subst he
        exact hK _ _ _ hs hk
  · obtain ⟨l, fn, tmps, as', body, hy, hr⟩ := h w hw
    rw [hy, Oper.uponIn_round]
    refine ⟨fun h => (by cases h), ?_⟩
    have h2 : RoundIn (wideR rd) 0 c.P l fn tmps as' body w _ := hr
    refine h2.mono fun e w'' ⟨v, H', he, hs, hk⟩ => ?_
    subst he
    exact hK _ _ _ hs hk
theorem wlist_ok (hT : TOk c.P T) (rd : Option Nat) (ds : List Deferred) (ops : List Oper) : ∀ (l : List Oper) (k : Nat) (K : Fr → Hp → Prop) (fr : Fr) (H : Hp) (w : World), (∀ j, l[j]? = ops[k + j]?) → wlist c T ops l K fr H → St c H w →
    wpOpsIn (wideR rd) 0 c.P ⟨ops⟩ (fun e a w => ∃ fr H, a = actD ds fr ∧ St c H w ∧ e = .normal ∧ K fr H) (List.range' k l.length) (actD ds fr) w
  | [], _, K, fr, H, w, _, h, hw => ⟨fr, H, rfl, hw, rfl, h⟩
  | o :: l, k, K, fr, H, w, hl, h, hw => by
    have h0 : (⟨ops⟩ : Array Oper)[k]? = some o := by have := hl 0; simp at this; simp [← this]
    have hl' : ∀ j, l[j]? = ops[k + 1 + j]? := fun j => by have := hl (j + 1); simpa [Nat.add_assoc, Nat.add_comm 1 j] using this
    have h' : wstep c T .plain ops o fr H (wlist c T ops l K) := h
    rw [List.length_cons, List.range'_succ]
    unfold wpOpsIn
    simp only [h0]
    rw [show (actD ds fr).tmps = (act fr).tmps from rfl]
    rcases wstep_cases hT h' with ⟨hwd, hd, hnd⟩ | ⟨hwd, hs⟩
    · rw [if_pos hwd]
      refine Did2.wpIn hnd hd hw fun v H' w' hs hk => ?_
      obtain ⟨fr', e, hk⟩ := setO_act (ds := ds) hk
      rw [e]
      exact wlist_ok hT rd ds ops l (k + 1) K fr' H' w' hl' hk hs
    · rw [if_neg (by rw [hwd]; exact Bool.false_ne_true)]
      obtain ⟨fr', e, hk⟩ := setO_act (ds := ds) hs
      rw [e]
      exact ⟨fun _ _ => trivial, wlist_ok hT rd ds ops l (k + 1) K fr' H w hl' hk hw⟩
end
end Go.Proofs.YtnaeeklnlddcaaaGreatDoor.Vex
/- A walk by reckoning, part seven: the words are sound; how loops, draws, calls and functions are met. No program in sight. -/
namespace Go.Proofs.YtnaeeklnlddcaaaGreatDoor.Vex
open Go Go.RowKit

/-! ## Operations that look at no memory -/
section
variable {P : Program} {ops : Array Oper} {md : Region.Mode} {Q : Exit → Act → World → Prop}
theorem wpAnyR_firstB {Wr : Nat → Bool} {i : Nat} {oi : Oper} {v : Value} (hi : ops[i]? = some oi) (hsel : ∀ (j : Nat) (o : Oper) cs b, ops[j]? = some o → o.op ≠ .select cs b)
    (hQ : ∀ c a w, Q (.panic c) (a.put oi.dst v) w → Q (.panic c) a w) :
    ∀ (fuel : Nat) (l : Array Bool) (a : Act) (w : World),
      closedL md ops l →
      (∀ j oj, ops[j]? = some oj → j ≠ i → l.getD j true = false → (∀ e ∈ oj.after, Region.binds md e = true → e.on ≠ i) → oi.apart ops oj = true) →
      i ∈ Region.ready md ops l → (∀ w', Yl P ops oi v a w') →
      wpAnyR P md ops Wr Q fuel (l.setIfInBounds i true) (a.put oi.dst v) w → wpAnyR P md ops Wr Q (fuel + 1) l a w := by
  intro fuel
  have hun : ∀ {l : Array Bool}, i ∈ Region.ready md ops l → l.getD i false = false := fun {l} hr => by
    have h0 := (mem_ready.1 hr).1
    rcases Nat.lt_or_ge i l.size with h' | h'
    · simpa [h'] using h0
    · simp [Array.getElem?_eq_none h'] at h0
  have take : ∀ {n : Nat} {l : Array Bool} {a : Act} {w w' : World}, R w w' → (∀ w', Yl P ops oi v a w') → wpAnyR P md ops Wr Q n (l.setIfInBounds i true) (a.put oi.dst v) w →
      wpOp P ops Q i (fun a2 w2 => (Wr i = false → R w' w2) ∧ wpAnyR P md ops Wr Q n (l.setIfInBounds i true) a2 w2) a w' := fun hR hY H =>
    (hY _).wpOp hi fun w2 h2 => ⟨fun _ => h2, H.on (hR.trans h2)⟩
  induction fuel with
  | zero =>
    intro l a w _ _ hr hY H w' hR
    refine ⟨fun h => (by rw [h] at hr; cases hr), fun j hj => ?_⟩
    by_cases hji : j = i
    · subst hji; exact take hR hY H
    · have := ready_mono hj hji
      rw [H.1] at this
      cases this
  | succ fuel ih =>
    intro l a w hc hfree hr hY H w' hR
    refine ⟨fun h => (by rw [h] at hr; cases hr), fun j hj => ?_⟩
    by_cases hji : j = i
    · subst hji; exact take hR hY H
    · have h1 := (H w' hR).2 j (ready_mono hj hji)
      obtain ⟨hjun, oj, hoj, hall⟩ := mem_ready.1 hj
      have hnot : ∀ e ∈ oj.after, Region.binds md e = true → e.on ≠ i := fun e he hb heq => by
        have h1 := hall e he hb
        rw [heq, hun hr] at h1
        cases h1
      have h2 := wpOp_apart hoj (hfree j oj hoj hji hjun hnot) (fun cs b => hsel i oi cs b hi) (fun cs b => hsel j oj cs b hoj) hQ h1
      have hfree' : ∀ k ok, ops[k]? = some ok → k ≠ i → (l.setIfInBounds j true).getD k true = false →
          (∀ e ∈ ok.after, Region.binds md e = true → e.on ≠ i) → oi.apart ops ok = true := fun k ok hk hki hun' hno => by
        refine hfree k ok hk hki ?_ hno
        by_cases hjk : j = k
        · subst hjk; exact hjun
        · rw [getD_set_ne true hjk] at hun'; exact hun'
      refine wpOp_mono (fun a' w2 h3 => ?_) h2
      obtain ⟨hs, hRj, hN⟩ := h3
      refine ⟨hRj, ih (l.setIfInBounds j true) a' w2 (hc.set hj) hfree' (ready_mono hr (Ne.symm hji)) (fun w3 => (hY w3).of_same hs) ?_⟩
      rw [Array.setIfInBounds_comm _ _ hji]
      exact hN
end
noncomputable def blindOp (T : Ty) : Option (Nat × Bool) → Op → Bool
  | _, .move _ => true
  | _, .assign _ => true
  | _, .extract _ _ => true
  | none, .slice t _ _ _ none => (match (lookT T t).d with | .string => true | _ => false)
  | _, _ => false
section
variable {c : Ctx} {T : Ty} {m : Md} {fr : Fr} {H : Hp} {K : Value → Hp → Prop} {d : Option Tmp} {ty : TypeId} {pos : String} {after : Array Edge} {gd : Option (Nat × Bool)}
theorem blind_slice (hT : TOk c.P T) (t : TypeId) (x : Operand) (lo hi : Option Operand) (hsd : (lookT T t).d = .string) (hst : ∃ s, (act fr).eval x = .string s) (h : wop c T m ⟨d, .slice t x lo hi none, ty, pos, after, gd⟩ fr H K) : ∃ v, K v H ∧ ∀ w, (execOp (act fr).eval ⟨d, .slice t x lo hi none, ty, pos, after, gd⟩).run c.P w = .ok (.value v) w := by
  simp only [wop, evK_eq] at h
  · split at h
    · rename_i l hx hd
      have ht := (lookT_ok hT (t := t) (by rw [hd]; exact fun h => by cases h)).1
      rw [hd] at ht
      have hex : ∀ a b : Nat, (⟨⟨l⟩⟩ : ByteArray).extract a b = ⟨⟨(l.take b).drop a⟩⟩ := fun a b => by
        apply ByteArray.ext
        rw [← Array.toList_inj, Lib.extract_data, List.drop_take]
      have hz : (⟨⟨l⟩⟩ : ByteArray).size = l.length := rfl
      split at h
      · refine ⟨_, h, fun w => ?_⟩
        generalize (act fr).eval = ρ at *
        have := hex 0 l.length
        simp at this
        simp [execOp, hx, Instr.sliceAt, Instr.slice, Instr.sliceBounds, Sem.run_bind, run_underlying ht]
      · split at h
        · rename_i k n hn
          obtain ⟨h0, h1, h2, hK⟩ := h.ok
          refine ⟨_, hK, fun w => ?_⟩
          generalize (act fr).eval = ρ at *
          simp [execOp, hx, hn, Instr.sliceAt, Instr.slice, Instr.sliceBounds, Instr.sliceBound, asIntOf, Sem.run_bind, run_underlying ht, hz, h0, h1, hex]
        · exact h.elim
      · split at h
        · rename_i k n hn
          obtain ⟨h0, h1, h2, hK⟩ := h.ok
          refine ⟨_, hK, fun w => ?_⟩
          generalize (act fr).eval = ρ at *
          simp [execOp, hx, hn, Instr.sliceAt, Instr.slice, Instr.sliceBounds, Instr.sliceBound, asIntOf, Sem.run_bind, run_underlying ht, hz, h1, h2, hex]
        · exact h.elim
      · split at h
        · rename_i k n k' n' hn hn'
          obtain ⟨h0, h1, h2, hK⟩ := h.ok
          refine ⟨_, hK, fun w => ?_⟩
          generalize (act fr).eval = ρ at *
          have h3 : (n : Int) ≤ (n'.toNat : Int) := by omega
          have h4 : 0 ≤ n' := by omega
          have h5 : ¬ max n' 0 < n := by omega
          simp [execOp, hx, hn, hn', Instr.sliceAt, Instr.slice, Instr.sliceBounds, Instr.sliceBound, asIntOf, Sem.run_bind, run_underlying ht, hz, h0, h2, h4, h5, hex]
        · exact h.elim
    · rename_i hd
      rw [hsd] at hd
      cases hd
    · rename_i hne _
      obtain ⟨⟨⟨l⟩⟩, hs⟩ := hst
      exact (hne l hs hsd).elim
theorem blind_wop (hT : TOk c.P T) : ∀ (o : Oper), blindOp T o.guard o.op = true → (∀ t x lo hi, o.guard = none → o.op = .slice t x lo hi none → (lookT T t).d = .string → ∃ s, (act fr).eval x = .string s) → wop c T m o fr H K → ∃ v, K v H ∧ ∀ w, (execOp (act fr).eval o).run c.P w = .ok (.value v) w := fun o hb hst h => by
  obtain ⟨d, op, ty, pos, after, gd⟩ := o
  cases op <;> (try (cases gd <;> simp only [blindOp] at hb <;> (cases hb; done)))
  case move x =>
    simp only [wop, evK_eq] at h
    exact ⟨_, h, fun w => rfl⟩
  case assign x =>
    simp only [wop, evK_eq] at h
    exact ⟨_, h, fun w => rfl⟩
  case extract x i =>
    simp only [wop, evK_eq] at h
    split at h
    · rename_i vs hx
      split at h
      · rename_i v hv
        exact ⟨v, h, fun w => by simp [execOp, hx, Instr.extract, hv]⟩
      · exact h.elim
    · exact h.elim
  case slice t x lo hi mx =>
    cases mx with
    | some _ => cases gd <;> cases hb
    | none =>
      cases gd with
      | some _ => cases hb
      | none =>
        simp only [blindOp] at hb
        split at hb
        · rename_i hd
          exact blind_slice hT t x lo hi hd (hst t x lo hi rfl rfl hd) h
        · cases hb
theorem wstep_wop {ops : List Oper} {o : Oper} {ih : Fr → Hp → Prop} (h : wstep c T m ops o fr H ih) :
    (Region.wanted o (yielded ⟨ops⟩ (act fr).tmps) = true ∧ wop c T m o fr H fun v H' => setO fr o.dst v fun fr' => ih fr' H') ∨
    (Region.wanted o (yielded ⟨ops⟩ (act fr).tmps) = false ∧ setO fr o.dst undef fun fr' => ih fr' H) := by
  unfold wstep at h
  unfold Region.wanted
  split at h
  · rename_i hg
    rw [hg]
    exact .inl ⟨rfl, h⟩
  · rename_i j want hg
    rw [hg]
    simp only
    split at h
    · exact h.elim
    · rename_i t ht
      rw [getK_eq] at h
      rw [yielded_eq ht]
      split at h
      · rename_i b hb
        rw [hb]
        cases b <;> cases want <;> first | exact .inl ⟨rfl, h⟩ | exact .inr ⟨rfl, h⟩
      · rename_i x hb
        rw [hb]
        exact .inr ⟨rfl, h⟩
      · exact h.elim
end

/-! ## A region that draws its order -/
def isWr (ws : List Nat) (ops : Array Oper) (j : Nat) : Bool := match ops[j]? with | some o => wr o.op || ws.contains j | none => false
/-- The order that is told may be taken. -/
noncomputable def orderB (T : Ty) (ws : List Nat) (ops : Array Oper) : List (Nat × Bool) → Array Bool → Bool
  | [], l => (Region.ready .any ops l).isEmpty
  | (i, true) :: r, l => (Region.ready .any ops l).contains i && Region.free .any ops l i && !isWr ws ops i && (((List.range ops.size).all fun j => !isWr ws ops j || l.getD j true || anc .any ops ops.size j i) || (match ops[i]? with | some o => blindOp T o.guard o.op | none => false)) && orderB T ws ops r (l.setIfInBounds i true)
  | (i, false) :: r, l => (Region.ready .any ops l == [i]) && orderB T ws ops r (l.setIfInBounds i true)
def noDefer (o : Oper) : Bool := match o.op with | .defer _ => false | _ => true
noncomputable def drawB (T : Ty) (ws : List Nat) (ops : List Oper) (order : List (Nat × Bool)) : Bool := ops.all noDefer && Region.noSelect ⟨ops⟩ && (order.length ≤ ops.length) && orderB T ws ⟨ops⟩ order (Array.replicate ops.length false)

section
variable {c : Ctx} {T : Ty}
theorem nthK_some : ∀ {l : List Oper} {n : Nat} {K : Oper → Prop}, nthK l n K → ∃ o, l[n]? = some o ∧ K o
  | [], _, _, h => h.elim
  | o :: _, 0, _, h => ⟨o, rfl, h⟩
  | _ :: l, n + 1, K, h => by
    obtain ⟨o, ho, hk⟩ := nthK_some (l := l) (n := n) (K := K) h
    exact ⟨o, by simpa using ho, hk⟩
abbrev DrawQ (c : Ctx) (ds : List Deferred) (K : Fr → Hp → Prop) (e : Exit) (a : Act) (w : World) : Prop := ∃ fr H, a = actD ds fr ∧ St c H w ∧ e = .normal ∧ K fr H
theorem wdraw_ok (hT : TOk c.P T) (ws : List Nat) (ds : List Deferred) (ops : List Oper) (hs : Region.noSelect ⟨ops⟩ = true) (K : Fr → Hp → Prop) : ∀ (order : List (Nat × Bool)) (n : Nat) (l : Array Bool) (fr : Fr) (H : Hp) (w : World),
    order.length ≤ n → closedL .any ⟨ops⟩ l → orderB T ws ⟨ops⟩ order l = true → wdraw c T ws ops order K fr H → St c H w → wpAnyR c.P .any ⟨ops⟩ (isWr ws ⟨ops⟩) (DrawQ c ds K) n l (actD ds fr) w
  | [], n, l, fr, H, w, _, _, ho, h, hw => by
    simp only [orderB, List.isEmpty_iff] at ho
    exact wpAnyR_done ho fun w' hR => ⟨fr, H, rfl, hw.below hR, rfl, h⟩
  | (i, true) :: r, 0, _, _, _, _, hn, _, _, _, _ => by simp at hn
  | (i, false) :: r, 0, _, _, _, _, hn, _, _, _, _ => by simp at hn
  | (i, true) :: r, n + 1, l, fr, H, w, hn, hc, ho, h, hw => by
    simp only [orderB, Bool.and_eq_true] at ho
    obtain ⟨⟨⟨⟨hr, hf⟩, hwi⟩, hall⟩, ho⟩ := ho
    rw [Bool.not_eq_true'] at hwi
    have hr : i ∈ Region.ready .any ⟨ops⟩ l := by simpa using hr
    obtain ⟨o, hoi, h⟩ := nthK_some h
    obtain ⟨h, hst⟩ := strOk_out h
    have hoi' : (⟨ops⟩ : Array Oper)[i]? = some o := by simpa using hoi
    have hQ : ∀ (v : Value) (ch : List PanicEntry) (a : Act) (w : World), DrawQ c ds K (.panic ch) (a.put o.dst v) w → DrawQ c ds K (.panic ch) a w := fun v ch a w ⟨_, _, _, _, he, _⟩ => by cases he
    rw [hoi', Bool.or_eq_true] at hall
    dsimp only at hall
    rcases hall with hall | hbl
    rotate_left
    · rcases wstep_wop h with ⟨hwd, h⟩ | ⟨hwd, hk⟩
      · obtain ⟨v, hk, hq⟩ := blind_wop hT o hbl hst h
        obtain ⟨fr', e, hk⟩ := setO_act (ds := ds) hk
        refine wpAnyR_firstB (v := v) hoi' (Region.noSelect_spec hs) (hQ v) n l (actD ds fr) w hc (Region.free_spec hoi' hf) hr (fun w' => .inl ⟨hwd, ?_⟩) ?_
        · unfold Quiet1
          rw [show (actD ds fr).eval = (act fr).eval from rfl, hq w']
          exact ⟨rfl, rfl⟩
        · rw [e]
          exact wdraw_ok hT ws ds ops hs K r n _ fr' H w (by simpa using hn) (hc.set hr) ho hk hw
      · obtain ⟨fr', e, hk⟩ := setO_act (ds := ds) hk
        refine wpAnyR_firstB (v := undef) hoi' (Region.noSelect_spec hs) (hQ _) n l (actD ds fr) w hc (Region.free_spec hoi' hf) hr (fun w' => .inr ⟨hwd, rfl⟩) ?_
        rw [e]
        exact wdraw_ok hT ws ds ops hs K r n _ fr' H w (by simpa using hn) (hc.set hr) ho hk hw
    simp only [List.all_eq_true, List.mem_range, Bool.or_eq_true, Bool.not_eq_true'] at hall
    have hwr : ∀ j, isWr ws ⟨ops⟩ j = true → l.getD j true = false → anc .any ⟨ops⟩ (⟨ops⟩ : Array Oper).size j i = true := fun j hj hl => by
      have hlt : j < (⟨ops⟩ : Array Oper).size := by
        unfold isWr at hj
        rcases Nat.lt_or_ge j (⟨ops⟩ : Array Oper).size with h' | h'
        · exact h'
        · rw [Array.getElem?_eq_none h'] at hj; cases hj
      rcases hall j hlt with (h1 | h1) | h1
      · rw [hj] at h1; cases h1
      · rw [hl] at h1; cases h1
      · exact h1
    rcases wstep_cases hT h with ⟨hwd, ⟨v, hk, hq⟩ | ⟨he, _⟩, _⟩ | ⟨hwd, hk⟩
    · obtain ⟨fr', e, hk⟩ := setO_act (ds := ds) hk
      refine wpAnyR_first (v := v) hoi' (Region.noSelect_spec hs) (hQ v) hwi n l (actD ds fr) w hc hwr (Region.free_spec hoi' hf) hr (fun w' hR => .inl ⟨hwd, hq w' (hw.below hR)⟩) ?_
      rw [e]
      exact wdraw_ok hT ws ds ops hs K r n _ fr' H w (by simpa using hn) (hc.set hr) ho hk hw
    · cases he
    · obtain ⟨fr', e, hk⟩ := setO_act (ds := ds) hk
      refine wpAnyR_first (v := undef) hoi' (Region.noSelect_spec hs) (hQ _) hwi n l (actD ds fr) w hc hwr (Region.free_spec hoi' hf) hr (fun w' hR => .inr ⟨hwd, rfl⟩) ?_
      rw [e]
      exact wdraw_ok hT ws ds ops hs K r n _ fr' H w (by simpa using hn) (hc.set hr) ho hk hw
  | (i, false) :: r, n + 1, l, fr, H, w, hn, hc, ho, h, hw => by
    simp only [orderB, Bool.and_eq_true, beq_iff_eq] at ho
    obtain ⟨hr, ho⟩ := ho
    have hri : i ∈ Region.ready .any ⟨ops⟩ l := by rw [hr]; simp
    obtain ⟨o, hoi, h⟩ := nthK_some h
    obtain ⟨h, hst⟩ := strOk_out h
    have h8 : wstep c T (match ws.contains i with | true => Md.wact | false => Md.act) ops o fr H (wdraw c T ws ops r K) := h
    have hmd : ∃ m : Md, wstep c T m ops o fr H (wdraw c T ws ops r K) ∧ m ≠ .plain ∧ (ws.contains i = false → m = .act) ∧ (m = .act ∨ m = .wact) := by
      cases hw9 : ws.contains i
      · rw [hw9] at h8
        exact ⟨Md.act, h8, (fun h => by cases h), (fun _ => rfl), .inl rfl⟩
      · rw [hw9] at h8
        exact ⟨Md.wact, h8, (fun h => by cases h), (fun h => by cases h), .inr rfl⟩
    clear h8 h
    obtain ⟨m, h, hm2, hm3, hm4⟩ := hmd
    have hoi' : (⟨ops⟩ : Array Oper)[i]? = some o := by simpa using hoi
    refine wpAnyR_alone hr fun w' hR => ?_
    have hw' := hw.below hR
    unfold wpOp
    simp only [hoi']
    rw [show (actD ds fr).tmps = (act fr).tmps from rfl]
    rcases wstep_cases hT h with ⟨hwd, hd | ⟨he, _⟩, _⟩ | ⟨hwd, hk⟩
    · rw [if_pos hwd]
      have hd : GoodD c m o fr H fun v H' => setO fr o.dst v fun fr' => wdraw c T ws ops r K fr' H' := by
        rcases hm4 with rfl | rfl
        · exact hd
        · exact hd
      refine .inl (Good.wp (hd w' hw') fun v H' w2 hs2 hk hrr => ?_)
      obtain ⟨fr', e, hk⟩ := setO_act (ds := ds) hk
      rw [e]
      refine ⟨fun hi => hrr ?_, wdraw_ok hT ws ds ops hs K r n _ fr' H' w2 (by simpa using hn) (hc.set hri) ho hk hs2⟩
      have h2 : isWr ws ⟨ops⟩ i = (wr o.op || ws.contains i) := by unfold isWr; rw [hoi']
      rw [h2, Bool.or_eq_false_iff] at hi
      rw [hm3 hi.2]
      simp [rOf, hi.1]
    · exact absurd he hm2
    · rw [if_neg (by rw [hwd]; exact Bool.false_ne_true)]
      obtain ⟨fr', e, hk⟩ := setO_act (ds := ds) hk
      rw [e]
      exact ⟨fun _ => R.refl _, wdraw_ok hT ws ds ops hs K r n _ fr' H w' (by simpa using hn) (hc.set hri) ho hk hw'⟩

/-- The order is told. -/
theorem DrawS.goW {id : Nat} {ops : List Oper} {K : Fr → Hp → Prop} {fr : Fr} {H : Hp} (ws : List Nat) (order : List (Nat × Bool)) (hT : TOk c.P T) (hm : c.P.follows .mixedOrders = true) (hB : drawB T ws ops order = true) (h : wdraw c T ws ops order K fr H) : DrawS c T id ops K fr H := by
  simp only [drawB, Bool.and_eq_true, decide_eq_true_eq] at hB
  refine ⟨hm, fun j o ca hj e => ?_, fun ds w hw => wpAny_of_R (Wr := isWr ws ⟨ops⟩) _ _ _ _ ((wdraw_ok hT ws ds ops hB.1.1.2 K order _ _ fr H w hB.1.2 (closedL_start _) hB.2 h hw).on (R.drew w))⟩
  have h1 := List.all_eq_true.1 hB.1.1.1 o (List.mem_of_getElem? (by simpa using hj))
  unfold noDefer at h1
  rw [e] at h1
  cases h1
theorem DrawS.go {id : Nat} {ops : List Oper} {K : Fr → Hp → Prop} {fr : Fr} {H : Hp} (order : List (Nat × Bool)) (hT : TOk c.P T) (hm : c.P.follows .mixedOrders = true) (hB : drawB T [] ops order = true) (h : wdraw c T [] ops order K fr H) : DrawS c T id ops K fr H := DrawS.goW [] order hT hm hB h
/-- .. in a round. -/
theorem wpOp_in {P : Program} {ops : Array Oper} {Q : Exit → Act → World → Prop} {rd : Option Nat} (hd : ∀ (j : Nat) (o : Oper) (ca : Call), ops[j]? = some o → o.op ≠ .defer ca) (hL : ¬ LetsOut Q) {i : Nat} {K K' : Act → World → Prop} {a : Act} {w : World}
    (hK : ∀ a w, K a w → K' a w) (h : wpOp P ops Q i K a w) : wpOpIn (wideR rd) 0 P ops Q i K' a w := by
  unfold wpOp at h
  unfold wpOpIn
  cases hi : ops[i]? with
  | none => rw [hi] at h; exact hK _ _ h
  | some o =>
    rw [hi] at h
    simp only at h ⊢
    split
    · rename_i hw
      rw [if_pos hw] at h
      rcases h with h | ⟨_, h⟩
      · refine ⟨fun _ _ => trivial, ?_⟩
        rw [Oper.semAt_eq _ _ _ (hd i o · hi)]
        unfold Oper.wp at h
        generalize (execOp a.eval o).run P w = r at *
        cases r with
        | halt x w' =>
          cases x <;> simp only [Oper.upon, Oper.uponIn] at h ⊢
          exact h
        | ok n w' =>
          cases n <;> simp only [Oper.upon, Oper.uponIn] at h ⊢
          case value v => exact hK _ _ h
          case skip => exact hK _ _ h
          case defer d => exact hK _ _ h
          case enter f args =>
            refine ⟨fun h => (by cases h), ?_⟩
            have h2 : CallsIn (wideR rd) 0 P f args w' _ := callsIn_wide.2 h
            refine h2.mono fun e w'' he => ?_
            cases e with
            | returned v => exact hK _ _ he
            | panicked ch => exact he
            | outgrown => exact he
          case row row args =>
            refine ⟨fun h => (by cases h), ?_⟩
            exact fun c cs _ => let ⟨v, w2, r, s⟩ := h c cs; ⟨v, w2, hK _ _ r, stepsIn_wide.2 s⟩
      · exact absurd h hL
    · rename_i hw
      rw [if_neg hw] at h
      exact ⟨fun _ _ => trivial, hK _ _ h⟩
theorem wpAny_in {P : Program} {ops : Array Oper} {Q : Exit → Act → World → Prop} {rd : Option Nat} (hd : ∀ (j : Nat) (o : Oper) (ca : Call), ops[j]? = some o → o.op ≠ .defer ca) (hL : ¬ LetsOut Q) : ∀ (n : Nat) (l : Array Bool) (a : Act) (w : World), wpAny P .any ops Q n l a w → wpAnyIn (wideR rd) 0 P .any ops Q n l a w
  | 0, _, _, _, h => h
  | n + 1, _, _, _, h => ⟨h.1, fun i hi => wpOp_in hd hL (fun a w => wpAny_in hd hL n _ a w) (h.2 i hi)⟩
theorem DrawS.wp {id : Nat} {ops : List Oper} {K : Fr → Hp → Prop} {fr : Fr} {H : Hp} (h : DrawS c T id ops K fr H) (ds : List Deferred) {w : World} (hw : St c H w) : (Code.region id ⟨ops⟩ true).wp c.P (DrawQ c ds K) (actD ds fr) w :=
  wp_region_any h.ok.1 (h.ok.2.2 ds w hw)
theorem DrawS.wpIn {id : Nat} {ops : List Oper} {K : Fr → Hp → Prop} {fr : Fr} {H : Hp} (h : DrawS c T id ops K fr H) (rd : Option Nat) (ds : List Deferred) {w : World} (hw : St c H w) : (Code.region id ⟨ops⟩ true).wpIn (wideR rd) 0 c.P (DrawQ c ds K) (actD ds fr) w :=
  wpIn_region_any h.ok.1 (wpAny_in h.ok.2.1 (by rintro ⟨_, _, _, _, _, _, he, _⟩; cases he) _ _ _ _ (h.ok.2.2 ds w hw))

/-! ## Statements -/
theorem wc_ok (hT : TOk c.P T) (ds : List Deferred) (cd : Code) : ∀ (Q : Exit → Fr → Hp → Prop) (fr : Fr) (H : Hp) (w : World), wc c T cd Q fr H → St c H w → cd.wp c.P (Lift c ds Q) (actD ds fr) w := by
  induction cd with
  | skip => exact fun Q fr H w h hw => wp_skip ⟨fr, H, rfl, hw, h⟩
  | region id ops dr =>
    intro Q fr H w h hw
    cases dr with
    | false =>
      refine Code.wp_mono (Q := DrawQ c ds (Q .normal)) (fun e a w ⟨fr, H, ha, hs, he, hq⟩ => ⟨fr, H, ha, hs, he ▸ hq⟩) (wpIn_wide.1 (wpIn_region (n := 0) ?_))
      have h1 : wlist c T ops.toList ops.toList (Q .normal) fr H := h
      have := wlist_ok hT none ds ops.toList ops.toList 0 (Q .normal) fr H w (fun j => by simp) h1 hw
      rw [List.range_eq_range']
      exact this
    | true =>
      have h1 : DrawS c T id ops.toList (Q .normal) fr H := h
      exact Code.wp_mono (Q := DrawQ c ds (Q .normal)) (fun e a w ⟨fr, H, ha, hs, he, hq⟩ => ⟨fr, H, ha, hs, he ▸ hq⟩) (h1.wp ds hw)
  | seq a b iha ihb =>
    intro Q fr H w h hw
    have h1 : wc c T a (thenQ (wc c T b Q) Q) fr H := h
    refine wp_seq (Code.wp_mono (fun e a w ⟨fr, H, ha, hs, hq⟩ => ?_) (iha _ fr H w h1 hw))
    cases e with
    | normal => subst ha; exact ihb Q fr H w hq hs
    | _ => exact ⟨fr, H, ha, hs, hq⟩
  | cond x a b iha ihb =>
    intro Q fr H w h hw
    have h1 : evK fr x fun x => (match x with | .bool t => (match t with | true => wc c T a Q fr H | false => wc c T b Q fr H) | _ => False) := h
    rw [evK_eq] at h1
    split at h1
    · rename_i t hx
      cases t with
      | true => exact wp_cond_true hx (iha Q fr H w h1 hw)
      | false => exact wp_cond_false hx (ihb Q fr H w h1 hw)
    · exact h1.elim
  | block id a ih =>
    intro Q fr H w h hw
    have h1 : wc c T a (blockQ id Q) fr H := h
    refine wp_block (Code.wp_mono (fun e a w ⟨fr, H, ha, hs, hq⟩ => ?_) (ih _ fr H w h1 hw))
    cases e with
    | exit id' =>
      unfold blockQ at hq
      simp only at hq
      unfold Exit.inBlock
      simp only
      cases hb : Nat.beq id' id with
      | true =>
        rw [hb] at hq
        rw [if_pos (Nat.eq_of_beq_eq_true hb)]
        exact ⟨fr, H, ha, hs, hq⟩
      | false =>
        rw [hb] at hq
        rw [if_neg (Nat.ne_of_beq_eq_false hb)]
        exact ⟨fr, H, ha, hs, hq⟩
    | _ => exact ⟨fr, H, ha, hs, hq⟩
  | loop a ih => exact fun Q fr H w h hw => (show LoopS c T a Q fr H from h).ok ds w hw
  | rangeFunc f ps as' body iha ihb => exact fun Q fr H w h hw => (show OthC c T (.rangeFunc f ps as' body) Q fr H from h).ok ds w hw
  | exit id => exact fun Q fr H w h hw => wp_exit ⟨fr, H, rfl, hw, h⟩
  | scope a ih =>
    intro Q fr H w h hw
    have h1 : wc c T a (scopeQ Q) fr H := h
    refine wp_scope_straight (Code.wp_mono (fun e a w ⟨fr, H, ha, hs, hq⟩ => ?_) (ih _ fr H w h1 hw))
    cases e with
    | goto l => exact hq.elim
    | _ => exact ⟨fr, H, ha, hs, hq⟩
  | label l => exact fun Q fr H w h hw => wp_label ⟨fr, H, rfl, hw, h⟩
  | goto l => exact fun Q fr H w h hw => wp_goto ⟨fr, H, rfl, hw, h⟩
  | ret => exact fun Q fr H w h hw => wp_ret ⟨fr, H, rfl, hw, h⟩
  | refuse s => exact fun Q fr H w h hw => (show False from h).elim

/-- Code without loops. -/
def strC : Code → Bool
  | .region _ _ _ => true
  | .seq a b => strC a && strC b
  | .cond _ a b => strC a && strC b
  | .block _ a => strC a
  | .loop _ => false
  | .rangeFunc _ _ _ _ => false
  | .scope _ => false
  | .refuse _ => false
  | _ => true
/-- .. in a round. -/
theorem wcR_ok (hT : TOk c.P T) (rd : Option Nat) (ds : List Deferred) (cd : Code) : strC cd = true → ∀ (Q : Exit → Fr → Hp → Prop) (fr : Fr) (H : Hp) (w : World), wc c T cd Q fr H → St c H w → cd.wpIn (wideR rd) 0 c.P (Lift c ds Q) (actD ds fr) w := by
  induction cd with
  | skip => exact fun _ Q fr H w h hw => wpIn_skip ⟨fr, H, rfl, hw, h⟩
  | region id ops dr =>
    intro hS Q fr H w h hw
    cases dr with
    | false =>
      refine wpIn_mono (Q := DrawQ c ds (Q .normal)) (wpIn_region ?_) (fun e a w ⟨fr, H, ha, hs, he, hq⟩ => ⟨fr, H, ha, hs, he ▸ hq⟩)
      have h1 : wlist c T ops.toList ops.toList (Q .normal) fr H := h
      have := wlist_ok hT rd ds ops.toList ops.toList 0 (Q .normal) fr H w (fun j => by simp) h1 hw
      rw [List.range_eq_range']
      exact this
    | true =>
      have h1 : DrawS c T id ops.toList (Q .normal) fr H := h
      exact wpIn_mono (Q := DrawQ c ds (Q .normal)) (h1.wpIn rd ds hw) (fun e a w ⟨fr, H, ha, hs, he, hq⟩ => ⟨fr, H, ha, hs, he ▸ hq⟩)
  | seq a b iha ihb =>
    intro hS Q fr H w h hw
    have hS : (strC a && strC b) = true := hS
    rw [Bool.and_eq_true] at hS
    have h1 : wc c T a (thenQ (wc c T b Q) Q) fr H := h
    refine wpIn_seq (wpIn_mono (iha hS.1 _ fr H w h1 hw) (fun e a w ⟨fr, H, ha, hs, hq⟩ => ?_))
    cases e with
    | normal => subst ha; exact ihb hS.2 Q fr H w hq hs
    | _ => exact ⟨fr, H, ha, hs, hq⟩
  | cond x a b iha ihb =>
    intro hS Q fr H w h hw
    have hS : (strC a && strC b) = true := hS
    rw [Bool.and_eq_true] at hS
    have h1 : evK fr x fun x => (match x with | .bool t => (match t with | true => wc c T a Q fr H | false => wc c T b Q fr H) | _ => False) := h
    rw [evK_eq] at h1
    split at h1
    · rename_i t hx
      cases t with
      | true => exact wpIn_cond_true hx (iha hS.1 Q fr H w h1 hw)
      | false => exact wpIn_cond_false hx (ihb hS.2 Q fr H w h1 hw)
    · exact h1.elim
  | block id a ih =>
    intro hS Q fr H w h hw
    have h1 : wc c T a (blockQ id Q) fr H := h
    refine wpIn_block (wpIn_mono (ih hS _ fr H w h1 hw) (fun e a w ⟨fr, H, ha, hs, hq⟩ => ?_))
    cases e with
    | exit id' =>
      unfold blockQ at hq
      simp only at hq
      unfold Exit.inBlock
      simp only
      cases hb : Nat.beq id' id with
      | true =>
        rw [hb] at hq
        rw [if_pos (Nat.eq_of_beq_eq_true hb)]
        exact ⟨fr, H, ha, hs, hq⟩
      | false =>
        rw [hb] at hq
        rw [if_neg (Nat.ne_of_beq_eq_false hb)]
        exact ⟨fr, H, ha, hs, hq⟩
    | _ => exact ⟨fr, H, ha, hs, hq⟩
  | exit id => exact fun _ Q fr H w h hw => wpIn_exit ⟨fr, H, rfl, hw, h⟩
  | label l => exact fun _ Q fr H w h hw => wpIn_label ⟨fr, H, rfl, hw, h⟩
  | goto l => exact fun _ Q fr H w h hw => wpIn_goto ⟨fr, H, rfl, hw, h⟩
  | ret => exact fun _ Q fr H w h hw => wpIn_ret ⟨fr, H, rfl, hw, h⟩
  | _ => exact fun hS => by cases hS

/-! ## Loops -/
noncomputable def loopQ {α : Type} (F : α → Fr) (G : α → Hp) (pre : α → Prop) (μ : α → Nat) (x : α) (Q : Exit → Fr → Hp → Prop) (e : Exit) (fr : Fr) (H : Hp) : Prop := match e with
  | .normal => ∃ x', pre x' ∧ fr = F x' ∧ (G x').Sublist H ∧ μ x' < μ x
  | e => Q e fr H
theorem LoopS.go {α : Type} {body : Code} {Q : Exit → Fr → Hp → Prop} {fr : Fr} {H : Hp} (hT : TOk c.P T) (F : α → Fr) (G : α → Hp) (pre : α → Prop) (μ : α → Nat) (x0 : α) (h0 : pre x0) (hF : fr = F x0) (hG : (G x0).Sublist H)
    (round : ∀ x, pre x → wc c T body (loopQ F G pre μ x Q) (F x) (G x)) : LoopS c T body Q fr H := by
  refine ⟨fun ds w hw => wp_loop_ghost (fun n a w => ∃ x, pre x ∧ a = actD ds (F x) ∧ St c (G x) w ∧ μ x = n) (μ x0) ⟨x0, h0, by rw [hF], hw.sub hG, rfl⟩ ?_⟩
  rintro n a w ⟨x, hx, rfl, hs, rfl⟩
  refine Code.wp_mono (fun e a w ⟨fr, H, ha, hs, hq⟩ => ?_) (wc_ok hT ds body _ _ _ w (round x hx) hs)
  cases e with
  | normal =>
    obtain ⟨x', hx', rfl, hG', hlt⟩ := hq
    exact ⟨μ x', hlt, x', hx', ha, hs.sub hG', rfl⟩
  | _ => exact ⟨fr, H, ha, hs, hq⟩
end
end Go.Proofs.YtnaeeklnlddcaaaGreatDoor.Vex
/- A walk by reckoning, part eight: functions, and the rules by which the stops are met. No program in sight. -/
namespace Go.Proofs.YtnaeeklnlddcaaaGreatDoor.Vex
open Go Go.RowKit

/-! ## Functions -/
noncomputable def resK (c : Ctx) (T : Ty) (fr : Fr) (H : Hp) (l : List ResultVar) : (List Value → Prop) → Prop :=
  List.rec (motive := fun _ => (List Value → Prop) → Prop) (fun K => K [])
    (fun r _ ih K => match r with
      | .tmp t => getK fr t fun v => ih fun vs => K (v :: vs)
      | .cell a t => getK fr a fun p => (match (lookT T t).d with | .invalid => False | _ => Ld c H p (aggN (lookT T t)) fun v => ih fun vs => K (v :: vs))) l
noncomputable def oneK (vs : List Value) (K : Value → Prop) : Prop := match vs with | [v] => K v | vs => K (.tuple ⟨vs⟩)
noncomputable def retQ (c : Ctx) (T : Ty) (rs : List ResultVar) (K : Value → Hp → Prop) (e : Exit) (fr : Fr) (H : Hp) : Prop := match e with
  | .normal => resK c T fr H rs fun vs => oneK vs fun v => K v H
  | .ret => resK c T fr H rs fun vs => oneK vs fun v => K v H
  | _ => False

section
variable {c : Ctx} {T : Ty}
def resF (tmps : Array Value) : ResultVar → Sem Value
  | .tmp t => pure (tmps.getD t undef)
  | .cell a t => do loadVar t (← asAddr (tmps.getD a undef))
theorem results_eq (fn : Func) (tmps : Array Value) : results fn tmps = (do let vs ← fn.results.mapM (resF tmps); pure (if h : vs.size = 1 then vs[0] else .tuple vs)) := by
  unfold results
  congr 2
theorem resK_ok (hT : TOk c.P T) (fr : Fr) (H : Hp) : ∀ (l : List ResultVar) (K : List Value → Prop), resK c T fr H l K → ∃ vs, K vs ∧ ∀ w, St c H w →
    (l.mapM (resF (act fr).tmps)).run c.P w = .ok vs w
  | [], K, h => ⟨[], h, fun _ _ => rfl⟩
  | .tmp t :: l, K, h => by
    have h1 : getK fr t fun v => resK c T fr H l fun vs => K (v :: vs) := h
    rw [getK_eq] at h1
    obtain ⟨vs, hk, hr⟩ := resK_ok hT fr H l _ h1
    refine ⟨_, hk, fun w hw => ?_⟩
    rw [List.mapM_cons]
    simp only [resF, Sem.run_bind, Sem.run_pure, Result.andThen_ok, hr w hw]
    simp [act]
  | .cell a t :: l, K, h => by
    have h1 : getK fr a fun p => (match (lookT T t).d with | .invalid => False | _ => Ld c H p (aggN (lookT T t)) fun v => resK c T fr H l fun vs => K (v :: vs)) := h
    rw [getK_eq] at h1
    split at h1
    · exact h1.elim
    · rename_i hd
      obtain ⟨v, p, hp, hrd, h2⟩ := h1.ok
      obtain ⟨vs, hk, hr⟩ := resK_ok hT fr H l _ h2
      refine ⟨_, hk, fun w hw => ?_⟩
      have hv := rd_run (lookT_ok hT hd) (hrd w hw)
      have hp' : (act fr).tmps.getD a undef = .pointer (some p) := by rw [← hp]; simp [act]
      have ha : (asAddr ((act fr).tmps.getD a undef)).run c.P w = .ok p w := by rw [hp']; rfl
      rw [List.mapM_cons]
      simp only [resF, Sem.run_bind, ha, Sem.run_pure, Result.andThen_ok, hv, hr w hw]
theorem results_ok (hT : TOk c.P T) {fn : Func} {fr : Fr} {H : Hp} {K : Value → Prop} (h : resK c T fr H fn.results.toList fun vs => oneK vs K) : ∃ v, K v ∧ ∀ w, St c H w → (results fn (act fr).tmps).run c.P w = .ok v w := by
  obtain ⟨vs, hk, hr⟩ := resK_ok hT fr H _ _ h
  have hm : ∀ w, St c H w → (fn.results.mapM (resF (act fr).tmps)).run c.P w = .ok ⟨vs⟩ w := fun w hw => by
    rw [Array.mapM_eq_mapM_toList, Sem.run_map, hr w hw]
    rfl
  unfold oneK at hk
  split at hk
  · rename_i v
    refine ⟨v, hk, fun w hw => ?_⟩
    rw [results_eq, Sem.run_bind, hm w hw]
    rfl
  · rename_i hne
    refine ⟨_, hk, fun w hw => ?_⟩
    rw [results_eq, Sem.run_bind, hm w hw]
    have hs : ¬ (⟨vs⟩ : Array Value).size = 1 := fun h1 => by
      match vs, h1 with
      | [v], _ => exact hne v rfl
    simp only [Result.andThen_ok, dif_neg hs]
    rfl
/-- A function's body, walked, is what its call does. -/
theorem calls_of_wc (hT : TOk c.P T) {f : FuncId} {fn : Func} {cd : Code} {args : List Value} {H : Hp} {K : Value → Hp → Prop} (hf : c.P.funcs[f]? = some fn) (hb : fn.body = some cd) {w : World} (hw : St c H w)
    (h : wc c T cd (retQ c T fn.results.toList K) (args ++ List.replicate (fn.ntmps - args.length) undef) H) :
    Calls c.P f ⟨args⟩ w fun e w' => ∃ v H', e = .returned v ∧ St c H' w' ∧ K v H' := by
  refine calls_of_wp hf hb ?_
  have ha : ({ tmps := (⟨args⟩ : Array Value) ++ Array.replicate (fn.ntmps - (⟨args⟩ : Array Value).size) undef, defers := [] } : Act) = act (args ++ List.replicate (fn.ntmps - args.length) undef) := by
    unfold act
    congr 1
    rw [← Array.toList_inj]; simp
  rw [ha]
  refine Code.wp_mono (fun e a w ⟨fr, H, ha, hs, hq⟩ => ?_) (wc_ok hT [] cd _ _ H w h hw)
  subst ha
  have fin : resK c T fr H fn.results.toList (fun vs => oneK vs fun v => K v H) → ∃ v, (results fn (act fr).tmps).run c.P w = .ok v w ∧ ∃ v' H', Ending.returned v = .returned v' ∧ St c H' w ∧ K v' H' := fun hq => by
    obtain ⟨v, hk, hr⟩ := results_ok hT hq
    exact ⟨v, hr w hs, v, H, rfl, hs, hk⟩
  cases e with
  | normal => exact ⟨rfl, fin hq⟩
  | ret => exact ⟨rfl, fin hq⟩
  | exit id => exact hq.elim
  | goto l => exact hq.elim
  | panic ch => exact hq.elim
  | outgrown => exact hq.elim
end

/-- A function that gives back one value that is known, and makes new memory at most. -/
structure Fn (P : Program) (g : GI) (f : FuncId) (args : List Value) (v : Value) : Prop where
  can : Callable P f
  ok : ∀ w, g.G w → Calls P f ⟨args⟩ w fun e w' => e = .returned v ∧ R w w'
/-- A function of whose outcome something is known. -/
structure FnE (P : Program) (g : GI) (f : FuncId) (args : List Value) (pre : World → Prop) (post : World → Value → World → Prop) : Prop where
  can : Callable P f
  ok : ∀ w, g.G w → pre w → Calls P f ⟨args⟩ w fun e w' => ∃ v, e = .returned v ∧ post w v w' ∧ R w w'

abbrev mkC (P : Program) (g : GI) (w : World) (hG : g.G w) : Ctx := ⟨P, g, w, [], fun _ h => (by cases h), hG⟩
theorem callable {P : Program} {f : FuncId} {fn : Func} {cd : Code} (hf : P.funcs[f]? = some fn) (hb : fn.body = some cd) (hn : (fn.name == "runtime.NumGoroutine") = false) : Callable P f := ⟨fn, hf, hn, by rw [hb]; rfl⟩
theorem Fn.of {P : Program} {g : GI} {T : Ty} (hT : TOk P T) {f : FuncId} {fn : Func} {cd : Code} {args : List Value} {v : Value} (hf : P.funcs[f]? = some fn) (hb : fn.body = some cd) (hn : (fn.name == "runtime.NumGoroutine") = false) {rs : List ResultVar} (hr : fn.results.toList = rs) {n : Nat} (hz : fn.ntmps - args.length = n)
    (h : ∀ w (hG : g.G w), wc (mkC P g w hG) T cd (retQ (mkC P g w hG) T rs fun v' _ => v' = v) (args ++ List.replicate n undef) []) : Fn P g f args v :=
  ⟨callable hf hb hn, fun w hG => (calls_of_wc (c := mkC P g w hG) (K := fun v' _ => v' = v) hT hf hb (St.start _) (by rw [hr, hz]; exact h w hG)).mono fun e w' ⟨v', H', he, hs, hk⟩ => ⟨by rw [he, hk], hs.mod.below⟩⟩
theorem FnE.of {P : Program} {g : GI} {T : Ty} (hT : TOk P T) {f : FuncId} {fn : Func} {cd : Code} {args : List Value} {pre : World → Prop} {post : World → Value → World → Prop} (hf : P.funcs[f]? = some fn) (hb : fn.body = some cd) (hn : (fn.name == "runtime.NumGoroutine") = false) {rs : List ResultVar} (hr : fn.results.toList = rs) {n : Nat} (hz : fn.ntmps - args.length = n)
    (h : ∀ w (hG : g.G w), pre w → wc (mkC P g w hG) T cd (retQ (mkC P g w hG) T rs fun v H => ∀ w', St (mkC P g w hG) H w' → post w v w') (args ++ List.replicate n undef) []) : FnE P g f args pre post :=
  ⟨callable hf hb hn, fun w hG hp => (calls_of_wc (c := mkC P g w hG) (K := fun v H => ∀ w', St (mkC P g w hG) H w' → post w v w') hT hf hb (St.start _) (by rw [hr, hz]; exact h w hG hp)).mono fun e w' ⟨v', H', he, hs, hk⟩ => ⟨v', he, hk w' hs, hs.mod.below⟩⟩

/-! ## Stops -/
section
variable {c : Ctx} {H : Hp}
theorem CallK.fn {m : Bool} {f : Nat} {args : List Value} {v : Value} {K : Value → Hp → Prop} (h : Fn c.P c.g f args v) (k : K v H) : CallK c m f args H K :=
  .of h.can fun w hw => (h.ok w hw.glob).mono fun _ _w' ⟨he, hR⟩ => ⟨v, H, he, hw.below hR, k, fun _ => hR⟩
theorem CallQ.fn {f : Nat} {args : List Value} {v : Value} {K : Value → Prop} (h : Fn c.P c.g f args v) (k : K v) : CallQ c f args H K :=
  ⟨h.can, v, k, fun w hw => h.ok w hw.glob⟩
theorem CallK.fnE {m : Bool} {f : Nat} {args : List Value} {pre : World → Prop} {post : World → Value → World → Prop} {K : Value → Hp → Prop} (h : FnE c.P c.g f args pre post) (hp : ∀ w, St c H w → pre w)
    (k : ∀ w v w', St c H w → post w v w' → R w w' → ∃ H', St c H' w' ∧ K v H') : CallK c m f args H K :=
  .of h.can fun w hw => (h.ok w hw.glob (hp w hw)).mono fun _ w' ⟨v, he, hpo, hR⟩ => by
    obtain ⟨H', hs, hk⟩ := k w v w' hw hpo hR
    exact ⟨v, H', he, hs, hk, fun _ => hR⟩

theorem Ar.in64 {z : Int} {K : Value → Prop} (h : -9223372036854775808 ≤ z) (h' : z ≤ 9223372036854775807) (k : K (.int .i64 z)) : Ar .i64 z K :=
  ⟨z, by rw [IntKind.wrap]; simp [IntKind.bits, IntKind.signed]; omega, k⟩
theorem Ar.in8 {z : Int} {K : Value → Prop} (h : 0 ≤ z) (h' : z ≤ 255) (k : K (.int .u8 z)) : Ar .u8 z K :=
  ⟨z, by rw [IntKind.wrap]; simp [IntKind.bits, IntKind.signed]; omega, k⟩
theorem Ar.any {kd : IntKind} {z : Int} {K : Value → Prop} (k : K (.int kd (kd.wrap z))) : Ar kd z K := ⟨_, rfl, k⟩
theorem Cmp.t {p : Prop} {K : Value → Prop} (h : p) (k : K (.bool true)) : Cmp p K := ⟨fun c hc => by rw [hc.2 h]; exact k⟩
theorem Cmp.f {p : Prop} {K : Value → Prop} (h : ¬ p) (k : K (.bool false)) : Cmp p K := ⟨fun c hc => by
  cases c with
  | false => exact k
  | true => exact absurd (hc.1 rfl) h⟩
theorem Cmp.cases {p : Prop} {K : Value → Prop} (h1 : p → K (.bool true)) (h0 : ¬ p → K (.bool false)) : Cmp p K := ⟨fun c hc => by
  cases c with
  | false => exact h0 fun h => by have := hc.2 h; cases this
  | true => exact h1 (hc.1 rfl)⟩
theorem Cmp.of {p : Prop} {K : Value → Prop} (b : Bool) (h : b = true ↔ p) (k : K (.bool b)) : Cmp p K := ⟨fun c hc => by
  have : c = b := Bool.eq_iff_iff.2 (hc.trans h.symm)
  rw [this]; exact k⟩
theorem IdxS.at {l : List UInt8} {i : Int} {K : Value → Prop} (x : UInt8) (h : l[i.toNat]? = some x) (h0 : 0 ≤ i) (k : K (.int .u8 x.toNat)) : IdxS l i K := ⟨h0, x, h, k⟩
theorem SlcS.at {l : List UInt8} {lo hi : Int} {K : Value → Prop} (h0 : 0 ≤ lo) (h1 : lo ≤ hi) (h2 : hi ≤ l.length) (k : K (str ((l.take hi.toNat).drop lo.toNat))) : SlcS l lo hi K := ⟨h0, h1, h2, k⟩
theorem CatS.at {a b : List UInt8} {K : Value → Prop} (h : a.length + b.length ≤ 9223372036854775807) (k : K (str (a ++ b))) : CatS a b K := ⟨h, k⟩

theorem Ld.here {b i : Nat} {vs : List Value} {t : TypeId} {v : Value} {K : Value → Prop} (h : vs[i]? = some v) (k : K v) : Ld c (.box b vs t :: H) (.pointer (some ⟨b, i, none⟩)) none K :=
  ⟨v, _, rfl, fun w hw => by
    have := (hw.own _ (List.mem_cons_self ..)).1
    have hb : w.heap[b]? = some (.cells ⟨vs⟩ t (0, 0)) := this
    show w.cell? ⟨b, i, none⟩ = some v
    rw [cell_of_row w b i _ _ _ hb]
    simpa using h, k⟩
theorem Ld.whole {b n : Nat} {vs : List Value} {t : TypeId} {K : Value → Prop} (h : vs.length = n) (k : K (.agg ⟨vs⟩)) : Ld c (.box b vs t :: H) (.pointer (some ⟨b, 0, none⟩)) (some n) K :=
  ⟨_, _, rfl, fun w hw => ⟨vs, rfl, h, fun j u hu => by
    have := (hw.own _ (List.mem_cons_self ..)).1
    have hb : w.heap[b]? = some (.cells ⟨vs⟩ t (0, 0)) := this
    rw [Addr.add_lit, Nat.zero_add, cell_of_row w b j _ _ _ hb]
    simpa using hu⟩, k⟩
theorem Ld.skip {x : Ent} {a : Value} {n : Option Nat} {K : Value → Prop} (h : Ld c H a n K) : Ld c (x :: H) a n K := by
  obtain ⟨v, p, ha, hr, k⟩ := h.ok
  exact ⟨v, p, ha, fun w hw => hr w (hw.sub (List.sublist_cons_self _ _)), k⟩
/-- A cell that lay there ahead of the call. -/
theorem Ld.old {p : Addr} {v : Value} {K : Value → Prop} (h : c.w0.cell? p = some v) (hM : p.block ∉ c.M) (k : K v) : Ld c H (.pointer (some p)) none K :=
  ⟨v, p, rfl, fun _w hw => (World.cell?_of_block (hw.mod.block p.block (World.block_lt_of_cell? _ _ h) hM)).trans h, k⟩
theorem Ld.oldN {p : Addr} {vs : List Value} {n : Nat} {K : Value → Prop} (hn : vs.length = n) (h : ∀ j u, vs[j]? = some u → c.w0.cell? (p.add j) = some u) (hM : p.block ∉ c.M) (k : K (.agg ⟨vs⟩)) : Ld c H (.pointer (some p)) (some n) K :=
  ⟨_, p, rfl, fun w hw => ⟨vs, rfl, hn, fun j u hu => by
    have h1 := h j u hu
    have hb : (p.add j).block = p.block := by unfold Addr.add; split <;> rfl
    refine (World.cell?_of_block (hw.mod.block _ ?_ ?_)).trans h1
    · exact World.block_lt_of_cell? _ _ h1
    · rw [hb]; exact hM⟩, k⟩

theorem St.setRow {b : Nat} {vs vs' : List Value} {t : TypeId} {w : World} (hw : St c (.box b vs t :: H) w) : St c (.box b vs' t :: H) (w.setRow b ⟨vs'⟩) := by
  have hb : w.heap[b]? = some (.cells ⟨vs⟩ t (0, 0)) := (hw.own _ (List.mem_cons_self ..)).1
  have hk := (hw.own _ (List.mem_cons_self ..)).2 b rfl
  have hn : ∀ y ∈ H, y.blk ≠ some b := fun y hy he => by
    have := hw.apart
    rw [List.filterMap_cons] at this
    exact (List.nodup_cons.1 this).1 (List.mem_filterMap.2 ⟨y, hy, he⟩)
  have h1 : St c H w := hw.sub (List.sublist_cons_self _ _)
  have hm : ModW c.M c.w0 (w.setRow b ⟨vs'⟩) := ⟨h1.mod.os, h1.mod.tape, h1.mod.output, by rw [setRow_size]; exact h1.mod.size, fun k hk' hM => by
    rw [setRow_other w b k _ (fun e => by subst e; rcases hk.2 with h2 | h2; exact absurd hk' (by omega); exact hM h2)]
    exact h1.mod.block k hk' hM⟩
  refine St.push ⟨hm, fun y hy => ⟨Ent.holds_of_block (h1.own y hy).1 fun b' e => setRow_other w b b' _ (fun e' => by subst e'; exact hn y hy e), fun b' e => by rw [setRow_size]; exact (h1.own y hy).2 b' e⟩, h1.apart⟩ (setRow_heap w b _ _ t _ hb) (fun b' e => ?_) (fun b' e y hy => ?_)
  · cases e; rw [setRow_size]; exact hk
  · cases e; exact hn y hy
theorem Sto.here {b i : Nat} {vs : List Value} {t : TypeId} {v : Value} {K : Hp → Prop} (hi : i < vs.length) (h1 : v.oneCell' = true) (k : K (.box b (vs.set i v) t :: H)) : Sto c (.box b vs t :: H) (.pointer (some ⟨b, i, none⟩)) v 1 K := by
  have hc : v.cells = #[v] := by cases v <;> first | rfl | cases h1
  refine ⟨_, _, rfl, by rw [hc]; rfl, k, rfl, fun w hw => ⟨by simp [Ent.blk], _, ?_, hw.setRow, by rw [setRow_size]; exact Nat.le_refl _, fun k hk => setRow_other w b k _ hk⟩⟩
  have hb : w.heap[b]? = some (.cells ⟨vs⟩ t (0, 0)) := (hw.own _ (List.mem_cons_self ..)).1
  rw [hc, run_storeCells_at c.P b i t [v] 0 ⟨vs⟩ w hb (by simp; omega) (by simpa using h1)]
  congr 2
  rw [← Array.toList_inj]
  simp only [Nat.add_zero, List.length_singleton, List.append_assoc, List.singleton_append]
  rw [List.set_eq_take_append_cons_drop, if_pos hi]
theorem Sto.whole {b n : Nat} {vs xs : List Value} {t : TypeId} {K : Hp → Prop} (hn : xs.length = n) (hv : vs.length = n) (h1 : ∀ x ∈ xs, x.oneCell' = true) (k : K (.box b xs t :: H)) : Sto c (.box b vs t :: H) (.pointer (some ⟨b, 0, none⟩)) (.agg ⟨xs⟩) n K := by
  refine ⟨_, _, rfl, hn, k, rfl, fun w hw => ⟨by simp [Ent.blk], _, ?_, hw.setRow, by rw [setRow_size]; exact Nat.le_refl _, fun k hk => setRow_other w b k _ hk⟩⟩
  have hb : w.heap[b]? = some (.cells ⟨vs⟩ t (0, 0)) := (hw.own _ (List.mem_cons_self ..)).1
  show (storeCells ⟨b, 0, none⟩ xs).run c.P w = _
  rw [run_storeCells_at c.P b 0 t xs 0 ⟨vs⟩ w hb (by simp; omega) h1]
  have e : (List.take (0 + 0) (⟨vs⟩ : Array Value).toList ++ xs ++ List.drop (0 + 0 + xs.length) (⟨vs⟩ : Array Value).toList).toArray = ⟨xs⟩ := by
    have e1 : List.drop (0 + 0 + xs.length) (⟨vs⟩ : Array Value).toList = [] := List.drop_eq_nil_of_le (by show vs.length ≤ _; omega)
    rw [e1, ← Array.toList_inj]; simp
  rw [e]
theorem Sto.skip {x : Ent} {a v : Value} {n : Nat} {K : Hp → Prop} (h : Sto c H a v n fun H' => K (x :: H')) : Sto c (x :: H) a v n K := by
  obtain ⟨p, H', ha, hz, k, hf, hr⟩ := h.ok
  refine ⟨p, x :: H', ha, hz, k, by rw [List.filterMap_cons, List.filterMap_cons, hf], fun w hw => ?_⟩
  obtain ⟨hp, w', hrun, hs, hsz, hfar⟩ := hr w (hw.sub (List.sublist_cons_self _ _))
  refine ⟨?_, ?_⟩
  · rw [List.filterMap_cons]
    cases x.blk with
    | none => exact hp
    | some b => exact List.mem_cons_of_mem _ hp
  · have hx := hw.own x (List.mem_cons_self ..)
    have hne : ∀ b, x.blk = some b → b ≠ p.block := fun b hb e => by
      subst e
      have := hw.apart
      rw [List.filterMap_cons, hb] at this
      exact (List.nodup_cons.1 this).1 hp
    refine ⟨w', hrun, hs.push (Ent.holds_of_block hx.1 fun b hb => hfar b (hne b hb)) (fun b hb => ⟨Nat.lt_of_lt_of_le (hx.2 b hb).1 hsz, (hx.2 b hb).2⟩) (fun b hb y hy he => ?_), hsz, hfar⟩
    have := hw.apart
    rw [List.filterMap_cons, hb] at this
    refine (List.nodup_cons.1 this).1 ?_
    rw [← hf]
    exact List.mem_filterMap.2 ⟨y, hy, he⟩
end
end Go.Proofs.YtnaeeklnlddcaaaGreatDoor.Vex
/- A walk by reckoning, part nine: rows: how they are read, written and appended to. No program in sight. -/
namespace Go.Proofs.YtnaeeklnlddcaaaGreatDoor.Vex
open Go Go.RowKit

theorem add_add (a : Addr) (i j : Nat) : (a.add i).add j = a.add (i + j) := by
  unfold Addr.add
  by_cases hi : i = 0
  · subst hi; simp
  · by_cases hj : j = 0
    · subst hj; simp [hi]
    · simp [hi, hj, Nat.add_assoc]
theorem add_block (a : Addr) (i : Nat) : (a.add i).block = a.block := by unfold Addr.add; split <;> rfl

/-- In every world with this heap the slice that lies at A reads xs. -/
def RdS (c : Ctx) (H : Hp) (A : Option Addr) (xs : List Value) : Prop := ∀ w, St c H w → ∀ (j : Nat) (u : Value), xs[j]? = some u → ∃ a, A = some a ∧ w.cell? (a.add j) = some u
section
variable {c : Ctx} {H : Hp}
theorem RowH.read {w : World} {A : Option Addr} {cp e size n n' : Nat} {xs : List Value} (h : RowH w (.slice A n' cp) e size n xs) (j : Nat) (u : Value) (hj : xs[j]? = some u) : ∃ g cur fz, A = some ⟨g, 0, none⟩ ∧ n' = n ∧ w.heap[g]? = some (.cells cur e fz) ∧ cur.toList[j]? = some u ∧ n ≤ cp ∧ xs.length ≤ cur.size ∧ (fz.2 ≤ fz.1 ∨ cur.size ≤ fz.1) := by
  rcases h.2 with ⟨he, rfl⟩ | ⟨g, cap, cur, fz, he, hg, hnc, hcm, hcs, htake, hfz⟩
  · have : xs = [] := List.eq_nil_of_length_eq_zero (by simpa using h.1)
    subst this
    simp at hj
  · cases he
    refine ⟨g, cur, fz, rfl, rfl, hg, ?_, hnc, ?_, hfz⟩
    · rw [← htake, List.getElem?_take] at hj
      split at hj
      · exact hj
      · cases hj
    · rw [h.1, hcs]; exact Nat.mul_le_mul_right _ hnc
theorem RdS.here {A : Option Addr} {cp e size n n' : Nat} {xs : List Value} : RdS c (.row (.slice A n' cp) e size n xs :: H) A xs := fun w hw j u hj => by
  have h : RowH w (.slice A n' cp) e size n xs := (hw.own _ (List.mem_cons_self ..)).1
  obtain ⟨g, cur, fz, rfl, _, hg, hc, _⟩ := h.read j u hj
  exact ⟨_, rfl, by rw [Addr.add_lit, Nat.zero_add, cell_of_row w g j cur e fz hg]; simpa using hc⟩
theorem RdS.skip {A : Option Addr} {xs : List Value} {x : Ent} (h : RdS c H A xs) : RdS c (x :: H) A xs := fun w hw => h w (hw.sub (List.sublist_cons_self _ _))
theorem RdS.sub {A : Option Addr} {xs : List Value} {H' : Hp} (h : RdS c H A xs) (hs : H.Sublist H') : RdS c H' A xs := fun w hw => h w (hw.sub hs)
theorem RdS.nil {A : Option Addr} : RdS c H A [] := fun _ _ j u hj => by simp at hj
/-- A slice that came in. -/
theorem RdS.old {A : Option Addr} {xs : List Value} (h : ∀ (j : Nat) (u : Value), xs[j]? = some u → ∃ a, A = some a ∧ c.w0.cell? (a.add j) = some u ∧ a.block ∉ c.M) : RdS c H A xs := fun w hw j u hj => by
  obtain ⟨a, ha, hc, hM⟩ := h j u hj
  exact ⟨a, ha, (World.cell?_of_block (hw.mod.block _ (World.block_lt_of_cell? _ _ hc) (by rw [add_block]; exact hM))).trans hc⟩
/-- A piece of it. -/
theorem RdS.piece {A : Option Addr} {xs : List Value} {cp sz : Nat} {lo : Int} (h : RdS c H A xs) (_h0 : 0 ≤ lo) (hc : (cp : Int) = lo → xs.length ≤ lo.toNat * sz) : RdS c H (if (cp : Int) = lo then A else A.map (·.add (lo.toNat * sz))) (xs.drop (lo.toNat * sz)) := fun w hw j u hj => by
  rw [List.getElem?_drop] at hj
  by_cases hl : (cp : Int) = lo
  · have := hc hl
    rw [List.getElem?_eq_none (by omega)] at hj
    cases hj
  · obtain ⟨a, ha, hcell⟩ := h w hw _ u hj
    rw [if_neg hl, ha]
    exact ⟨_, rfl, by rw [add_add]; exact hcell⟩
theorem RdS.take {A : Option Addr} {xs : List Value} (h : RdS c H A xs) (n : Nat) : RdS c H A (xs.take n) := fun w hw j u hj => by
  rw [List.getElem?_take] at hj
  split at hj
  · exact h w hw j u hj
  · cases hj

theorem IdxA.rd {A : Option Addr} {n sz : Nat} {i : Int} {K : Value → Prop} {xs : List Value} (h : RdS c H A xs) (hx : 0 < xs.length) (h0 : 0 ≤ i) (h1 : i < n) (k : K (.pointer (some ((A.getD at0).add (i.toNat * sz))))) : IdxA c H A n i sz K :=
  ⟨h0, h1, fun w hw => by
    obtain ⟨a, ha, _⟩ := h w hw 0 xs[0] (List.getElem?_eq_getElem hx)
    rw [ha]; rfl, k⟩
theorem Ld.rd {A : Option Addr} {j : Nat} {xs : List Value} {v : Value} {K : Value → Prop} (h : RdS c H A xs) (hj : xs[j]? = some v) (k : K v) : Ld c H (.pointer (some ((A.getD at0).add j))) none K :=
  ⟨v, _, rfl, fun w hw => by
    obtain ⟨a, ha, hc⟩ := h w hw j v hj
    subst ha
    exact hc, k⟩
theorem Ld.rdF {A : Option Addr} {j o : Nat} {xs : List Value} {v : Value} {K : Value → Prop} (h : RdS c H A xs) (hj : xs[j + o]? = some v) (k : K v) : Ld c H (.pointer (some (((A.getD at0).add j).add o))) none K := by
  rw [add_add]; exact Ld.rd h hj k
theorem Ld.rdN {A : Option Addr} {j n : Nat} {xs vs : List Value} {K : Value → Prop} (h : RdS c H A xs) (hv : (xs.drop j).take n = vs) (hn : vs.length = n) (k : K (.agg ⟨vs⟩)) : Ld c H (.pointer (some ((A.getD at0).add j))) (some n) K :=
  ⟨_, _, rfl, fun w hw => ⟨vs, rfl, hn, fun i u hi => by
    rw [← hv, List.getElem?_take] at hi
    split at hi
    · rw [List.getElem?_drop] at hi
      obtain ⟨a, ha, hc⟩ := h w hw _ u hi
      subst ha
      rw [add_add]; exact hc
    · cases hi⟩, k⟩
theorem B2S.rd {A : Option Addr} {n : Nat} {l : List UInt8} {K : Value → Prop} (h : RdS c H A (l.map byteV)) (hl : l.length = n) (k : K (str l)) : B2S c H A n K :=
  ⟨l, hl, fun w hw j x hj => h w hw j _ (by rw [List.getElem?_map, hj]; rfl), k⟩
theorem S2B.go {l : List UInt8} {e : Nat} {K : Value → Hp → Prop} (h : l.length ≤ 9223372036854775807) (k : ∀ b cp, K (.slice (some ⟨b, 0, none⟩) l.length cp) (.row (.slice (some ⟨b, 0, none⟩) l.length cp) e 1 l.length (l.map byteV) :: H)) : S2B l e H K := ⟨h, k⟩
theorem BSl.go {vs : List Value} {e sz n : Nat} {K : Value → Hp → Prop} (h : vs.length = n * sz) (h1 : n * sz ≤ 16777216) (h2 : n ≤ 16777216) (k : ∀ b, K (.slice (some ⟨b, 0, none⟩) n n) (.row (.slice (some ⟨b, 0, none⟩) n n) e sz n vs :: H)) : BSl vs e sz n H K := ⟨h, h1, h2, k⟩

inductive Pick : Hp → Ent → Hp → Prop
  | here {x : Ent} {H : Hp} : Pick (x :: H) x H
  | skip {x y : Ent} {H H2 : Hp} : Pick H x H2 → Pick (y :: H) x (y :: H2)
theorem Pick.perm {x : Ent} {H H2 : Hp} (h : Pick H x H2) : H.Perm (x :: H2) := by
  induction h with
  | here => exact .refl _
  | skip _ ih => exact (ih.cons _).trans (.swap ..)
theorem SrcK.rd {A : Option Addr} {m cp : Nat} {news : List Value} (h : RdS c H A news) : SrcK c H (.slice A m cp) m news := ⟨rfl, h⟩
theorem SrcK.str (l : List UInt8) : SrcK c H (str l) l.length (l.map byteV) := ⟨rfl, rfl⟩
theorem AppS.go {v x : Value} {e sz bytes n m : Nat} {K : Value → Hp → Prop} {xs news : List Value} {H2 : Hp} (hp : Pick H (.row v e sz n xs) H2) (hs : SrcK c H x m news) (hl : news.length = m * sz) (h1 : ∀ u ∈ news, u.oneCell' = true) (h0 : 0 < sz) (h63 : n + m ≤ 9223372036854775807) (hb : (n + m) * bytes ≤ 140737488355328)
    (k : ∀ A cp, K (.slice A (n + m) cp) (.row (.slice A (n + m) cp) e sz (n + m) (xs ++ news) :: H2)) : AppS c v x e sz bytes H K := ⟨h0, n, xs, m, news, H2, fun _w hw => hw.perm hp.perm, hs, hl, h1, h63, hb, k⟩
/-- A nil slice owns nothing: it may stand among the rows at any time. -/
theorem St.nilRow {w : World} (h : St c H w) (e size : Nat) : St c (.row (.slice none 0 0) e size 0 [] :: H) w :=
  h.push ⟨by simp, .inl ⟨rfl, rfl⟩⟩ (fun _ e => by cases e) (fun _ e => by cases e)
theorem AppS.nil {x : Value} {e sz bytes : Nat} {K : Value → Hp → Prop} {m : Nat} {news : List Value} (hs : SrcK c H x m news) (hl : news.length = m * sz) (h1 : ∀ u ∈ news, u.oneCell' = true) (h0 : 0 < sz) (h63 : m ≤ 9223372036854775807) (hb : m * bytes ≤ 140737488355328)
    (k : ∀ A cp, K (.slice A (0 + m) cp) (.row (.slice A (0 + m) cp) e sz (0 + m) ([] ++ news) :: H)) : AppS c (.slice none 0 0) x e sz bytes H K :=
  ⟨h0, 0, [], m, news, H, fun w hw => hw.nilRow e sz, hs, hl, h1, by omega, by rw [Nat.zero_add]; exact hb, k⟩
theorem Sto.row {A : Option Addr} {cp e sz n j : Nat} {xs : List Value} {v : Value} {K : Hp → Prop} (hj : j < xs.length) (h1 : v.oneCell' = true) (k : K (.row (.slice A n cp) e sz n (xs.set j v) :: H)) : Sto c (.row (.slice A n cp) e sz n xs :: H) (.pointer (some ((A.getD at0).add j))) v 1 K := by
  have hc : v.cells = #[v] := by cases v <;> first | rfl | cases h1
  refine ⟨_, _, rfl, by rw [hc]; rfl, k, rfl, fun w hw => ?_⟩
  have hr : RowH w (.slice A n cp) e sz n xs := (hw.own _ (List.mem_cons_self ..)).1
  have hk := (hw.own _ (List.mem_cons_self ..)).2
  rcases hr.2 with ⟨he, h0⟩ | ⟨g, cap, cur, fz, he, hg, hnc, hcm, hcs, htake, hfz⟩
  · subst h0
    have : xs = [] := List.eq_nil_of_length_eq_zero (by simpa using hr.1)
    subst this
    simp at hj
  · cases he
    have hjc : j < cur.size := by
      have := hr.1
      rw [hcs]
      exact Nat.lt_of_lt_of_le (by omega) (Nat.mul_le_mul_right sz hnc)
    have hadd : ((some (⟨g, 0, none⟩ : Addr)).getD at0).add j = ⟨g, j, none⟩ := by simp [Addr.add_lit]
    have hcell : w.cell? ⟨g, j, none⟩ = some cur[j] := by rw [cell_of_row w g j cur e fz hg]; simp [hjc]
    have hfro : w.frozen? ⟨g, j, none⟩ = false := by
      simp only [World.frozen?, hg]
      simp; omega
    obtain ⟨h2, h3, h4, h5, h6⟩ := setCells_fields g [v] j w
    have hh := heap_setCells g e fz [v] j cur.toList w (by simpa using hg) (by simp; omega)
    have hrun : (storeCells (((some (⟨g, 0, none⟩ : Addr)).getD at0).add j) v.cells.toList).run c.P w = .ok () (w.setCells g j [v]) := by
      have hst : (store ⟨g, j, none⟩ v).run c.P w = .ok () (w.setCell ⟨g, j, none⟩ v) := by
        rw [run_store c.P w _ v _ h1, hcell]
        simp [hfro]
      rw [hadd, hc]
      show (storeCells ⟨g, j, none⟩ [v]).run c.P w = _
      simp only [storeCells, Sem.run_bind, Addr.add_lit, Nat.add_zero, hst, Result.andThen_ok, Sem.run_pure]
      rfl
    have hbl : (((some (⟨g, 0, none⟩ : Addr)).getD at0).add j).block = g := by rw [hadd]
    refine ⟨by rw [hbl]; simp [Ent.blk, Value.ownBlock], _, hrun, ?_, by rw [h5]; exact Nat.le_refl _, fun k hk => h6 k (by rw [← hbl]; exact hk)⟩
    have hrest : St c H w := hw.sub (List.sublist_cons_self _ _)
    have hkg := hk g rfl
    have hn : ∀ y ∈ H, y.blk ≠ some g := fun y hy he => by
      have := hw.apart
      rw [List.filterMap_cons] at this
      exact (List.nodup_cons.1 this).1 (List.mem_filterMap.2 ⟨y, hy, he⟩)
    have hm : ModW c.M c.w0 (w.setCells g j [v]) := ⟨h2.trans hw.mod.os, h3.trans hw.mod.tape, h4.trans hw.mod.output, by rw [h5]; exact hw.mod.size, fun k hk' hM => by
      rw [h6 k (fun e' => by subst e'; rcases hkg.2 with h | h; omega; exact hM h)]
      exact hw.mod.block k hk' hM⟩
    refine St.push ⟨hm, fun y hy => ⟨Ent.holds_of_block (hrest.own y hy).1 fun b' e' => h6 b' (fun e2 => by subst e2; exact hn y hy e'), fun b' e' => by rw [h5]; exact (hrest.own y hy).2 b' e'⟩, hrest.apart⟩ ⟨by rw [List.length_set]; exact hr.1, .inr ⟨g, _, _, fz, rfl, hh, hnc, hcm, ?_, ?_, ?_⟩⟩ (fun b' e' => ?_) (fun b' e' y hy => ?_)
    · simp only [List.size_toArray, List.length_append, List.length_take, List.length_drop, List.length_singleton, Array.length_toList]
      omega
    · show (cur.toList.take j ++ [v] ++ cur.toList.drop (j + 1)).take (n * sz) = xs.set j v
      have e1 : cur.toList.take j ++ [v] ++ cur.toList.drop (j + 1) = cur.toList.set j v := by
        rw [List.set_eq_take_append_cons_drop, if_pos (by simpa using hjc)]
        simp
      rw [e1, ← htake, List.take_set]
    · rcases hfz with h | h
      · exact .inl h
      · right
        simp only [List.size_toArray, List.length_append, List.length_take, List.length_drop, List.length_singleton, Array.length_toList]
        omega
    · obtain rfl : g = b' := Option.some.inj e'
      rw [h5]; exact hkg
    · obtain rfl : g = b' := Option.some.inj e'
      exact hn y hy

/-! ## Loops, again: slots that nobody reads are left open -/
def jk (fr : Fr) (i : Nat) : Value := fr.getD i undef
noncomputable def lpQ {β : Type} (F : β → (Nat → Value) → Fr) (G : β → Hp) (pre : β → Prop) (μ : β → Nat) (x : β) (Q : Exit → Fr → Hp → Prop) (e : Exit) (fr : Fr) (H : Hp) : Prop := match e with
  | .normal => ∃ x', pre x' ∧ fr = F x' (jk fr) ∧ (G x').Sublist H ∧ μ x' < μ x
  | e => Q e fr H
theorem LoopS.lp {T : Ty} {β : Type} {body : Code} {Q : Exit → Fr → Hp → Prop} {fr : Fr} (hT : TOk c.P T) (F : β → (Nat → Value) → Fr) (G : β → Hp) (pre : β → Prop) (μ : β → Nat) (x0 : β) (h0 : pre x0) (hF : fr = F x0 (jk fr)) (hG : (G x0).Sublist H)
    (round : ∀ x u, pre x → wc c T body (lpQ F G pre μ x Q) (F x u) (G x)) : LoopS c T body Q fr H := by
  refine ⟨fun ds w hw => wp_loop_ghost (fun n a w => ∃ x u, pre x ∧ a = actD ds (F x u) ∧ St c (G x) w ∧ μ x = n) (μ x0) ⟨x0, jk fr, h0, by rw [← hF], hw.sub hG, rfl⟩ ?_⟩
  rintro n a w ⟨x, u, hx, rfl, hs, rfl⟩
  refine Code.wp_mono (fun e a w ⟨fr, H, ha, hs, hq⟩ => ?_) (wc_ok hT ds body _ _ _ w (round x u hx) hs)
  cases e with
  | normal =>
    obtain ⟨x', hx', hF', hG', hlt⟩ := hq
    exact ⟨μ x', hlt, x', jk fr, hx', by rw [ha, ← hF'], hs.sub hG', rfl⟩
  | _ => exact ⟨fr, H, ha, hs, hq⟩
end
end Go.Proofs.YtnaeeklnlddcaaaGreatDoor.Vex
/- A walk by reckoning, part ten: functions that read slices, functions that give back slices of their own, min. No program in sight. -/
namespace Go.Proofs.YtnaeeklnlddcaaaGreatDoor.Vex
open Go Go.RowKit

/-- What lies at A in a world. -/
def Rdw (w : World) (A : Option Addr) (xs : List Value) : Prop := ∀ (j : Nat) (u : Value), xs[j]? = some u → ∃ a, A = some a ∧ w.cell? (a.add j) = some u
def RdL (w : World) : List (Option Addr × List Value) → Prop
  | [] => True
  | p :: r => Rdw w p.1 p.2 ∧ RdL w r
def RdsL (c : Ctx) (H : Hp) : List (Option Addr × List Value) → Prop
  | [] => True
  | p :: r => RdS c H p.1 p.2 ∧ RdsL c H r
theorem RdsL.at {c : Ctx} {H : Hp} {w : World} (hw : St c H w) : ∀ {L : List (Option Addr × List Value)}, RdsL c H L → RdL w L
  | [], _ => trivial
  | _ :: _, h => ⟨h.1 w hw, RdsL.at hw h.2⟩
theorem Rdw.now {P : Program} {g : GI} {w : World} {hG : g.G w} {H : Hp} {A : Option Addr} {xs : List Value} (h : Rdw w A xs) : RdS (mkC P g w hG) H A xs := RdS.old fun j u hj => by
  obtain ⟨a, ha, hc⟩ := h j u hj
  exact ⟨a, ha, hc, fun h => by cases h⟩
/-- A function that reads slices, and gives back one value that is known. -/
abbrev FnR (P : Program) (g : GI) (f : FuncId) (args : List Value) (L : List (Option Addr × List Value)) (v : Value) : Prop := FnE P g f args (fun w => RdL w L) (fun _ v' _ => v' = v)
/-- .. and gives back a slice of its own. -/
def rowPost (e sz n : Nat) (xs : List Value) (w : World) (v : Value) (w' : World) : Prop := RowH w' v e sz n xs ∧ ∀ b, v.ownBlock = some b → w.heap.size ≤ b ∧ b < w'.heap.size
abbrev FnS (P : Program) (g : GI) (f : FuncId) (args : List Value) (L : List (Option Addr × List Value)) (e sz n : Nat) (xs : List Value) : Prop := FnE P g f args (fun w => RdL w L) (rowPost e sz n xs)
theorem rowPost.of {P : Program} {g : GI} {w : World} {hG : g.G w} {H : Hp} {v : Value} {e sz n : Nat} {xs : List Value} (h : Ent.row v e sz n xs ∈ H) : ∀ w', St (mkC P g w hG) H w' → rowPost e sz n xs w v w' := fun w' hs => by
  have ho := hs.own _ h
  exact ⟨ho.1, fun b hb => ⟨(ho.2 b hb).2.elim id (fun h => by cases h), (ho.2 b hb).1⟩⟩
section
variable {c : Ctx} {H : Hp}
theorem CallK.fnR {m : Bool} {f : Nat} {args : List Value} {L : List (Option Addr × List Value)} {v : Value} {K : Value → Hp → Prop} (h : FnR c.P c.g f args L v) (hp : RdsL c H L) (k : K v H) : CallK c m f args H K :=
  CallK.fnE h (fun _ hw => hp.at hw) fun _ _ _ hw he hR => ⟨H, hw.below hR, by rw [he]; exact k⟩
theorem CallQ.fnR {f : Nat} {args : List Value} {L : List (Option Addr × List Value)} {v : Value} {K : Value → Prop} (h : FnR c.P c.g f args L v) (hp : RdsL c H L) (k : K v) : CallQ c f args H K :=
  ⟨h.can, v, k, fun w hw => (h.ok w hw.glob (hp.at hw)).mono fun _ w' ⟨v', he, hv, hR⟩ => ⟨by rw [he, hv], hR⟩⟩
theorem CallK.fnS {m : Bool} {f : Nat} {args : List Value} {L : List (Option Addr × List Value)} {e sz n : Nat} {xs : List Value} {K : Value → Hp → Prop} (h : FnS c.P c.g f args L e sz n xs) (hp : RdsL c H L) (k : ∀ A cp, K (.slice A n cp) (.row (.slice A n cp) e sz n xs :: H)) : CallK c m f args H K :=
  CallK.fnE h (fun _ hw => hp.at hw) fun w v w' hw ⟨hr, hb⟩ hR => by
    have hv : ∃ A cp, v = .slice A n cp := by
      rcases hr.2 with ⟨he, h0⟩ | ⟨g, cap, cur, fz, he, _⟩
      · exact ⟨none, 0, by rw [he, h0]⟩
      · exact ⟨_, _, he⟩
    obtain ⟨A, cp, rfl⟩ := hv
    refine ⟨_, (hw.below hR).push (x := .row (.slice A n cp) e sz n xs) hr (fun b hbe => ⟨(hb b hbe).2, .inl (Nat.le_trans hw.mod.size (hb b hbe).1)⟩) (fun b hbe y hy he => ?_), k A cp⟩
    have h1 := (hb b hbe).1
    have h2 := ((hw.own y hy).2 b he).1
    omega
theorem OthP.min2 {d : Option Nat} {x y : Operand} {ats : Array TypeId} {ty : TypeId} {pos : String} {after : Array Edge} {gd : Option (Nat × Bool)} {fr : Fr} {kd : IntKind} {a b : Int} {K : Value → Prop} (z : Int)
    (hx : evK fr x fun v => v = .int kd a) (hy : evK fr y fun v => v = .int kd b) (hz : min a b = z) (k : K (.int kd z)) : OthP c ⟨d, .call ⟨.builtin .min, #[x, y], ats⟩, ty, pos, after, gd⟩ fr H K := ⟨⟨_, k, fun w _ => by
  rw [evK_eq] at hx hy
  have hz' : z = if b < a then b else a := by subst hz; split <;> omega
  subst hz'
  simp only [go_sem, Builtin.min_]
  simp [hx, hy, Builtin.min2, List.foldlM]⟩⟩
end
end Go.Proofs.YtnaeeklnlddcaaaGreatDoor.Vex
/- A walk by reckoning, part eleven: rounds of a range over a function. No program in sight. -/
namespace Go.Proofs.YtnaeeklnlddcaaaGreatDoor.Vex
open Go Go.RowKit

section
variable {c : Ctx} {T : Ty} {H : Hp}
/-- An object that is no row is turned. -/
theorem St.putObj {w : World} {l : Nat} {o o' : Obj} (h : St c (.obj l o :: H) w) : St c (.obj l o' :: H) (w.putObj l o') := by
  have hl := (h.own _ (List.mem_cons_self ..))
  have hb := hl.2 l rfl
  have hz : (w.putObj l o').heap.size = w.heap.size := by simp [World.putObj]
  have hn : ∀ y ∈ H, y.blk ≠ some l := fun y hy he => by
    have := h.apart
    rw [List.filterMap_cons] at this
    exact (List.nodup_cons.1 this).1 (List.mem_filterMap.2 ⟨y, hy, he⟩)
  refine ⟨⟨h.mod.os, h.mod.tape, h.mod.output, by rw [hz]; exact h.mod.size, fun k hk hM => ?_⟩, fun y hy => ?_, h.apart⟩
  · rw [World.putObj_heap_other (fun e => by subst e; rcases hb.2 with h1 | h1; omega; exact hM h1)]
    exact h.mod.block k hk hM
  · rcases List.mem_cons.1 hy with rfl | hy'
    · exact ⟨World.putObj_heap_same hb.1, fun b he => by cases he; rw [hz]; exact hb⟩
    · have ho := h.own y (List.mem_cons_of_mem _ hy')
      exact ⟨Ent.holds_of_block ho.1 fun b' he => World.putObj_heap_other (fun e2 => hn y hy' (by rw [he, e2])), fun b he => by rw [hz]; exact ho.2 b he⟩
/-- How a round's body may be left: off its end. -/
def bodyQ (l : Nat) (r : Loop) (K : Value → Hp → Prop) (e : Exit) (_fr : Fr) (H : Hp) : Prop := match e with
  | .normal => ∃ H3 H4, Pick H (.obj l (.loop { r with state := .busy })) H3 ∧ H4.Sublist H3 ∧ K (.bool true) (.obj l (.loop { r with state := .ready, pending := none }) :: H4)
  | _ => False
def assignQ (c : Ctx) (T : Ty) (l : Nat) (r : Loop) (H2 : Hp) (K : Value → Hp → Prop) (e : Exit) (fr : Fr) (H : Hp) : Prop := match e with
  | .normal => H.Perm (.obj l (.loop r) :: H2) ∧ wc c T r.body (bodyQ l r K) fr (.obj l (.loop { r with state := .busy }) :: H2)
  | _ => False
/-- yield: one round, its left sides and its body run in the frame that the record keeps. -/
theorem YldK.go {l : Nat} {r : Loop} {args : List Value} {H2 : Hp} {fr0 : Fr} {K : Value → Hp → Prop} (hT : TOk c.P T) (hp : Pick H (.obj l (.loop r)) H2) (hr : r.state = .ready) (hz : args.length = r.params.size)
    (hf : (r.params.zip ⟨args⟩).foldl (fun tmps (t, a) => tmps.setIfInBounds t a) r.tmps = ⟨fr0⟩) (hA : strC r.assign = true) (hB : strC r.body = true)
    (h : wc c T r.assign (assignQ c T l r H2 K) fr0 H) : YldK c l args H K := ⟨fun w hw => by
  have hw1 := hw.perm hp.perm
  have hl : w.heap[l]? = some (.loop r) := (hw1.own _ (List.mem_cons_self ..)).1
  refine ⟨_, _, _, _, run_yield (args := ⟨args⟩) hl hz, roundIn_of_wpIn trivial ?_⟩
  rw [hf]
  refine wpIn_mono (wcR_ok hT (some l) [] r.assign hA _ fr0 H w h hw) fun e a w1 ⟨fr1, H1, ha, hs, hq⟩ => ?_
  cases e with
  | normal =>
    obtain ⟨hpm, hb⟩ := hq
    have hs1 := hs.perm hpm
    have hl1 : w1.heap[l]? = some (.loop r) := (hs1.own _ (List.mem_cons_self ..)).1
    refine ⟨_, run_beginRound hl1 hr, ?_⟩
    subst ha
    refine wpIn_mono (wcR_ok hT (some l) [] r.body hB _ fr1 _ _ hb hs1.putObj) fun e a w2 ⟨fr2, H3, _, hs2, hq⟩ => ?_
    cases e with
    | normal =>
      obtain ⟨H3', H4, hp4, hsub, hk⟩ := hq
      have hs3 := (hs2.perm hp4.perm).sub (hsub.cons_cons _)
      have hl3 : w2.heap[l]? = some (.loop { r with state := .busy }) := (hs3.own _ (List.mem_cons_self ..)).1
      exact ⟨_, _, run_endRound none hl3, _, _, rfl, hs3.putObj, hk⟩
    | _ => exact hq.elim
  | _ => exact hq.elim⟩
/-- What is yielded is laid into the record's frame. -/
noncomputable def zipK (ps : List Nat) : List Value → List Value → (List Value → Prop) → Prop :=
  List.rec (motive := fun _ => List Value → List Value → (List Value → Prop) → Prop) (fun fr _ K => K fr)
    (fun t _ ih fr az K => List.rec (motive := fun _ => Prop) (K fr) (fun a az _ => setK fr t a fun fr' => ih fr' az K) az) ps
theorem zipK_eq : ∀ (ps : List Nat) (fr az : List Value) (K : List Value → Prop), zipK ps fr az K = K ((ps.zip az).foldl (fun l p => l.set p.1 p.2) fr)
  | [], _, _, _ => rfl
  | _ :: _, _, [], _ => rfl
  | t :: ps, fr, a :: az, K => (setK_eq fr t a _).trans (zipK_eq ps (fr.set t a) az K)
theorem fold_set : ∀ (l : List (Nat × Value)) (fr : List Value), l.foldl (fun (tmps : Array Value) p => tmps.setIfInBounds p.1 p.2) ⟨fr⟩ = ⟨l.foldl (fun l p => l.set p.1 p.2) fr⟩
  | [], _ => rfl
  | p :: l, fr => by
    rw [List.foldl_cons, List.foldl_cons, ← fold_set l]
    congr 1
    rw [← Array.toList_inj]; simp
theorem YldK.run {l : Nat} {r : Loop} {args : List Value} {H2 : Hp} {K : Value → Hp → Prop} (hT : TOk c.P T) (hp : Pick H (.obj l (.loop r)) H2) (hr : r.state = .ready) (hz : args.length = r.params.size)
    (hA : strC r.assign = true) (hB : strC r.body = true)
    (h : zipK r.params.toList r.tmps.toList args fun fr0 => wc c T r.assign (assignQ c T l r H2 K) fr0 H) : YldK c l args H K := by
  rw [zipK_eq] at h
  refine YldK.go hT hp hr hz (fr0 := (r.params.toList.zip args).foldl (fun l p => l.set p.1 p.2) r.tmps.toList) ?_ hA hB h
  rw [← fold_set, ← Array.foldl_toList, Array.toList_zip]
end
end Go.Proofs.YtnaeeklnlddcaaaGreatDoor.Vex
/- A walk by reckoning, part twelve: a range over a function. No program in sight. -/
namespace Go.Proofs.YtnaeeklnlddcaaaGreatDoor.Vex
open Go Go.RowKit

abbrev QX := List Deferred → Exit → Fr → Hp → Prop
abbrev LiftX (c : Ctx) (Q : QX) (e : Exit) (a : Act) (w : World) : Prop := ∃ ds fr H, a = actD ds fr ∧ St c H w ∧ Q ds e fr H
/-- The statement 'for .. := range g': its deferred calls' mark is laid upon the activation. -/
structure RngS (c : Ctx) (g : Operand) (ps : Array Tmp) (as' body : Code) (Q : QX) (ds : List Deferred) (fr : Fr) (H : Hp) : Prop where
  ok : ∀ w, St c H w → (Code.rangeFunc g ps as' body).wp c.P (LiftX c Q) (actD ds fr) w
def thenX (next : List Deferred → Fr → Hp → Prop) (Q : QX) : QX := fun ds e fr H => match e with | .normal => next ds fr H | e => Q ds e fr H
def blockX (id : Nat) (Q : QX) : QX := fun ds e fr H => match e with | .exit id' => (match Nat.beq id' id with | true => Q ds .normal fr H | false => Q ds (.exit id') fr H) | e => Q ds e fr H
/-- A statement that may range over functions at its outer level. -/
noncomputable def wx (c : Ctx) (T : Ty) (cd : Code) : QX → List Deferred → Fr → Hp → Prop :=
  Code.rec (motive := fun _ => QX → List Deferred → Fr → Hp → Prop)
    (fun Q ds fr H => Q ds .normal fr H)
    (fun id ops dr Q ds fr H => wc c T (.region id ops dr) (Q ds) fr H)
    (fun _ _ iha ihb Q ds fr H => iha (thenX (ihb Q) Q) ds fr H)
    (fun x a b _ _ Q ds fr H => wc c T (.cond x a b) (Q ds) fr H)
    (fun id _ ih Q ds fr H => ih (blockX id Q) ds fr H)
    (fun body _ Q ds fr H => wc c T (.loop body) (Q ds) fr H)
    (fun f ps as' body _ _ Q ds fr H => RngS c f ps as' body Q ds fr H)
    (fun id Q ds fr H => Q ds (.exit id) fr H)
    (fun body _ Q ds fr H => wc c T (.scope body) (Q ds) fr H)
    (fun _ Q ds fr H => Q ds .normal fr H)
    (fun l Q ds fr H => Q ds (.goto l) fr H)
    (fun Q ds fr H => Q ds .ret fr H)
    (fun _ _ _ _ _ => False) cd
section
variable {c : Ctx} {T : Ty}
theorem wx_ok (hT : TOk c.P T) (cd : Code) : ∀ (Q : QX) (ds : List Deferred) (fr : Fr) (H : Hp) (w : World), wx c T cd Q ds fr H → St c H w → cd.wp c.P (LiftX c Q) (actD ds fr) w := by
  have base : ∀ (cd : Code) (Q : QX) (ds : List Deferred) (fr : Fr) (H : Hp) (w : World), wc c T cd (Q ds) fr H → St c H w → cd.wp c.P (LiftX c Q) (actD ds fr) w := fun cd Q ds fr H w h hw =>
    Code.wp_mono (fun e a w ⟨fr, H, ha, hs, hq⟩ => ⟨ds, fr, H, ha, hs, hq⟩) (wc_ok hT ds cd _ fr H w h hw)
  induction cd with
  | skip => exact fun Q ds fr H w h hw => wp_skip ⟨ds, fr, H, rfl, hw, h⟩
  | region id ops dr => exact fun Q ds fr H w h hw => base _ Q ds fr H w h hw
  | seq a b iha ihb =>
    intro Q ds fr H w h hw
    have h1 : wx c T a (thenX (wx c T b Q) Q) ds fr H := h
    refine wp_seq (Code.wp_mono (fun e a w ⟨ds, fr, H, ha, hs, hq⟩ => ?_) (iha _ ds fr H w h1 hw))
    cases e with
    | normal => subst ha; exact ihb Q ds fr H w hq hs
    | _ => exact ⟨ds, fr, H, ha, hs, hq⟩
  | cond x a b iha ihb => exact fun Q ds fr H w h hw => base _ Q ds fr H w h hw
  | block id a ih =>
    intro Q ds fr H w h hw
    have h1 : wx c T a (blockX id Q) ds fr H := h
    refine wp_block (Code.wp_mono (fun e a w ⟨ds, fr, H, ha, hs, hq⟩ => ?_) (ih _ ds fr H w h1 hw))
    cases e with
    | exit id' =>
      unfold blockX at hq
      simp only at hq
      unfold Exit.inBlock
      simp only
      cases hb : Nat.beq id' id with
      | true =>
        rw [hb] at hq
        rw [if_pos (Nat.eq_of_beq_eq_true hb)]
        exact ⟨ds, fr, H, ha, hs, hq⟩
      | false =>
        rw [hb] at hq
        rw [if_neg (Nat.ne_of_beq_eq_false hb)]
        exact ⟨ds, fr, H, ha, hs, hq⟩
    | _ => exact ⟨ds, fr, H, ha, hs, hq⟩
  | loop a ih => exact fun Q ds fr H w h hw => base _ Q ds fr H w h hw
  | rangeFunc f ps as' body iha ihb => exact fun Q ds fr H w h hw => (show RngS c f ps as' body Q ds fr H from h).ok w hw
  | exit id => exact fun Q ds fr H w h hw => wp_exit ⟨ds, fr, H, rfl, hw, h⟩
  | scope a ih => exact fun Q ds fr H w h hw => base _ Q ds fr H w h hw
  | label l => exact fun Q ds fr H w h hw => wp_label ⟨ds, fr, H, rfl, hw, h⟩
  | goto l => exact fun Q ds fr H w h hw => wp_goto ⟨ds, fr, H, rfl, hw, h⟩
  | ret => exact fun Q ds fr H w h hw => wp_ret ⟨ds, fr, H, rfl, hw, h⟩
  | refuse s => exact fun Q ds fr H w h hw => (show False from h).elim
/-- A block that is new is laid into the heap. -/
theorem St.allocObj {H : Hp} {w : World} (h : St c H w) (o : Obj) : St c (.obj w.heap.size o :: H) (w.alloc o) := by
  have hb : R w (w.alloc o) := (Below.refl w.heap.size w).alloc (Nat.le_refl _) o
  refine (h.below hb).push (x := .obj w.heap.size o) (World.alloc_heap_new w o) (fun b e => ?_) (fun b e y hy e2 => ?_)
  · cases e
    exact ⟨by simp, .inl h.mod.size⟩
  · cases e
    exact absurd ((h.own y hy).2 _ e2).1 (Nat.lt_irrefl _)
def ready (fn : FuncId) (fr : Fr) (ps : Array Tmp) (as' body : Code) (D : Nat) : Loop := { state := .ready, pending := none, fn, tmps := ⟨fr⟩, params := ps, assign := as', body, defers := D }
/-- The iterator's body is run where the loop stands; behind it the record is shut. -/
def rngQ (D : Nat) (Q : QX) (ds : List Deferred) (fr : Fr) (_v : Value) (H : Hp) : Prop :=
  ∃ r H3, Pick H (.obj (D + 1) (.loop r)) H3 ∧ r.state = .ready ∧ r.pending = none ∧ Q ({ target := .collected D, args := #[] } :: ds) .normal fr (.obj (D + 1) (.loop { r with state := .exhausted }) :: H3)
theorem RngS.go {g : Operand} {ps : Array Tmp} {as' body : Code} {Q : QX} {ds : List Deferred} {fr : Fr} {H : Hp} {gf : Nat} {lb : List Value} {fn : Func} {cd : Code} (hT : TOk c.P T)
    (hg : evK fr g fun v => v = .func (.func gf) ⟨[]⟩ ⟨lb⟩) (hf : c.P.funcs[gf]? = some fn) (hb : fn.body = some cd) (hn : (fn.name == "runtime.NumGoroutine") = false)
    (h : ∀ fno D, wc c T cd (retQ c T fn.results.toList (rngQ D Q ds fr)) ((.func (.yield (D + 1)) ⟨[]⟩ ⟨[]⟩ :: lb) ++ List.replicate (fn.ntmps - (lb.length + 1)) undef) (.obj (D + 1) (.loop (ready fno fr ps as' body D)) :: .obj D (.deferred (some [])) :: H)) :
    RngS c g ps as' body Q ds fr H := ⟨fun w hw => by
  rw [evK_eq] at hg
  have hg : (actD ds fr).eval g = .func (.func gf) ⟨[]⟩ ⟨lb⟩ := hg
  refine (wpIn_wide (n := 0)).1 (wpIn_rangeFunc fun fno _ => ?_)
  have hs1 := (hw.allocObj (.deferred (some []))).allocObj (.loop (ready fno fr ps as' body w.heap.size))
  rw [World.size_alloc] at hs1
  obtain ⟨W1, hW1⟩ : ∃ W1, (w.alloc (.deferred (some []))).alloc (.loop (ready fno fr ps as' body w.heap.size)) = W1 := ⟨_, rfl⟩
  rw [hW1] at hs1
  refine ⟨w.heap.size + 1, [{ target := .collected w.heap.size, args := #[] }], W1, { target := .fn (.func gf) ⟨lb⟩, args := #[.func (.yield (w.heap.size + 1)) #[] #[]] }, W1, gf, ⟨.func (.yield (w.heap.size + 1)) ⟨[]⟩ ⟨[]⟩ :: lb⟩, W1,
    by rw [← hW1]; exact run_enterLoop_outer _ _ _ _ _, ?_, fun _ _ => trivial, ?_, fun h => (by cases h), callsIn_wide.2 ((calls_of_wc hT hf hb hs1 (h fno w.heap.size)).mono ?_)⟩
  · simp only [resolve, hg]
    simp [go_sem]
  · have hn' : ¬ fn.name = "runtime.NumGoroutine" := by simpa using hn
    simp [invoke, callFunc, Sem.run_bind, run_program, hf, hb, hn']
  · rintro e w2 ⟨v, H2, rfl, hs2, r, H3, hp, hr, hpe, hq⟩
    have hs3 := hs2.perm hp.perm
    have hl := (hs3.own _ (List.mem_cons_self ..)).1
    refine ⟨r.pending, _, run_endLoop hl (by rw [hr]; decide), ?_⟩
    split
    · exact ⟨_, fr, _, rfl, hs3.putObj, hq⟩
    · rename_i h1
      rw [hpe] at h1
      cases h1⟩
/-- At the return: no mark, or one loop's mark, whose block holds no call. -/
def retX (c : Ctx) (T : Ty) (rs : List ResultVar) (K : Value → Hp → Prop) : QX := fun ds e fr H => match ds with
  | [] => retQ c T rs K e fr H
  | [d] => ∃ D H4, d = { target := .collected D, args := #[] } ∧ Pick H (.obj D (.deferred (some []))) H4 ∧ retQ c T rs K e fr (.obj D (.deferred none) :: H4)
  | _ => False
theorem calls_of_wx (hT : TOk c.P T) {f : FuncId} {fn : Func} {cd : Code} {args : List Value} {H : Hp} {K : Value → Hp → Prop} (hf : c.P.funcs[f]? = some fn) (hb : fn.body = some cd) {w : World} (hw : St c H w)
    (h : wx c T cd (retX c T fn.results.toList K) [] (args ++ List.replicate (fn.ntmps - args.length) undef) H) :
    Calls c.P f ⟨args⟩ w fun e w' => ∃ v H', e = .returned v ∧ St c H' w' ∧ K v H' := by
  refine (callsIn_wide (n := 0)).1 (callsIn_of_wp_marks hf hb trivial ?_ rfl)
  have ha : ({ tmps := (⟨args⟩ : Array Value) ++ Array.replicate (fn.ntmps - (⟨args⟩ : Array Value).size) undef, defers := [] } : Act) = actD [] (args ++ List.replicate (fn.ntmps - args.length) undef) := by
    unfold actD
    congr 1
    rw [← Array.toList_inj]; simp
  rw [ha]
  refine wpIn_wide.2 (Code.wp_mono (fun e a w ⟨ds, fr, H, ha, hs, hq⟩ => ?_) (wx_ok hT cd _ _ _ H w h hw))
  subst ha
  have fin : ∀ (fr : Fr) (H : Hp) (w : World), St c H w → resK c T fr H fn.results.toList (fun vs => oneK vs fun v => K v H) → ∃ v, (results fn (act fr).tmps).run c.P w = .ok v w ∧ ∃ v' H', Ending.returned v = .returned v' ∧ St c H' w ∧ K v' H' := fun fr H w hs hq => by
    obtain ⟨v, hk, hr⟩ := results_ok hT hq
    exact ⟨v, hr w hs, v, H, rfl, hs, hk⟩
  have key : ∀ e, (e = .normal ∨ e = .ret) → retX c T fn.results.toList K ds e fr H → LeavesInM Fence.wide 0 c.P fn (actD ds fr).tmps (fun e w' => ∃ v H', e = .returned v ∧ St c H' w' ∧ K v H') ds .returning w := fun e he hq => by
    unfold retX at hq
    split at hq
    · have hq : resK c T fr H fn.results.toList (fun vs => oneK vs fun v => K v H) := by rcases he with rfl | rfl <;> exact hq
      exact fin fr H w hs hq
    · obtain ⟨D, H4, rfl, hp, hq⟩ := hq
      have hs3 := hs.perm hp.perm
      have hl := (hs3.own _ (List.mem_cons_self ..)).1
      have hq : resK c T fr (.obj D (.deferred none) :: H4) fn.results.toList (fun vs => oneK vs fun v => K v (.obj D (.deferred none) :: H4)) := by rcases he with rfl | rfl <;> exact hq
      exact ⟨(by intro h; cases h), .inl ⟨D, _, rfl, run_takeDeferred hl, fin fr _ _ hs3.putObj hq⟩⟩
    · exact hq.elim
  have no : ∀ e, e ≠ .normal → e ≠ .ret → retX c T fn.results.toList K ds e fr H → False := fun e h1 h2 hq => by
    unfold retX at hq
    split at hq
    · cases e <;> first | exact hq.elim | exact h1 rfl | exact h2 rfl
    · obtain ⟨D, H4, _, _, hq⟩ := hq
      cases e <;> first | exact hq.elim | exact h1 rfl | exact h2 rfl
    · exact hq
  cases e with
  | normal => exact key _ (.inl rfl) hq
  | ret => exact key _ (.inr rfl) hq
  | _ => exact (no _ (by intro h; cases h) (by intro h; cases h) hq).elim
end
/-- A call, run inline. -/
theorem CallK.inl {c : Ctx} {T : Ty} {H : Hp} {f : Nat} {args : List Value} {K : Value → Hp → Prop} {fn : Func} {cd : Code} (hT : TOk c.P T) (hf : c.P.funcs[f]? = some fn) (hb : fn.body = some cd) (hn : (fn.name == "runtime.NumGoroutine") = false) {rs : List ResultVar} (hr : fn.results.toList = rs) {n : Nat} (hz : fn.ntmps - args.length = n)
    (h : wc c T cd (retQ c T rs K) (args ++ List.replicate n undef) H) : CallK c false f args H K :=
  .of (callable hf hb hn) fun w hw => (calls_of_wc hT hf hb hw (by rw [hr, hz]; exact h)).mono fun _ _ ⟨v, H', he, hs, hk⟩ => ⟨v, H', he, hs, hk, fun h => by cases h⟩
theorem FnE.ofX {P : Program} {g : GI} {T : Ty} (hT : TOk P T) {f : FuncId} {fn : Func} {cd : Code} {args : List Value} {pre : World → Prop} {post : World → Value → World → Prop} (hf : P.funcs[f]? = some fn) (hb : fn.body = some cd) (hn : (fn.name == "runtime.NumGoroutine") = false) {rs : List ResultVar} (hr : fn.results.toList = rs) {n : Nat} (hz : fn.ntmps - args.length = n)
    (h : ∀ w (hG : g.G w), pre w → wx (mkC P g w hG) T cd (retX (mkC P g w hG) T rs fun v H => ∀ w', St (mkC P g w hG) H w' → post w v w') [] (args ++ List.replicate n undef) []) : FnE P g f args pre post :=
  ⟨callable hf hb hn, fun w hG hp => (calls_of_wx (c := mkC P g w hG) (K := fun v H => ∀ w', St (mkC P g w hG) H w' → post w v w') hT hf hb (St.start _) (by rw [hr, hz]; exact h w hG hp)).mono fun e w' ⟨v', H', he, hs, hk⟩ => ⟨v', he, hk w' hs, hs.mod.below⟩⟩
end Go.Proofs.YtnaeeklnlddcaaaGreatDoor.Vex
/- A walk by reckoning, part thirteen: stops that are met by looking through the heap's list by itself. No program in sight. -/
namespace Go.Proofs.YtnaeeklnlddcaaaGreatDoor.Vex
open Go Go.RowKit

/-- The box b stands in the heap H, with the cells vs; f lays others. -/
class BoxAt (b : Nat) (H : Hp) (vs : outParam (List Value)) (t : outParam TypeId) (f : outParam (List Value → Hp)) : Prop where
  ok : ∃ H1 H2, H = H1 ++ .box b vs t :: H2 ∧ ∀ vs', f vs' = H1 ++ .box b vs' t :: H2
instance BoxAt.skip {b : Nat} {x : Ent} {H : Hp} {vs : List Value} {t : TypeId} {f : List Value → Hp} [h : BoxAt b H vs t f] : BoxAt b (x :: H) vs t (fun vs' => x :: f vs') where
  ok := by
    obtain ⟨H1, H2, e, k⟩ := h.ok
    exact ⟨x :: H1, H2, by rw [e]; rfl, fun vs' => by rw [k]; rfl⟩
instance BoxAt.here {b : Nat} {H : Hp} {vs : List Value} {t : TypeId} : BoxAt b (.box b vs t :: H) vs t (fun vs' => .box b vs' t :: H) where
  ok := ⟨[], H, rfl, fun _ => rfl⟩
/-- The row at A. -/
class RowAt (A : Option Addr) (H : Hp) (cp e sz n n' : outParam Nat) (xs : outParam (List Value)) (f : outParam (List Value → Hp)) : Prop where
  ok : ∃ H1 H2, H = H1 ++ .row (.slice A n' cp) e sz n xs :: H2 ∧ ∀ xs', f xs' = H1 ++ .row (.slice A n' cp) e sz n xs' :: H2
instance RowAt.skip {A : Option Addr} {x : Ent} {H : Hp} {cp e sz n n' : Nat} {xs : List Value} {f : List Value → Hp} [h : RowAt A H cp e sz n n' xs f] : RowAt A (x :: H) cp e sz n n' xs (fun xs' => x :: f xs') where
  ok := by
    obtain ⟨H1, H2, e, k⟩ := h.ok
    exact ⟨x :: H1, H2, by rw [e]; rfl, fun vs' => by rw [k]; rfl⟩
instance RowAt.here {A : Option Addr} {H : Hp} {cp e sz n n' : Nat} {xs : List Value} : RowAt A (.row (.slice A n' cp) e sz n xs :: H) cp e sz n n' xs (fun xs' => .row (.slice A n' cp) e sz n xs' :: H) where
  ok := ⟨[], H, rfl, fun _ => rfl⟩
/-- An object that is no row: o. -/
class ObjAt (b : Nat) (H : Hp) (o : outParam Obj) (f : outParam (Obj → Hp)) : Prop where
  ok : ∃ H1 H2, H = H1 ++ .obj b o :: H2 ∧ ∀ o', f o' = H1 ++ .obj b o' :: H2
instance ObjAt.skip {b : Nat} {x : Ent} {H : Hp} {o : Obj} {f : Obj → Hp} [h : ObjAt b H o f] : ObjAt b (x :: H) o (fun o' => x :: f o') where
  ok := by
    obtain ⟨H1, H2, e, k⟩ := h.ok
    exact ⟨x :: H1, H2, by rw [e]; rfl, fun vs' => by rw [k]; rfl⟩
instance ObjAt.here {b : Nat} {H : Hp} {o : Obj} : ObjAt b (.obj b o :: H) o (fun o' => .obj b o' :: H) where
  ok := ⟨[], H, rfl, fun _ => rfl⟩
/-- The row v is taken out of the heap. -/
class TakeRow (v : Value) (H : Hp) (e sz n : outParam Nat) (xs : outParam (List Value)) (H2 : outParam Hp) : Prop where
  ok : Pick H (.row v e sz n xs) H2
instance TakeRow.skip {v : Value} {x : Ent} {H H2 : Hp} {e sz n : Nat} {xs : List Value} [h : TakeRow v H e sz n xs H2] : TakeRow v (x :: H) e sz n xs (x :: H2) where
  ok := h.ok.skip
instance TakeRow.here {v : Value} {H : Hp} {e sz n : Nat} {xs : List Value} : TakeRow v (.row v e sz n xs :: H) e sz n xs H where
  ok := .here
/-- What the slice at A reads. -/
class RdA (c : Ctx) (H : Hp) (A : Option Addr) (xs : outParam (List Value)) : Prop where
  ok : RdS c H A xs
instance RdA.skip {c : Ctx} {H : Hp} {A : Option Addr} {xs : List Value} {x : Ent} [h : RdA c H A xs] : RdA c (x :: H) A xs where
  ok := h.ok.skip
instance RdA.here {c : Ctx} {H : Hp} {A : Option Addr} {cp e size n n' : Nat} {xs : List Value} : RdA c (.row (.slice A n' cp) e size n xs :: H) A xs where
  ok := RdS.here
section
variable {c : Ctx} {H : Hp}
theorem Ld.skips {a : Value} {n : Option Nat} {K : Value → Prop} (h : Ld c H a n K) : ∀ H1 : Hp, Ld c (H1 ++ H) a n K
  | [] => h
  | _ :: H1 => (Ld.skips h H1).skip
theorem Sto.skips {a v : Value} {n : Nat} : ∀ (H1 : Hp) {K : Hp → Prop}, Sto c H a v n (fun H' => K (H1 ++ H')) → Sto c (H1 ++ H) a v n K
  | [], _, h => h
  | x :: H1, K, h => Sto.skip (Sto.skips H1 (K := fun H' => K (x :: H')) h)
/-- Some cells of a box. -/
theorem Ld.mid {b i n : Nat} {vs us : List Value} {t : TypeId} {K : Value → Prop} (hu : (vs.drop i).take n = us) (hn : us.length = n) (k : K (.agg ⟨us⟩)) : Ld c (.box b vs t :: H) (.pointer (some ⟨b, i, none⟩)) (some n) K :=
  ⟨_, _, rfl, fun w hw => ⟨us, rfl, hn, fun j u hj => by
    have hb : w.heap[b]? = some (.cells ⟨vs⟩ t (0, 0)) := (hw.own _ (List.mem_cons_self ..)).1
    rw [Addr.add_lit, cell_of_row w b (i + j) _ _ _ hb]
    have hj' : j < n := by
      rcases Nat.lt_or_ge j us.length with h | h
      · omega
      · rw [List.getElem?_eq_none h] at hj; cases hj
    rw [← hu, List.getElem?_take_of_lt hj', List.getElem?_drop] at hj
    simpa using hj⟩, k⟩
theorem Sto.mid {b i n : Nat} {vs xs : List Value} {t : TypeId} {K : Hp → Prop} (hn : xs.length = n) (hv : i + n ≤ vs.length) (h1 : ∀ x ∈ xs, x.oneCell' = true) (k : K (.box b (vs.take i ++ xs ++ vs.drop (i + n)) t :: H)) : Sto c (.box b vs t :: H) (.pointer (some ⟨b, i, none⟩)) (.agg ⟨xs⟩) n K := by
  refine ⟨_, _, rfl, hn, k, rfl, fun w hw => ⟨by simp [Ent.blk], _, ?_, hw.setRow, by rw [setRow_size]; exact Nat.le_refl _, fun k hk => setRow_other w b k _ hk⟩⟩
  have hb : w.heap[b]? = some (.cells ⟨vs⟩ t (0, 0)) := (hw.own _ (List.mem_cons_self ..)).1
  show (storeCells ⟨b, i, none⟩ xs).run c.P w = _
  rw [run_storeCells_at c.P b i t xs 0 ⟨vs⟩ w hb (by simp; omega) h1]
  congr 2
  rw [← Array.toList_inj]
  simp only [Nat.add_zero, hn]
/-- Loads and stores, wherever the box stands. -/
theorem Ld.tc {b i : Nat} {vs : List Value} {t : TypeId} {f : List Value → Hp} {v : Value} {K : Value → Prop} [h : BoxAt b H vs t f] (hv : vs[i]? = some v) (k : K v) : Ld c H (.pointer (some ⟨b, i, none⟩)) none K := by
  obtain ⟨H1, H2, rfl, _⟩ := h.ok
  exact (Ld.here hv k).skips H1
theorem Ld.tw {b i n : Nat} {vs us : List Value} {t : TypeId} {f : List Value → Hp} {K : Value → Prop} [h : BoxAt b H vs t f] (hu : (vs.drop i).take n = us) (hn : us.length = n) (k : K (.agg ⟨us⟩)) : Ld c H (.pointer (some ⟨b, i, none⟩)) (some n) K := by
  obtain ⟨H1, H2, rfl, _⟩ := h.ok
  exact (Ld.mid hu hn k).skips H1
theorem Ld.tv {b n : Nat} {vs : List Value} {t : TypeId} {f : List Value → Hp} {K : Value → Prop} [h : BoxAt b H vs t f] (hn : vs.length = n) (k : K (.agg ⟨vs⟩)) : Ld c H (.pointer (some ⟨b, 0, none⟩)) (some n) K := by
  obtain ⟨H1, H2, rfl, _⟩ := h.ok
  exact (Ld.whole hn k).skips H1
theorem Sto.tv {b n : Nat} {vs xs : List Value} {t : TypeId} {f : List Value → Hp} {K : Hp → Prop} [h : BoxAt b H vs t f] (hn : xs.length = n) (hv : vs.length = n) (h1 : ∀ x ∈ xs, x.oneCell' = true) (k : K (f xs)) : Sto c H (.pointer (some ⟨b, 0, none⟩)) (.agg ⟨xs⟩) n K := by
  obtain ⟨H1, H2, rfl, hf⟩ := h.ok
  refine Sto.skips H1 (Sto.whole hn hv h1 ?_)
  rw [← hf]; exact k
theorem Sto.tc {b i : Nat} {vs vs' : List Value} {t : TypeId} {f : List Value → Hp} {v : Value} {K : Hp → Prop} [h : BoxAt b H vs t f] (hv : vs.set i v = vs') (hi : i < vs.length) (h1 : v.oneCell' = true) (k : K (f vs')) : Sto c H (.pointer (some ⟨b, i, none⟩)) v 1 K := by
  obtain ⟨H1, H2, rfl, hf⟩ := h.ok
  refine Sto.skips H1 (Sto.here hi h1 ?_)
  rw [hv, ← hf]; exact k
theorem Sto.tw {b i n : Nat} {vs xs vs' : List Value} {t : TypeId} {f : List Value → Hp} {K : Hp → Prop} [h : BoxAt b H vs t f] (hv : vs.take i ++ xs ++ vs.drop (i + n) = vs') (hn : xs.length = n) (hi : i + n ≤ vs.length) (h1 : ∀ x ∈ xs, x.oneCell' = true) (k : K (f vs')) : Sto c H (.pointer (some ⟨b, i, none⟩)) (.agg ⟨xs⟩) n K := by
  obtain ⟨H1, H2, rfl, hf⟩ := h.ok
  refine Sto.skips H1 (Sto.mid hn hi h1 ?_)
  rw [hv, ← hf]; exact k
theorem Sto.tr {A : Option Addr} {cp e sz n j : Nat} {xs xs' : List Value} {f : List Value → Hp} {v : Value} {K : Hp → Prop} [h : RowAt A H cp e sz n n xs f] (hv : xs.set j v = xs') (hj : j < xs.length) (h1 : v.oneCell' = true) (k : K (f xs')) : Sto c H (.pointer (some ((A.getD at0).add j))) v 1 K := by
  obtain ⟨H1, H2, rfl, hf⟩ := h.ok
  refine Sto.skips H1 (Sto.row hj h1 ?_)
  rw [hv, ← hf]; exact k
/-- Places in slices that are read. -/
theorem IdxA.tc {A : Option Addr} {n sz : Nat} {i : Int} {K : Value → Prop} {xs : List Value} [h : RdA c H A xs] (hx : 0 < xs.length) (h0 : 0 ≤ i) (h1 : i < n) (k : K (.pointer (some ((A.getD at0).add (i.toNat * sz))))) : IdxA c H A n i sz K := IdxA.rd h.ok hx h0 h1 k
theorem Ld.ta {A : Option Addr} {j : Nat} {xs : List Value} {v : Value} {K : Value → Prop} [h : RdA c H A xs] (hj : xs[j]? = some v) (k : K v) : Ld c H (.pointer (some ((A.getD at0).add j))) none K := Ld.rd h.ok hj k
theorem Ld.taF {A : Option Addr} {j o : Nat} {xs : List Value} {v : Value} {K : Value → Prop} [h : RdA c H A xs] (hj : xs[j + o]? = some v) (k : K v) : Ld c H (.pointer (some (((A.getD at0).add j).add o))) none K := Ld.rdF h.ok hj k
theorem Ld.taN {A : Option Addr} {j n : Nat} {xs vs : List Value} {K : Value → Prop} [h : RdA c H A xs] (hv : (xs.drop j).take n = vs) (hn : vs.length = n) (k : K (.agg ⟨vs⟩)) : Ld c H (.pointer (some ((A.getD at0).add j))) (some n) K := Ld.rdN h.ok hv hn k
theorem B2S.tc {A : Option Addr} {n : Nat} {xs : List Value} {l : List UInt8} {K : Value → Prop} [h : RdA c H A xs] (hx : xs = l.map byteV) (hl : l.length = n) (k : K (str l)) : B2S c H A n K := by
  subst hx
  exact B2S.rd h.ok hl k
/-- Appends: to a row that stands in the heap. -/
theorem AppS.tc {v x : Value} {e sz bytes n m : Nat} {K : Value → Hp → Prop} {xs news zs : List Value} {H2 : Hp} [h : TakeRow v H e sz n xs H2] (hs : SrcK c H x m news) (hl : news.length = m * sz) (h1 : ∀ u ∈ news, u.oneCell' = true) (h0 : 0 < sz) (h63 : n + m ≤ 9223372036854775807) (hb : (n + m) * bytes ≤ 140737488355328) (hz : xs ++ news = zs)
    (k : ∀ A cp, K (.slice A (n + m) cp) (.row (.slice A (n + m) cp) e sz (n + m) zs :: H2)) : AppS c v x e sz bytes H K := by
  subst hz
  exact AppS.go h.ok hs hl h1 h0 h63 hb k
theorem AppS.t0 {x : Value} {e sz bytes m : Nat} {K : Value → Hp → Prop} {news : List Value} (hs : SrcK c H x m news) (hl : news.length = m * sz) (h1 : ∀ u ∈ news, u.oneCell' = true) (h0 : 0 < sz) (h63 : m ≤ 9223372036854775807) (hb : m * bytes ≤ 140737488355328)
    (k : ∀ A cp, K (.slice A m cp) (.row (.slice A m cp) e sz m news :: H)) : AppS c (.slice none 0 0) x e sz bytes H K :=
  AppS.nil hs hl h1 h0 h63 hb fun A cp => by rw [Nat.zero_add, List.nil_append]; exact k A cp
theorem SrcK.tc {A : Option Addr} {m cp : Nat} {news : List Value} [h : RdA c H A news] : SrcK c H (.slice A m cp) m news := SrcK.rd h.ok
/-- A byte of a text, that is named. -/
theorem IdxS.go {l : List UInt8} {i : Int} {K : Value → Prop} (h0 : 0 ≤ i) (h1 : i < l.length) (k : ∀ x : UInt8, l[i.toNat]? = some x → x.toNat < 256 → K (.int .u8 x.toNat)) : IdxS l i K :=
  IdxS.at (l[i.toNat]'(by omega)) (List.getElem?_eq_getElem _) h0 (k _ (List.getElem?_eq_getElem _) (UInt8.toNat_lt _))
/-- .. at a place that is a natural number. -/
theorem IdxS.nat {l : List UInt8} {i : Nat} {K : Value → Prop} (h1 : i < l.length) (k : K (.int .u8 (l[i]'h1).toNat)) : IdxS l (i : Int) K :=
  IdxS.at (l[i]'h1) (by rw [Int.toNat_natCast]; exact List.getElem?_eq_getElem _) (by omega) k
/-- A call that tells yes or no. -/
theorem CallK.fnB {m : Bool} {f : Nat} {args : List Value} {b : Bool} {K : Value → Hp → Prop} (h : Fn c.P c.g f args (.bool b)) (k1 : b = true → K (.bool true) H) (k0 : b = false → K (.bool false) H) : CallK c m f args H K :=
  CallK.fn h (by cases b; exact k0 rfl; exact k1 rfl)
theorem CallQ.fnB {f : Nat} {args : List Value} {b : Bool} {K : Value → Prop} (h : Fn c.P c.g f args (.bool b)) (k1 : b = true → K (.bool true)) (k0 : b = false → K (.bool false)) : CallQ c f args H K :=
  CallQ.fn h (by cases b; exact k0 rfl; exact k1 rfl)
/-- .. that gives back a slice of its own; its elements are told by a list. -/
theorem CallK.fnS' {m : Bool} {f : Nat} {args : List Value} {L : List (Option Addr × List Value)} {e sz n : Nat} {xs : List Value} {K : Value → Hp → Prop} (h : FnS c.P c.g f args L e sz n xs) (hp : RdsL c H L) (k : ∀ A cp, K (.slice A n cp) (.row (.slice A n cp) e sz n xs :: H)) : CallK c m f args H K := CallK.fnS h hp k
/-- Ahead of a loop: a nil slice gets a row; the heap's list is turned. -/
theorem LoopS.nilRow {T : Ty} {body : Code} {Q : Exit → Fr → Hp → Prop} {fr : Fr} (e sz : Nat) (h : LoopS c T body Q fr (.row (.slice none 0 0) e sz 0 [] :: H)) : LoopS c T body Q fr H := ⟨fun ds w hw => h.ok ds w (hw.nilRow e sz)⟩
theorem LoopS.perm {T : Ty} {body : Code} {Q : Exit → Fr → Hp → Prop} {fr : Fr} {H' : Hp} (hp : H.Perm H') (h : LoopS c T body Q fr H') : LoopS c T body Q fr H := ⟨fun ds w hw => h.ok ds w (hw.perm hp)⟩
/-- The context of a walk of the program P, with the variables g. -/
def Ours (P : Program) (g : GI) (c : Ctx) : Prop := c.P = P ∧ c.g = g
end
end Go.Proofs.YtnaeeklnlddcaaaGreatDoor.Vex
/- A walk by reckoning, part fourteen: maps of one's own, whose keys are texts or integers; a row that is made; copies. No program in sight. -/
namespace Go.Proofs.YtnaeeklnlddcaaaGreatDoor.Vex
open Go Go.RowKit Go.MapKept

/-- Keys of one kind. -/
structure KeyK {α : Type} [DecidableEq α] (d : TypeDesc) (kv : α → Value) : Prop where
  same : ∀ a b, Instr.sameNow d (kv a) (kv b) = some (decide (a = b))
  key : ∀ a, IsKey d (kv a)
  bits : ∀ a, Instr.sameBits 10000 (kv a) (kv a) = true
theorem strK : KeyK .string str := ⟨fun a b => by
  have h : ((⟨⟨a⟩⟩ : ByteArray) == ⟨⟨b⟩⟩) = decide (a = b) := by
    rw [Bool.eq_iff_iff, decide_eq_true_iff]
    show ((⟨a⟩ : Array UInt8) == ⟨b⟩) = true ↔ _
    simp
  show some _ = _
  rw [h], fun _ => trivial, fun a => by
  show ((⟨a⟩ : Array UInt8) == ⟨a⟩) = true
  simp⟩
theorem intK (k : IntKind) : KeyK (.int k) (fun n : Int => .int k n) := ⟨fun a b => by
  simp only [Instr.sameNow, if_true]
  congr 1, fun _ => rfl, fun a => by
  show (k == k && a == a) = true
  simp⟩
def mkEs {α : Type} (kv : α → Value) : Nat → List (α × Value) → List MapEntry
  | _, [] => []
  | i, p :: r => ⟨kv p.1, p.2, i⟩ :: mkEs kv (i + 1) r
/-- The map of these entries, in the order of their coming. -/
def mobj {α : Type} (kv : α → Value) (l : List (α × Value)) : Obj := .map ⟨mkEs kv 0 l⟩ l.length
def mget {α : Type} [DecidableEq α] (k : α) : List (α × Value) → Option Value
  | [] => none
  | p :: r => if k = p.1 then some p.2 else mget k r
def mput {α : Type} [DecidableEq α] (k : α) (v : Value) : List (α × Value) → List (α × Value)
  | [] => [(k, v)]
  | p :: r => if k = p.1 then (k, v) :: r else p :: mput k v r
def place {α : Type} [DecidableEq α] (k : α) : List (α × Value) → Nat
  | [] => 0
  | p :: r => if k = p.1 then 0 else place k r + 1
section
variable {α : Type} [DecidableEq α] {kv : α → Value} {d : TypeDesc}
theorem findNow_es (hk : KeyK d kv) (k : α) : ∀ (l : List (α × Value)) (i j : Nat), Instr.findNow d (kv k) (mkEs kv i l) j = some ((mget k l).map fun v => (j + place k l, v))
  | [], _, _ => rfl
  | p :: r, i, j => by
    simp only [mkEs, Instr.findNow, hk.same, mget, place]
    by_cases h : k = p.1
    · simp [h]
    · simp only [h, decide_false, if_false]
      rw [findNow_es hk k r (i + 1) (j + 1)]
      cases mget k r with
      | none => rfl
      | some v => simp; omega
omit [DecidableEq α] in
theorem length_es : ∀ (l : List (α × Value)) (i : Nat), (mkEs kv i l).length = l.length
  | [], _ => rfl
  | _ :: r, i => by simp [mkEs, length_es r]
theorem upd_new (k : α) (v : Value) : ∀ (l : List (α × Value)), mget k l = none → mput k v l = l ++ [(k, v)]
  | [], _ => rfl
  | p :: r, h => by
    simp only [mget] at h
    split at h
    · cases h
    · rename_i hn
      simp only [mput, if_neg hn, upd_new k v r h, List.cons_append]
omit [DecidableEq α] in
theorem es_append (p : α × Value) : ∀ (l : List (α × Value)) (i : Nat), mkEs kv i (l ++ [p]) = mkEs kv i l ++ [⟨kv p.1, p.2, i + l.length⟩]
  | [], i => by simp [mkEs]
  | q :: r, i => by rw [List.cons_append, mkEs, es_append p r (i + 1), mkEs, List.length_cons, show i + 1 + r.length = i + (r.length + 1) by omega]; rfl
theorem upd_old (k : α) (v u : Value) : ∀ (l : List (α × Value)) (i : Nat), mget k l = some u → (mkEs kv i l).modify (place k l) (fun e => { e with key := kv k, val := v }) = mkEs kv i (mput k v l) ∧ (mput k v l).length = l.length ∧ ((mkEs kv i l)[place k l]?).map (·.key) = some (kv k)
  | [], _, h => by cases h
  | p :: r, i, h => by
    simp only [mget] at h
    simp only [place, mput, mkEs]
    by_cases hp : k = p.1
    · simp [hp, mkEs, List.modify_cons]
    · rw [if_neg hp] at h
      obtain ⟨h1, h2, h3⟩ := upd_old k v u r (i + 1) h
      simp only [hp, if_false, mkEs, List.length_cons, h2]
      exact ⟨by rw [List.modify_succ_cons, h1], trivial, by rw [List.getElem?_cons_succ]; exact h3⟩
theorem look_upd (k a : α) (v : Value) : ∀ (l : List (α × Value)), mget a (mput k v l) = if a = k then some v else mget a l
  | [] => by simp [mput, mget]
  | p :: r => by
    simp only [mput]
    by_cases hk : k = p.1
    · rw [if_pos hk]
      simp only [mget]
      by_cases ha : a = k
      · simp [ha]
      · rw [if_neg ha, if_neg ha, if_neg (by rw [← hk]; exact ha)]
    · rw [if_neg hk]
      simp only [mget, look_upd k a v r]
      by_cases ha : a = k
      · rw [if_neg (by rw [ha]; exact hk)]; simp [ha]
      · rw [if_neg ha]
        simp [ha]
end
section
variable {c : Ctx} {T : Ty} {H : Hp} {fr : Fr} {α : Type} [DecidableEq α] {kv : α → Value} {d : TypeDesc} {dst : Option Nat} {ty : TypeId} {pos : String} {after : Array Edge} {gd : Option (Nat × Bool)}
theorem ObjAt.holds {b : Nat} {o : Obj} {f : Obj → Hp} (h : ObjAt b H o f) {w : World} (hw : St c H w) : w.heap[b]? = some o := by
  obtain ⟨H1, H2, rfl, _⟩ := h.ok
  exact (hw.own (.obj b o) (by simp)).1
theorem ObjAt.put {b : Nat} {o o' : Obj} {f : Obj → Hp} (h : ObjAt b H o f) {w : World} (hw : St c H w) : St c (f o') (w.putObj b o') := by
  obtain ⟨H1, H2, rfl, hf⟩ := h.ok
  rw [hf]
  have h1 : St c (.obj b o :: (H1 ++ H2)) w := hw.perm List.perm_middle
  exact (h1.putObj (o' := o')).perm List.perm_middle.symm
omit [DecidableEq α] in
/-- A new map. -/
theorem Oth.mkMap {m : Bool} {t : TypeId} {K : Value → Hp → Prop} (kv : α → Value) (k : ∀ b, K (.map (some b)) (.obj b (mobj kv []) :: H)) : Oth c m ⟨dst, .makeMap t none, ty, pos, after, gd⟩ fr H K :=
  ⟨fun w hw => ⟨.map (some w.heap.size), w.alloc (.map #[] 0), _, rfl, hw.allocObj _, k _, fun _ => (Below.refl _ _).alloc (Nat.le_refl _) _⟩⟩
/-- What a map has at a key. -/
theorem OthP.look {t kt et : TypeId} {x i : Operand} {ok : Bool} {b : Nat} {k : α} {l : List (α × Value)} {f : Obj → Hp} {z r : Value} {K : Value → Prop} (hk : KeyK d kv) (hT : TOk c.P T) [ho : ObjAt b H (mobj kv l) f]
    (hx : evK fr x fun v => v = .map (some b)) (hi : evK fr i fun v => v = kv k) (ht : (lookT T t).d = .map kt et) (hkt : (lookT T kt).d = d) (hd : d ≠ .invalid) (het : (lookT T et).d ≠ .invalid) (hz : (lookT T et).zero = z)
    (hr : (match ok with | true => .tuple ⟨[(mget k l).getD z, .bool (mget k l).isSome]⟩ | false => (mget k l).getD z) = r) (kk : K r) : OthP c ⟨dst, .lookup t x i ok, ty, pos, after, gd⟩ fr H K := ⟨⟨r, kk, fun w hw => by
  rw [evK_eq] at hx hi
  have hu := (lookT_ok hT (t := t) (by rw [ht]; intro h; cases h)).1
  have hku := (lookT_ok hT (t := kt) (by rw [hkt]; exact hd)).1
  rw [ht] at hu
  rw [hkt] at hku
  have hzv := run_zeroValue (lookT_ok hT (t := et) het) (w := w)
  rw [hz] at hzv
  have hb : w.heap[b]? = some (.map ⟨mkEs kv 0 l⟩ l.length) := ho.holds hw
  have hf := run_findKey (w := w) hku (findNow_es hk k l 0 0)
  have hc := run_checkKey (w := w) hku (hk.key k) (⟨mkEs kv 0 l⟩ : Array MapEntry).isEmpty 9999
  have hl : (Instr.lookup t (.map (some b)) (kv k) ok).run c.P w = .ok r w := by
    unfold Instr.lookup
    simp only [Sem.run_bind, run_underlying hu, Result.andThen_ok, MapKept.run_getObj_map hb, Sem.run_pure, hc, hf]
    subst hr
    cases mget k l with
    | none => cases ok <;> simp [hzv]
    | some v => cases ok <;> simp
  generalize (act fr).eval = ρ at *
  simp only [execOp, hx, hi, Sem.run_bind, hl, Result.andThen_ok, Sem.run_pure]⟩⟩
theorem run_mapUpd {P : Program} {w : World} {t kt et : TypeId} {b : Nat} {k : α} {l : List (α × Value)} {v : Value} (hk : KeyK d kv) (hu : P.underlying t = some (.map kt et)) (hku : P.underlying kt = some d) (hb : w.heap[b]? = some (.map ⟨mkEs kv 0 l⟩ l.length)) :
    (Instr.mapUpdate t (.map (some b)) (kv k) v).run P w = .ok () (w.putObj b (mobj kv (mput k v l))) := by
  have hf := run_findKey (w := w) hku (findNow_es hk k l 0 0)
  have hc := run_checkKey (w := w) hku (hk.key k) false 9999
  unfold Instr.mapUpdate
  simp only [Sem.run_bind, run_underlying hu, Result.andThen_ok, MapKept.run_getObj_map hb, hc, hf]
  cases hl : mget k l with
  | none =>
    simp only [Option.map_none]
    rw [MapKept.run_setObj_map _ hb]
    unfold mobj
    rw [upd_new k v l hl, es_append]
    simp only [World.putObj, List.length_append, List.length_singleton, Nat.zero_add]
    congr 4
    rw [← Array.toList_inj]; simp
  | some u =>
    obtain ⟨h1, h2, h3⟩ := upd_old (kv := kv) k v u l 0 hl
    simp only [Option.map_some, Nat.zero_add]
    have e : (((⟨mkEs kv 0 l⟩ : Array MapEntry)[place k l]?).map (·.key)).getD (kv k) = kv k := by
      have : (⟨mkEs kv 0 l⟩ : Array MapEntry)[place k l]? = (mkEs kv 0 l)[place k l]? := by simp
      rw [this, h3]; rfl
    have hkey : (Instr.keyThatStays (kv k) (kv k)).run P w = .ok (kv k) w := by
      unfold Instr.keyThatStays
      rw [if_pos (hk.bits k)]; rfl
    simp only [e, Sem.run_bind, hkey, Result.andThen_ok]
    rw [MapKept.run_setObj_map _ hb]
    unfold mobj
    simp only [World.putObj, h2]
    congr 4
    rw [← h1, ← Array.toList_inj]
    simp
/-- A key's value is laid. -/
theorem OthU.upd {t kt et : TypeId} {x i y : Operand} {b : Nat} {k : α} {l l' : List (α × Value)} {f : Obj → Hp} {v : Value} {K : Value → Hp → Prop} (hk : KeyK d kv) (hT : TOk c.P T) [ho : ObjAt b H (mobj kv l) f]
    (hx : evK fr x fun v => v = .map (some b)) (hi : evK fr i fun v => v = kv k) (hy : evK fr y fun u => u = v) (ht : (lookT T t).d = .map kt et) (hkt : (lookT T kt).d = d) (hd : d ≠ .invalid) (hl' : mput k v l = l')
    (kk : K undef (f (mobj kv l'))) : OthU c ⟨dst, .mapUpdate t x i y, ty, pos, after, gd⟩ fr H K := ⟨fun w hw => by
  rw [evK_eq] at hx hi hy
  have hu := (lookT_ok hT (t := t) (by rw [ht]; intro h; cases h)).1
  have hku := (lookT_ok hT (t := kt) (by rw [hkt]; exact hd)).1
  rw [ht] at hu
  rw [hkt] at hku
  have hb : w.heap[b]? = some (.map ⟨mkEs kv 0 l⟩ l.length) := ho.holds hw
  refine ⟨_, _, ?_, ho.put hw (o' := mobj kv l'), kk⟩
  have hr := run_mapUpd (k := k) (v := v) hk hu hku hb
  rw [hl'] at hr
  generalize (act fr).eval = ρ at *
  simp only [execOp, hx, hi, hy, Sem.run_bind, hr, Result.andThen_ok, Sem.run_pure]⟩
end
end Go.Proofs.YtnaeeklnlddcaaaGreatDoor.Vex
