/- The first line of a request, as byte lists: what is told, what is written. No program in sight. -/
import Derived.Test.YtnaeeklnlddcaaaGreatDoorMReplyNames2
import Derived.Lib.ItoaNum
import Derived.Lib.Join
import Derived.Lib.IndexAny
import Derived.Lib.Atoi
import Derived.RangeFuncRecord
import Derived.Laws.RangeString
import Derived.Laws.MakeOwn
import Derived.Laws.CopyRow
import Derived.Lib.Bytealg
import Derived.Laws.Runes
import Derived.Shelf.Spec.DecodeRune
import Derived.Lib.LaidU8T
namespace Go.Proofs.YtnaeeklnlddcaaaGreatDoor

def freeL : List UInt8 := [45, 46, 95, 126]
def pathL : List UInt8 := [45, 46, 95, 126, 33, 36, 38, 39, 40, 41, 42, 43, 44, 59, 61, 58, 64, 47]
def queryL : List UInt8 := pathL ++ [63]
/-- A letter, a digit, or one of some marks. -/
def plainB (marks : List UInt8) (x : UInt8) : Bool := smallI x.toNat || greatI x.toNat || marks.contains x
def digI (x : Int) : Int := if 48 ≤ x ∧ x ≤ 57 then x - 48 else if 97 ≤ x ∧ x ≤ 102 then x - 87 else if 65 ≤ x ∧ x ≤ 70 then x - 55 else -1
def hexB (x : UInt8) : Bool := decide (0 ≤ digI x.toNat)
def hexV (a b : UInt8) : UInt8 := (16 * digI a.toNat + digI b.toNat).toNat.toUInt8
/-- Has a text just such bytes, or quoted ones? -/
def madeOf (marks : List UInt8) : List UInt8 → Bool
  | [] => true
  | 37 :: a :: b :: r => hexB a && hexB b && madeOf marks r
  | x :: r => plainB marks x && madeOf marks r
def pathOf (s : List UInt8) : Bool := (s.head? == some 47) && madeOf pathL s
def queryOf (s : List UInt8) : Bool := madeOf queryL s
def methodsL : List (List UInt8) := [[71, 69, 84], [72, 69, 65, 68], [80, 79, 83, 84], [80, 85, 84], [68, 69, 76, 69, 84, 69], [79, 80, 84, 73, 79, 78, 83]]
def methodOf (s : List UInt8) : Bool := methodsL.contains s
/-- Bytes for what was quoted. -/
def unq : List UInt8 → List UInt8
  | [] => []
  | 37 :: a :: b :: r => if hexB a && hexB b then hexV a b :: unq r else 37 :: unq (a :: b :: r)
  | x :: r => x :: unq r
def segs (s : List UInt8) : List (List UInt8) := (splitB 47 (s.drop 1)).map unq
def segE (s : List UInt8) : Int := if pathOf s then 0 else 3
def segO (s : List UInt8) : List (List UInt8) := if pathOf s then segs s else []
def hexD (n : Nat) : UInt8 := if n < 10 then (48 + n).toUInt8 else (55 + n).toUInt8
def quoteB (x : UInt8) : List UInt8 := if plainB freeL x then [x] else [37, hexD (x.toNat / 16), hexD (x.toNat % 16)]
def quoteOf (s : List UInt8) : List UInt8 := s.flatMap quoteB
/-- What stands ahead of the first place of a byte, what behind it, and whether there is one. -/
def cutB (c : UInt8) : List UInt8 → List UInt8 × List UInt8 × Bool
  | [] => ([], [], false)
  | x :: r => if x = c then ([], r, true) else (x :: (cutB c r).1, (cutB c r).2.1, (cutB c r).2.2)
def httpL : List UInt8 := [72, 84, 84, 80, 47, 49, 46]
/-- The version of a line's end; none: it tells none. -/
def versionOf (s : List UInt8) : Option Int := match s with
  | [72, 84, 84, 80, 47, 49, 46, d] => if 48 ≤ d.toNat ∧ d.toNat ≤ 57 then some (if d.toNat = 48 then 0 else 1) else none
  | _ => none
structure Rq where
  m : List UInt8
  p : List UInt8
  q : List UInt8
  v : Int
deriving DecidableEq
def rq0 : Rq := ⟨[], [], [], 0⟩
def lineTarget (s : List UInt8) : List UInt8 := (cutB 32 (cutB 32 s).2.1).1
def lineRq (s : List UInt8) : Rq := ⟨(cutB 32 s).1, (cutB 63 (lineTarget s)).1, (cutB 63 (lineTarget s)).2.1, (versionOf (cutB 32 (cutB 32 s).2.1).2.1).getD 0⟩
def lineOK (s : List UInt8) : Bool := decide (s.length ≤ 4096) && (cutB 32 s).2.2 && (cutB 32 (cutB 32 s).2.1).2.2 && (versionOf (cutB 32 (cutB 32 s).2.1).2.1).isSome && tokenOf (lineRq s).m && pathOf (lineRq s).p && queryOf (lineRq s).q
def lineR (s : List UInt8) : Rq := if lineOK s && methodOf (lineRq s).m then lineRq s else rq0
def lineSt (s : List UInt8) : Int := if lineOK s then (if methodOf (lineRq s).m then 200 else 501) else 400
def targetOf (r : Rq) : List UInt8 := if r.q = [] then r.p else r.p ++ 63 :: r.q
def writeL (r : Rq) : List UInt8 := r.m ++ [32] ++ targetOf r ++ [32, 72, 84, 84, 80, 47, 49, 46] ++ (if r.v = 0 then [48] else [49])
def writeOK (r : Rq) : Bool := methodOf r.m && pathOf r.p && queryOf r.q && decide (0 ≤ r.v) && decide (r.v ≤ 1) && decide ((writeL r).length ≤ 4096)
def writeS (r : Rq) : List UInt8 := if writeOK r then writeL r else []
def writeE (r : Rq) : Int := if writeOK r then 0 else 3

/-! ## Plain facts -/
theorem dig_range (x : UInt8) : -1 ≤ digI x.toNat ∧ digI x.toNat ≤ 15 := by unfold digI; split <;> (try split) <;> (try split) <;> omega
theorem hexB_iff (x : UInt8) : hexB x = true ↔ 0 ≤ digI x.toNat := by simp [hexB]
theorem hex_not_slash (x : UInt8) (h : hexB x = true) : x ≠ 47 := by
  intro e; subst e; revert h; decide
theorem hexV_toNat (a b : UInt8) (ha : hexB a = true) (hb : hexB b = true) : ((hexV a b).toNat : Int) = 16 * digI a.toNat + digI b.toNat := by
  rw [hexB_iff] at ha hb
  have h1 := dig_range a
  have h2 := dig_range b
  unfold hexV
  have : (16 * digI a.toNat + digI b.toNat).toNat < 256 := by omega
  rw [Nat.toUInt8, UInt8.toNat_ofNat', Nat.mod_eq_of_lt (by omega)]
  omega
theorem plain_not_37 {marks : List UInt8} (h : marks.contains 37 = false) : plainB marks 37 = false := by
  unfold plainB
  rw [h]; decide
theorem made_cons (marks : List UInt8) (x : UInt8) (r : List UInt8) (hx : x ≠ 37) : madeOf marks (x :: r) = (plainB marks x && madeOf marks r) := by
  simp [madeOf, hx]
theorem made_37 (marks : List UInt8) (h : marks.contains 37 = false) (r : List UInt8) : madeOf marks (37 :: r) = match r with | a :: b :: r => hexB a && hexB b && madeOf marks r | _ => false := by
  match r with
  | [] => simp [madeOf, plain_not_37 h]
  | [a] => simp [madeOf, plain_not_37 h]
  | a :: b :: r => simp [madeOf]
theorem unq_cons (x : UInt8) (r : List UInt8) (hx : x ≠ 37) : unq (x :: r) = x :: unq r := by
  simp [unq, hx]
theorem unq_37 (a b : UInt8) (r : List UInt8) (ha : hexB a = true) (hb : hexB b = true) : unq (37 :: a :: b :: r) = hexV a b :: unq r := by simp [unq, ha, hb]
theorem cutB_at (c : UInt8) : ∀ (l : List UInt8) (k : Nat), c ∉ l.take k → l[k]? = some c → cutB c l = (l.take k, l.drop (k + 1), true)
  | [], k, _, h => by simp at h
  | x :: r, 0, _, h => by simp at h; simp [cutB, h]
  | x :: r, k + 1, hn, h => by
    have hx : x ≠ c := fun e => hn (by simp [e])
    have ih := cutB_at c r k (fun e => hn (by simp [e])) (by simpa using h)
    simp [cutB, hx, ih]
theorem cutB_none (c : UInt8) : ∀ (l : List UInt8), c ∉ l → cutB c l = (l, [], false)
  | [], _ => rfl
  | x :: r, hn => by
    have hx : x ≠ c := fun e => hn (by simp [e])
    simp [cutB, hx, cutB_none c r (fun e => hn (by simp [e]))]
theorem cutB_length (c : UInt8) : ∀ l : List UInt8, (cutB c l).1.length + (cutB c l).2.1.length ≤ l.length
  | [] => by simp [cutB]
  | x :: r => by
    have := cutB_length c r
    unfold cutB
    split
    · simp
    · simp; omega
/-- The library's cut, at one byte. -/
theorem cut_one (c : UInt8) : ∀ l : List UInt8, Lib.cut l [c] = cutB c l := fun l => by
  unfold Lib.cut
  rcases index_one c l with ⟨h1, h2⟩ | ⟨k, h1, h2, h3, h4⟩
  · rw [h1, cutB_none c l h2]; simp
  · rw [h1, cutB_at c l k h3 h4]; simp
end Go.Proofs.YtnaeeklnlddcaaaGreatDoor
/- Bodies in chunks, byte by byte, as plain functions. No program in sight. -/
namespace Go.Proofs.YtnaeeklnlddcaaaGreatDoor.Vex

/-- A body under way. -/
structure CSt where
  ph : Nat
  left : Int
  line : List UInt8
  trail : Int
deriving DecidableEq
def cst0 : CSt := ⟨0, 0, [], 0⟩
def crB (l : List UInt8) : Bool := l.getLast? == some 13
/-- A line without the 13 at its end. -/
def bare (l : List UInt8) : List UInt8 := if crB l then l.dropLast else l
def noEnd (l : List UInt8) : Bool := l.all fun x => !(x == 10) && !(x == 13)
def lineMay (c : CSt) : Bool :=
  if c.ph = 0 then noEnd (bare c.line) && decide ((bare c.line).length ≤ 64)
  else if c.ph = 1 ∨ c.ph = 4 then decide (c.line = [])
  else if c.ph = 2 then noEnd (bare c.line) && decide (bare c.line = [])
  else if c.ph = 3 then noEnd (bare c.line) && decide (c.line.length ≤ 256)
  else false
def leftMay (c : CSt) : Bool := if c.ph = 1 then decide (1 ≤ c.left) && decide (c.left < 16777216) else decide (c.left = 0)
def trailMay (c : CSt) : Bool := if c.ph = 3 then decide ((c.line.length : Int) ≤ c.trail) && decide (c.trail ≤ 256) else decide (c.trail = 0)
def chMay (c : CSt) : Bool := lineMay c && (leftMay c && trailMay c)
def chE (c : CSt) : Int := if chMay c then 0 else 8
/-- A byte of a line: what is left, the line's text if it has ended, the error. -/
def lineG (l : List UInt8) (x : UInt8) : List UInt8 × Option (List UInt8) × Int :=
  if crB l && decide (x = 10) then ([], some l.dropLast, 0)
  else if crB l || decide (x = 10) then (l, none, 3)
  else (l ++ [x], none, 0)
/-- The number of a chunk's line: below 0: it is not of its form. -/
def hexN (s : List UInt8) : Int := s.foldl (fun n x => 16 * n + digI x.toNat) 0
def digsOf (s : List UInt8) : List UInt8 := (cutB 59 s).1.reverse.dropWhile (fun x => x == 32 || x == 9) |>.reverse
def numC (s : List UInt8) : Int :=
  if decide (1 ≤ (digsOf s).length) && (decide ((digsOf s).length ≤ 6) && ((digsOf s).all hexB && (!(cutB 59 s).2.2 || valueOf ([46] ++ (cutB 59 s).2.1 ++ [46])))) then hexN (digsOf s) else -1
/-- A byte that is no data. -/
def oneG (c : CSt) (x : UInt8) : CSt × Int :=
  if c.ph = 0 then
    if c.line.length = 64 ∧ x ≠ 13 ∧ x ≠ 10 ∧ crB c.line = false then (c, 3)
    else match lineG c.line x with
      | (l, none, e) => ({ c with line := l }, e)
      | (l, some t, _) => if numC t < 0 then ({ c with line := l }, 3) else if numC t = 0 then (⟨3, 0, l, c.trail⟩, 0) else (⟨1, numC t, l, c.trail⟩, 0)
  else if c.ph = 2 then
    if c.line = [] ∧ x ≠ 13 then (c, 3)
    else match lineG c.line x with
      | (l, none, e) => ({ c with line := l }, e)
      | (l, some _, e) => ({ c with line := l, ph := 0 }, e)
  else
    if c.trail = 256 then (c, 3)
    else match lineG c.line x with
      | (l, none, e) => ({ c with line := l, trail := c.trail + 1 }, e)
      | (l, some t, _) => if t = [] then (⟨4, c.left, l, 0⟩, 0) else ({ c with line := l, trail := c.trail + 1 }, parseE t)
/-- What goes on with bytes tells: the body, its data, how many were read, the error. -/
structure CRes where
  c : CSt
  data : List UInt8
  used : Nat
  e : Int
deriving DecidableEq
def fedG (c : CSt) (d : List UInt8) (i : Nat) : List UInt8 → CRes
  | [] => ⟨c, d, i, 0⟩
  | x :: r => if c.ph = 4 then ⟨c, d, i, 0⟩
    else if c.ph = 1 then fedG { c with left := c.left - 1, ph := if c.left - 1 = 0 then 2 else 1 } (d ++ [x]) (i + 1) r
    else if (oneG c x).2 = 0 then fedG (oneG c x).1 d (i + 1) r
    else ⟨cst0, [], 0, (oneG c x).2⟩
def feedG (c : CSt) (b : List UInt8) : CRes :=
  if chMay c then (if c.ph = 4 then ⟨cst0, [], 0, 6⟩ else if b.length ≤ 131072 then fedG c [] 0 b else ⟨cst0, [], 0, 4⟩) else ⟨cst0, [], 0, 8⟩
end Go.Proofs.YtnaeeklnlddcaaaGreatDoor.Vex
/- Plain laws on bodies in chunks: in two parts; what is kept. No program in sight. -/
namespace Go.Proofs.YtnaeeklnlddcaaaGreatDoor.Vex

theorem fed_cons (c : CSt) (d : List UInt8) (i : Nat) (x : UInt8) (r : List UInt8) : fedG c d i (x :: r) = if c.ph = 4 then ⟨c, d, i, 0⟩
    else if c.ph = 1 then fedG { c with left := c.left - 1, ph := if c.left - 1 = 0 then 2 else 1 } (d ++ [x]) (i + 1) r
    else if (oneG c x).2 = 0 then fedG (oneG c x).1 d (i + 1) r
    else ⟨cst0, [], 0, (oneG c x).2⟩ := rfl
theorem fed_over (c : CSt) (d : List UInt8) (i : Nat) (b : List UInt8) (h : c.ph = 4) : fedG c d i b = ⟨c, d, i, 0⟩ := by
  cases b with
  | nil => rfl
  | cons x r => rw [fed_cons, if_pos h]
/-- What is read of two parts. -/
theorem fed_app : ∀ (a : List UInt8) (c : CSt) (d : List UInt8) (i : Nat) (b : List UInt8), fedG c d i (a ++ b) = if (fedG c d i a).e = 0 then fedG (fedG c d i a).c (fedG c d i a).data (fedG c d i a).used b else fedG c d i a
  | [], c, d, i, b => by
    rw [List.nil_append]
    show _ = if (0 : Int) = 0 then fedG c d i b else _
    rw [if_pos rfl]
  | x :: r, c, d, i, b => by
    rw [List.cons_append, fed_cons, fed_cons]
    by_cases h4 : c.ph = 4
    · rw [if_pos h4, if_pos h4]
      dsimp only
      rw [if_pos rfl, fed_over _ _ _ _ h4]
    rw [if_neg h4, if_neg h4]
    by_cases h1 : c.ph = 1
    · rw [if_pos h1, if_pos h1]
      exact fed_app r _ _ _ b
    rw [if_neg h1, if_neg h1]
    by_cases h0 : (oneG c x).2 = 0
    · rw [if_pos h0, if_pos h0]
      exact fed_app r _ _ _ b
    · rw [if_neg h0, if_neg h0]
      dsimp only
      rw [if_neg h0]
/-- Data and places behind others. -/
theorem fed_shift (p : List UInt8) (k : Nat) : ∀ (b : List UInt8) (c : CSt) (d : List UInt8) (i : Nat), ((fedG c (p ++ d) (k + i) b).e = (fedG c d i b).e) ∧
    ((fedG c d i b).e = 0 → fedG c (p ++ d) (k + i) b = ⟨(fedG c d i b).c, p ++ (fedG c d i b).data, k + (fedG c d i b).used, 0⟩)
  | [], c, d, i => ⟨rfl, fun _ => rfl⟩
  | x :: r, c, d, i => by
    rw [fed_cons, fed_cons]
    by_cases h4 : c.ph = 4
    · rw [if_pos h4, if_pos h4]
      exact ⟨rfl, fun _ => rfl⟩
    rw [if_neg h4, if_neg h4]
    by_cases h1 : c.ph = 1
    · rw [if_pos h1, if_pos h1, List.append_assoc]
      exact fed_shift p k r _ _ (i + 1)
    rw [if_neg h1, if_neg h1]
    by_cases h0 : (oneG c x).2 = 0
    · rw [if_pos h0, if_pos h0]
      exact fed_shift p k r _ _ (i + 1)
    · rw [if_neg h0, if_neg h0]
      exact ⟨rfl, fun h => absurd h h0⟩
/-- How much is read, and told. -/
theorem fed_used : ∀ (b : List UInt8) (c : CSt) (d : List UInt8) (i : Nat), d.length ≤ i → ((fedG c d i b).e = 0 ∧ (fedG c d i b).data.length ≤ (fedG c d i b).used ∧ (fedG c d i b).used ≤ i + b.length ∧ ((fedG c d i b).used = i + b.length ∨ (fedG c d i b).c.ph = 4)) ∨
    ((fedG c d i b).e ≠ 0 ∧ fedG c d i b = ⟨cst0, [], 0, (fedG c d i b).e⟩)
  | [], c, d, i, h => .inl ⟨rfl, h, Nat.le_refl _, .inl rfl⟩
  | x :: r, c, d, i, h => by
    rw [fed_cons, List.length_cons]
    by_cases h4 : c.ph = 4
    · rw [if_pos h4]
      exact .inl ⟨rfl, h, by dsimp only; omega, .inr h4⟩
    rw [if_neg h4]
    by_cases h1 : c.ph = 1
    · rw [if_pos h1]
      have ih := fed_used r { c with left := c.left - 1, ph := if c.left - 1 = 0 then 2 else 1 } (d ++ [x]) (i + 1) (by rw [List.length_append]; simp only [List.length_singleton]; omega)
      rcases ih with ⟨a1, a2, a3, a4⟩ | ih
      · exact .inl ⟨a1, a2, by omega, by rcases a4 with a4 | a4; exact .inl (by omega); exact .inr a4⟩
      · exact .inr ih
    rw [if_neg h1]
    by_cases h0 : (oneG c x).2 = 0
    · rw [if_pos h0]
      have ih := fed_used r (oneG c x).1 d (i + 1) (by omega)
      rcases ih with ⟨a1, a2, a3, a4⟩ | ih
      · exact .inl ⟨a1, a2, by omega, by rcases a4 with a4 | a4; exact .inl (by omega); exact .inr a4⟩
      · exact .inr ih
    · rw [if_neg h0]
      exact .inr ⟨h0, rfl⟩

/-! ## What is kept may be -/
theorem cr_snoc (l : List UInt8) (x : UInt8) : crB (l ++ [x]) = (x == 13) := by
  unfold crB
  rw [List.getLast?_append]
  simp
theorem bare_snoc (l : List UInt8) (x : UInt8) : bare (l ++ [x]) = if x = 13 then l else l ++ [x] := by
  unfold bare
  rw [cr_snoc]
  by_cases h : x = 13
  · subst h; simp
  · rw [if_neg h, if_neg (by simpa using h)]
theorem bare_no {l : List UInt8} (h : crB l = false) : bare l = l := by unfold bare; rw [h]; rfl
theorem noEnd_snoc (l : List UInt8) (x : UInt8) (h : noEnd l = true) (h1 : x ≠ 10) (h2 : x ≠ 13) : noEnd (l ++ [x]) = true := by
  unfold noEnd at h ⊢
  rw [List.all_append, h]
  simp [h1, h2]
theorem lineG_cases (l : List UInt8) (x : UInt8) : (crB l = true ∧ x = 10 ∧ lineG l x = ([], some l.dropLast, 0)) ∨ (lineG l x = (l, none, 3)) ∨ (crB l = false ∧ x ≠ 10 ∧ lineG l x = (l ++ [x], none, 0)) := by
  unfold lineG
  cases h : crB l <;> by_cases hx : x = 10 <;> simp [hx]
theorem hexN_lt : ∀ (s : List UInt8) (n : Int), s.all hexB = true → 0 ≤ n → 0 ≤ s.foldl (fun n x => 16 * n + digI x.toNat) n ∧ s.foldl (fun n x => 16 * n + digI x.toNat) n < (n + 1) * 16 ^ s.length
  | [], n, _, h => ⟨h, by simp; omega⟩
  | x :: r, n, hs, h => by
    rw [List.all_cons, Bool.and_eq_true] at hs
    have hd := dig_range x
    have h0 := (hexB_iff x).1 hs.1
    have ih := hexN_lt r (16 * n + digI x.toNat) hs.2 (by omega)
    refine ⟨ih.1, Int.lt_of_lt_of_le ih.2 ?_⟩
    rw [List.length_cons, Int.pow_succ, ← Int.mul_assoc, Int.mul_right_comm]
    exact Int.mul_le_mul_of_nonneg_right (by omega) (Int.pow_nonneg (by decide))
theorem numC_range (s : List UInt8) : numC s < 16777216 := by
  unfold numC
  split
  · rename_i h
    simp only [Bool.and_eq_true, decide_eq_true_eq] at h
    have hl := (hexN_lt (digsOf s) 0 h.2.2.1 (Int.le_refl _)).2
    unfold hexN
    have hp : (16 : Int) ^ (digsOf s).length ≤ 16 ^ 6 := by
      have : ∀ n : Nat, n ≤ 6 → (16 : Int) ^ n ≤ 16 ^ 6 := fun n hn => by
        rcases (show n = 0 ∨ n = 1 ∨ n = 2 ∨ n = 3 ∨ n = 4 ∨ n = 5 ∨ n = 6 by omega) with e | e | e | e | e | e | e <;> subst e <;> decide
      exact this _ h.2.1
    have h16 : (16 : Int) ^ 6 = 16777216 := by decide
    omega
  · decide
theorem one_keeps {c : CSt} {x : UInt8} (h : chMay c = true) (h1 : c.ph ≠ 1) (h4 : c.ph ≠ 4) (he : (oneG c x).2 = 0) : chMay (oneG c x).1 = true := by
  obtain ⟨ph, left, line, trail⟩ := c
  unfold chMay lineMay leftMay trailMay at h
  dsimp only at h h1 h4
  have hn := lineG_cases line x
  by_cases p0 : ph = 0
  · subst p0
    simp at h
    obtain ⟨⟨a1, a2⟩, a3, a4⟩ := h
    unfold oneG at he ⊢
    simp only [if_true] at he ⊢
    split at he
    · cases he
    rename_i hg
    rw [if_neg hg]
    rcases hn with ⟨b1, b2, b3⟩ | b3 | ⟨b1, b2, b3⟩
    · rw [b3] at he ⊢
      dsimp only at he ⊢
      split at he
      · cases he
      rename_i hg2
      rw [if_neg hg2]
      have hr := numC_range line.dropLast
      split
      · subst a4
        simp [chMay, lineMay, leftMay, trailMay, noEnd, bare, crB]
      · subst a4
        simp [chMay, lineMay, leftMay, trailMay]
        omega
    · rw [b3] at he
      cases he
    · rw [b3]
      dsimp only
      rw [bare_no b1] at a1 a2
      subst a3 a4
      simp only [chMay, lineMay, leftMay, trailMay, if_true, bare_snoc]
      by_cases hx : x = 13
      · simp [hx, a1, a2]
      · have hl : line.length ≠ 64 := fun e => hg ⟨e, hx, b2, b1⟩
        have hne := noEnd_snoc line x a1 b2 hx
        simp [hx, hne]
        omega
  by_cases p2 : ph = 2
  · subst p2
    simp at h
    obtain ⟨⟨a1, a2⟩, a3, a4⟩ := h
    unfold oneG at he ⊢
    simp only [show ¬ (2 = 0) by decide, if_true, if_false] at he ⊢
    split at he
    · cases he
    rename_i hg
    rw [if_neg hg]
    rcases hn with ⟨b1, b2, b3⟩ | b3 | ⟨b1, b2, b3⟩
    · rw [b3]
      subst a3 a4
      simp [chMay, lineMay, leftMay, trailMay, noEnd, bare, crB]
    · rw [b3] at he
      cases he
    · rw [b3]
      rw [bare_no b1] at a2
      subst a2 a3 a4
      have hx : x = 13 := by
        by_cases hx : x = 13
        · exact hx
        · exact absurd ⟨rfl, hx⟩ hg
      subst hx
      decide
  by_cases p3 : ph = 3
  · subst p3
    simp at h
    obtain ⟨⟨a1, a2⟩, a3, a4, a5⟩ := h
    unfold oneG at he ⊢
    simp only [show ¬ (3 = 0) by decide, show ¬ (3 = 2) by decide, if_false] at he ⊢
    split at he
    · cases he
    rename_i hg
    rw [if_neg hg]
    rcases hn with ⟨b1, b2, b3⟩ | b3 | ⟨b1, b2, b3⟩
    · rw [b3] at he ⊢
      dsimp only at he ⊢
      subst a3
      split
      · simp [chMay, lineMay, leftMay, trailMay]
      · simp [chMay, lineMay, leftMay, trailMay, noEnd, bare, crB]
        omega
    · rw [b3] at he
      cases he
    · rw [b3]
      dsimp only
      rw [bare_no b1] at a1
      subst a3
      have hll : (line ++ [x]).length = line.length + 1 := by simp
      simp only [chMay, lineMay, leftMay, trailMay, show ¬ (3 = 0) by decide, show ¬ (3 = 2) by decide, show ¬ (3 = 1) by decide, if_true, if_false, bare_snoc, hll]
      by_cases hx : x = 13
      · simp [hx, a1]
        omega
      · have hne := noEnd_snoc line x a1 b2 hx
        simp [hx, hne]
        omega
  · simp [p0, p2, p3, h1, h4] at h
theorem fed_keeps : ∀ (b : List UInt8) (c : CSt) (d : List UInt8) (i : Nat), chMay c = true → (fedG c d i b).e = 0 → chMay (fedG c d i b).c = true
  | [], _, _, _, h, _ => h
  | x :: r, c, d, i, h, he => by
    rw [fed_cons] at he ⊢
    by_cases h4 : c.ph = 4
    · rw [if_pos h4]; exact h
    rw [if_neg h4] at he ⊢
    by_cases h1 : c.ph = 1
    · rw [if_pos h1] at he ⊢
      refine fed_keeps r _ _ _ ?_ he
      obtain ⟨ph, left, line, trail⟩ := c
      dsimp only at h1
      subst h1
      simp [chMay, lineMay, leftMay, trailMay] at h ⊢
      obtain ⟨a1, ⟨a2, a3⟩, a4⟩ := h
      subst a1 a4
      by_cases hz : left - 1 = 0
      · simp [hz, noEnd, bare, crB]
      · simp [hz]
        omega
    rw [if_neg h1] at he ⊢
    by_cases h0 : (oneG c x).2 = 0
    · rw [if_pos h0] at he ⊢
      exact fed_keeps r _ _ _ (one_keeps h h1 h4 h0) he
    · rw [if_neg h0] at he
      exact absurd he h0
end Go.Proofs.YtnaeeklnlddcaaaGreatDoor.Vex
/- Two fields, compared. -/
namespace Go.Proofs.YtnaeeklnlddcaaaGreatDoor.Vex
open Go Go.RowKit
set_option maxRecDepth 100000
set_option linter.unusedSectionVars false
variable {gI : GI} [HasMax gI]

theorem toList_str (a b : List UInt8) : ((⟨⟨a⟩⟩ : ByteArray).toList == (⟨⟨b⟩⟩ : ByteArray).toList) = (a == b) := by
  rw [ByteArray.toList_eq, ByteArray.toList_eq]
theorem eqF_run (a b a' b' : List UInt8) (w : World) : (Op.equalIn 10000 41 (.agg ⟨[str a, str b]⟩) (.agg ⟨[str a', str b']⟩)).run Tryz.prog w = .ok (a == a' && b == b') w := by
  rw [show (10000 : Nat) = 9999 + 1 from rfl, run_equalIn_struct w 9999 _ _ _ (by kernel_rfl) (by kernel_rfl)]
  rw [show (Tryz.prog.fieldsOf 41).toList = [{ name := "Name", type := 9, offset := 0, embedded := false, tag := "", pkgPath := "", byteOffset := 0 }, { name := "Value", type := 9, offset := 1, embedded := false, tag := "", pkgPath := "", byteOffset := 16 }] from by kernel_rfl]
  have p0 : ∀ (u v : Value) w, (part 9 #[u, v] 0).run Tryz.prog w = .ok u w := fun u v w => by simp [go_sem]
  have p1 : ∀ (u v : Value) w, (part 9 #[u, v] 1).run Tryz.prog w = .ok v w := fun u v w => by simp [go_sem]
  have e0 : ∀ (x y : List UInt8) w, (Op.equalIn 9999 9 (str x) (str y)).run Tryz.prog w = .ok (x == y) w := fun x y w => by
    rw [show (9999 : Nat) = 9998 + 1 from rfl, run_equalIn_string w 9998 _ _ _ Tryz.underlying9, toList_str]
  simp only [Op.eqFields]
  cases h : a == a'
  · simp [go_sem, h, e0]
  · simp [go_sem, h, e0]
    split <;> simp_all
theorem OthP.eqF {c : Ctx} {H : Hp} {d : Option Nat} {x y : Operand} {yt ty : TypeId} {pos : String} {after : Array Edge} {gd : Option (Nat × Bool)} {fr : Fr} {a b a' b' : List UInt8} {K : Value → Prop} (hP : c.P = Tryz.prog)
    (hx : evK fr x fun v => v = .agg ⟨[str a, str b]⟩) (hy : evK fr y fun v => v = .agg ⟨[str a', str b']⟩) (k : K (.bool (a == a' && b == b'))) : OthP c ⟨d, .binOp .eql 41 x y yt, ty, pos, after, gd⟩ fr H K := ⟨⟨_, k, fun w _ => by
  rw [evK_eq] at hx hy
  rw [hP]
  have hg := run_eqGuard_agg (P := Tryz.prog) w .eql 41 x y ⟨[str a, str b]⟩ ⟨[str a', str b']⟩ (by kernel_rfl)
  have hb := run_eql_struct (P := Tryz.prog) w 41 ⟨[str a, str b]⟩ ⟨[str a', str b']⟩
  rw [eqF_run] at hb
  simp only [execOp, hx, hy, Sem.run_bind, hg, Result.andThen_ok, hb]
  rfl⟩⟩
theorem OthP.neF {c : Ctx} {H : Hp} {d : Option Nat} {x y : Operand} {yt ty : TypeId} {pos : String} {after : Array Edge} {gd : Option (Nat × Bool)} {fr : Fr} {a b a' b' : List UInt8} {K : Value → Prop} (hP : c.P = Tryz.prog)
    (hx : evK fr x fun v => v = .agg ⟨[str a, str b]⟩) (hy : evK fr y fun v => v = .agg ⟨[str a', str b']⟩) (k : K (.bool (!(a == a' && b == b')))) : OthP c ⟨d, .binOp .neq 41 x y yt, ty, pos, after, gd⟩ fr H K := ⟨⟨_, k, fun w _ => by
  rw [evK_eq] at hx hy
  rw [hP]
  have hg : (eqGuard .neq 41 x y (.agg ⟨[str a, str b]⟩) (.agg ⟨[str a', str b']⟩)).run Tryz.prog w = .ok () w := run_eqGuard_agg (P := Tryz.prog) w .neq 41 x y ⟨[str a, str b]⟩ ⟨[str a', str b']⟩ (by kernel_rfl)
  have hb : (binOp .neq 41 (.agg ⟨[str a, str b]⟩) (.agg ⟨[str a', str b']⟩)).run Tryz.prog w = .ok (.bool (!(a == a' && b == b'))) w := by
    show (do pure (.bool (!(← Op.equal 41 (.agg ⟨[str a, str b]⟩) (.agg ⟨[str a', str b']⟩)))) : Sem Value).run Tryz.prog w = _
    have e : Op.equal 41 (.agg ⟨[str a, str b]⟩) (.agg ⟨[str a', str b']⟩) = Op.equalIn 10000 41 (.agg ⟨[str a, str b]⟩) (.agg ⟨[str a', str b']⟩) := rfl
    rw [e, Sem.run_bind, eqF_run]
    rfl
  simp only [execOp, hx, hy, Sem.run_bind, hg, Result.andThen_ok, hb]
  rfl⟩⟩
end Go.Proofs.YtnaeeklnlddcaaaGreatDoor.Vex
/- field.Items, reckoned: a range over strings.SplitSeq. -/
namespace Go.Proofs.YtnaeeklnlddcaaaGreatDoor.Vex
open Go Go.RowKit
set_option maxRecDepth 100000
set_option linter.unusedSectionVars false
variable {gI : GI} [HasMax gI]

theorem itemsLeft {l r : List UInt8} {out : List (List UInt8)} (h : out ++ itemsOf r = itemsOf l) : out.length ≤ l.length + 1 := by
  have := items_length l
  rw [← h, List.length_append] at this
  omega
theorem Items_f (l : List UInt8) (hl : l.length ≤ 4000000000) : FnS Tryz.prog gI 134 [str l] [] 9 1 (itemsOf l).length ((itemsOf l).map str) := by
  refine FnE.ofX tys_ok Tryz.func134 rfl (by kernel_rfl) rfl rfl ?_; intro w hG hP
  (conv => whnf); repeat ((first | refine tk1 ?_ | refine tk2 ?_ | refine tk3 ?_ | refine tk12 (fun _ => ?_) | refine tk4 ?_ | refine tk5 ?_ | refine tk6 ?_ | refine tk7 ?_ | refine tk8 ?_ | refine tk9 ?_ | refine tk10 (fun _ _ => ?_) | refine tk11 (fun _ => ?_) | refine tk13 ?_ | refine tk14 ?_); (conv => whnf))
  refine CallK.inl tys_ok Tryz.func38 rfl (by kernel_rfl) rfl rfl ?_
  (conv => whnf); repeat ((first | refine tk1 ?_ | refine tk2 ?_ | refine tk3 ?_ | refine tk12 (fun _ => ?_) | refine tk4 ?_ | refine tk5 ?_ | refine tk6 ?_ | refine tk7 ?_ | refine tk8 ?_ | refine tk9 ?_ | refine tk10 (fun _ _ => ?_) | refine tk11 (fun _ => ?_) | refine tk13 ?_ | refine tk14 ?_); (conv => whnf))
  refine CallK.inl tys_ok Tryz.func69 rfl (by kernel_rfl) rfl rfl ?_
  (conv => whnf); repeat ((first | refine tk1 ?_ | refine tk2 ?_ | refine tk3 ?_ | refine tk12 (fun _ => ?_) | refine tk4 ?_ | refine tk5 ?_ | refine tk6 ?_ | refine tk7 ?_ | refine tk8 ?_ | refine tk9 ?_ | refine tk10 (fun _ _ => ?_) | refine tk11 (fun _ => ?_) | refine tk13 ?_ | refine tk14 ?_); (conv => whnf))
  rename_i bo bs bp bk
  refine RngS.go tys_ok rfl Tryz.func111 rfl (by kernel_rfl) ?_
  intro fno D
  generalize hR : ready fno _ _ _ _ D = R
  have yl : ∀ (p r : List UInt8) (out : List (List UInt8)) (A : Option Addr) (cp : Nat) (K : Value → Hp → Prop), p.length ≤ 4000000000 → out.length ≤ 5000000000 →
      (∀ A' cp', K (.bool true) [.obj (D + 1) (.loop R), .row (.slice A' (out ++ itemOf p).length cp') 9 1 (out ++ itemOf p).length ((out ++ itemOf p).map str), .obj D (.deferred (some [])), .box bk [.int .i64 0] 3, .box bp [str [44]] 9, .box bs [str r] 9, .box bo [.slice A' (out ++ itemOf p).length cp'] 23]) →
      YldK (mkC Tryz.prog gI w hG) (D + 1) [str p] [.obj (D + 1) (.loop R), .row (.slice A out.length cp) 9 1 out.length (out.map str), .obj D (.deferred (some [])), .box bk [.int .i64 0] 3, .box bp [str [44]] 9, .box bs [str r] 9, .box bo [.slice A out.length cp] 23] K := by
    intro p r out A cp K hp hn hk
    subst hR
    refine YldK.run tys_ok .here rfl rfl rfl rfl ?_
    (conv => whnf); repeat ((first | refine tk1 ?_ | refine tk2 ?_ | refine tk3 ?_ | refine tk12 (fun _ => ?_) | refine tk4 ?_ | refine tk5 ?_ | refine tk6 ?_ | refine tk7 ?_ | refine tk8 ?_ | refine tk9 ?_ | refine tk10 (fun _ _ => ?_) | refine tk11 (fun _ => ?_) | refine tk13 ?_ | refine tk14 ?_); (conv => whnf))
    refine ⟨List.Perm.refl _, ?_⟩
    (conv => whnf); repeat ((first | refine tk1 ?_ | refine tk2 ?_ | refine tk3 ?_ | refine tk12 (fun _ => ?_) | refine tk4 ?_ | refine tk5 ?_ | refine tk6 ?_ | refine tk7 ?_ | refine tk8 ?_ | refine tk9 ?_ | refine tk10 (fun _ _ => ?_) | refine tk11 (fun _ => ?_) | refine tk13 ?_ | refine tk14 ?_); (conv => whnf))
    refine CallK.fn (Trim_f p (by omega)) ?_
    (conv => whnf); repeat ((first | refine tk1 ?_ | refine tk2 ?_ | refine tk3 ?_ | refine tk12 (fun _ => ?_) | refine tk4 ?_ | refine tk5 ?_ | refine tk6 ?_ | refine tk7 ?_ | refine tk8 ?_ | refine tk9 ?_ | refine tk10 (fun _ _ => ?_) | refine tk11 (fun _ => ?_) | refine tk13 ?_ | refine tk14 ?_); (conv => whnf))
    refine Cmp.cases (fun h0 => ?_) (fun h0 => ?_)
    · have hi : itemOf p = [trimB p] := by unfold itemOf; rw [if_neg h0]
      rw [hi] at hk
      (conv => whnf); repeat ((first | refine tk1 ?_ | refine tk2 ?_ | refine tk3 ?_ | refine tk12 (fun _ => ?_) | refine tk4 ?_ | refine tk5 ?_ | refine tk6 ?_ | refine tk7 ?_ | refine tk8 ?_ | refine tk9 ?_ | refine tk10 (fun _ _ => ?_) | refine tk11 (fun _ => ?_) | refine tk13 ?_ | refine tk14 ?_); (conv => whnf))
      refine AppS.tc SrcK.tc rfl (by simp [Value.oneCell']) (by decide) (by omega) (by omega) (zs := (out ++ [trimB p]).map str) (by simp) (fun A' cp' => ?_)
      (conv => whnf); repeat ((first | refine tk1 ?_ | refine tk2 ?_ | refine tk3 ?_ | refine tk12 (fun _ => ?_) | refine tk4 ?_ | refine tk5 ?_ | refine tk6 ?_ | refine tk7 ?_ | refine tk8 ?_ | refine tk9 ?_ | refine tk10 (fun _ _ => ?_) | refine tk11 (fun _ => ?_) | refine tk13 ?_ | refine tk14 ?_); (conv => whnf))
      have := hk A' cp'
      rw [List.length_append] at this
      exact ⟨_, _, (by first | exact Pick.here | exact Pick.here.skip | exact Pick.here.skip.skip | exact Pick.here.skip.skip.skip | exact Pick.here.skip.skip.skip.skip | exact Pick.here.skip.skip.skip.skip.skip | exact Pick.here.skip.skip.skip.skip.skip.skip | exact Pick.here.skip.skip.skip.skip.skip.skip.skip | exact Pick.here.skip.skip.skip.skip.skip.skip.skip.skip | exact Pick.here.skip.skip.skip.skip.skip.skip.skip.skip.skip | exact Pick.here.skip.skip.skip.skip.skip.skip.skip.skip.skip.skip | exact Pick.here.skip.skip.skip.skip.skip.skip.skip.skip.skip.skip.skip), (by repeat' (first | exact List.Sublist.refl _ | exact List.nil_sublist _ | apply List.Sublist.cons_cons | apply List.Sublist.cons)), this⟩
    · have hi : itemOf p = [] := by unfold itemOf; rw [if_pos (by simpa using h0)]
      rw [hi] at hk
      (conv => whnf); repeat ((first | refine tk1 ?_ | refine tk2 ?_ | refine tk3 ?_ | refine tk12 (fun _ => ?_) | refine tk4 ?_ | refine tk5 ?_ | refine tk6 ?_ | refine tk7 ?_ | refine tk8 ?_ | refine tk9 ?_ | refine tk10 (fun _ _ => ?_) | refine tk11 (fun _ => ?_) | refine tk13 ?_ | refine tk14 ?_); (conv => whnf))
      have := hk A cp
      rw [List.append_nil] at this
      exact ⟨_, _, (by first | exact Pick.here | exact Pick.here.skip | exact Pick.here.skip.skip | exact Pick.here.skip.skip.skip | exact Pick.here.skip.skip.skip.skip | exact Pick.here.skip.skip.skip.skip.skip | exact Pick.here.skip.skip.skip.skip.skip.skip | exact Pick.here.skip.skip.skip.skip.skip.skip.skip | exact Pick.here.skip.skip.skip.skip.skip.skip.skip.skip | exact Pick.here.skip.skip.skip.skip.skip.skip.skip.skip.skip | exact Pick.here.skip.skip.skip.skip.skip.skip.skip.skip.skip.skip | exact Pick.here.skip.skip.skip.skip.skip.skip.skip.skip.skip.skip.skip), (by repeat' (first | exact List.Sublist.refl _ | exact List.nil_sublist _ | apply List.Sublist.cons_cons | apply List.Sublist.cons)), this⟩
  (conv => whnf); repeat ((first | refine tk1 ?_ | refine tk2 ?_ | refine tk3 ?_ | refine tk12 (fun _ => ?_) | refine tk4 ?_ | refine tk5 ?_ | refine tk6 ?_ | refine tk7 ?_ | refine tk8 ?_ | refine tk9 ?_ | refine tk10 (fun _ _ => ?_) | refine tk11 (fun _ => ?_) | refine tk13 ?_ | refine tk14 ?_); (conv => whnf))
  refine LoopS.nilRow 9 1 (LoopS.perm (List.Perm.swap ..) ?_)
  refine LoopS.lp tys_ok (fun (x : List UInt8 × List (List UInt8) × Option Addr × Nat) u => [.func (.yield (D + 1)) ⟨[]⟩ ⟨[]⟩, .pointer (some ⟨bp, 0, none⟩), .pointer (some ⟨bs, 0, none⟩), .pointer (some ⟨bk, 0, none⟩), u 4, u 5, u 6, u 7, u 8, u 9, u 10, u 11, u 12, u 13, u 14, u 15, u 16, u 17, u 18, u 19, u 20, u 21, u 22, u 23, u 24, u 25, u 26, u 27, u 28, u 29, u 30, u 31, u 32, u 33, u 34, u 35, u 36, u 37, u 38, u 39, u 40, u 41, u 42, u 43, u 44, u 45, u 46, u 47, u 48, u 49, u 50, u 51])
    (fun x => [.obj (D + 1) (.loop R), .row (.slice x.2.2.1 x.2.1.length x.2.2.2) 9 1 x.2.1.length (x.2.1.map str), .obj D (.deferred (some [])), .box bk [.int .i64 0] 3, .box bp [str [44]] 9, .box bs [str x.1] 9, .box bo [.slice x.2.2.1 x.2.1.length x.2.2.2] 23])
    (fun x => x.2.1 ++ itemsOf x.1 = itemsOf l ∧ x.1.length ≤ l.length) (fun x => x.1.length) (l, [], none, 0) ⟨rfl, Nat.le_refl _⟩ rfl (by repeat' (first | exact List.Sublist.refl _ | exact List.nil_sublist _ | apply List.Sublist.cons_cons | apply List.Sublist.cons)) ?_
  rintro ⟨r, out, A, cp⟩ u ⟨hI, hz⟩
  dsimp only at hI hz ⊢
  have hn := itemsLeft hI
  (conv => whnf); repeat ((first | refine tk1 ?_ | refine tk2 ?_ | refine tk3 ?_ | refine tk12 (fun _ => ?_) | refine tk4 ?_ | refine tk5 ?_ | refine tk6 ?_ | refine tk7 ?_ | refine tk8 ?_ | refine tk9 ?_ | refine tk10 (fun _ _ => ?_) | refine tk11 (fun _ => ?_) | refine tk13 ?_ | refine tk14 ?_); (conv => whnf))
  refine CallK.fn (Index_f r [44] (by omega)) ?_
  rcases index_one 44 r with ⟨h1, h2⟩ | ⟨k, h1, h2, h3, h4⟩
  · rw [h1]
    (conv => whnf); repeat ((first | refine tk1 ?_ | refine tk2 ?_ | refine tk3 ?_ | refine tk12 (fun _ => ?_) | refine tk4 ?_ | refine tk5 ?_ | refine tk6 ?_ | refine tk7 ?_ | refine tk8 ?_ | refine tk9 ?_ | refine tk10 (fun _ _ => ?_) | refine tk11 (fun _ => ?_) | refine tk13 ?_ | refine tk14 ?_); (conv => whnf))
    refine yl r r out A cp _ (by omega) (by omega) (fun A' cp' => ?_)
    have hf : out ++ itemOf r = itemsOf l := by rw [← hI, items_none r h2]
    rw [hf]
    (conv => whnf); repeat ((first | refine tk1 ?_ | refine tk2 ?_ | refine tk3 ?_ | refine tk12 (fun _ => ?_) | refine tk4 ?_ | refine tk5 ?_ | refine tk6 ?_ | refine tk7 ?_ | refine tk8 ?_ | refine tk9 ?_ | refine tk10 (fun _ _ => ?_) | refine tk11 (fun _ => ?_) | refine tk13 ?_ | refine tk14 ?_); (conv => whnf))
    refine ⟨_, _, .here, ?_, ?_, ?_⟩
    · rw [← hR]; rfl
    · rw [← hR]; rfl
    (conv => whnf); repeat ((first | refine tk1 ?_ | refine tk2 ?_ | refine tk3 ?_ | refine tk12 (fun _ => ?_) | refine tk4 ?_ | refine tk5 ?_ | refine tk6 ?_ | refine tk7 ?_ | refine tk8 ?_ | refine tk9 ?_ | refine tk10 (fun _ _ => ?_) | refine tk11 (fun _ => ?_) | refine tk13 ?_ | refine tk14 ?_); (conv => whnf))
    refine ⟨_, _, rfl, (by first | exact Pick.here | exact Pick.here.skip | exact Pick.here.skip.skip | exact Pick.here.skip.skip.skip | exact Pick.here.skip.skip.skip.skip | exact Pick.here.skip.skip.skip.skip.skip | exact Pick.here.skip.skip.skip.skip.skip.skip | exact Pick.here.skip.skip.skip.skip.skip.skip.skip | exact Pick.here.skip.skip.skip.skip.skip.skip.skip.skip | exact Pick.here.skip.skip.skip.skip.skip.skip.skip.skip.skip | exact Pick.here.skip.skip.skip.skip.skip.skip.skip.skip.skip.skip | exact Pick.here.skip.skip.skip.skip.skip.skip.skip.skip.skip.skip.skip), ?_⟩
    (conv => whnf); repeat ((first | refine tk1 ?_ | refine tk2 ?_ | refine tk3 ?_ | refine tk12 (fun _ => ?_) | refine tk4 ?_ | refine tk5 ?_ | refine tk6 ?_ | refine tk7 ?_ | refine tk8 ?_ | refine tk9 ?_ | refine tk10 (fun _ _ => ?_) | refine tk11 (fun _ => ?_) | refine tk13 ?_ | refine tk14 ?_); (conv => whnf))
    exact rowPost.of (by simp)
  · rw [h1]
    have hs : (r.take ((k : Int) + 0).toNat).drop 0 = r.take k := by simp
    (conv => whnf); repeat ((first | refine tk1 ?_ | refine tk2 ?_ | refine tk3 ?_ | refine tk12 (fun _ => ?_) | refine tk4 ?_ | refine tk5 ?_ | refine tk6 ?_ | refine tk7 ?_ | refine tk8 ?_ | refine tk9 ?_ | refine tk10 (fun _ _ => ?_) | refine tk11 (fun _ => ?_) | refine tk13 ?_ | refine tk14 ?_); (conv => whnf))
    refine SlcS.at (by omega) (by omega) (by omega) ?_
    (conv => whnf); repeat ((first | refine tk1 ?_ | refine tk2 ?_ | refine tk3 ?_ | refine tk12 (fun _ => ?_) | refine tk4 ?_ | refine tk5 ?_ | refine tk6 ?_ | refine tk7 ?_ | refine tk8 ?_ | refine tk9 ?_ | refine tk10 (fun _ _ => ?_) | refine tk11 (fun _ => ?_) | refine tk13 ?_ | refine tk14 ?_); (conv => whnf))
    rw [show (List.take ((k : Int) + 0).toNat r).drop (0 : Int).toNat = r.take k by simp]
    refine yl (r.take k) r out A cp _ (by rw [List.length_take]; omega) (by omega) (fun A' cp' => ?_)
    (conv => whnf); repeat ((first | refine tk1 ?_ | refine tk2 ?_ | refine tk3 ?_ | refine tk12 (fun _ => ?_) | refine tk4 ?_ | refine tk5 ?_ | refine tk6 ?_ | refine tk7 ?_ | refine tk8 ?_ | refine tk9 ?_ | refine tk10 (fun _ _ => ?_) | refine tk11 (fun _ => ?_) | refine tk13 ?_ | refine tk14 ?_); (conv => whnf))
    refine slc ?_
    (conv => whnf); repeat ((first | refine tk1 ?_ | refine tk2 ?_ | refine tk3 ?_ | refine tk12 (fun _ => ?_) | refine tk4 ?_ | refine tk5 ?_ | refine tk6 ?_ | refine tk7 ?_ | refine tk8 ?_ | refine tk9 ?_ | refine tk10 (fun _ _ => ?_) | refine tk11 (fun _ => ?_) | refine tk13 ?_ | refine tk14 ?_); (conv => whnf))
    refine ⟨(r.drop (k + 1), out ++ itemOf (r.take k), A', cp'), ⟨?_, by dsimp only; rw [List.length_drop]; omega⟩, rfl, ?_, by dsimp only; rw [List.length_drop]; omega⟩
    · dsimp only
      rw [List.append_assoc, ← items_at r k h3 h4, hI]
    · dsimp only
      rw [show (List.take (r.length : Int).toNat r).drop ((k : Int) + (([44] : List UInt8).length : Nat)).toNat = r.drop (k + 1) by rw [Int.toNat_natCast, List.take_length]; congr 1]
      exact List.Sublist.refl _
end Go.Proofs.YtnaeeklnlddcaaaGreatDoor.Vex
/- What vary tells, as byte lists. No program in sight. -/
namespace Go.Proofs.YtnaeeklnlddcaaaGreatDoor

/-- Is a text one of some, in small letters? -/
def inS (l : List (List UInt8)) (s : List UInt8) : Bool := l.any fun x => smallOf x == smallOf s
def namesOf (v n : List UInt8) : Bool := (itemsOf v).any fun s => smallOf s == [42] || smallOf s == smallOf n
/-- Each text once, in small letters, in the order of their coming. -/
def dedup : List (List UInt8) → List (List UInt8) → List (List UInt8)
  | out, [] => out
  | out, s :: r => dedup (if inS out s then out else out ++ [s]) r
def allV (values : List (List UInt8)) (name : List UInt8) : List (List UInt8) := values.flatMap itemsOf ++ [name]
def mergeOK (values : List (List UInt8)) (name : List UInt8) : Bool := (allV values name).all tokenOf
def mergeO (values : List (List UInt8)) (name : List UInt8) : List (List UInt8) := dedup [] (allV values name)
def mergeS (values : List (List UInt8)) (name : List UInt8) : List UInt8 :=
  if mergeOK values name then (if inS (mergeO values name) [42] then [42] else Lib.join (mergeO values name) [44, 32]) else []
def mergeE (values : List (List UInt8)) (name : List UInt8) : Int := if mergeOK values name then 0 else 3
theorem small_star : smallOf [42] = [42] := by decide
theorem small_eq_star {s : List UInt8} : smallOf s = [42] ↔ s = [42] := by
  constructor
  · intro h
    have hl : s.length = 1 := by rw [← smallOf_length s, h]; rfl
    match s, hl with
    | [x], _ =>
      have h1 : lowB x = 42 := by simpa [smallOf] using h
      have h2 : ∀ n : Fin 256, lowB n.val.toUInt8 = 42 → n.val.toUInt8 = 42 := by decide +kernel
      have h3 := h2 ⟨x.toNat, x.toNat_lt⟩
      simp at h3
      rw [h3 h1]
  · rintro rfl; decide
theorem names_in (v n : List UInt8) : namesOf v n = (inS (itemsOf v) [42] || inS (itemsOf v) n) := by
  unfold namesOf inS
  rw [small_star]
  induction itemsOf v with
  | nil => rfl
  | cons x r ih => simp only [List.any_cons, ih]; cases smallOf x == [42] <;> cases smallOf x == smallOf n <;> simp
/-- Items of values that are put behind one another. -/
theorem join_cons (x y : List UInt8) (r : List (List UInt8)) (sep : List UInt8) : Lib.join (x :: y :: r) sep = x ++ sep ++ Lib.join (y :: r) sep := by
  simp [Lib.join, List.intercalate]
theorem items_of_join : ∀ values : List (List UInt8), itemsOf (Lib.join values [44]) = values.flatMap itemsOf
  | [] => by decide
  | [x] => by simp [Lib.join_one]
  | x :: y :: r => by
    rw [join_cons, List.flatMap_cons, ← items_of_join (y :: r), List.append_assoc]
    exact items_join x _
theorem join_length : ∀ (values : List (List UInt8)) (sep : List UInt8), (Lib.join values sep).length ≤ (values.map fun v => v.length + sep.length).sum
  | [], sep => by simp [Lib.join, List.intercalate]
  | [x], sep => by simp [Lib.join_one]
  | x :: y :: r, sep => by
    have := join_length (y :: r) sep
    rw [join_cons, List.map_cons, List.sum_cons, List.length_append, List.length_append]
    omega
theorem dedup_length : ∀ (l out : List (List UInt8)), (dedup out l).length ≤ out.length + l.length
  | [], out => by simp [dedup]
  | s :: r, out => by
    cases h : inS out s with
    | true =>
      have := dedup_length r out
      simp only [dedup, h, if_true, List.length_cons]
      omega
    | false =>
      have := dedup_length r (out ++ [s])
      simp only [List.length_append, List.length_singleton] at this
      simp only [dedup, h, Bool.false_eq_true, if_false, List.length_cons]
      omega
theorem dedup_mem : ∀ (l out : List (List UInt8)) (x : List UInt8), x ∈ dedup out l → x ∈ out ∨ x ∈ l
  | [], out, x, h => .inl h
  | s :: r, out, x, h => by
    unfold dedup at h
    rcases dedup_mem r _ x h with h | h
    · split at h
      · exact .inl h
      · rcases List.mem_append.1 h with h | h
        · exact .inl h
        · rw [List.mem_singleton] at h
          exact .inr (by rw [h]; exact List.mem_cons_self ..)
    · exact .inr (List.mem_cons_of_mem _ h)
theorem inS_append (a b : List (List UInt8)) (s : List UInt8) : inS (a ++ b) s = (inS a s || inS b s) := by simp [inS]
/-- What is put together names all that was named. -/
theorem inS_dedup (s : List UInt8) : ∀ (l out : List (List UInt8)), inS (dedup out l) s = (inS out s || inS l s)
  | [], out => by simp [dedup, inS]
  | x :: r, out => by
    have ih := inS_dedup s r (if inS out x then out else out ++ [x])
    unfold dedup
    rw [ih]
    have hc : inS (x :: r) s = (smallOf x == smallOf s || inS r s) := by simp [inS]
    rw [hc]
    split
    · rename_i h
      cases hx : smallOf x == smallOf s with
      | false => simp
      | true =>
        have hx : smallOf x = smallOf s := by simpa using hx
        have : inS out s = true := by unfold inS at h ⊢; rw [← hx]; exact h
        simp [this]
    · rw [inS_append]
      simp [inS, Bool.or_assoc]
end Go.Proofs.YtnaeeklnlddcaaaGreatDoor
/- Library functions on lists of texts and of fields, and the references' ones, reckoned. -/
namespace Go.Proofs.YtnaeeklnlddcaaaGreatDoor.Vex
open Go Go.RowKit
set_option maxRecDepth 100000
set_option linter.unusedSectionVars false
variable {gI : GI} [HasMax gI]

theorem rdw_addr {w : World} {A : Option Addr} {x : Value} {xs : List Value} (h : Rdw w A (x :: xs)) : ∃ b o, A = some ⟨b, o, none⟩ ∧ b < w.heap.size := by
  obtain ⟨a, ha, hc⟩ := h 0 x rfl
  obtain ⟨b, o, sp⟩ := a
  have hs : sp = none := by
    cases sp with
    | none => rfl
    | some s =>
      exfalso
      have : (⟨b, o, some s⟩ : Addr).add 0 = ⟨b, o, some s⟩ ∨ ((⟨b, o, some s⟩ : Addr).add 0).spot.isSome = true := by
        right; unfold Addr.add; split <;> simp_all
      unfold World.cell? at hc
      rcases this with h | h <;> simp [h] at hc <;> split at hc <;> simp_all
  subst hs
  refine ⟨b, o, ha, ?_⟩
  have := World.block_lt_of_cell? _ _ hc
  rwa [add_block] at this
theorem Join_f (A : Option Addr) (cp : Nat) (xs : List (List UInt8)) (sep : List UInt8) (hn : xs.length ≤ 1000000000000) (hl : (Lib.join xs sep).length ≤ 140737488355328) :
    FnE Tryz.prog gI 67 [.slice A xs.length cp, str sep] (fun w => Rdw w A (xs.map str) ∧ xs.length ≤ cp) (fun _ v _ => v = str (Lib.join xs sep)) :=
  ⟨callable Tryz.func67 rfl (by kernel_rfl), fun w _ ⟨hr, hc⟩ => by
    cases xs with
    | nil => exact (Tryz.strings_Join_none A cp ⟨⟨sep⟩⟩ w).mono fun e w' ⟨he, hw⟩ => ⟨_, he, rfl, by rw [hw]; exact R.refl _⟩
    | cons x r =>
      obtain ⟨b, o, rfl, hb⟩ := rdw_addr hr
      have hm : ((x :: r).map fun l => (⟨⟨l⟩⟩ : ByteArray)).map (·.data.toList) = x :: r := by
        rw [List.map_map]
        exact List.map_id _
      have h := Tryz.strings_Join b o cp ((x :: r).map fun l => ⟨⟨l⟩⟩) ⟨⟨sep⟩⟩ w (fun j y hj => by
        rw [List.getElem?_map] at hj
        cases hx : (x :: r)[j]? with
        | none => rw [hx] at hj; cases hj
        | some l =>
          rw [hx] at hj
          cases hj
          obtain ⟨a, ha, hcell⟩ := hr j (str l) (by rw [List.getElem?_map, hx]; rfl)
          cases ha
          rw [Addr.add_lit] at hcell
          exact hcell) hb (by rw [List.length_map]; omega) (by rw [List.length_map]; exact hc) (by rw [hm]; exact hl)
      rw [List.length_map, hm] at h
      exact h.mono fun e w' ⟨he, hw⟩ => ⟨_, he, rfl, hw⟩⟩
end Go.Proofs.YtnaeeklnlddcaaaGreatDoor.Vex
/- Numbers to the base of 16, reckoned: strconv.ParseUint at the base 16; library functions on texts. -/
namespace Go.Proofs.YtnaeeklnlddcaaaGreatDoor.Vex
open Go Go.RowKit
set_option maxRecDepth 100000
set_option linter.unusedSectionVars false
variable {gI : GI} [HasMax gI]

theorem idx_in (c : UInt8) : ∀ l : List UInt8, (0 ≤ Lib.indexByte l c) ↔ c ∈ l
  | [] => by simp [Lib.indexByte]
  | x :: r => by
    have ih := idx_in c r
    have hg := Lib.indexByte_ge r c
    unfold Lib.indexByte
    by_cases h : x = c
    · simp [h]
    · have h1 : (x == c) = false := by simpa using h
      rw [h1]
      simp only [Bool.false_eq_true, if_false, List.mem_cons]
      have h2 : ¬ c = x := fun e => h e.symm
      simp only [h2, false_or, ← ih]
      by_cases h3 : Lib.indexByte r c = -1
      · simp [h3]
      · have : (Lib.indexByte r c == -1) = false := by simpa using h3
        rw [this]
        simp only [Bool.false_eq_true, if_false]
        omega
theorem HasPrefix_f (s p : List UInt8) : Fn Tryz.prog gI 65 [str s, str p] (.bool (Lib.hasPrefix s p)) :=
  ⟨callable Tryz.func65 rfl (by kernel_rfl), fun w _ => (Tryz.strings_HasPrefix ⟨⟨s⟩⟩ ⟨⟨p⟩⟩ w).mono fun _ _ ⟨he, hw⟩ => ⟨he, by rw [hw]; exact R.refl _⟩⟩
theorem CutPrefix_f (s p : List UInt8) : Fn Tryz.prog gI 86 [str s, str p] (.tuple #[str (Lib.trimPrefix s p), .bool (Lib.hasPrefix s p)]) :=
  ⟨callable Tryz.func86 rfl (by kernel_rfl), fun w _ => (Tryz.strings_CutPrefix ⟨⟨s⟩⟩ ⟨⟨p⟩⟩ w).mono fun _ _ ⟨he, hw⟩ => ⟨he, by rw [hw]; exact R.refl _⟩⟩
theorem mem_bytes (l : List (List UInt8)) (x : List UInt8) : (⟨⟨x⟩⟩ : ByteArray) ∈ l.map (fun y => (⟨⟨y⟩⟩ : ByteArray)) ↔ x ∈ l := by
  constructor
  · intro h
    obtain ⟨y, hy, e⟩ := List.mem_map.1 h
    cases e
    exact hy
  · exact fun h => List.mem_map.2 ⟨x, h, rfl⟩
theorem Contains_f (A : Option Addr) (cp : Nat) (l : List (List UInt8)) (x : List UInt8) (hl : l.length ≤ 1000000000) : FnR Tryz.prog gI 33 [.slice A l.length cp, str x] [(A, l.map str)] (.bool (l.contains x)) :=
  ⟨callable Tryz.func33 rfl (by kernel_rfl), fun w _ ⟨hr, _⟩ => by
    cases l with
    | nil => exact (Tryz.slices_Contains_string_empty A cp ⟨⟨x⟩⟩ w).mono fun e w' ⟨he, hw⟩ => ⟨_, he, by simp, by rw [hw]; exact R.refl _⟩
    | cons y r =>
      obtain ⟨b, o, rfl, hb⟩ := rdw_addr hr
      have h := Tryz.slices_Contains_string b o (y :: r).length cp ((y :: r).map fun l => ⟨⟨l⟩⟩) ⟨⟨x⟩⟩ w (by rw [List.length_map]; exact Nat.le_refl _) (by omega) (fun j hj => by
        rw [List.length_map] at hj
        obtain ⟨a, ha, hcell⟩ := hr j (str (y :: r)[j]) (by rw [List.getElem?_map, List.getElem?_eq_getElem hj]; rfl)
        cases ha
        rw [Addr.add_lit] at hcell
        rw [hcell, List.getD_eq_getElem?_getD, List.getElem?_map, List.getElem?_eq_getElem hj]
        rfl)
      refine h.mono fun e w' ⟨he, hw⟩ => ⟨_, he, ?_, by rw [hw]; exact R.refl _⟩
      congr 1
      rw [Bool.eq_iff_iff, Lib.containsS_iff, List.take_of_length_le (by rw [List.length_map]; exact Nat.le_refl _), mem_bytes, List.contains_iff_mem]⟩
/-! ## To the base of 16 -/
def lwI (x : UInt8) : Int := bits .or .u8 x.toNat 32
theorem lw_facts (x : UInt8) : (48 ≤ x.toNat ∧ x.toNat ≤ 57 ∧ digI x.toNat = x.toNat - 48) ∨ (¬ (48 ≤ x.toNat ∧ x.toNat ≤ 57) ∧ ((97 ≤ lwI x ∧ lwI x ≤ 122 ∧ (digI x.toNat = lwI x - 87 ∧ lwI x ≤ 102 ∨ digI x.toNat = -1 ∧ 102 < lwI x)) ∨ (¬ (97 ≤ lwI x ∧ lwI x ≤ 122) ∧ digI x.toNat = -1))) := by
  have : ∀ n : Fin 256, (48 ≤ n.val ∧ n.val ≤ 57 ∧ digI n.val = n.val - 48) ∨ (¬ (48 ≤ n.val ∧ n.val ≤ 57) ∧ ((97 ≤ bits .or .u8 n.val 32 ∧ bits .or .u8 n.val 32 ≤ 122 ∧ (digI n.val = bits .or .u8 n.val 32 - 87 ∧ bits .or .u8 n.val 32 ≤ 102 ∨ digI n.val = -1 ∧ 102 < bits .or .u8 n.val 32)) ∨ (¬ (97 ≤ bits .or .u8 n.val 32 ∧ bits .or .u8 n.val 32 ≤ 122) ∧ digI n.val = -1))) := by decide +kernel
  exact this ⟨x.toNat, x.toNat_lt⟩
theorem lw_95 (x : UInt8) (h : x.toNat = 95) : digI x.toNat = -1 := by rw [h]; decide
theorem lower_f (x : UInt8) : Fn Tryz.prog gI 186 [.int .u8 x.toNat] (.int .u8 (lwI x)) :=
  ⟨callable Tryz.func186 rfl (by kernel_rfl), fun w _ => (Tryz.internal_strconv_lower x.toNat w).mono fun _ _ ⟨he, hw⟩ => ⟨he, by rw [hw]; exact R.refl _⟩⟩
/-- The value and the error's number: 0 none, 1 out of range, 2 no number. -/
def puGo (mx : Int) : Int → List UInt8 → Int × Int
  | n, [] => (n, 0)
  | n, x :: r => if digI x.toNat < 0 then (0, 2) else if 1152921504606846976 ≤ n then (mx, 1) else if mx < n * 16 + digI x.toNat then (mx, 1) else puGo mx (n * 16 + digI x.toNat) r
def puV (mx : Int) (l : List UInt8) : Int × Int := if l = [] then (0, 2) else puGo mx 0 l
def errV (k : Int) : Value := if k = 0 then .nilIface else .iface 239 (.int .i64 k)
theorem puGo_err (mx : Int) : ∀ (l : List UInt8) (n : Int), (puGo mx n l).2 = 0 ∨ (puGo mx n l).2 = 1 ∨ (puGo mx n l).2 = 2
  | [], n => .inl rfl
  | x :: r, n => by
    unfold puGo
    split
    · exact .inr (.inr rfl)
    · split
      · exact .inr (.inl rfl)
      · split
        · exact .inr (.inl rfl)
        · exact puGo_err mx r _
theorem Parse16_f [HasErr gI] (l : List UInt8) (bs mx : Int) (hb : bs = 8 ∧ mx = 255 ∨ bs = 64 ∧ mx = 18446744073709551615) (hl : l.length ≤ 1000000000) :
    Fn Tryz.prog gI 154 [str l, .int .i64 16, .int .i64 bs] (.tuple #[.int .u64 (puV mx l).1, errV (puV mx l).2]) := by
  refine Fn.of tys_ok Tryz.func154 rfl (by kernel_rfl) rfl rfl ?_; intro w hG
  (conv => whnf); repeat ((first | refine tk1 ?_ | refine tk2 ?_ | refine tk3 ?_ | refine tk12 (fun _ => ?_) | refine tk4 ?_ | refine tk5 ?_ | refine tk6 ?_ | refine tk7 ?_ | refine tk8 ?_ | refine tk9 ?_ | refine tk10 (fun _ _ => ?_) | refine tk11 (fun _ => ?_) | refine tk13 ?_ | refine tk14 ?_); (conv => whnf))
  refine Cmp.cases (fun h0 => ?_) (fun h0 => ?_)
  · (conv => whnf); repeat ((first | refine tk1 ?_ | refine tk2 ?_ | refine tk3 ?_ | refine tk12 (fun _ => ?_) | refine tk4 ?_ | refine tk5 ?_ | refine tk6 ?_ | refine tk7 ?_ | refine tk8 ?_ | refine tk9 ?_ | refine tk10 (fun _ _ => ?_) | refine tk11 (fun _ => ?_) | refine tk13 ?_ | refine tk14 ?_); (conv => whnf))
    refine OthP.mkI tys_ok rfl rfl ?_
    (conv => whnf); repeat ((first | refine tk1 ?_ | refine tk2 ?_ | refine tk3 ?_ | refine tk12 (fun _ => ?_) | refine tk4 ?_ | refine tk5 ?_ | refine tk6 ?_ | refine tk7 ?_ | refine tk8 ?_ | refine tk9 ?_ | refine tk10 (fun _ _ => ?_) | refine tk11 (fun _ => ?_) | refine tk13 ?_ | refine tk14 ?_); (conv => whnf))
    simp [puV, h0, errV]
  · have hpv : puV mx l = puGo mx 0 l := by unfold puV; rw [if_neg h0]
    have h255 : 255 ≤ mx := by omega
    (conv => whnf); repeat ((first | refine tk1 ?_ | refine tk2 ?_ | refine tk3 ?_ | refine tk12 (fun _ => ?_) | refine tk4 ?_ | refine tk5 ?_ | refine tk6 ?_ | refine tk7 ?_ | refine tk8 ?_ | refine tk9 ?_ | refine tk10 (fun _ _ => ?_) | refine tk11 (fun _ => ?_) | refine tk13 ?_ | refine tk14 ?_); (conv => whnf))
    refine Ar.any ?_
    rw [show IntKind.u64.wrap bs = bs by rcases hb with ⟨rfl, _⟩ | ⟨rfl, _⟩ <;> rfl]
    (conv => whnf); repeat ((first | refine tk1 ?_ | refine tk2 ?_ | refine tk3 ?_ | refine tk12 (fun _ => ?_) | refine tk4 ?_ | refine tk5 ?_ | refine tk6 ?_ | refine tk7 ?_ | refine tk8 ?_ | refine tk9 ?_ | refine tk10 (fun _ _ => ?_) | refine tk11 (fun _ => ?_) | refine tk13 ?_ | refine tk14 ?_); (conv => whnf))
    refine OthP.ints rfl rfl (v := .int .u64 (if bs = 8 then 256 else 0)) (fun w => by rcases hb with ⟨rfl, _⟩ | ⟨rfl, _⟩ <;> rfl) ?_
    (conv => whnf); repeat ((first | refine tk1 ?_ | refine tk2 ?_ | refine tk3 ?_ | refine tk12 (fun _ => ?_) | refine tk4 ?_ | refine tk5 ?_ | refine tk6 ?_ | refine tk7 ?_ | refine tk8 ?_ | refine tk9 ?_ | refine tk10 (fun _ _ => ?_) | refine tk11 (fun _ => ?_) | refine tk13 ?_ | refine tk14 ?_); (conv => whnf))
    refine Ar.any ?_
    rw [show IntKind.u64.wrap ((if bs = 8 then 256 else 0) - 1) = mx by rcases hb with ⟨rfl, rfl⟩ | ⟨rfl, rfl⟩ <;> rfl]
    (conv => whnf); repeat ((first | refine tk1 ?_ | refine tk2 ?_ | refine tk3 ?_ | refine tk12 (fun _ => ?_) | refine tk4 ?_ | refine tk5 ?_ | refine tk6 ?_ | refine tk7 ?_ | refine tk8 ?_ | refine tk9 ?_ | refine tk10 (fun _ _ => ?_) | refine tk11 (fun _ => ?_) | refine tk13 ?_ | refine tk14 ?_); (conv => whnf))
    rename_i b cp
    refine LoopS.lp tys_ok (fun (x : Nat × Int) u => [u 0, .int .i64 16, u 2, u 3, u 4, u 5, u 6, u 7, .bool false, str l, .int .u64 1152921504606846976, .int .u64 mx, .bool false, .int .u64 x.2, u 14, u 15, u 16, u 17, u 18, u 19, u 20, u 21, u 22, u 23, u 24, u 25, u 26, u 27, u 28, u 29, u 30, u 31, u 32, u 33, u 34, u 35, u 36, u 37, u 38, u 39, u 40, u 41, u 42, u 43, u 44, u 45, u 46, u 47, u 48, u 49, u 50, u 51, u 52, u 53, u 54, u 55, u 56, u 57, u 58, u 59, u 60, u 61, u 62, u 63, u 64, u 65, u 66, u 67, u 68, u 69, u 70, u 71, u 72, u 73, u 74, u 75, u 76, u 77, u 78, u 79, u 80, u 81, u 82, u 83, u 84, u 85, u 86, u 87, u 88, u 89, u 90, u 91, u 92, u 93, u 94, u 95, u 96, u 97, u 98, .slice (some ⟨b, 0, none⟩) l.length cp, .int .i64 l.length, .int .i64 (x.1 : Nat), u 102, u 103, u 104, u 105, u 106, u 107, u 108, u 109, u 110, u 111, u 112, u 113, u 114, u 115, u 116, u 117, u 118, u 119, u 120, u 121, u 122, u 123, u 124, u 125, u 126, u 127, u 128, u 129, u 130, u 131, u 132, u 133, u 134, u 135, u 136, u 137, u 138, u 139, u 140, u 141, u 142, u 143, u 144, u 145, u 146, u 147, u 148, u 149, u 150, u 151, u 152, u 153, u 154, u 155, u 156, u 157, u 158, u 159, u 160, u 161, u 162, u 163, u 164, u 165, u 166, u 167, u 168, u 169, u 170, u 171])
      (fun _ => [.row (.slice (some ⟨b, 0, none⟩) l.length cp) 5 1 l.length (l.map byteV)])
      (fun x => x.1 ≤ l.length ∧ 0 ≤ x.2 ∧ x.2 ≤ mx ∧ puGo mx 0 l = puGo mx x.2 (l.drop x.1)) (fun x => l.length - x.1) (0, 0) ⟨Nat.zero_le _, Int.le_refl _, by dsimp only; omega, rfl⟩ rfl (by repeat' (first | exact List.Sublist.refl _ | exact List.nil_sublist _ | apply List.Sublist.cons_cons | apply List.Sublist.cons)) ?_
    rintro ⟨k, n⟩ u ⟨hk, hn0, hnm, hI⟩
    dsimp only at hk hn0 hnm hI ⊢
    (conv => whnf); repeat ((first | refine tk1 ?_ | refine tk2 ?_ | refine tk3 ?_ | refine tk12 (fun _ => ?_) | refine tk4 ?_ | refine tk5 ?_ | refine tk6 ?_ | refine tk7 ?_ | refine tk8 ?_ | refine tk9 ?_ | refine tk10 (fun _ _ => ?_) | refine tk11 (fun _ => ?_) | refine tk13 ?_ | refine tk14 ?_); (conv => whnf))
    refine Cmp.cases (fun hlt => ?_) (fun hlt => ?_)
    · have hlt' : k < l.length := by omega
      obtain ⟨x, hx⟩ : ∃ x, l[k] = x := ⟨_, rfl⟩
      have hd : l.drop k = x :: l.drop (k + 1) := by rw [← hx]; exact List.drop_eq_getElem_cons hlt'
      have hlw := lw_facts x
      have hxt := x.toNat_lt
      rw [hd, puGo] at hI
      have bad : digI x.toNat = -1 → puV mx l = (0, 2) := fun h => by rw [hpv, hI, if_pos (by omega)]
      (conv => whnf); repeat ((first | refine tk1 ?_ | refine tk2 ?_ | refine tk3 ?_ | refine tk12 (fun _ => ?_) | refine tk4 ?_ | refine tk5 ?_ | refine tk6 ?_ | refine tk7 ?_ | refine tk8 ?_ | refine tk9 ?_ | refine tk10 (fun _ _ => ?_) | refine tk11 (fun _ => ?_) | refine tk13 ?_ | refine tk14 ?_); (conv => whnf))
      refine IdxA.tc (by simp; omega) (by omega) (by omega) ?_
      (conv => whnf); repeat ((first | refine tk1 ?_ | refine tk2 ?_ | refine tk3 ?_ | refine tk12 (fun _ => ?_) | refine tk4 ?_ | refine tk5 ?_ | refine tk6 ?_ | refine tk7 ?_ | refine tk8 ?_ | refine tk9 ?_ | refine tk10 (fun _ _ => ?_) | refine tk11 (fun _ => ?_) | refine tk13 ?_ | refine tk14 ?_); (conv => whnf))
      refine Ld.ta (v := .int .u8 x.toNat) (by simp [hlt', hx, byteV]) ?_
      (conv => whnf); repeat ((first | refine tk1 ?_ | refine tk2 ?_ | refine tk3 ?_ | refine tk12 (fun _ => ?_) | refine tk4 ?_ | refine tk5 ?_ | refine tk6 ?_ | refine tk7 ?_ | refine tk8 ?_ | refine tk9 ?_ | refine tk10 (fun _ _ => ?_) | refine tk11 (fun _ => ?_) | refine tk13 ?_ | refine tk14 ?_); (conv => whnf))
      refine Cmp.cases (fun h95 => ?_) (fun h95 => ?_)
      · have hbad := bad (lw_95 x (by omega))
        have h5 : lwI x = 127 := by unfold lwI; rw [show x.toNat = 95 by omega]; rfl
        (conv => whnf); repeat ((first | refine tk1 ?_ | refine tk2 ?_ | refine tk3 ?_ | refine tk12 (fun _ => ?_) | refine tk4 ?_ | refine tk5 ?_ | refine tk6 ?_ | refine tk7 ?_ | refine tk8 ?_ | refine tk9 ?_ | refine tk10 (fun _ _ => ?_) | refine tk11 (fun _ => ?_) | refine tk13 ?_ | refine tk14 ?_); (conv => whnf))
        refine CallK.fn (lower_f x) ?_
        (conv => whnf); repeat ((first | refine tk1 ?_ | refine tk2 ?_ | refine tk3 ?_ | refine tk12 (fun _ => ?_) | refine tk4 ?_ | refine tk5 ?_ | refine tk6 ?_ | refine tk7 ?_ | refine tk8 ?_ | refine tk9 ?_ | refine tk10 (fun _ _ => ?_) | refine tk11 (fun _ => ?_) | refine tk13 ?_ | refine tk14 ?_); (conv => whnf))
        refine CallK.fn (lower_f x) ?_
        (conv => whnf); repeat ((first | refine tk1 ?_ | refine tk2 ?_ | refine tk3 ?_ | refine tk12 (fun _ => ?_) | refine tk4 ?_ | refine tk5 ?_ | refine tk6 ?_ | refine tk7 ?_ | refine tk8 ?_ | refine tk9 ?_ | refine tk10 (fun _ _ => ?_) | refine tk11 (fun _ => ?_) | refine tk13 ?_ | refine tk14 ?_); (conv => whnf))
        refine OthP.mkI tys_ok rfl rfl ?_
        (conv => whnf); repeat ((first | refine tk1 ?_ | refine tk2 ?_ | refine tk3 ?_ | refine tk12 (fun _ => ?_) | refine tk4 ?_ | refine tk5 ?_ | refine tk6 ?_ | refine tk7 ?_ | refine tk8 ?_ | refine tk9 ?_ | refine tk10 (fun _ _ => ?_) | refine tk11 (fun _ => ?_) | refine tk13 ?_ | refine tk14 ?_); (conv => whnf))
        rw [hbad]; rfl
      · rcases hlw with ⟨g1, g2, g3⟩ | ⟨g1, ⟨g2, g3, ⟨g4, g5⟩ | ⟨g4, g5⟩⟩ | ⟨g2, g3⟩⟩
        · (conv => whnf); repeat ((first | refine tk1 ?_ | refine tk2 ?_ | refine tk3 ?_ | refine tk12 (fun _ => ?_) | refine tk4 ?_ | refine tk5 ?_ | refine tk6 ?_ | refine tk7 ?_ | refine tk8 ?_ | refine tk9 ?_ | refine tk10 (fun _ _ => ?_) | refine tk11 (fun _ => ?_) | refine tk13 ?_ | refine tk14 ?_); (conv => whnf))
          refine Ar.in8 (by omega) (by omega) ?_
          (conv => whnf); repeat ((first | refine tk1 ?_ | refine tk2 ?_ | refine tk3 ?_ | refine tk12 (fun _ => ?_) | refine tk4 ?_ | refine tk5 ?_ | refine tk6 ?_ | refine tk7 ?_ | refine tk8 ?_ | refine tk9 ?_ | refine tk10 (fun _ _ => ?_) | refine tk11 (fun _ => ?_) | refine tk13 ?_ | refine tk14 ?_); (conv => whnf))
          rw [show (x.toNat : Int) - 48 = digI x.toNat by omega]
          rw [if_neg (show ¬ digI x.toNat < 0 by omega)] at hI
          have hdr := dig_range x
          refine Ar.in8 (by omega) (by omega) ?_
          (conv => whnf); repeat ((first | refine tk1 ?_ | refine tk2 ?_ | refine tk3 ?_ | refine tk12 (fun _ => ?_) | refine tk4 ?_ | refine tk5 ?_ | refine tk6 ?_ | refine tk7 ?_ | refine tk8 ?_ | refine tk9 ?_ | refine tk10 (fun _ _ => ?_) | refine tk11 (fun _ => ?_) | refine tk13 ?_ | refine tk14 ?_); (conv => whnf))
          refine Cmp.cases (fun c1 => ?_) (fun c1 => ?_)
          · rw [if_pos (show 1152921504606846976 ≤ n by omega)] at hI
            (conv => whnf); repeat ((first | refine tk1 ?_ | refine tk2 ?_ | refine tk3 ?_ | refine tk12 (fun _ => ?_) | refine tk4 ?_ | refine tk5 ?_ | refine tk6 ?_ | refine tk7 ?_ | refine tk8 ?_ | refine tk9 ?_ | refine tk10 (fun _ _ => ?_) | refine tk11 (fun _ => ?_) | refine tk13 ?_ | refine tk14 ?_); (conv => whnf))
            refine OthP.mkI tys_ok rfl rfl ?_
            (conv => whnf); repeat ((first | refine tk1 ?_ | refine tk2 ?_ | refine tk3 ?_ | refine tk12 (fun _ => ?_) | refine tk4 ?_ | refine tk5 ?_ | refine tk6 ?_ | refine tk7 ?_ | refine tk8 ?_ | refine tk9 ?_ | refine tk10 (fun _ _ => ?_) | refine tk11 (fun _ => ?_) | refine tk13 ?_ | refine tk14 ?_); (conv => whnf))
            rw [hpv, hI]; rfl
          · rw [if_neg (show ¬ 1152921504606846976 ≤ n by omega)] at hI
            (conv => whnf); repeat ((first | refine tk1 ?_ | refine tk2 ?_ | refine tk3 ?_ | refine tk12 (fun _ => ?_) | refine tk4 ?_ | refine tk5 ?_ | refine tk6 ?_ | refine tk7 ?_ | refine tk8 ?_ | refine tk9 ?_ | refine tk10 (fun _ _ => ?_) | refine tk11 (fun _ => ?_) | refine tk13 ?_ | refine tk14 ?_); (conv => whnf))
            refine Ar.any ?_
            rw [show IntKind.u64.wrap 16 = 16 from rfl]
            (conv => whnf); repeat ((first | refine tk1 ?_ | refine tk2 ?_ | refine tk3 ?_ | refine tk12 (fun _ => ?_) | refine tk4 ?_ | refine tk5 ?_ | refine tk6 ?_ | refine tk7 ?_ | refine tk8 ?_ | refine tk9 ?_ | refine tk10 (fun _ _ => ?_) | refine tk11 (fun _ => ?_) | refine tk13 ?_ | refine tk14 ?_); (conv => whnf))
            refine Ar.any ?_
            rw [show IntKind.u64.wrap (n * 16) = n * 16 by rw [IntKind.wrap_u64]; omega]
            (conv => whnf); repeat ((first | refine tk1 ?_ | refine tk2 ?_ | refine tk3 ?_ | refine tk12 (fun _ => ?_) | refine tk4 ?_ | refine tk5 ?_ | refine tk6 ?_ | refine tk7 ?_ | refine tk8 ?_ | refine tk9 ?_ | refine tk10 (fun _ _ => ?_) | refine tk11 (fun _ => ?_) | refine tk13 ?_ | refine tk14 ?_); (conv => whnf))
            refine Ar.any ?_
            rw [show IntKind.u64.wrap (digI x.toNat) = digI x.toNat by rw [IntKind.wrap_u64]; omega]
            (conv => whnf); repeat ((first | refine tk1 ?_ | refine tk2 ?_ | refine tk3 ?_ | refine tk12 (fun _ => ?_) | refine tk4 ?_ | refine tk5 ?_ | refine tk6 ?_ | refine tk7 ?_ | refine tk8 ?_ | refine tk9 ?_ | refine tk10 (fun _ _ => ?_) | refine tk11 (fun _ => ?_) | refine tk13 ?_ | refine tk14 ?_); (conv => whnf))
            refine Ar.any ?_
            rw [show IntKind.u64.wrap (n * 16 + digI x.toNat) = n * 16 + digI x.toNat by rw [IntKind.wrap_u64]; omega]
            (conv => whnf); repeat ((first | refine tk1 ?_ | refine tk2 ?_ | refine tk3 ?_ | refine tk12 (fun _ => ?_) | refine tk4 ?_ | refine tk5 ?_ | refine tk6 ?_ | refine tk7 ?_ | refine tk8 ?_ | refine tk9 ?_ | refine tk10 (fun _ _ => ?_) | refine tk11 (fun _ => ?_) | refine tk13 ?_ | refine tk14 ?_); (conv => whnf))
            refine Cmp.cases (fun c2 => ?_) (fun c2 => ?_)
            · rw [if_pos (show mx < n * 16 + digI x.toNat by omega)] at hI
              (conv => whnf); repeat ((first | refine tk1 ?_ | refine tk2 ?_ | refine tk3 ?_ | refine tk12 (fun _ => ?_) | refine tk4 ?_ | refine tk5 ?_ | refine tk6 ?_ | refine tk7 ?_ | refine tk8 ?_ | refine tk9 ?_ | refine tk10 (fun _ _ => ?_) | refine tk11 (fun _ => ?_) | refine tk13 ?_ | refine tk14 ?_); (conv => whnf))
              refine OthP.mkI tys_ok rfl rfl ?_
              (conv => whnf); repeat ((first | refine tk1 ?_ | refine tk2 ?_ | refine tk3 ?_ | refine tk12 (fun _ => ?_) | refine tk4 ?_ | refine tk5 ?_ | refine tk6 ?_ | refine tk7 ?_ | refine tk8 ?_ | refine tk9 ?_ | refine tk10 (fun _ _ => ?_) | refine tk11 (fun _ => ?_) | refine tk13 ?_ | refine tk14 ?_); (conv => whnf))
              rw [hpv, hI]; rfl
            · rw [if_neg (show ¬ mx < n * 16 + digI x.toNat by omega)] at hI
              (conv => whnf); repeat ((first | refine tk1 ?_ | refine tk2 ?_ | refine tk3 ?_ | refine tk12 (fun _ => ?_) | refine tk4 ?_ | refine tk5 ?_ | refine tk6 ?_ | refine tk7 ?_ | refine tk8 ?_ | refine tk9 ?_ | refine tk10 (fun _ _ => ?_) | refine tk11 (fun _ => ?_) | refine tk13 ?_ | refine tk14 ?_); (conv => whnf))
              exact ⟨(k + 1, n * 16 + digI x.toNat), ⟨by dsimp only; omega, by dsimp only; omega, by dsimp only; omega, hI⟩, rfl, (by repeat' (first | exact List.Sublist.refl _ | exact List.nil_sublist _ | apply List.Sublist.cons_cons | apply List.Sublist.cons)), by dsimp only; omega⟩
        · (conv => whnf); repeat ((first | refine tk1 ?_ | refine tk2 ?_ | refine tk3 ?_ | refine tk12 (fun _ => ?_) | refine tk4 ?_ | refine tk5 ?_ | refine tk6 ?_ | refine tk7 ?_ | refine tk8 ?_ | refine tk9 ?_ | refine tk10 (fun _ _ => ?_) | refine tk11 (fun _ => ?_) | refine tk13 ?_ | refine tk14 ?_); (conv => whnf))
          refine Cmp.cases (fun q1 => ?_) (fun q1 => ?_)
          · (conv => whnf); repeat ((first | refine tk1 ?_ | refine tk2 ?_ | refine tk3 ?_ | refine tk12 (fun _ => ?_) | refine tk4 ?_ | refine tk5 ?_ | refine tk6 ?_ | refine tk7 ?_ | refine tk8 ?_ | refine tk9 ?_ | refine tk10 (fun _ _ => ?_) | refine tk11 (fun _ => ?_) | refine tk13 ?_ | refine tk14 ?_); (conv => whnf))
            refine CallK.fn (lower_f x) ?_
            (conv => whnf); repeat ((first | refine tk1 ?_ | refine tk2 ?_ | refine tk3 ?_ | refine tk12 (fun _ => ?_) | refine tk4 ?_ | refine tk5 ?_ | refine tk6 ?_ | refine tk7 ?_ | refine tk8 ?_ | refine tk9 ?_ | refine tk10 (fun _ _ => ?_) | refine tk11 (fun _ => ?_) | refine tk13 ?_ | refine tk14 ?_); (conv => whnf))
            refine CallK.fn (lower_f x) ?_
            (conv => whnf); repeat ((first | refine tk1 ?_ | refine tk2 ?_ | refine tk3 ?_ | refine tk12 (fun _ => ?_) | refine tk4 ?_ | refine tk5 ?_ | refine tk6 ?_ | refine tk7 ?_ | refine tk8 ?_ | refine tk9 ?_ | refine tk10 (fun _ _ => ?_) | refine tk11 (fun _ => ?_) | refine tk13 ?_ | refine tk14 ?_); (conv => whnf))
            refine CallK.fn (lower_f x) ?_
            (conv => whnf); repeat ((first | refine tk1 ?_ | refine tk2 ?_ | refine tk3 ?_ | refine tk12 (fun _ => ?_) | refine tk4 ?_ | refine tk5 ?_ | refine tk6 ?_ | refine tk7 ?_ | refine tk8 ?_ | refine tk9 ?_ | refine tk10 (fun _ _ => ?_) | refine tk11 (fun _ => ?_) | refine tk13 ?_ | refine tk14 ?_); (conv => whnf))
            refine Ar.in8 (by omega) (by omega) ?_
            (conv => whnf); repeat ((first | refine tk1 ?_ | refine tk2 ?_ | refine tk3 ?_ | refine tk12 (fun _ => ?_) | refine tk4 ?_ | refine tk5 ?_ | refine tk6 ?_ | refine tk7 ?_ | refine tk8 ?_ | refine tk9 ?_ | refine tk10 (fun _ _ => ?_) | refine tk11 (fun _ => ?_) | refine tk13 ?_ | refine tk14 ?_); (conv => whnf))
            refine Ar.in8 (by omega) (by omega) ?_
            rw [show lwI x - 97 + 10 = digI x.toNat by omega]
            (conv => whnf); repeat ((first | refine tk1 ?_ | refine tk2 ?_ | refine tk3 ?_ | refine tk12 (fun _ => ?_) | refine tk4 ?_ | refine tk5 ?_ | refine tk6 ?_ | refine tk7 ?_ | refine tk8 ?_ | refine tk9 ?_ | refine tk10 (fun _ _ => ?_) | refine tk11 (fun _ => ?_) | refine tk13 ?_ | refine tk14 ?_); (conv => whnf))
            rw [if_neg (show ¬ digI x.toNat < 0 by omega)] at hI
            have hdr := dig_range x
            refine Ar.in8 (by omega) (by omega) ?_
            (conv => whnf); repeat ((first | refine tk1 ?_ | refine tk2 ?_ | refine tk3 ?_ | refine tk12 (fun _ => ?_) | refine tk4 ?_ | refine tk5 ?_ | refine tk6 ?_ | refine tk7 ?_ | refine tk8 ?_ | refine tk9 ?_ | refine tk10 (fun _ _ => ?_) | refine tk11 (fun _ => ?_) | refine tk13 ?_ | refine tk14 ?_); (conv => whnf))
            refine Cmp.cases (fun c1 => ?_) (fun c1 => ?_)
            · rw [if_pos (show 1152921504606846976 ≤ n by omega)] at hI
              (conv => whnf); repeat ((first | refine tk1 ?_ | refine tk2 ?_ | refine tk3 ?_ | refine tk12 (fun _ => ?_) | refine tk4 ?_ | refine tk5 ?_ | refine tk6 ?_ | refine tk7 ?_ | refine tk8 ?_ | refine tk9 ?_ | refine tk10 (fun _ _ => ?_) | refine tk11 (fun _ => ?_) | refine tk13 ?_ | refine tk14 ?_); (conv => whnf))
              refine OthP.mkI tys_ok rfl rfl ?_
              (conv => whnf); repeat ((first | refine tk1 ?_ | refine tk2 ?_ | refine tk3 ?_ | refine tk12 (fun _ => ?_) | refine tk4 ?_ | refine tk5 ?_ | refine tk6 ?_ | refine tk7 ?_ | refine tk8 ?_ | refine tk9 ?_ | refine tk10 (fun _ _ => ?_) | refine tk11 (fun _ => ?_) | refine tk13 ?_ | refine tk14 ?_); (conv => whnf))
              rw [hpv, hI]; rfl
            · rw [if_neg (show ¬ 1152921504606846976 ≤ n by omega)] at hI
              (conv => whnf); repeat ((first | refine tk1 ?_ | refine tk2 ?_ | refine tk3 ?_ | refine tk12 (fun _ => ?_) | refine tk4 ?_ | refine tk5 ?_ | refine tk6 ?_ | refine tk7 ?_ | refine tk8 ?_ | refine tk9 ?_ | refine tk10 (fun _ _ => ?_) | refine tk11 (fun _ => ?_) | refine tk13 ?_ | refine tk14 ?_); (conv => whnf))
              refine Ar.any ?_
              rw [show IntKind.u64.wrap 16 = 16 from rfl]
              (conv => whnf); repeat ((first | refine tk1 ?_ | refine tk2 ?_ | refine tk3 ?_ | refine tk12 (fun _ => ?_) | refine tk4 ?_ | refine tk5 ?_ | refine tk6 ?_ | refine tk7 ?_ | refine tk8 ?_ | refine tk9 ?_ | refine tk10 (fun _ _ => ?_) | refine tk11 (fun _ => ?_) | refine tk13 ?_ | refine tk14 ?_); (conv => whnf))
              refine Ar.any ?_
              rw [show IntKind.u64.wrap (n * 16) = n * 16 by rw [IntKind.wrap_u64]; omega]
              (conv => whnf); repeat ((first | refine tk1 ?_ | refine tk2 ?_ | refine tk3 ?_ | refine tk12 (fun _ => ?_) | refine tk4 ?_ | refine tk5 ?_ | refine tk6 ?_ | refine tk7 ?_ | refine tk8 ?_ | refine tk9 ?_ | refine tk10 (fun _ _ => ?_) | refine tk11 (fun _ => ?_) | refine tk13 ?_ | refine tk14 ?_); (conv => whnf))
              refine Ar.any ?_
              rw [show IntKind.u64.wrap (digI x.toNat) = digI x.toNat by rw [IntKind.wrap_u64]; omega]
              (conv => whnf); repeat ((first | refine tk1 ?_ | refine tk2 ?_ | refine tk3 ?_ | refine tk12 (fun _ => ?_) | refine tk4 ?_ | refine tk5 ?_ | refine tk6 ?_ | refine tk7 ?_ | refine tk8 ?_ | refine tk9 ?_ | refine tk10 (fun _ _ => ?_) | refine tk11 (fun _ => ?_) | refine tk13 ?_ | refine tk14 ?_); (conv => whnf))
              refine Ar.any ?_
              rw [show IntKind.u64.wrap (n * 16 + digI x.toNat) = n * 16 + digI x.toNat by rw [IntKind.wrap_u64]; omega]
              (conv => whnf); repeat ((first | refine tk1 ?_ | refine tk2 ?_ | refine tk3 ?_ | refine tk12 (fun _ => ?_) | refine tk4 ?_ | refine tk5 ?_ | refine tk6 ?_ | refine tk7 ?_ | refine tk8 ?_ | refine tk9 ?_ | refine tk10 (fun _ _ => ?_) | refine tk11 (fun _ => ?_) | refine tk13 ?_ | refine tk14 ?_); (conv => whnf))
              refine Cmp.cases (fun c2 => ?_) (fun c2 => ?_)
              · rw [if_pos (show mx < n * 16 + digI x.toNat by omega)] at hI
                (conv => whnf); repeat ((first | refine tk1 ?_ | refine tk2 ?_ | refine tk3 ?_ | refine tk12 (fun _ => ?_) | refine tk4 ?_ | refine tk5 ?_ | refine tk6 ?_ | refine tk7 ?_ | refine tk8 ?_ | refine tk9 ?_ | refine tk10 (fun _ _ => ?_) | refine tk11 (fun _ => ?_) | refine tk13 ?_ | refine tk14 ?_); (conv => whnf))
                refine OthP.mkI tys_ok rfl rfl ?_
                (conv => whnf); repeat ((first | refine tk1 ?_ | refine tk2 ?_ | refine tk3 ?_ | refine tk12 (fun _ => ?_) | refine tk4 ?_ | refine tk5 ?_ | refine tk6 ?_ | refine tk7 ?_ | refine tk8 ?_ | refine tk9 ?_ | refine tk10 (fun _ _ => ?_) | refine tk11 (fun _ => ?_) | refine tk13 ?_ | refine tk14 ?_); (conv => whnf))
                rw [hpv, hI]; rfl
              · rw [if_neg (show ¬ mx < n * 16 + digI x.toNat by omega)] at hI
                (conv => whnf); repeat ((first | refine tk1 ?_ | refine tk2 ?_ | refine tk3 ?_ | refine tk12 (fun _ => ?_) | refine tk4 ?_ | refine tk5 ?_ | refine tk6 ?_ | refine tk7 ?_ | refine tk8 ?_ | refine tk9 ?_ | refine tk10 (fun _ _ => ?_) | refine tk11 (fun _ => ?_) | refine tk13 ?_ | refine tk14 ?_); (conv => whnf))
                exact ⟨(k + 1, n * 16 + digI x.toNat), ⟨by dsimp only; omega, by dsimp only; omega, by dsimp only; omega, hI⟩, rfl, (by repeat' (first | exact List.Sublist.refl _ | exact List.nil_sublist _ | apply List.Sublist.cons_cons | apply List.Sublist.cons)), by dsimp only; omega⟩
          · (conv => whnf); repeat ((first | refine tk1 ?_ | refine tk2 ?_ | refine tk3 ?_ | refine tk12 (fun _ => ?_) | refine tk4 ?_ | refine tk5 ?_ | refine tk6 ?_ | refine tk7 ?_ | refine tk8 ?_ | refine tk9 ?_ | refine tk10 (fun _ _ => ?_) | refine tk11 (fun _ => ?_) | refine tk13 ?_ | refine tk14 ?_); (conv => whnf))
            refine CallK.fn (lower_f x) ?_
            (conv => whnf); repeat ((first | refine tk1 ?_ | refine tk2 ?_ | refine tk3 ?_ | refine tk12 (fun _ => ?_) | refine tk4 ?_ | refine tk5 ?_ | refine tk6 ?_ | refine tk7 ?_ | refine tk8 ?_ | refine tk9 ?_ | refine tk10 (fun _ _ => ?_) | refine tk11 (fun _ => ?_) | refine tk13 ?_ | refine tk14 ?_); (conv => whnf))
            refine CallK.fn (lower_f x) ?_
            (conv => whnf); repeat ((first | refine tk1 ?_ | refine tk2 ?_ | refine tk3 ?_ | refine tk12 (fun _ => ?_) | refine tk4 ?_ | refine tk5 ?_ | refine tk6 ?_ | refine tk7 ?_ | refine tk8 ?_ | refine tk9 ?_ | refine tk10 (fun _ _ => ?_) | refine tk11 (fun _ => ?_) | refine tk13 ?_ | refine tk14 ?_); (conv => whnf))
            refine CallK.fn (lower_f x) ?_
            (conv => whnf); repeat ((first | refine tk1 ?_ | refine tk2 ?_ | refine tk3 ?_ | refine tk12 (fun _ => ?_) | refine tk4 ?_ | refine tk5 ?_ | refine tk6 ?_ | refine tk7 ?_ | refine tk8 ?_ | refine tk9 ?_ | refine tk10 (fun _ _ => ?_) | refine tk11 (fun _ => ?_) | refine tk13 ?_ | refine tk14 ?_); (conv => whnf))
            refine Ar.in8 (by omega) (by omega) ?_
            (conv => whnf); repeat ((first | refine tk1 ?_ | refine tk2 ?_ | refine tk3 ?_ | refine tk12 (fun _ => ?_) | refine tk4 ?_ | refine tk5 ?_ | refine tk6 ?_ | refine tk7 ?_ | refine tk8 ?_ | refine tk9 ?_ | refine tk10 (fun _ _ => ?_) | refine tk11 (fun _ => ?_) | refine tk13 ?_ | refine tk14 ?_); (conv => whnf))
            refine Ar.in8 (by omega) (by omega) ?_
            rw [show lwI x - 97 + 10 = digI x.toNat by omega]
            (conv => whnf); repeat ((first | refine tk1 ?_ | refine tk2 ?_ | refine tk3 ?_ | refine tk12 (fun _ => ?_) | refine tk4 ?_ | refine tk5 ?_ | refine tk6 ?_ | refine tk7 ?_ | refine tk8 ?_ | refine tk9 ?_ | refine tk10 (fun _ _ => ?_) | refine tk11 (fun _ => ?_) | refine tk13 ?_ | refine tk14 ?_); (conv => whnf))
            rw [if_neg (show ¬ digI x.toNat < 0 by omega)] at hI
            have hdr := dig_range x
            refine Ar.in8 (by omega) (by omega) ?_
            (conv => whnf); repeat ((first | refine tk1 ?_ | refine tk2 ?_ | refine tk3 ?_ | refine tk12 (fun _ => ?_) | refine tk4 ?_ | refine tk5 ?_ | refine tk6 ?_ | refine tk7 ?_ | refine tk8 ?_ | refine tk9 ?_ | refine tk10 (fun _ _ => ?_) | refine tk11 (fun _ => ?_) | refine tk13 ?_ | refine tk14 ?_); (conv => whnf))
            refine Cmp.cases (fun c1 => ?_) (fun c1 => ?_)
            · rw [if_pos (show 1152921504606846976 ≤ n by omega)] at hI
              (conv => whnf); repeat ((first | refine tk1 ?_ | refine tk2 ?_ | refine tk3 ?_ | refine tk12 (fun _ => ?_) | refine tk4 ?_ | refine tk5 ?_ | refine tk6 ?_ | refine tk7 ?_ | refine tk8 ?_ | refine tk9 ?_ | refine tk10 (fun _ _ => ?_) | refine tk11 (fun _ => ?_) | refine tk13 ?_ | refine tk14 ?_); (conv => whnf))
              refine OthP.mkI tys_ok rfl rfl ?_
              (conv => whnf); repeat ((first | refine tk1 ?_ | refine tk2 ?_ | refine tk3 ?_ | refine tk12 (fun _ => ?_) | refine tk4 ?_ | refine tk5 ?_ | refine tk6 ?_ | refine tk7 ?_ | refine tk8 ?_ | refine tk9 ?_ | refine tk10 (fun _ _ => ?_) | refine tk11 (fun _ => ?_) | refine tk13 ?_ | refine tk14 ?_); (conv => whnf))
              rw [hpv, hI]; rfl
            · rw [if_neg (show ¬ 1152921504606846976 ≤ n by omega)] at hI
              (conv => whnf); repeat ((first | refine tk1 ?_ | refine tk2 ?_ | refine tk3 ?_ | refine tk12 (fun _ => ?_) | refine tk4 ?_ | refine tk5 ?_ | refine tk6 ?_ | refine tk7 ?_ | refine tk8 ?_ | refine tk9 ?_ | refine tk10 (fun _ _ => ?_) | refine tk11 (fun _ => ?_) | refine tk13 ?_ | refine tk14 ?_); (conv => whnf))
              refine Ar.any ?_
              rw [show IntKind.u64.wrap 16 = 16 from rfl]
              (conv => whnf); repeat ((first | refine tk1 ?_ | refine tk2 ?_ | refine tk3 ?_ | refine tk12 (fun _ => ?_) | refine tk4 ?_ | refine tk5 ?_ | refine tk6 ?_ | refine tk7 ?_ | refine tk8 ?_ | refine tk9 ?_ | refine tk10 (fun _ _ => ?_) | refine tk11 (fun _ => ?_) | refine tk13 ?_ | refine tk14 ?_); (conv => whnf))
              refine Ar.any ?_
              rw [show IntKind.u64.wrap (n * 16) = n * 16 by rw [IntKind.wrap_u64]; omega]
              (conv => whnf); repeat ((first | refine tk1 ?_ | refine tk2 ?_ | refine tk3 ?_ | refine tk12 (fun _ => ?_) | refine tk4 ?_ | refine tk5 ?_ | refine tk6 ?_ | refine tk7 ?_ | refine tk8 ?_ | refine tk9 ?_ | refine tk10 (fun _ _ => ?_) | refine tk11 (fun _ => ?_) | refine tk13 ?_ | refine tk14 ?_); (conv => whnf))
              refine Ar.any ?_
              rw [show IntKind.u64.wrap (digI x.toNat) = digI x.toNat by rw [IntKind.wrap_u64]; omega]
              (conv => whnf); repeat ((first | refine tk1 ?_ | refine tk2 ?_ | refine tk3 ?_ | refine tk12 (fun _ => ?_) | refine tk4 ?_ | refine tk5 ?_ | refine tk6 ?_ | refine tk7 ?_ | refine tk8 ?_ | refine tk9 ?_ | refine tk10 (fun _ _ => ?_) | refine tk11 (fun _ => ?_) | refine tk13 ?_ | refine tk14 ?_); (conv => whnf))
              refine Ar.any ?_
              rw [show IntKind.u64.wrap (n * 16 + digI x.toNat) = n * 16 + digI x.toNat by rw [IntKind.wrap_u64]; omega]
              (conv => whnf); repeat ((first | refine tk1 ?_ | refine tk2 ?_ | refine tk3 ?_ | refine tk12 (fun _ => ?_) | refine tk4 ?_ | refine tk5 ?_ | refine tk6 ?_ | refine tk7 ?_ | refine tk8 ?_ | refine tk9 ?_ | refine tk10 (fun _ _ => ?_) | refine tk11 (fun _ => ?_) | refine tk13 ?_ | refine tk14 ?_); (conv => whnf))
              refine Cmp.cases (fun c2 => ?_) (fun c2 => ?_)
              · rw [if_pos (show mx < n * 16 + digI x.toNat by omega)] at hI
                (conv => whnf); repeat ((first | refine tk1 ?_ | refine tk2 ?_ | refine tk3 ?_ | refine tk12 (fun _ => ?_) | refine tk4 ?_ | refine tk5 ?_ | refine tk6 ?_ | refine tk7 ?_ | refine tk8 ?_ | refine tk9 ?_ | refine tk10 (fun _ _ => ?_) | refine tk11 (fun _ => ?_) | refine tk13 ?_ | refine tk14 ?_); (conv => whnf))
                refine OthP.mkI tys_ok rfl rfl ?_
                (conv => whnf); repeat ((first | refine tk1 ?_ | refine tk2 ?_ | refine tk3 ?_ | refine tk12 (fun _ => ?_) | refine tk4 ?_ | refine tk5 ?_ | refine tk6 ?_ | refine tk7 ?_ | refine tk8 ?_ | refine tk9 ?_ | refine tk10 (fun _ _ => ?_) | refine tk11 (fun _ => ?_) | refine tk13 ?_ | refine tk14 ?_); (conv => whnf))
                rw [hpv, hI]; rfl
              · rw [if_neg (show ¬ mx < n * 16 + digI x.toNat by omega)] at hI
                (conv => whnf); repeat ((first | refine tk1 ?_ | refine tk2 ?_ | refine tk3 ?_ | refine tk12 (fun _ => ?_) | refine tk4 ?_ | refine tk5 ?_ | refine tk6 ?_ | refine tk7 ?_ | refine tk8 ?_ | refine tk9 ?_ | refine tk10 (fun _ _ => ?_) | refine tk11 (fun _ => ?_) | refine tk13 ?_ | refine tk14 ?_); (conv => whnf))
                exact ⟨(k + 1, n * 16 + digI x.toNat), ⟨by dsimp only; omega, by dsimp only; omega, by dsimp only; omega, hI⟩, rfl, (by repeat' (first | exact List.Sublist.refl _ | exact List.nil_sublist _ | apply List.Sublist.cons_cons | apply List.Sublist.cons)), by dsimp only; omega⟩
        · have hbad := bad g4
          (conv => whnf); repeat ((first | refine tk1 ?_ | refine tk2 ?_ | refine tk3 ?_ | refine tk12 (fun _ => ?_) | refine tk4 ?_ | refine tk5 ?_ | refine tk6 ?_ | refine tk7 ?_ | refine tk8 ?_ | refine tk9 ?_ | refine tk10 (fun _ _ => ?_) | refine tk11 (fun _ => ?_) | refine tk13 ?_ | refine tk14 ?_); (conv => whnf))
          refine Cmp.cases (fun q1 => ?_) (fun q1 => ?_)
          · (conv => whnf); repeat ((first | refine tk1 ?_ | refine tk2 ?_ | refine tk3 ?_ | refine tk12 (fun _ => ?_) | refine tk4 ?_ | refine tk5 ?_ | refine tk6 ?_ | refine tk7 ?_ | refine tk8 ?_ | refine tk9 ?_ | refine tk10 (fun _ _ => ?_) | refine tk11 (fun _ => ?_) | refine tk13 ?_ | refine tk14 ?_); (conv => whnf))
            refine CallK.fn (lower_f x) ?_
            (conv => whnf); repeat ((first | refine tk1 ?_ | refine tk2 ?_ | refine tk3 ?_ | refine tk12 (fun _ => ?_) | refine tk4 ?_ | refine tk5 ?_ | refine tk6 ?_ | refine tk7 ?_ | refine tk8 ?_ | refine tk9 ?_ | refine tk10 (fun _ _ => ?_) | refine tk11 (fun _ => ?_) | refine tk13 ?_ | refine tk14 ?_); (conv => whnf))
            refine CallK.fn (lower_f x) ?_
            (conv => whnf); repeat ((first | refine tk1 ?_ | refine tk2 ?_ | refine tk3 ?_ | refine tk12 (fun _ => ?_) | refine tk4 ?_ | refine tk5 ?_ | refine tk6 ?_ | refine tk7 ?_ | refine tk8 ?_ | refine tk9 ?_ | refine tk10 (fun _ _ => ?_) | refine tk11 (fun _ => ?_) | refine tk13 ?_ | refine tk14 ?_); (conv => whnf))
            refine CallK.fn (lower_f x) ?_
            (conv => whnf); repeat ((first | refine tk1 ?_ | refine tk2 ?_ | refine tk3 ?_ | refine tk12 (fun _ => ?_) | refine tk4 ?_ | refine tk5 ?_ | refine tk6 ?_ | refine tk7 ?_ | refine tk8 ?_ | refine tk9 ?_ | refine tk10 (fun _ _ => ?_) | refine tk11 (fun _ => ?_) | refine tk13 ?_ | refine tk14 ?_); (conv => whnf))
            refine Ar.in8 (by omega) (by omega) ?_
            (conv => whnf); repeat ((first | refine tk1 ?_ | refine tk2 ?_ | refine tk3 ?_ | refine tk12 (fun _ => ?_) | refine tk4 ?_ | refine tk5 ?_ | refine tk6 ?_ | refine tk7 ?_ | refine tk8 ?_ | refine tk9 ?_ | refine tk10 (fun _ _ => ?_) | refine tk11 (fun _ => ?_) | refine tk13 ?_ | refine tk14 ?_); (conv => whnf))
            refine Ar.in8 (by omega) (by omega) ?_
            (conv => whnf); repeat ((first | refine tk1 ?_ | refine tk2 ?_ | refine tk3 ?_ | refine tk12 (fun _ => ?_) | refine tk4 ?_ | refine tk5 ?_ | refine tk6 ?_ | refine tk7 ?_ | refine tk8 ?_ | refine tk9 ?_ | refine tk10 (fun _ _ => ?_) | refine tk11 (fun _ => ?_) | refine tk13 ?_ | refine tk14 ?_); (conv => whnf))
            refine Ar.in8 (by omega) (by omega) ?_
            (conv => whnf); repeat ((first | refine tk1 ?_ | refine tk2 ?_ | refine tk3 ?_ | refine tk12 (fun _ => ?_) | refine tk4 ?_ | refine tk5 ?_ | refine tk6 ?_ | refine tk7 ?_ | refine tk8 ?_ | refine tk9 ?_ | refine tk10 (fun _ _ => ?_) | refine tk11 (fun _ => ?_) | refine tk13 ?_ | refine tk14 ?_); (conv => whnf))
            refine OthP.mkI tys_ok rfl rfl ?_
            (conv => whnf); repeat ((first | refine tk1 ?_ | refine tk2 ?_ | refine tk3 ?_ | refine tk12 (fun _ => ?_) | refine tk4 ?_ | refine tk5 ?_ | refine tk6 ?_ | refine tk7 ?_ | refine tk8 ?_ | refine tk9 ?_ | refine tk10 (fun _ _ => ?_) | refine tk11 (fun _ => ?_) | refine tk13 ?_ | refine tk14 ?_); (conv => whnf))
            rw [hbad]; rfl
          · (conv => whnf); repeat ((first | refine tk1 ?_ | refine tk2 ?_ | refine tk3 ?_ | refine tk12 (fun _ => ?_) | refine tk4 ?_ | refine tk5 ?_ | refine tk6 ?_ | refine tk7 ?_ | refine tk8 ?_ | refine tk9 ?_ | refine tk10 (fun _ _ => ?_) | refine tk11 (fun _ => ?_) | refine tk13 ?_ | refine tk14 ?_); (conv => whnf))
            refine CallK.fn (lower_f x) ?_
            (conv => whnf); repeat ((first | refine tk1 ?_ | refine tk2 ?_ | refine tk3 ?_ | refine tk12 (fun _ => ?_) | refine tk4 ?_ | refine tk5 ?_ | refine tk6 ?_ | refine tk7 ?_ | refine tk8 ?_ | refine tk9 ?_ | refine tk10 (fun _ _ => ?_) | refine tk11 (fun _ => ?_) | refine tk13 ?_ | refine tk14 ?_); (conv => whnf))
            refine CallK.fn (lower_f x) ?_
            (conv => whnf); repeat ((first | refine tk1 ?_ | refine tk2 ?_ | refine tk3 ?_ | refine tk12 (fun _ => ?_) | refine tk4 ?_ | refine tk5 ?_ | refine tk6 ?_ | refine tk7 ?_ | refine tk8 ?_ | refine tk9 ?_ | refine tk10 (fun _ _ => ?_) | refine tk11 (fun _ => ?_) | refine tk13 ?_ | refine tk14 ?_); (conv => whnf))
            refine CallK.fn (lower_f x) ?_
            (conv => whnf); repeat ((first | refine tk1 ?_ | refine tk2 ?_ | refine tk3 ?_ | refine tk12 (fun _ => ?_) | refine tk4 ?_ | refine tk5 ?_ | refine tk6 ?_ | refine tk7 ?_ | refine tk8 ?_ | refine tk9 ?_ | refine tk10 (fun _ _ => ?_) | refine tk11 (fun _ => ?_) | refine tk13 ?_ | refine tk14 ?_); (conv => whnf))
            refine Ar.in8 (by omega) (by omega) ?_
            (conv => whnf); repeat ((first | refine tk1 ?_ | refine tk2 ?_ | refine tk3 ?_ | refine tk12 (fun _ => ?_) | refine tk4 ?_ | refine tk5 ?_ | refine tk6 ?_ | refine tk7 ?_ | refine tk8 ?_ | refine tk9 ?_ | refine tk10 (fun _ _ => ?_) | refine tk11 (fun _ => ?_) | refine tk13 ?_ | refine tk14 ?_); (conv => whnf))
            refine Ar.in8 (by omega) (by omega) ?_
            (conv => whnf); repeat ((first | refine tk1 ?_ | refine tk2 ?_ | refine tk3 ?_ | refine tk12 (fun _ => ?_) | refine tk4 ?_ | refine tk5 ?_ | refine tk6 ?_ | refine tk7 ?_ | refine tk8 ?_ | refine tk9 ?_ | refine tk10 (fun _ _ => ?_) | refine tk11 (fun _ => ?_) | refine tk13 ?_ | refine tk14 ?_); (conv => whnf))
            refine Ar.in8 (by omega) (by omega) ?_
            (conv => whnf); repeat ((first | refine tk1 ?_ | refine tk2 ?_ | refine tk3 ?_ | refine tk12 (fun _ => ?_) | refine tk4 ?_ | refine tk5 ?_ | refine tk6 ?_ | refine tk7 ?_ | refine tk8 ?_ | refine tk9 ?_ | refine tk10 (fun _ _ => ?_) | refine tk11 (fun _ => ?_) | refine tk13 ?_ | refine tk14 ?_); (conv => whnf))
            refine OthP.mkI tys_ok rfl rfl ?_
            (conv => whnf); repeat ((first | refine tk1 ?_ | refine tk2 ?_ | refine tk3 ?_ | refine tk12 (fun _ => ?_) | refine tk4 ?_ | refine tk5 ?_ | refine tk6 ?_ | refine tk7 ?_ | refine tk8 ?_ | refine tk9 ?_ | refine tk10 (fun _ _ => ?_) | refine tk11 (fun _ => ?_) | refine tk13 ?_ | refine tk14 ?_); (conv => whnf))
            rw [hbad]; rfl
        · have hbad := bad g3
          (repeat' ((conv => whnf); first | (first | refine tk1 ?_ | refine tk2 ?_ | refine tk3 ?_ | refine tk12 (fun _ => ?_) | refine tk4 ?_ | refine tk5 ?_ | refine tk6 ?_ | refine tk7 ?_ | refine tk8 ?_ | refine tk9 ?_ | refine tk10 (fun _ _ => ?_) | refine tk11 (fun _ => ?_) | refine tk13 ?_ | refine tk14 ?_) | refine Cmp.cases (fun _ => ?_) (fun _ => ?_) | refine IdxS.nat (by omega) ?_ | refine IdxS.go (by omega) (by omega) (fun _ _ _ => ?_) | refine SlcS.at (by omega) (by omega) (by omega) ?_ | refine CatS.at (by simp only [List.length_append, List.length_cons, List.length_nil]; omega) ?_ | refine CallK.fn (lower_f x) ?_ | refine OthP.mkI tys_ok rfl rfl ?_)); all_goals (conv => whnf)
          all_goals (rw [hbad]; rfl)
    · (conv => whnf); repeat ((first | refine tk1 ?_ | refine tk2 ?_ | refine tk3 ?_ | refine tk12 (fun _ => ?_) | refine tk4 ?_ | refine tk5 ?_ | refine tk6 ?_ | refine tk7 ?_ | refine tk8 ?_ | refine tk9 ?_ | refine tk10 (fun _ _ => ?_) | refine tk11 (fun _ => ?_) | refine tk13 ?_ | refine tk14 ?_); (conv => whnf))
      rw [hpv, hI, List.drop_eq_nil_of_le (by omega)]; rfl
end Go.Proofs.YtnaeeklnlddcaaaGreatDoor.Vex
/- The number of a chunk's line, as strconv.ParseUint tells it. -/
namespace Go.Proofs.YtnaeeklnlddcaaaGreatDoor.Vex
open Go

def mx64 : Int := 18446744073709551615
theorem pu_ok : ∀ (l : List UInt8) (n : Int), (puGo mx64 n l).2 = 0 → l.all hexB = true
  | [], _, _ => rfl
  | x :: r, n, h => by
    unfold puGo at h
    split at h
    · cases h
    split at h
    · cases h
    split at h
    · cases h
    rw [List.all_cons, pu_ok r _ h, (hexB_iff x).2 (by omega)]
    rfl
theorem pu_hex : ∀ (l : List UInt8) (n : Int), l.all hexB = true → 0 ≤ n → (n + 1) * 16 ^ l.length ≤ 16777216 → puGo mx64 n l = (l.foldl (fun n x => 16 * n + digI x.toNat) n, 0)
  | [], _, _, _, _ => rfl
  | x :: r, n, h, h0, hn => by
    rw [List.all_cons, Bool.and_eq_true] at h
    have hd := dig_range x
    have hx := (hexB_iff x).1 h.1
    rw [List.length_cons, Int.pow_succ, ← Int.mul_assoc, Int.mul_right_comm] at hn
    have hp : (1 : Int) ≤ 16 ^ r.length := by
      have h : (0 : Int) < 16 ^ r.length := Int.pow_pos (by decide)
      omega
    have h16 : (n + 1) * 16 ≤ 16777216 := Int.le_trans (by have := Int.mul_le_mul_of_nonneg_left hp (show 0 ≤ (n + 1) * 16 by omega); omega) hn
    unfold puGo
    rw [if_neg (by omega), if_neg (by omega), if_neg (by unfold mx64; omega)]
    have hle : (16 * n + digI x.toNat + 1) * 16 ^ r.length ≤ 16777216 := Int.le_trans (Int.mul_le_mul_of_nonneg_right (by omega) (by omega)) hn
    rw [show n * 16 + digI x.toNat = 16 * n + digI x.toNat by omega, pu_hex r _ h.2 (by omega) hle, List.foldl_cons]
theorem pu_digs (l : List UInt8) (h6 : l.length ≤ 6) : ((puV mx64 l).2 = 0 ↔ (1 ≤ l.length ∧ l.all hexB = true)) ∧ ((puV mx64 l).2 = 0 → (puV mx64 l).1 = hexN l) := by
  by_cases h0 : l = []
  · subst h0
    exact ⟨⟨fun h => absurd h (by decide), fun h => absurd h.1 (by decide)⟩, fun h => absurd h (by decide)⟩
  have hpos := List.length_pos_iff.2 h0
  unfold puV
  rw [if_neg h0]
  have key : l.all hexB = true → puGo mx64 0 l = (hexN l, 0) := fun h => pu_hex l 0 h (Int.le_refl _) (by
    have : ∀ n : Nat, n ≤ 6 → (0 + 1 : Int) * 16 ^ n ≤ 16777216 := fun n hn => by
      rcases (show n = 0 ∨ n = 1 ∨ n = 2 ∨ n = 3 ∨ n = 4 ∨ n = 5 ∨ n = 6 by omega) with e | e | e | e | e | e | e <;> subst e <;> decide
    exact this _ h6)
  refine ⟨⟨fun h => ⟨hpos, pu_ok l 0 h⟩, fun h => by rw [key h.2]⟩, fun h => by rw [key (pu_ok l 0 h)]⟩
theorem hex_ascii {l : List UInt8} (h : l.all hexB = true) : ∀ x ∈ l, x.toNat < 128 := fun x hx => by
  have := (hexB_iff x).1 (List.all_eq_true.1 h x hx)
  unfold digI at this
  split at this
  · omega
  split at this
  · omega
  split at this
  · omega
  · omega
theorem hex_noAny : ∀ (l : List UInt8), l.all hexB = true → Lib.containsAny l [43, 45, 95] = false := fun l h => by
  unfold Lib.containsAny
  rw [Lib.indexAny_none (fun j b _ hb => by
    have hx := (hexB_iff b).1 (List.all_eq_true.1 h b (List.mem_of_getElem? hb))
    have : ∀ x : UInt8, 0 ≤ digI x.toNat → ([43, 45, 95] : List UInt8).contains x = false := by
      intro x hx
      cases hc : ([43, 45, 95] : List UInt8).contains x with
      | false => rfl
      | true =>
        simp at hc
        rcases hc with rfl | rfl | rfl <;> exact absurd hx (by decide)
    exact this b hx)]
  rfl
theorem digsOf_le (s : List UInt8) : (digsOf s).length ≤ s.length := by
  have h := cutB_length 59 s
  have h2 := (List.dropWhile_sublist (l := (cutB 59 s).1.reverse) (fun x => x == 32 || x == 9)).length_le
  unfold digsOf
  simp only [List.length_reverse] at h2 ⊢
  omega
/-- Some bytes of data at once. -/
theorem fed_block : ∀ (n : Nat) (b : List UInt8) (s : CSt) (d : List UInt8) (i : Nat), s.ph = 1 → 1 ≤ n → n ≤ b.length → (n : Int) ≤ s.left →
    fedG s d i b = fedG { s with left := s.left - n, ph := if s.left - n = 0 then 2 else 1 } (d ++ b.take n) (i + n) (b.drop n)
  | 0, _, _, _, _, _, h, _, _ => absurd h (by decide)
  | n + 1, [], _, _, _, _, _, h, _ => absurd h (by simp)
  | 0 + 1, x :: r, s, d, i, h1, _, hb, hn => by
    rw [fed_cons, if_neg (by omega), if_pos h1]
    rfl
  | (n + 1) + 1, x :: r, s, d, i, h1, _, hb, hn => by
    rw [fed_cons, if_neg (by omega), if_pos h1]
    simp only [List.length_cons] at hb
    rw [fed_block (n + 1) r { s with left := s.left - 1, ph := if s.left - 1 = 0 then 2 else 1 } (d ++ [x]) (i + 1) (by dsimp only; rw [if_neg (by omega)]) (by omega) (by omega) (by dsimp only; omega)]
    rw [List.append_assoc, List.take_succ_cons, List.drop_succ_cons]
    rw [show s.left - 1 - ((n + 1 : Nat) : Int) = s.left - ((n + 1 + 1 : Nat) : Int) by omega, show i + 1 + (n + 1) = i + (n + 1 + 1) by omega]
    rfl
end Go.Proofs.YtnaeeklnlddcaaaGreatDoor.Vex
/- The law VaryAll, over byte lists: what is put together names all that was named; a second time it changes nothing. No program in sight. -/
namespace Go.Proofs.YtnaeeklnlddcaaaGreatDoor

theorem tok_byte (x : UInt8) (h : tokB x = true) : x ≠ 44 ∧ blankB x = false := by
  have : ∀ n : Fin 256, tokB n.val.toUInt8 = true → n.val.toUInt8 ≠ 44 ∧ blankB n.val.toUInt8 = false := by decide +kernel
  have h2 := this ⟨x.toNat, x.toNat_lt⟩
  simp at h2
  exact h2 h
theorem trimLB_no (l : List UInt8) (h : ∀ x ∈ l, blankB x = false) : trimLB l = l := by
  cases l with
  | nil => rfl
  | cons x r => exact trimLB_other _ _ (h x (List.mem_cons_self ..))
theorem trimRB_no (l : List UInt8) (h : ∀ x ∈ l, blankB x = false) : trimRB l = l := by
  rcases List.eq_nil_or_concat l with rfl | ⟨m, y, rfl⟩
  · rfl
  · rw [List.concat_eq_append] at h ⊢
    exact trimRB_other _ _ (h y (by simp))
theorem tok_parts {s : List UInt8} (h : tokenOf s = true) : s ≠ [] ∧ 44 ∉ s ∧ trimB s = s := by
  have ha := token_all h
  rw [List.all_eq_true] at ha
  refine ⟨fun e => by subst e; simp [tokenOf] at h, fun hm => (tok_byte _ (ha _ hm)).1 rfl, ?_⟩
  rw [trimB_eq, trimLB_no s fun x hx => (tok_byte x (ha x hx)).2, trimRB_no s fun x hx => (tok_byte x (ha x hx)).2]
theorem items_tok {s : List UInt8} (h : tokenOf s = true) : itemsOf s = [s] := by
  obtain ⟨h1, h2, h3⟩ := tok_parts h
  rw [items_none s h2]
  unfold itemOf
  rw [h3, if_neg h1]
theorem items_blank (x : UInt8) (m : List UInt8) (hx : blankB x = true) : itemsOf (x :: m) = itemsOf m := by
  have h44 : x ≠ 44 := fun e => by subst e; revert hx; decide
  unfold itemsOf
  simp only [splitB, if_neg h44]
  cases h : splitB 44 m with
  | nil => exact absurd h (splitB_ne 44 m)
  | cons p q => simp only [List.map_cons, trimB_front x p hx]
theorem items_out : ∀ out : List (List UInt8), (∀ x ∈ out, tokenOf x = true) → itemsOf (Lib.join out [44, 32]) = out
  | [], _ => by decide
  | [x], h => by rw [Lib.join_one]; exact items_tok (h x (List.mem_cons_self ..))
  | x :: y :: r, h => by
    rw [join_cons, show x ++ [44, 32] ++ Lib.join (y :: r) [44, 32] = x ++ 44 :: (32 :: Lib.join (y :: r) [44, 32]) by simp, items_join, items_tok (h x (List.mem_cons_self ..)), items_blank 32 _ (by decide), items_out (y :: r) fun z hz => h z (List.mem_cons_of_mem _ hz)]
    rfl
def nodS (l : List (List UInt8)) : Prop := l.Pairwise fun a b => smallOf a ≠ smallOf b
theorem inS_false {l : List (List UInt8)} {s : List UInt8} (h : inS l s = false) : ∀ x ∈ l, smallOf x ≠ smallOf s := by
  unfold inS at h
  rw [List.any_eq_false] at h
  exact fun x hx e => h x hx (by simp [e])
theorem inS_true {l : List (List UInt8)} {s : List UInt8} : inS l s = true ↔ ∃ x ∈ l, smallOf x = smallOf s := by
  unfold inS
  rw [List.any_eq_true]
  simp
theorem dedup_nod : ∀ (l out : List (List UInt8)), nodS out → nodS (dedup out l)
  | [], _, h => h
  | s :: r, out, h => by
    unfold dedup
    refine dedup_nod r _ ?_
    cases hs : inS out s with
    | true => exact h
    | false => exact List.pairwise_append.2 ⟨h, List.pairwise_singleton _ _, fun a ha b hb => by rw [List.mem_singleton] at hb; subst hb; exact inS_false hs a ha⟩
theorem dedup_same : ∀ (l out : List (List UInt8)), nodS (out ++ l) → dedup out l = out ++ l
  | [], out, _ => by simp [dedup]
  | s :: r, out, h => by
    have hs : inS out s = false := by
      cases hi : inS out s with
      | false => rfl
      | true =>
        obtain ⟨x, hx, he⟩ := inS_true.1 hi
        exact absurd he ((List.pairwise_append.1 h).2.2 x hx s (List.mem_cons_self ..))
    unfold dedup
    rw [hs, if_neg Bool.false_ne_true, dedup_same r (out ++ [s]) (by simpa using h)]
    simp
theorem dedup_append : ∀ (a b out : List (List UInt8)), dedup out (a ++ b) = dedup (dedup out a) b
  | [], _, _ => rfl
  | s :: a, b, out => by simp only [List.cons_append, dedup]; exact dedup_append a b _
theorem mergeO_tok {values : List (List UInt8)} {name : List UInt8} (h : mergeOK values name = true) : ∀ x ∈ mergeO values name, tokenOf x = true := fun x hx => by
  unfold mergeOK at h
  rw [List.all_eq_true] at h
  exact h x ((dedup_mem _ _ x hx).elim (fun h => by cases h) id)
theorem inS_mergeO (values : List (List UInt8)) (name s : List UInt8) : inS (mergeO values name) s = inS (allV values name) s := by
  unfold mergeO
  rw [inS_dedup]
  simp [inS]
theorem inS_name (values : List (List UInt8)) (name : List UInt8) : inS (allV values name) name = true := by
  rw [inS_true]
  exact ⟨name, by simp [allV], rfl⟩
theorem mergeO_nil (values : List (List UInt8)) (name : List UInt8) : mergeO values name ≠ [] := fun h => by
  have := inS_mergeO values name name
  rw [inS_name, h] at this
  cases this
/-- What is put together is the item * just where one of all is it. -/
theorem merge_star {values : List (List UInt8)} {name : List UInt8} (h : mergeOK values name = true) : mergeS values name = [42] ↔ inS (mergeO values name) [42] = true := by
  unfold mergeS
  rw [if_pos h]
  constructor
  · intro he
    cases hs : inS (mergeO values name) [42] with
    | true => rfl
    | false =>
      exfalso
      rw [hs, if_neg Bool.false_ne_true] at he
      have h1 := items_out _ (mergeO_tok h)
      rw [he] at h1
      rw [← h1] at hs
      revert hs
      decide
  · intro hs
    rw [hs, if_pos rfl]
theorem merge_items {values : List (List UInt8)} {name : List UInt8} (h : mergeOK values name = true) : itemsOf (mergeS values name) = if inS (mergeO values name) [42] then [[42]] else mergeO values name := by
  unfold mergeS
  rw [if_pos h]
  split
  · decide
  · exact items_out _ (mergeO_tok h)
theorem merge_again {values : List (List UInt8)} {name : List UInt8} (h : mergeOK values name = true) : mergeOK [mergeS values name] name = true ∧ mergeS [mergeS values name] name = mergeS values name := by
  have hn : tokenOf name = true := by
    unfold mergeOK allV at h
    rw [List.all_append] at h
    simp at h
    exact h.2
  have hi := merge_items h
  have hall : allV [mergeS values name] name = itemsOf (mergeS values name) ++ [name] := by simp [allV]
  have hok : mergeOK [mergeS values name] name = true := by
    unfold mergeOK
    rw [hall, hi, List.all_append]
    split
    · simp [hn]; decide
    · rw [List.all_eq_true.2 (mergeO_tok h)]; simp [hn]
  refine ⟨hok, ?_⟩
  cases hs : inS (mergeO values name) [42] with
  | true =>
    rw [(merge_star h).2 hs]
    have : inS (mergeO [[42]] name) [42] = true := by
      rw [inS_mergeO]
      unfold allV
      rw [inS_append]
      have : inS ([[42]].flatMap itemsOf) [42] = true := by decide
      rw [this]; rfl
    have hok2 : mergeOK [[42]] name = true := by rw [(merge_star h).2 hs] at hok; exact hok
    exact (merge_star hok2).2 this
  | false =>
    have ho : mergeO [mergeS values name] name = mergeO values name := by
      have hnod : nodS (mergeO values name) := dedup_nod _ _ List.Pairwise.nil
      show dedup [] (allV [mergeS values name] name) = _
      rw [hall, hi, hs, if_neg Bool.false_ne_true, dedup_append, dedup_same _ [] (by simpa using hnod)]
      have hin : inS (mergeO values name) name = true := by rw [inS_mergeO, inS_name]
      simp only [List.nil_append, dedup, hin, if_true]
    have hse : mergeS values name = Lib.join (mergeO values name) [44, 32] := by unfold mergeS; rw [if_pos h, hs, if_neg Bool.false_ne_true]
    rw [hse] at hok ho ⊢
    unfold mergeS
    rw [if_pos hok, ho, hs, if_neg Bool.false_ne_true]
theorem merge_names {values : List (List UInt8)} {name : List UInt8} (h : mergeOK values name = true) (s : List UInt8) : namesOf (mergeS values name) s = (inS (mergeO values name) [42] || inS (mergeO values name) s) := by
  rw [names_in, merge_items h]
  cases hs : inS (mergeO values name) [42] with
  | true =>
    have : inS [[42]] [42] = true := by decide
    simp [this]
  | false => simp [hs]
theorem inS_flat (s : List UInt8) : ∀ values : List (List UInt8), inS (values.flatMap itemsOf) s = values.any fun v => inS (itemsOf v) s
  | [] => rfl
  | v :: r => by rw [List.flatMap_cons, inS_append, inS_flat s r, List.any_cons]
/-- What is named behind: what was named, or the name, or all. -/
theorem merge_was {values : List (List UInt8)} {name : List UInt8} (h : mergeOK values name = true) (s : List UInt8) :
    namesOf (mergeS values name) s = ((smallOf s == smallOf name || values.any fun v => namesOf v s) || decide (mergeS values name = [42])) := by
  rw [merge_names h]
  cases hs : inS (mergeO values name) [42] with
  | true => rw [decide_eq_true ((merge_star h).2 hs)]; simp
  | false =>
    rw [decide_eq_false (fun e => by rw [(merge_star h).1 e] at hs; cases hs)]
    have hno : ∀ v ∈ values, inS (itemsOf v) [42] = false := fun v hv => by
      rw [inS_mergeO] at hs
      unfold allV at hs
      rw [inS_append, inS_flat, Bool.or_eq_false_iff, List.any_eq_false] at hs
      simpa using hs.1 v hv
    have hv : (values.any fun v => namesOf v s) = values.any fun v => inS (itemsOf v) s := by
      rw [Bool.eq_iff_iff, List.any_eq_true, List.any_eq_true]
      constructor
      · rintro ⟨v, hv, h1⟩
        rw [names_in, hno v hv] at h1
        exact ⟨v, hv, h1⟩
      · rintro ⟨v, hv, h1⟩
        exact ⟨v, hv, by rw [names_in, h1]; simp⟩
    rw [hv, inS_mergeO]
    unfold allV
    rw [inS_append, inS_flat]
    have : inS [name] s = (smallOf s == smallOf name) := by simp [inS, Bool.beq_comm]
    rw [this, Bool.false_or, Bool.or_false, Bool.or_comm]
/-! ## How long -/
theorem dedup_sum : ∀ (l out : List (List UInt8)), lsum (dedup out l) ≤ lsum out + lsum l
  | [], out => by simp [dedup]
  | s :: r, out => by
    unfold dedup
    rw [lsum_cons]
    cases inS out s with
    | true => have := dedup_sum r out; simp only [if_true]; omega
    | false =>
      have := dedup_sum r (out ++ [s])
      rw [lsum_append] at this
      have h1 : lsum [s] = s.length + 1 := rfl
      simp only [Bool.false_eq_true, if_false]
      omega
theorem join2_length : ∀ l : List (List UInt8), (Lib.join l [44, 32]).length ≤ 2 * lsum l := fun l => by
  refine Nat.le_trans (join_length l [44, 32]) ?_
  induction l with
  | nil => simp
  | cons x r ih => rw [lsum_cons]; simp only [List.map_cons, List.sum_cons, List.length_cons, List.length_nil] at ih ⊢; omega
theorem allV_sum (values : List (List UInt8)) (name : List UInt8) : lsum (allV values name) ≤ (Lib.join values [44]).length + 1 + name.length + 1 := by
  unfold allV
  rw [lsum_append, ← items_of_join]
  have := items_sum (Lib.join values [44])
  have h1 : lsum [name] = name.length + 1 := rfl
  omega
theorem mergeS_length (values : List (List UInt8)) (name : List UInt8) : (mergeS values name).length ≤ 2 * ((Lib.join values [44]).length + name.length + 2) := by
  have h1 := allV_sum values name
  have h2 := dedup_sum (allV values name) []
  have h3 := join2_length (mergeO values name)
  have h4 : lsum [] = 0 := rfl
  unfold mergeO at h3
  unfold mergeS
  split
  · split
    · simp; omega
    · unfold mergeO; omega
  · simp
theorem join_snoc : ∀ (l : List (List UInt8)) (x sep : List UInt8), l ≠ [] → Lib.join (l ++ [x]) sep = Lib.join l sep ++ sep ++ x
  | [], _, _, h => absurd rfl h
  | [y], x, sep, _ => by rw [List.singleton_append, join_cons, Lib.join_one, Lib.join_one]
  | y :: z :: r, x, sep, _ => by
    rw [List.cons_append, List.cons_append, join_cons, ← List.cons_append, join_snoc (z :: r) x sep (by simp), join_cons]
    simp
end Go.Proofs.YtnaeeklnlddcaaaGreatDoor
/- The laws of the first line, over byte lists. No program in sight. -/
namespace Go.Proofs.YtnaeeklnlddcaaaGreatDoor

theorem made_x (marks : List UInt8) (h37 : marks.contains 37 = false) (x : UInt8) (r : List UInt8) (h : madeOf marks (x :: r) = true) :
    (x ≠ 37 ∧ plainB marks x = true ∧ madeOf marks r = true) ∨ ∃ a b t, x = 37 ∧ r = a :: b :: t ∧ hexB a = true ∧ hexB b = true ∧ madeOf marks t = true := by
  by_cases hx : x = 37
  · subst hx
    rw [made_37 marks h37] at h
    match r with
    | [] => cases h
    | [_] => cases h
    | a :: b :: t => simp only [Bool.and_eq_true] at h; exact .inr ⟨a, b, t, rfl, rfl, h.1.1, h.1.2, h.2⟩
  · rw [made_cons marks x r hx, Bool.and_eq_true] at h
    exact .inl ⟨hx, h.1, h.2⟩
theorem made_app (marks : List UInt8) (h37 : marks.contains 37 = false) : ∀ (n : Nat) (a b : List UInt8), a.length ≤ n → madeOf marks a = true → madeOf marks (a ++ b) = madeOf marks b
  | _, [], _, _, _ => rfl
  | 0, x :: r, _, hl, _ => by simp at hl
  | n + 1, x :: r, b, hl, h => by
    rcases made_x marks h37 x r h with ⟨hx, h1, h2⟩ | ⟨p, q, t, rfl, rfl, h1, h2, h3⟩
    · rw [List.cons_append, made_cons marks x _ hx, h1, made_app marks h37 n r b (by simpa using hl) h2]; rfl
    · rw [List.cons_append, List.cons_append, List.cons_append, made_37 marks h37]
      dsimp only
      rw [made_app marks h37 n t b (by simp at hl; omega) h3]
      simp [h1, h2]
theorem made_sub {m1 m2 : List UInt8} (h1 : m1.contains 37 = false) (h2 : m2.contains 37 = false) (hs : ∀ x, plainB m1 x = true → plainB m2 x = true) : ∀ (n : Nat) (a : List UInt8), a.length ≤ n → madeOf m1 a = true → madeOf m2 a = true
  | _, [], _, _ => rfl
  | 0, x :: r, hl, _ => by simp at hl
  | n + 1, x :: r, hl, h => by
    rcases made_x m1 h1 x r h with ⟨hx, h3, h4⟩ | ⟨p, q, t, rfl, rfl, h3, h4, h5⟩
    · rw [made_cons m2 x _ hx, hs x h3, made_sub h1 h2 hs n r (by simpa using hl) h4]; rfl
    · rw [made_37 m2 h2]
      dsimp only
      rw [made_sub h1 h2 hs n t (by simp at hl; omega) h5]
      simp [h3, h4]
/-- A byte that is neither plain, nor a digit, nor the sign of a quoted one, does not stand there. -/
theorem made_no {marks : List UInt8} (h37 : marks.contains 37 = false) {c : UInt8} (hc : plainB marks c = false) (hh : hexB c = false) (hc3 : c ≠ 37) : ∀ (n : Nat) (a : List UInt8), a.length ≤ n → madeOf marks a = true → c ∉ a
  | _, [], _, _ => by simp
  | 0, x :: r, hl, _ => by simp at hl
  | n + 1, x :: r, hl, h => by
    rcases made_x marks h37 x r h with ⟨hx, h3, h4⟩ | ⟨p, q, t, rfl, rfl, h3, h4, h5⟩
    · have ih := made_no h37 hc hh hc3 n r (by simpa using hl) h4
      intro hm
      rcases List.mem_cons.1 hm with e | e
      · rw [← e, hc] at h3; cases h3
      · exact ih e
    · have ih := made_no h37 hc hh hc3 n t (by simp at hl; omega) h5
      intro hm
      simp only [List.mem_cons] at hm
      rcases hm with e | e | e | e
      · exact hc3 e
      · rw [← e, hh] at h3; cases h3
      · rw [← e, hh] at h4; cases h4
      · exact ih e
theorem path_37 : pathL.contains 37 = false := by decide
theorem query_37 : queryL.contains 37 = false := by decide
theorem path_query {s : List UInt8} (h : pathOf s = true) : queryOf s = true := by
  unfold pathOf at h
  rw [Bool.and_eq_true] at h
  refine made_sub path_37 query_37 (fun x hx => ?_) s.length s (Nat.le_refl _) h.2
  unfold plainB at hx ⊢
  unfold queryL
  simp only [Bool.or_eq_true, List.contains_iff_mem, List.mem_append] at hx ⊢
  rcases hx with (h | h) | h
  · exact .inl (.inl h)
  · exact .inl (.inr h)
  · exact .inr (.inl h)
theorem query_app {a b : List UInt8} (ha : queryOf a = true) (hb : queryOf b = true) : queryOf (a ++ b) = true := by
  unfold queryOf
  rw [made_app _ query_37 a.length a b (Nat.le_refl _) ha]
  exact hb
theorem path_app {a b : List UInt8} (ha : pathOf a = true) (hb : pathOf b = true) : pathOf (a ++ b) = true := by
  unfold pathOf at *
  rw [Bool.and_eq_true] at *
  rw [made_app _ path_37 a.length a b (Nat.le_refl _) ha.2]
  refine ⟨?_, hb.2⟩
  cases a with
  | nil => exact hb.1
  | cons x r => exact ha.1
theorem path_head {s : List UInt8} (h : pathOf s = true) : ∃ r, s = 47 :: r := by
  unfold pathOf at h
  rw [Bool.and_eq_true] at h
  cases s with
  | nil => cases h.1
  | cons x r =>
    have := h.1
    simp at this
    exact ⟨r, by rw [this]⟩
theorem segs_app {a b : List UInt8} (ha : pathOf a = true) (hb : pathOf b = true) : segs (a ++ b) = segs a ++ segs b := by
  obtain ⟨r, rfl⟩ := path_head ha
  obtain ⟨t, rfl⟩ := path_head hb
  unfold segs
  simp only [List.cons_append, List.drop_succ_cons, List.drop_zero]
  rw [splitB_join, List.map_append]
/-! ## What is quoted -/
theorem quoteB_facts (x : UInt8) : (∀ y ∈ quoteB x, y ≠ 47) ∧ madeOf pathL (quoteB x) = true ∧ (quoteB x = [x] ∧ x ≠ 37 ∨ ∃ a b, quoteB x = [37, a, b] ∧ hexB a = true ∧ hexB b = true ∧ hexV a b = x) := by
  have : ∀ n : Fin 256, ((quoteB n.val.toUInt8).all fun y => y != 47) && madeOf pathL (quoteB n.val.toUInt8) && (match quoteB n.val.toUInt8 with | [y] => y == n.val.toUInt8 && y != 37 | [z, a, b] => z == 37 && hexB a && hexB b && hexV a b == n.val.toUInt8 | _ => false) = true := by decide +kernel
  have h := this ⟨x.toNat, x.toNat_lt⟩
  simp only [show x.toNat.toUInt8 = x by simp, Bool.and_eq_true] at h
  refine ⟨fun y hy => by have := List.all_eq_true.1 h.1.1 y hy; simpa using this, h.1.2, ?_⟩
  have h2 := h.2
  split at h2
  · rename_i y hy
    simp at h2
    exact .inl ⟨by rw [hy, h2.1], fun e => h2.2 (by rw [h2.1, e])⟩
  · rename_i z a b hy
    simp at h2
    exact .inr ⟨a, b, by rw [hy, h2.1.1.1], h2.1.1.2, h2.1.2, h2.2⟩
  · cases h2
theorem quote_slash (s : List UInt8) : 47 ∉ quoteOf s := by
  intro h
  obtain ⟨x, _, hx⟩ := List.mem_flatMap.1 h
  exact (quoteB_facts x).1 47 hx rfl
theorem made_quote : ∀ s : List UInt8, madeOf pathL (quoteOf s) = true
  | [] => rfl
  | x :: r => by
    unfold quoteOf
    rw [List.flatMap_cons, made_app _ path_37 _ _ _ (Nat.le_refl _) (quoteB_facts x).2.1]
    exact made_quote r
theorem unq_quote : ∀ s : List UInt8, unq (quoteOf s) = s
  | [] => rfl
  | x :: r => by
    have ih := unq_quote r
    unfold quoteOf at ih ⊢
    rw [List.flatMap_cons]
    rcases (quoteB_facts x).2.2 with ⟨h1, h2⟩ | ⟨a, b, h1, h2, h3, h4⟩
    · rw [h1, List.singleton_append, unq_cons x _ h2, ih]
    · rw [h1, show ([37, a, b] ++ List.flatMap quoteB r) = 37 :: a :: b :: List.flatMap quoteB r from rfl, unq_37 a b _ h2 h3, ih, h4]
def pathOfL (l : List (List UInt8)) : List UInt8 := l.flatMap fun s => 47 :: quoteOf s
theorem pathOfL_made : ∀ l : List (List UInt8), madeOf pathL (pathOfL l) = true
  | [] => rfl
  | x :: r => by
    unfold pathOfL
    rw [List.flatMap_cons, List.cons_append, made_cons pathL 47 _ (by decide), made_app _ path_37 _ _ _ (Nat.le_refl _) (made_quote x)]
    rw [show plainB pathL 47 = true by decide]
    exact pathOfL_made r
theorem pathOfL_path {l : List (List UInt8)} (h : l ≠ []) : pathOf (pathOfL l) = true := by
  unfold pathOf
  rw [pathOfL_made, Bool.and_true]
  cases l with
  | nil => exact absurd rfl h
  | cons x r => rfl
theorem splitB_quotes : ∀ (x : List UInt8) (r : List (List UInt8)), splitB 47 ((pathOfL (x :: r)).drop 1) = quoteOf x :: r.map quoteOf
  | x, [] => by
    unfold pathOfL
    simp only [List.flatMap_cons, List.flatMap_nil, List.append_nil, List.drop_succ_cons, List.drop_zero, List.map_nil]
    exact splitB_none 47 _ (quote_slash x)
  | x, y :: r => by
    have ih := splitB_quotes y r
    have e : (pathOfL (x :: y :: r)).drop 1 = quoteOf x ++ 47 :: (pathOfL (y :: r)).drop 1 := by
      unfold pathOfL
      simp
    rw [e, splitB_app 47 _ _ (quote_slash x), ih]
    rfl
theorem segs_quotes {l : List (List UInt8)} (h : l ≠ []) : segs (pathOfL l) = l := by
  cases l with
  | nil => exact absurd rfl h
  | cons x r =>
    unfold segs
    rw [splitB_quotes, List.map_cons, unq_quote, List.map_map]
    congr 1
    rw [show unq ∘ quoteOf = id from funext unq_quote, List.map_id]
/-! ## Written, and read again -/
theorem version_end {v : Int} (h : v = 0 ∨ v = 1) : versionOf ([72, 84, 84, 80, 47, 49, 46] ++ (if v = 0 then [48] else [49])) = some v := by rcases h with rfl | rfl <;> rfl
theorem method_facts {m : List UInt8} (h : methodOf m = true) : tokenOf m = true ∧ 32 ∉ m := by
  have : ∀ x ∈ methodsL, tokenOf x = true ∧ 32 ∉ x := by decide +kernel
  unfold methodOf at h
  rw [List.contains_iff_mem] at h
  exact this m h
theorem path_no {p : List UInt8} (h : pathOf p = true) : 32 ∉ p ∧ 63 ∉ p := by
  unfold pathOf at h
  rw [Bool.and_eq_true] at h
  exact ⟨made_no path_37 (by decide) (by decide) (by decide) p.length p (Nat.le_refl _) h.2, made_no path_37 (by decide) (by decide) (by decide) p.length p (Nat.le_refl _) h.2⟩
theorem query_no {q : List UInt8} (h : queryOf q = true) : 32 ∉ q := made_no query_37 (by decide) (by decide) (by decide) q.length q (Nat.le_refl _) h
theorem cutB_app (c : UInt8) (a b : List UInt8) (h : c ∉ a) : cutB c (a ++ c :: b) = (a, b, true) := by
  rw [cutB_at c (a ++ c :: b) a.length (by simpa using h) (by simp)]
  simp
theorem write_line {r : Rq} (h : writeOK r = true) : lineSt (writeL r) = 200 ∧ lineR (writeL r) = r := by
  unfold writeOK at h
  simp only [Bool.and_eq_true, decide_eq_true_eq] at h
  obtain ⟨⟨⟨⟨⟨hm, hp⟩, hq⟩, h0⟩, h1⟩, hl⟩ := h
  have hv : r.v = 0 ∨ r.v = 1 := by omega
  obtain ⟨ht, hm32⟩ := method_facts hm
  obtain ⟨hp32, hp63⟩ := path_no hp
  have hq32 := query_no hq
  have htg : 32 ∉ targetOf r := by
    unfold targetOf
    split
    · exact hp32
    · intro hx
      rcases List.mem_append.1 hx with h | h
      · exact hp32 h
      · rcases List.mem_cons.1 h with e | e
        · exact absurd e (by decide)
        · exact hq32 e
  have hw : writeL r = r.m ++ 32 :: (targetOf r ++ 32 :: ([72, 84, 84, 80, 47, 49, 46] ++ (if r.v = 0 then [48] else [49]))) := by unfold writeL; simp
  have c1 := cutB_app 32 r.m (targetOf r ++ 32 :: ([72, 84, 84, 80, 47, 49, 46] ++ (if r.v = 0 then [48] else [49]))) hm32
  have c2 := cutB_app 32 (targetOf r) ([72, 84, 84, 80, 47, 49, 46] ++ (if r.v = 0 then [48] else [49])) htg
  have c3 : (cutB 63 (targetOf r)).1 = r.p ∧ (cutB 63 (targetOf r)).2.1 = r.q := by
    unfold targetOf
    split
    · rename_i hq0
      rw [cutB_none 63 _ hp63]
      exact ⟨rfl, hq0.symm⟩
    · rw [cutB_app 63 r.p r.q hp63]
      exact ⟨rfl, rfl⟩
  have e : lineRq (writeL r) = r := by
    unfold lineRq lineTarget
    rw [hw, c1]
    simp only [c2, version_end hv, c3.1, c3.2, Option.getD_some]
  have hok : lineOK (writeL r) = true := by
    unfold lineOK
    rw [e]
    rw [hw] at hl ⊢
    rw [c1]
    simp only [c2, version_end hv, ht, hp, hq, decide_eq_true hl, Option.isSome_some, Bool.and_self]
  unfold lineSt lineR
  rw [hok, e, hm]
  exact ⟨rfl, rfl⟩
theorem cutB_yes (c : UInt8) : ∀ l : List UInt8, (cutB c l).2.2 = true → l = (cutB c l).1 ++ c :: (cutB c l).2.1 ∧ c ∉ (cutB c l).1
  | [], h => by cases h
  | x :: r, h => by
    unfold cutB at h ⊢
    split
    · rename_i hx; subst hx; simp
    · rename_i hx
      rw [if_neg hx] at h
      obtain ⟨h1, h2⟩ := cutB_yes c r h
      refine ⟨by simp only [List.cons_append]; rw [← h1], fun hm => ?_⟩
      rcases List.mem_cons.1 hm with e | e
      · exact hx e.symm
      · exact h2 e
theorem cutB_nope (c : UInt8) : ∀ l : List UInt8, (cutB c l).2.2 = false → (cutB c l).1 = l ∧ (cutB c l).2.1 = []
  | [], _ => ⟨rfl, rfl⟩
  | x :: r, h => by
    unfold cutB at h ⊢
    split
    · rename_i hx; rw [if_pos hx] at h; cases h
    · rename_i hx
      rw [if_neg hx] at h
      obtain ⟨h1, h2⟩ := cutB_nope c r h
      exact ⟨by rw [h1], h2⟩
theorem version_some {s : List UInt8} {v : Int} (h : versionOf s = some v) : (v = 0 ∨ v = 1) ∧ ∃ d, s = [72, 84, 84, 80, 47, 49, 46, d] := by
  unfold versionOf at h
  split at h
  · rename_i d
    split at h
    · have := Option.some.inj h
      refine ⟨?_, d, rfl⟩
      split at this <;> omega
    · cases h
  · cases h
/-- What a line tells is written as that line, but for an empty query's sign and the version's digit. -/
theorem line_write {s : List UInt8} (h : lineSt s = 200) : lineR s = lineRq s ∧ writeOK (lineRq s) = true ∧ (writeL (lineRq s)).length ≤ s.length ∧ ((writeL (lineRq s)).length < s.length ∨ (writeL (lineRq s)).take ((writeL (lineRq s)).length - 1) = s.take (s.length - 1)) := by
  have hok : lineOK s = true := by
    unfold lineSt at h
    split at h
    · assumption
    · cases h
  have hmo : methodOf (lineRq s).m = true := by
    unfold lineSt at h
    rw [if_pos hok] at h
    split at h
    · assumption
    · cases h
  have hr : lineR s = lineRq s := by unfold lineR; rw [hok, hmo]; rfl
  have hok' := hok
  unfold lineOK at hok
  simp only [Bool.and_eq_true, decide_eq_true_eq] at hok
  obtain ⟨⟨⟨⟨⟨⟨hl, h1⟩, h2⟩, h3⟩, ht⟩, hp⟩, hq⟩ := hok
  obtain ⟨e1, n1⟩ := cutB_yes 32 s h1
  obtain ⟨e2, n2⟩ := cutB_yes 32 _ h2
  obtain ⟨v, hv⟩ := Option.isSome_iff_exists.1 h3
  obtain ⟨hv01, d, hd⟩ := version_some hv
  have hrv : (lineRq s).v = v := by unfold lineRq; simp only [hv, Option.getD_some]
  have hrm : (lineRq s).m = (cutB 32 s).1 := rfl
  have htgt : lineTarget s = (cutB 32 (cutB 32 s).2.1).1 := rfl
  have hs : s = (lineRq s).m ++ 32 :: (lineTarget s ++ 32 :: [72, 84, 84, 80, 47, 49, 46, d]) := by rw [hrm, htgt, ← hd, ← e2]; exact e1
  have hw : writeL (lineRq s) = (lineRq s).m ++ 32 :: (targetOf (lineRq s) ++ 32 :: ([72, 84, 84, 80, 47, 49, 46] ++ (if (lineRq s).v = 0 then [48] else [49]))) := by unfold writeL; simp
  have htg : targetOf (lineRq s) = lineTarget s ∨ (targetOf (lineRq s)).length < (lineTarget s).length := by
    have hpq : (lineRq s).p = (cutB 63 (lineTarget s)).1 ∧ (lineRq s).q = (cutB 63 (lineTarget s)).2.1 := ⟨rfl, rfl⟩
    unfold targetOf
    rw [hpq.1, hpq.2]
    cases hc : (cutB 63 (lineTarget s)).2.2 with
    | true =>
      obtain ⟨e3, _⟩ := cutB_yes 63 _ hc
      split
      · right
        conv => rhs; rw [e3]
        simp
      · exact .inl e3.symm
    | false =>
      obtain ⟨e3, e4⟩ := cutB_nope 63 _ hc
      rw [e4, if_pos rfl]
      exact .inl e3
  have hone : ((if (lineRq s).v = 0 then [48] else [49]) : List UInt8).length = 1 := by split <;> rfl
  have hwl : (writeL (lineRq s)).length = (lineRq s).m.length + (targetOf (lineRq s)).length + 10 := by rw [hw]; simp only [List.length_append, List.length_cons, List.length_nil, hone]; omega
  have hsl : s.length = (lineRq s).m.length + (lineTarget s).length + 10 := by
    conv => lhs; rw [hs]
    simp only [List.length_append, List.length_cons, List.length_nil]; omega
  have hle : (writeL (lineRq s)).length ≤ s.length := by
    rcases htg with e | e
    · rw [e] at hwl; omega
    · omega
  refine ⟨hr, ?_, hle, ?_⟩
  · unfold writeOK
    simp only [hmo, hp, hq, hrv, Bool.and_eq_true, decide_eq_true_eq, true_and]
    omega
  · rcases htg with e | e
    · right
      have k : ∀ (x : UInt8) (a : List UInt8), (a ++ [x]).take ((a ++ [x]).length - 1) = a := fun x a => by simp
      obtain ⟨x, hx⟩ : ∃ x, (if (lineRq s).v = 0 then [48] else [49] : List UInt8) = [x] := by split <;> exact ⟨_, rfl⟩
      have w1 : writeL (lineRq s) = ((lineRq s).m ++ 32 :: (lineTarget s ++ 32 :: [72, 84, 84, 80, 47, 49, 46])) ++ [x] := by rw [hw, hx, e]; simp
      have w2 : s = ((lineRq s).m ++ 32 :: (lineTarget s ++ 32 :: [72, 84, 84, 80, 47, 49, 46])) ++ [d] := by
        conv => lhs; rw [hs]
        simp
      rw [w1, k]
      conv => rhs; rw [w2]
      rw [k]
    · left; omega
theorem line_not {s : List UInt8} (h : lineSt s ≠ 200) : (lineSt s = 400 ∨ lineSt s = 501) ∧ lineR s = rq0 := by
  unfold lineSt lineR at *
  cases h1 : lineOK s <;> cases h2 : methodOf (lineRq s).m <;> simp_all
end Go.Proofs.YtnaeeklnlddcaaaGreatDoor
/- Plain laws on bodies in chunks: what is wrapped is read. No program in sight. -/
namespace Go.Proofs.YtnaeeklnlddcaaaGreatDoor.Vex

def hxD (n : Nat) : UInt8 := if n < 10 then (48 + n).toUInt8 else (87 + n).toUInt8
def hxF : Nat → Nat → List UInt8
  | 0, n => [hxD (n % 16)]
  | f + 1, n => if n < 16 then [hxD n] else hxF f (n / 16) ++ [hxD (n % 16)]
def hxS (n : Nat) : List UInt8 := hxF 16 n
def wrapG (b : List UInt8) : List UInt8 := if b = [] then [] else hxS b.length ++ [13, 10] ++ b ++ [13, 10]
theorem hxD_dig : ∀ k : Nat, k < 16 → digI (hxD k).toNat = k := by decide +kernel
theorem hexN_snoc (l : List UInt8) (x : UInt8) : hexN (l ++ [x]) = 16 * hexN l + digI x.toNat := by
  unfold hexN
  rw [List.foldl_append]
  rfl
theorem hxF_all : ∀ (f n : Nat), (hxF f n).all hexB = true
  | 0, n => by
    have := hxD_dig (n % 16) (by omega)
    simp only [hxF, List.all_cons, List.all_nil, Bool.and_true]
    exact (hexB_iff _).2 (by omega)
  | f + 1, n => by
    unfold hxF
    split
    · have := hxD_dig n (by omega)
      simp only [List.all_cons, List.all_nil, Bool.and_true]
      exact (hexB_iff _).2 (by omega)
    · have := hxD_dig (n % 16) (by omega)
      rw [List.all_append, hxF_all f]
      simp only [List.all_cons, List.all_nil, Bool.and_true, Bool.true_and]
      exact (hexB_iff _).2 (by omega)
theorem hxF_num : ∀ (f n : Nat), n < 16 ^ (f + 1) → hexN (hxF f n) = n
  | 0, n, h => by
    have := hxD_dig (n % 16) (by omega)
    simp only [hxF, hexN, List.foldl_cons, List.foldl_nil]
    omega
  | f + 1, n, h => by
    unfold hxF
    split
    · have := hxD_dig n (by omega)
      simp only [hexN, List.foldl_cons, List.foldl_nil]
      omega
    · have := hxD_dig (n % 16) (by omega)
      rw [hexN_snoc, hxF_num f (n / 16) (by rw [Nat.pow_succ] at h; omega)]
      omega
theorem hxF_long : ∀ (f k n : Nat), n < 16 ^ (k + 1) → (hxF f n).length ≤ k + 1
  | 0, k, n, h => by simp [hxF]
  | f + 1, k, n, h => by
    unfold hxF
    split
    · simp
    · cases k with
      | zero => omega
      | succ k =>
        rw [List.length_append]
        have := hxF_long f k (n / 16) (by rw [Nat.pow_succ] at h; omega)
        simp only [List.length_singleton]
        omega
theorem hxF_some : ∀ (f n : Nat), 1 ≤ (hxF f n).length
  | 0, n => by simp [hxF]
  | f + 1, n => by
    unfold hxF
    split
    · simp
    · simp
theorem drop_none {p : UInt8 → Bool} : ∀ (l : List UInt8), (∀ x ∈ l, p x = false) → l.dropWhile p = l
  | [], _ => rfl
  | x :: r, h => by rw [List.dropWhile_cons, h x (List.mem_cons_self ..)]; rfl
theorem hex_no {l : List UInt8} (h : l.all hexB = true) (x : UInt8) (hx : hexB x = false) : x ∉ l := fun hm => by
  rw [List.all_eq_true] at h
  rw [h x hm] at hx
  cases hx
theorem hex_digs (l : List UInt8) (h : l.all hexB = true) : digsOf l = l ∧ (cutB 59 l).2.2 = false := by
  have hc := cutB_none 59 l (hex_no h 59 (by decide))
  unfold digsOf
  rw [hc]
  refine ⟨?_, rfl⟩
  dsimp only
  rw [drop_none, List.reverse_reverse]
  intro x hx
  have hm := List.mem_reverse.1 hx
  have h1 : x ≠ 32 := fun e => hex_no h 32 (by decide) (e ▸ hm)
  have h2 : x ≠ 9 := fun e => hex_no h 9 (by decide) (e ▸ hm)
  simp [h1, h2]
theorem hxS_num (n : Nat) (h : n < 16777216) : numC (hxS n) = n := by
  have ha := hxF_all 16 n
  obtain ⟨hd, hf⟩ := hex_digs _ ha
  have hl : (hxF 16 n).length ≤ 6 := hxF_long 16 5 n (by omega)
  unfold numC hxS
  rw [hd, hf, ha, hxF_num 16 n (Nat.lt_of_lt_of_le h (by decide))]
  have hs := hxF_some 16 n
  simp [hs, hl]
theorem hex_cr {l : List UInt8} (h : l.all hexB = true) : crB l = false := by
  unfold crB
  cases he : l.getLast? == some 13 with
  | false => rfl
  | true =>
    rw [beq_iff_eq] at he
    exact absurd (List.mem_of_getLast? he) (hex_no h 13 (by decide))
theorem fed_hex : ∀ (h l d : List UInt8) (i : Nat) (r : List UInt8), h.all hexB = true → l.all hexB = true → l.length + h.length ≤ 64 →
    fedG ⟨0, 0, l, 0⟩ d i (h ++ r) = fedG ⟨0, 0, l ++ h, 0⟩ d (i + h.length) r
  | [], l, d, i, r, _, _, _ => by rw [List.nil_append, List.append_nil]; rfl
  | x :: t, l, d, i, r, hh, hl, hn => by
    rw [List.all_cons, Bool.and_eq_true] at hh
    have hcr := hex_cr hl
    have h13 : x ≠ 13 := fun e => by rw [e] at hh; exact absurd hh.1 (by decide)
    have h10 : x ≠ 10 := fun e => by rw [e] at hh; exact absurd hh.1 (by decide)
    rw [List.length_cons] at hn
    have ho : oneG ⟨0, 0, l, 0⟩ x = (⟨0, 0, l ++ [x], 0⟩, 0) := by
      unfold oneG lineG
      simp only [if_true]
      rw [if_neg (by intro h; omega)]
      simp [hcr, h10]
    rw [List.cons_append, fed_cons, if_neg (by dsimp only; decide), if_neg (by dsimp only; decide), ho, if_pos rfl]
    rw [fed_hex t (l ++ [x]) d (i + 1) r hh.2 (by rw [List.all_append, hl]; simp [hh.1]) (by rw [List.length_append]; simp only [List.length_singleton]; omega)]
    rw [List.append_assoc, List.length_cons]
    rw [show i + 1 + t.length = i + (t.length + 1) by omega]
    rfl
theorem fed_crlf (l d : List UInt8) (i n : Nat) (r : List UInt8) (hl : l.all hexB = true) (hn : numC l = (n : Nat)) (h1 : 1 ≤ n) :
    fedG ⟨0, 0, l, 0⟩ d i (13 :: 10 :: r) = fedG ⟨1, n, [], 0⟩ d (i + 2) r := by
  have hcr := hex_cr hl
  have ho : oneG ⟨0, 0, l, 0⟩ 13 = (⟨0, 0, l ++ [13], 0⟩, 0) := by
    unfold oneG lineG
    simp only [if_true]
    rw [if_neg (by intro h; exact h.2.1 rfl)]
    simp [hcr]
  have ho2 : oneG ⟨0, 0, l ++ [13], 0⟩ 10 = (⟨1, n, [], 0⟩, 0) := by
    have hc2 : crB (l ++ [13]) = true := by rw [cr_snoc]; rfl
    unfold oneG lineG
    simp only [if_true]
    rw [if_neg (by intro h; exact h.2.2.1 rfl)]
    simp only [hc2, Bool.true_and, decide_true, if_true, List.dropLast_concat]
    rw [if_neg (by omega), if_neg (by omega), hn]
  rw [fed_cons, if_neg (by dsimp only; decide), if_neg (by dsimp only; decide), ho, if_pos rfl, fed_cons, if_neg (by dsimp only; decide), if_neg (by dsimp only; decide), ho2, if_pos rfl]
theorem fed_over2 (d : List UInt8) (i : Nat) (r : List UInt8) : fedG ⟨2, 0, [], 0⟩ d i (13 :: 10 :: r) = fedG cst0 d (i + 2) r := by
  have ho : oneG ⟨2, 0, [], 0⟩ 13 = (⟨2, 0, [13], 0⟩, 0) := by decide
  have ho2 : oneG ⟨2, 0, [13], 0⟩ 10 = (cst0, 0) := by decide
  rw [fed_cons, if_neg (by dsimp only; decide), if_neg (by dsimp only; decide), ho, if_pos rfl, fed_cons, if_neg (by dsimp only; decide), if_neg (by dsimp only; decide), ho2, if_pos rfl]
theorem wrapG_long (b : List UInt8) (h : b.length < 16777216) : (wrapG b).length ≤ b.length + 10 := by
  unfold wrapG
  split
  · simp
  · have := hxF_long 16 5 b.length (by omega)
    unfold hxS
    simp only [List.length_append, List.length_cons, List.length_nil]
    omega
/-- Bytes that are wrapped are read. -/
theorem fed_wrap (b d : List UInt8) (i : Nat) (r : List UInt8) (hb : b.length < 16777216) : fedG cst0 d i (wrapG b ++ r) = fedG cst0 (d ++ b) (i + (wrapG b).length) r := by
  by_cases h0 : b = []
  · subst h0
    rw [List.append_nil]
    rfl
  have hpos := List.length_pos_iff.2 h0
  have ha := hxF_all 16 b.length
  have hl : (hxF 16 b.length).length ≤ 6 := hxF_long 16 5 b.length (by omega)
  have hw : wrapG b = hxS b.length ++ (13 :: 10 :: (b ++ [13, 10])) := by
    unfold wrapG
    rw [if_neg h0]
    simp
  rw [hw, List.append_assoc]
  unfold hxS
  unfold cst0
  rw [fed_hex _ _ _ _ _ ha rfl (by simp only [List.length_nil]; omega), List.nil_append]
  rw [List.cons_append, List.cons_append, fed_crlf _ _ _ b.length _ ha (hxS_num _ hb) hpos, List.append_assoc]
  rw [fed_block b.length (b ++ ([13, 10] ++ r)) ⟨1, (b.length : Nat), [], 0⟩ d _ rfl hpos (by simp) (Int.le_refl _)]
  rw [List.take_left, List.drop_left]
  dsimp only
  rw [if_pos (by omega), Int.sub_self]
  rw [show ([13, 10] ++ r : List UInt8) = 13 :: 10 :: r from rfl, fed_over2]
  unfold cst0
  congr 1
  simp only [List.length_append, List.length_cons, List.length_nil]
  omega
def wrapL (l : List (List UInt8)) : List UInt8 := (l.map wrapG).flatten
theorem fed_wraps : ∀ (l : List (List UInt8)) (d : List UInt8) (i : Nat) (r : List UInt8), (∀ b ∈ l, b.length < 16777216) → fedG cst0 d i (wrapL l ++ r) = fedG cst0 (d ++ l.flatten) (i + (wrapL l).length) r
  | [], d, i, r, _ => by simp [wrapL]
  | b :: t, d, i, r, h => by
    have e : wrapL (b :: t) = wrapG b ++ wrapL t := rfl
    rw [e, List.append_assoc, fed_wrap b d i _ (h b (List.mem_cons_self ..)), fed_wraps t _ _ r (fun x hx => h x (List.mem_cons_of_mem _ hx))]
    rw [List.flatten_cons, List.append_assoc, List.length_append, Nat.add_assoc]
def lastC : List UInt8 := [48, 13, 10, 13, 10]
theorem fed_last (d : List UInt8) (i : Nat) (r : List UInt8) : fedG cst0 d i (lastC ++ r) = ⟨⟨4, 0, [], 0⟩, d, i + 5, 0⟩ := by
  have h1 : oneG cst0 48 = (⟨0, 0, [48], 0⟩, 0) := by decide +kernel
  have h2 : oneG ⟨0, 0, [48], 0⟩ 13 = (⟨0, 0, [48, 13], 0⟩, 0) := by decide +kernel
  have h3 : oneG ⟨0, 0, [48, 13], 0⟩ 10 = (⟨3, 0, [], 0⟩, 0) := by decide +kernel
  have h4 : oneG ⟨3, 0, [], 0⟩ 13 = (⟨3, 0, [13], 1⟩, 0) := by decide +kernel
  have h5 : oneG ⟨3, 0, [13], 1⟩ 10 = (⟨4, 0, [], 0⟩, 0) := by decide +kernel
  rw [show lastC ++ r = 48 :: 13 :: 10 :: 13 :: 10 :: r from rfl]
  rw [fed_cons, if_neg (by decide), if_neg (by decide), h1, if_pos rfl]
  rw [fed_cons, if_neg (by decide), if_neg (by decide), h2, if_pos rfl]
  rw [fed_cons, if_neg (by decide), if_neg (by decide), h3, if_pos rfl]
  rw [fed_cons, if_neg (by decide), if_neg (by decide), h4, if_pos rfl]
  rw [fed_cons, if_neg (by decide), if_neg (by decide), h5, if_pos rfl]
  rw [fed_over _ _ _ _ rfl]
theorem feed_pieces (l : List (List UInt8)) (h : ∀ b ∈ l, b.length < 16777216) (hl : (wrapL l).length ≤ 131072) : feedG cst0 (wrapL l) = ⟨cst0, l.flatten, (wrapL l).length, 0⟩ := by
  have hf := fed_wraps l [] 0 [] h
  rw [List.append_nil, List.nil_append, Nat.zero_add] at hf
  unfold feedG
  rw [if_pos (by decide), if_neg (by decide), if_pos hl, hf]
  rfl
theorem feed_whole (l : List (List UInt8)) (more : List UInt8) (h : ∀ b ∈ l, b.length < 16777216) (hl : (wrapL l).length + 5 + more.length ≤ 131072) :
    feedG cst0 (wrapL l ++ lastC ++ more) = ⟨⟨4, 0, [], 0⟩, l.flatten, (wrapL l).length + 5, 0⟩ := by
  have hf := fed_wraps l [] 0 (lastC ++ more) h
  rw [List.nil_append, Nat.zero_add] at hf
  unfold feedG
  rw [if_pos (by decide), if_neg (by decide), if_pos (by rw [List.length_append, List.length_append]; exact hl), List.append_assoc, hf, fed_last]
end Go.Proofs.YtnaeeklnlddcaaaGreatDoor.Vex
/- Plain definitions on sizes of bodies: numbers, lengths, codings. No program in sight. -/
namespace Go.Proofs.YtnaeeklnlddcaaaGreatDoor

def digitsL : List UInt8 := [48, 49, 50, 51, 52, 53, 54, 55, 56, 57]
def digB (x : UInt8) : Bool := decide (48 ≤ x.toNat) && decide (x.toNat ≤ 57)
def numStep (n : Nat) (x : UInt8) : Nat := 10 * n + (x.toNat - 48)
def numF (n : Nat) (l : List UInt8) : Nat := l.foldl numStep n
def numV (l : List UInt8) : Nat := numF 0 l
def numOK (l : List UInt8) : Bool := decide (1 ≤ l.length) && (decide (l.length ≤ 9) && l.all digB)
def numN (l : List UInt8) : Int := if numOK l then (numV l : Int) else 0

theorem digit_is (x : UInt8) : digitsL.contains x = digB x := by
  have : ∀ n : Fin 256, digitsL.contains (UInt8.ofNat n.val) = digB (UInt8.ofNat n.val) := by decide +kernel
  have h := this ⟨x.toNat, x.toNat_lt⟩
  simpa using h
theorem dropWhile_nil (p : UInt8 → Bool) : ∀ l : List UInt8, l.dropWhile p = [] ↔ ∀ x ∈ l, p x = true
  | [] => by simp
  | a :: r => by
    rw [List.dropWhile_cons]
    cases h : p a
    · simp [h]
    · simp [h, dropWhile_nil p r]
theorem dropWhile_again (p : UInt8 → Bool) : ∀ l : List UInt8, (∀ x ∈ l.dropWhile p, p x = true) → l.dropWhile p = []
  | [], _ => rfl
  | a :: r, h => by
    rw [List.dropWhile_cons] at h ⊢
    cases hp : p a
    · rw [if_neg (by simp [hp])] at h
      have := h a (by simp)
      rw [hp] at this
      cases this
    · simp only [hp, if_true] at h ⊢
      exact dropWhile_again p r h
theorem trim_nil (c l : List UInt8) : Lib.trimS l c = [] ↔ ∀ x ∈ l, c.contains x = true := by
  unfold Lib.trimS Lib.trimLeftS Lib.trimRightS
  rw [dropWhile_nil]
  constructor
  · intro h
    have h1 := dropWhile_again (fun x => c.contains x) l.reverse (fun x hx => h x (List.mem_reverse.2 hx))
    rw [dropWhile_nil] at h1
    exact fun x hx => h1 x (List.mem_reverse.2 hx)
  · intro h x hx
    have h1 : (l.reverse.dropWhile fun x => c.contains x) = [] := (dropWhile_nil _ _).2 fun x hx => h x (List.mem_reverse.1 hx)
    rw [h1] at hx
    cases hx
theorem trim_digits (l : List UInt8) : Lib.trimS l digitsL = [] ↔ l.all digB = true := by
  rw [trim_nil, List.all_eq_true]
  exact ⟨fun h x hx => by rw [← digit_is]; exact h x hx, fun h x hx => by rw [digit_is]; exact h x hx⟩
theorem decFrom_all : ∀ (l : List UInt8) (n : Nat), l.all digB = true → Lib.decFrom n l = some (numF n l)
  | [], n, _ => rfl
  | x :: r, n, h => by
    simp only [List.all_cons, Bool.and_eq_true] at h
    have hx := h.1
    unfold digB at hx
    simp only [Bool.and_eq_true, decide_eq_true_eq] at hx
    unfold Lib.decFrom Lib.digitVal
    rw [if_pos hx]
    simp only
    rw [decFrom_all r _ h.2, Nat.mul_comm]
    rfl
theorem atoi_all (l : List UInt8) (h : l.all digB = true) (h0 : l ≠ []) : Lib.atoi l = some (numV l : Int) := by
  cases l with
  | nil => exact absurd rfl h0
  | cons x r =>
    have hx : digB x = true := by simp only [List.all_cons, Bool.and_eq_true] at h; exact h.1
    have n45 : (x == 45) = false := by
      rw [beq_eq_false_iff_ne]; rintro rfl; exact absurd hx (by decide)
    have n43 : (x == 43) = false := by
      rw [beq_eq_false_iff_ne]; rintro rfl; exact absurd hx (by decide)
    unfold Lib.atoi
    simp only [n45, n43, Bool.false_eq_true, if_false]
    unfold Lib.decNat
    rw [decFrom_all _ 0 h]
    rfl
theorem numF_lt : ∀ (l : List UInt8) (n : Nat), l.all digB = true → numF n l < (n + 1) * 10 ^ l.length
  | [], n, _ => by simp [numF]
  | x :: r, n, h => by
    simp only [List.all_cons, Bool.and_eq_true] at h
    have hx := h.1
    unfold digB at hx
    simp only [Bool.and_eq_true, decide_eq_true_eq] at hx
    have ih := numF_lt r (numStep n x) h.2
    have e : numF n (x :: r) = numF (numStep n x) r := rfl
    rw [e]
    refine Nat.lt_of_lt_of_le ih ?_
    rw [List.length_cons, Nat.pow_succ, Nat.mul_comm (10 ^ r.length) 10, ← Nat.mul_assoc]
    exact Nat.mul_le_mul_right _ (by unfold numStep; omega)
theorem numV_lt {l : List UInt8} (h : numOK l = true) : numV l < 1000000000 := by
  unfold numOK at h
  simp only [Bool.and_eq_true, decide_eq_true_eq] at h
  have h1 := numF_lt l 0 h.2.2
  have h2 : 10 ^ l.length ≤ 10 ^ 9 := Nat.pow_le_pow_right (by omega) h.2.1
  unfold numV
  omega
theorem numN_range (l : List UInt8) : 0 ≤ numN l ∧ numN l < 1000000000 := by
  unfold numN
  split
  · rename_i h
    have := numV_lt h
    omega
  · omega

/-! A body's size. -/
def hostN : List UInt8 := [104, 111, 115, 116]
def lenN : List UInt8 := [99, 111, 110, 116, 101, 110, 116, 45, 108, 101, 110, 103, 116, 104]
def codN : List UInt8 := [116, 114, 97, 110, 115, 102, 101, 114, 45, 101, 110, 99, 111, 100, 105, 110, 103]
def chunkedN : List UInt8 := [99, 104, 117, 110, 107, 101, 100]
def itemsAll (l : List (List UInt8)) : List (List UInt8) := l.flatMap itemsOf
/-- What lengths tell, from one that was told on (none: there was none). -/
def lenGo (x : Option Int) : List (List UInt8) → Int × Int × Int
  | [] => match x with | none => (0, 0, 400) | some n => (1, n, 200)
  | s :: r => if numOK s = true ∧ (x = none ∨ x = some (numN s)) then lenGo (some (numN s)) r else (0, 0, 400)
/-- Where a text stands first; below 0: nowhere. -/
def idxI (s : List UInt8) : List (List UInt8) → Int
  | [] => -1
  | x :: r => if s = x then 0 else (if idxI s r < 0 then -1 else idxI s r + 1)
def codS (v : Int) (long : Bool) (l : List (List UInt8)) : Int × Int × Int :=
  if v = 0 ∨ long = true ∨ idxI chunkedN (l.map smallOf) ≠ (l.length : Int) - 1 ∨ l = [] then (0, 0, 400) else if 1 < l.length then (0, 0, 501) else (2, 0, 200)
/-- A body's size, by a request's fields and version. -/
def sizeOf (F : List Vex.Fld) (v : Int) : Int × Int × Int :=
  if 1 < (Vex.allOf F hostN).length ∨ ((Vex.allOf F hostN).length = 0 ∧ v ≠ 0) then (0, 0, 400)
  else if Vex.allOf F codN ≠ [] then codS v (decide (Vex.allOf F lenN ≠ [])) (itemsAll (Vex.allOf F codN))
  else if Vex.allOf F lenN ≠ [] then lenGo none (itemsAll (Vex.allOf F lenN))
  else (0, 0, 200)
theorem idxI_range (s : List UInt8) : ∀ l : List (List UInt8), -1 ≤ idxI s l ∧ (idxI s l < (l.length : Int))
  | [] => by simp [idxI]
  | x :: r => by
    have h := idxI_range s r
    unfold idxI
    rw [List.length_cons]
    split
    · omega
    · split <;> omega
theorem lenGo_range : ∀ (l : List (List UInt8)) (x : Option Int), (∀ n, x = some n → 0 ≤ n ∧ n < 1000000000) → 0 ≤ (lenGo x l).2.1 ∧ (lenGo x l).2.1 < 1000000000
  | [], x, h => by
    unfold lenGo
    split
    · decide
    · rename_i n
      exact h n rfl
  | s :: r, x, h => by
    unfold lenGo
    split
    · exact lenGo_range r _ (fun n hn => by cases hn; exact numN_range s)
    · decide
theorem itemsAll_append (a b : List (List UInt8)) : itemsAll (a ++ b) = itemsAll a ++ itemsAll b := by
  unfold itemsAll
  rw [List.flatMap_append]
end Go.Proofs.YtnaeeklnlddcaaaGreatDoor
/- Plain definitions on the choice of a coding: weights, items, values. No program in sight. -/
namespace Go.Proofs.YtnaeeklnlddcaaaGreatDoor

/-- Is a text of a weight's form, but for its greatness? -/
def wtPre (s : List UInt8) : Bool := decide ((cutB 46 s).1 = [48] ∨ (cutB 46 s).1 = [49]) && (decide ((cutB 46 s).2.1.length ≤ 3) && (cutB 46 s).2.1.all digB)
def wtN (s : List UInt8) : Nat := numV ((cutB 46 s).1 ++ (cutB 46 s).2.1 ++ ([48, 48, 48] : List UInt8).drop (cutB 46 s).2.1.length)
def wtI (s : List UInt8) : Int := if wtPre s then (wtN s : Int) else 0
def wtB (s : List UInt8) : Bool := wtPre s && decide (wtN s ≤ 1000)
/-- What an item tells: its name, its weight, and whether it tells them. -/
def itemR (s : List UInt8) : List UInt8 × Int × Bool :=
  if tokenOf (trimB (cutB 59 s).1) then
    (if (cutB 59 s).2.2 then
      (if 2 ≤ (trimLB (cutB 59 s).2.1).length ∧ smallOf ((trimLB (cutB 59 s).2.1).take 2) = [113, 61] then (smallOf (trimB (cutB 59 s).1), wtI ((trimLB (cutB 59 s).2.1).drop 2), wtB ((trimLB (cutB 59 s).2.1).drop 2)) else ([], 0, false))
    else (smallOf (trimB (cutB 59 s).1), 1000, true))
  else ([], 0, false)
/-- What the first item of a name tells. -/
def findW (name : List UInt8) : List (List UInt8) → Option Int
  | [] => none
  | s :: r => if (itemR s).2.2 = true ∧ (itemR s).1 = name then some (itemR s).2.1 else findW name r
theorem wtI_range (s : List UInt8) : 0 ≤ wtI s ∧ wtI s < 10000 := by
  unfold wtI
  split
  · rename_i h
    refine ⟨by omega, ?_⟩
    unfold wtPre at h
    simp only [Bool.and_eq_true, decide_eq_true_eq] at h
    obtain ⟨h1, h2, h3⟩ := h
    have ha : ((cutB 46 s).1).length = 1 ∧ ((cutB 46 s).1).all digB = true := by rcases h1 with h | h <;> rw [h] <;> exact ⟨rfl, by decide⟩
    have hd : (([48, 48, 48] : List UInt8).drop (cutB 46 s).2.1.length).all digB = true := by
      rw [List.all_eq_true]
      intro x hx
      have := List.mem_of_mem_drop hx
      simp only [List.mem_cons, List.not_mem_nil, or_false, or_self] at this
      subst this
      rfl
    have h4 := numF_lt ((cutB 46 s).1 ++ (cutB 46 s).2.1 ++ ([48, 48, 48] : List UInt8).drop (cutB 46 s).2.1.length) 0 (by rw [List.all_append, List.all_append, ha.2, h3, hd]; rfl)
    have h5 : ((cutB 46 s).1 ++ (cutB 46 s).2.1 ++ ([48, 48, 48] : List UInt8).drop (cutB 46 s).2.1.length).length = 4 := by
      rw [List.length_append, List.length_append, List.length_drop, ha.1]
      show 1 + _ + (3 - _) = 4
      omega
    rw [h5] at h4
    unfold wtN numV
    omega
  · omega
theorem wtB_le {s : List UInt8} (h : wtB s = true) : wtI s ≤ 1000 := by
  unfold wtB at h
  simp only [Bool.and_eq_true, decide_eq_true_eq] at h
  unfold wtI
  rw [if_pos h.1]
  omega
theorem itemR_range (s : List UInt8) : 0 ≤ (itemR s).2.1 ∧ (itemR s).2.1 < 10000 ∧ ((itemR s).2.2 = true → (itemR s).2.1 ≤ 1000) := by
  unfold itemR
  split
  · split
    · split
      · exact ⟨(wtI_range _).1, (wtI_range _).2, wtB_le⟩
      · exact ⟨by decide, by decide, by intro h; cases h⟩
    · exact ⟨show (0 : Int) ≤ 1000 by decide, show (1000 : Int) < 10000 by decide, fun _ => show (1000 : Int) ≤ 1000 by decide⟩
  · exact ⟨by decide, by decide, by intro h; cases h⟩
def codNm (c : Nat) : List UInt8 := if c = 1 then [103, 122, 105, 112] else if c = 2 then [100, 101, 102, 108, 97, 116, 101] else [105, 100, 101, 110, 116, 105, 116, 121]
/-- Twice a coding's weight, by items. -/
def twiceW (l : List (List UInt8)) (c : Nat) : Int := match findW (codNm c) l with
  | some n => 2 * n
  | none => match findW [42] l with | some n => 2 * n | none => if c = 0 then 1 else 0
theorem findW_snoc (name s : List UInt8) : ∀ l : List (List UInt8), findW name (l ++ [s]) = match findW name l with | some n => some n | none => if (itemR s).2.2 = true ∧ (itemR s).1 = name then some (itemR s).2.1 else none
  | [] => rfl
  | x :: r => by
    rw [List.cons_append, findW, findW, findW_snoc name s r]
    split <;> rfl
/-- Whose name is it? -/
def xgzipN : List UInt8 := [120, 45, 103, 122, 105, 112]
def ofI (s : List UInt8) : Int := idxI (if smallOf s = xgzipN then codNm 1 else smallOf s) [codNm 0, codNm 1, codNm 2]
/-- May these be preferences, behind others? -/
def prefsG (seen : List UInt8) : List UInt8 → Bool
  | [] => true
  | x :: r => if x.toNat ≤ 2 ∧ x ∉ seen then prefsG (seen ++ [x]) r else false
def allP (l : List UInt8) : List UInt8 := if (0 : UInt8) ∈ l then l else l ++ [0]
/-- The first of the best. -/
def bestL (tw : UInt8 → Int) : List UInt8 → UInt8 × Int
  | [] => (0, 0)
  | a :: r => r.foldl (fun p y => if p.2 < tw y then (y, tw y) else p) (a, tw a)
def twU (items : List (List UInt8)) (x : UInt8) : Int := twiceW items x.toNat
def chooseS (l value : List UInt8) (has : Bool) : Int × Bool × Int :=
  if prefsG [] l then
    (if has then (if (bestL (twU (itemsOf value)) (allP l)).2 = 0 then (0, false, 0) else (((bestL (twU (itemsOf value)) (allP l)).1.toNat : Int), true, 0))
    else (((allP l).headD 0).toNat, true, 0))
  else (0, false, 2)
theorem bestL_snoc (tw : UInt8 → Int) (l : List UInt8) (y : UInt8) (h : l ≠ []) : bestL tw (l ++ [y]) = if (bestL tw l).2 < tw y then (y, tw y) else bestL tw l := by
  cases l with
  | nil => exact absurd rfl h
  | cons a r =>
    show (r ++ [y]).foldl _ _ = _
    rw [List.foldl_append]
    rfl
theorem small_set (l : List UInt8) (hn : l.Nodup) (h : ∀ x ∈ l, x.toNat ≤ 2) : l.length ≤ 3 := by
  match l, hn, h with
  | [], _, _ => simp
  | [_], _, _ => simp
  | [_, _], _, _ => simp
  | [_, _, _], _, _ => simp
  | a :: b :: c :: d :: r, hn, h =>
    exfalso
    have ha := h a (by simp)
    have hb := h b (by simp)
    have hc := h c (by simp)
    have hd := h d (by simp)
    simp only [List.nodup_cons, List.mem_cons, not_or] at hn
    have ne : ∀ x y : UInt8, ¬ x = y → x.toNat ≠ y.toNat := fun x y h e => h (UInt8.toNat_inj.1 e)
    have h1 := ne a b hn.1.1
    have h2 := ne a c hn.1.2.1
    have h3 := ne a d hn.1.2.2.1
    have h4 := ne b c hn.2.1.1
    have h5 := ne b d hn.2.1.2.1
    have h6 := ne c d hn.2.2.1.1
    omega
theorem prefsG_le : ∀ (l seen : List UInt8), prefsG seen l = true → seen.length ≤ 3 → (∀ x ∈ seen, x.toNat ≤ 2) → seen.Nodup → (∀ x ∈ l, x.toNat ≤ 2) ∧ (seen ++ l).Nodup
  | [], seen, _, _, _, hn => ⟨(fun x hx => by cases hx), by simpa using hn⟩
  | x :: r, seen, h, h3, hs, hn => by
    unfold prefsG at h
    split at h
    · rename_i hc
      have hn2 : (seen ++ [x]).Nodup := by
        rw [List.nodup_append]
        exact ⟨hn, by simp, fun a ha b hb e => by simp at hb; subst hb; subst e; exact hc.2 ha⟩
      have hs2 : ∀ y ∈ seen ++ [x], y.toNat ≤ 2 := fun y hy => by
        rcases List.mem_append.1 hy with h | h
        · exact hs y h
        · simp at h; subst h; exact hc.1
      have hlen : (seen ++ [x]).length ≤ 3 := small_set _ hn2 hs2
      obtain ⟨h1, h2⟩ := prefsG_le r (seen ++ [x]) h hlen hs2 hn2
      refine ⟨fun y hy => ?_, by simpa using h2⟩
      rcases List.mem_cons.1 hy with rfl | hy
      · exact hc.1
      · exact h1 y hy
    · cases h
end Go.Proofs.YtnaeeklnlddcaaaGreatDoor
/- Answers as bytes, as plain functions. No program in sight. -/
namespace Go.Proofs.YtnaeeklnlddcaaaGreatDoor.Vex

def ownR : List (List UInt8) := [clN, teN, coN, ceN]
def bareB (st : Int) : Bool := decide (st = 204) || decide (st = 304)
def fldR (f : Fld) : Bool := fieldOK f.1 f.2 && !ownR.contains f.1
/-- Parts that have bytes, and are no more than 262144 bytes. -/
def prsOK : Nat → Prs → Bool
  | _, [] => true
  | n, p :: r => !decide (p.1 = []) && (decide (n + p.1.length ≤ 262144) && prsOK (n + p.1.length) r)
/-- The status, the number of parts, the coding. -/
def anST (st : Int) (n cd : Nat) : Bool := decide (200 ≤ st) && (decide (st ≤ 599) && (decide (cd ≤ 2) && (!bareB st || (decide (n = 0) && decide (cd = 0)))))
def anOK (st : Int) (fs : List Fld) (ps : Prs) (cd : Nat) : Bool := anST st ps.length cd && (fs.all fldR && prsOK 0 ps)
def anE (st : Int) (fs : List Fld) (ps : Prs) (cd : Nat) : Int := if anOK st fs ps cd then 0 else 8
def lineR (n v : List UInt8) : List UInt8 := n ++ [58, 32] ++ v ++ [13, 10]
def linesR (fs : List Fld) : List UInt8 := fs.flatMap fun f => lineR f.1 f.2
def streamB (ps : Prs) (cd : Nat) : Bool := !decide (cd = 0) || (decide (1 < ps.length) || (match ps with | [p] => p.2 | _ => false))
def chunkB (st : Int) (ps : Prs) (cd : Nat) (minor : Int) : Bool := streamB ps cd && (decide (minor = 1) && !bareB st)
def firstR : List UInt8 := [72, 84, 84, 80, 47, 49, 46, 49, 32]
def chunkedN : List UInt8 := [99, 104, 117, 110, 107, 101, 100]
def closeN : List UInt8 := [99, 108, 111, 115, 101]
def lengthR (st : Int) (ps : Prs) (cd : Nat) (chunked : Bool) : List UInt8 :=
  if bareB st then [] else if chunked then lineR teN chunkedN else if streamB ps cd then [] else lineR clN (Go.Lib.itoa (total ps : Nat))
/-- All ahead of an answer's body. -/
def headR (st : Int) (fs : List Fld) (ps : Prs) (cd : Nat) (chunked closes : Bool) : List UInt8 :=
  firstR ++ Go.Lib.itoa st ++ [32, 13, 10] ++ linesR fs ++ (if cd = 0 then [] else lineR ceN (codNm cd)) ++ lengthR st ps cd chunked ++ (if closes then lineR coN closeN else []) ++ [13, 10]
def bodyR (chunked : Bool) (ps : Prs) : Prs := ps.map fun p => (if chunked then wrapG p.1 else p.1, p.2)
/-- All that is told, piece by piece. -/
def piecesR (st : Int) (fs : List Fld) (ps : Prs) (cd : Nat) (minor : Int) (head last : Bool) : Prs :=
  (headR st fs ps cd (chunkB st ps cd minor) (last || decide (minor = 0)), false) :: (if head then [] else bodyR (chunkB st ps cd minor) ps ++ if chunkB st ps cd minor then [(lastC, false)] else [])
structure WRes where
  l : Prs
  c : Bool
  e : Int
def writeR (st : Int) (fs : List Fld) (ps : Prs) (cd : Nat) (minor : Int) (head last : Bool) : WRes :=
  if anOK st fs ps cd then
    if minor = 0 ∨ minor = 1 then ⟨partsG (piecesR st fs ps cd minor head last), last || decide (minor = 0), 0⟩ else ⟨[], false, 2⟩
  else ⟨[], false, 8⟩
end Go.Proofs.YtnaeeklnlddcaaaGreatDoor.Vex
/- Replies that are read, as plain functions. No program in sight. -/
namespace Go.Proofs.YtnaeeklnlddcaaaGreatDoor.Vex

/-- What stands ahead of the first 13, 10. -/
def cutR : List UInt8 → Option (List UInt8)
  | [] => none
  | x :: r => if x = 13 ∧ r.head? = some 10 then some [] else (cutR r).map (x :: ·)
/-- The error of a line that has no end. -/
def noLine (b : List UInt8) : Int := if 4096 < b.length ∧ ¬ (b.length = 4097 ∧ b[4096]? = some 13) then 3 else 10
/-- A line: its text, how many bytes it has with its end, the error. -/
structure LnR where
  s : List UInt8
  n : Nat
  e : Int
deriving DecidableEq
def lineP (b : List UInt8) : LnR := match cutR (b.take 4098) with
  | some s => ⟨s, s.length + 2, 0⟩
  | none => ⟨[], 0, noLine b⟩
/-- A first line: may it be? -/
def stForm (s : List UInt8) : Bool := firstR.isPrefixOf s && (decide (13 ≤ s.length) && (decide (s[12]? = some 32) && valueOf ([46] ++ s.drop 13 ++ [46])))
def stNum (s : List UInt8) : Int := numN ((s.drop 9).take 3)
def stGood (s : List UInt8) : Bool := numOK ((s.drop 9).take 3) && (decide (200 ≤ stNum s) && decide (stNum s ≤ 599))
def stE (s : List UInt8) : Int := if stForm s && stGood s then 0 else 3
/-- Fields from a place on: they, the place behind them, the error. -/
structure FsR where
  fs : List Fld
  u : Nat
  e : Int
def fldsP : Nat → List UInt8 → Nat → List Fld → FsR
  | 0, _, u, fs => ⟨fs, u, 10⟩
  | n + 1, b, u, fs =>
    if (lineP (b.drop u)).e ≠ 0 then ⟨fs, u, (lineP (b.drop u)).e⟩
    else if (lineP (b.drop u)).s = [] then ⟨fs, u + (lineP (b.drop u)).n, 0⟩
    else if parseE (lineP (b.drop u)).s ≠ 0 ∨ fs.length = 100 then ⟨fs, u, 3⟩
    else fldsP n b (u + (lineP (b.drop u)).n) (fs ++ [(parseN (lineP (b.drop u)).s, parseV (lineP (b.drop u)).s)])
/-- The items of a name, in small letters. -/
def itemsR (fs : List Fld) (name : List UInt8) : List (List UInt8) := itemsAll ((allOf fs name).map smallOf)
/-- The length that items tell; below 0: none. -/
def longP : List (List UInt8) → Int → Int
  | [], n => n
  | s :: r, n => if numOK s = false ∨ (0 ≤ n ∧ n ≠ numN s) then -1 else longP r (numN s)
/-- A body: its bytes, the place behind it, whether it goes up to the end, the error. -/
structure BdR where
  l : List UInt8
  u : Nat
  c : Bool
  e : Int
def chunksP (b : List UInt8) (u : Nat) : BdR :=
  let r := fedG cst0 [] 0 (b.drop u)
  if r.e ≠ 0 then ⟨[], 0, false, r.e⟩ else if r.c.ph = 4 then ⟨r.data, u + r.used, false, 0⟩ else ⟨[], 0, false, 10⟩
def bodyP (st : Int) (fs : List Fld) (b : List UInt8) (u : Nat) (head en : Bool) : BdR :=
  if head || bareB st then ⟨[], u, false, 0⟩
  else if allOf fs teN ≠ [] then
    if allOf fs clN ≠ [] ∨ itemsR fs teN ≠ [chunkedN] then ⟨[], 0, false, 3⟩ else chunksP b u
  else if allOf fs clN ≠ [] then
    if longP (itemsR fs clN) (-1) < 0 then ⟨[], 0, false, 3⟩
    else if ((b.length - u : Nat) : Int) < longP (itemsR fs clN) (-1) then ⟨[], 0, false, 10⟩
    else ⟨(b.drop u).take (longP (itemsR fs clN) (-1)).toNat, u + (longP (itemsR fs clN) (-1)).toNat, false, 0⟩
  else if en then ⟨b.drop u, b.length, true, 0⟩ else ⟨[], 0, false, 10⟩
/-- A reply: its status, fields, body, whether the connection closes; how many bytes; the error. -/
structure PRes where
  st : Int
  fs : List Fld
  l : List UInt8
  c : Bool
  u : Nat
  e : Int
def pfail (e : Int) : PRes := ⟨0, [], [], false, 0, e⟩
def closeOf (fs : List Fld) : Bool := (itemsR fs coN).contains closeN
def parseB (b : List UInt8) (head en : Bool) (st : Int) (f : FsR) : PRes :=
  if f.e ≠ 0 then pfail f.e
  else if (bodyP st f.fs b f.u head en).e ≠ 0 then pfail (bodyP st f.fs b f.u head en).e
  else ⟨st, f.fs, (bodyP st f.fs b f.u head en).l, (bodyP st f.fs b f.u head en).c || closeOf f.fs, (bodyP st f.fs b f.u head en).u, 0⟩
def parseR (b : List UInt8) (head en : Bool) : PRes :=
  if 1048576 < b.length then pfail 4
  else if (lineP b).e ≠ 0 then pfail (lineP b).e
  else if stE (lineP b).s ≠ 0 then pfail 3
  else parseB b head en (stNum (lineP b).s) (fldsP (b.length + 1) b (lineP b).n [])

/-! ## Lines -/
theorem cutR_len : ∀ (b s : List UInt8), cutR b = some s → s.length + 2 ≤ b.length ∧ b.take s.length = s
  | [], s, h => by cases h
  | x :: r, s, h => by
    unfold cutR at h
    split at h
    · rename_i hx
      cases h
      cases r with
      | nil => exact absurd hx.2 (by simp)
      | cons y t => simp
    · cases hc : cutR r with
      | none => rw [hc] at h; cases h
      | some t =>
        rw [hc] at h
        cases h
        have ih := cutR_len r t hc
        simp only [List.length_cons, List.take_succ_cons]
        exact ⟨by omega, by rw [ih.2]⟩
theorem index_cutR : ∀ b : List UInt8, Lib.index b [13, 10] = match cutR b with | some s => (s.length : Int) | none => -1
  | [] => rfl
  | x :: r => by
    unfold Lib.index cutR
    have hp : ([13, 10] : List UInt8).isPrefixOf (x :: r) = decide (x = 13 ∧ r.head? = some 10) := by
      cases r with
      | nil => simp [List.isPrefixOf]
      | cons y t =>
        simp only [List.isPrefixOf, List.head?_cons, Option.some.injEq, Bool.and_true]
        rw [Bool.eq_iff_iff]
        simp only [Bool.and_eq_true, beq_iff_eq, decide_eq_true_eq]
        exact ⟨fun h => ⟨h.1.symm, h.2.symm⟩, fun h => ⟨h.1.symm, h.2.symm⟩⟩
    rw [hp]
    by_cases hx : x = 13 ∧ r.head? = some 10
    · rw [if_pos hx]
      simp [hx]
    · rw [if_neg hx, decide_eq_false hx, index_cutR r]
      cases cutR r with
      | none => simp
      | some s =>
        have hs : ¬ ((s.length : Int) < 0) := by omega
        simp
theorem lineP_le (b : List UInt8) : (lineP b).s.length ≤ 4096 ∧ (lineP b).n ≤ b.length ∧ ((lineP b).e = 0 → (lineP b).n = (lineP b).s.length + 2) ∧ ((lineP b).e = 0 ∨ (lineP b).e = 3 ∨ (lineP b).e = 10) := by
  unfold lineP
  cases h : cutR (b.take 4098) with
  | none =>
    refine ⟨Nat.zero_le _, Nat.zero_le _, fun h => ?_, .inr ?_⟩
    · exfalso
      revert h
      show noLine b ≠ 0
      unfold noLine
      split <;> decide
    · show noLine b = 3 ∨ noLine b = 10
      unfold noLine
      split
      · exact .inl rfl
      · exact .inr rfl
  | some s =>
    have h1 := (cutR_len _ _ h).1
    rw [List.length_take] at h1
    exact ⟨by dsimp only; omega, by dsimp only; omega, fun _ => rfl, .inl rfl⟩
end Go.Proofs.YtnaeeklnlddcaaaGreatDoor.Vex
/- A walk by reckoning, part sixteen: regions in which two acts may come up together: both orders are gone. No program in sight. -/
namespace Go.Proofs.YtnaeeklnlddcaaaGreatDoor.Vex
open Go Go.RowKit

/-- The orders that may come: q: an operation that is quiet; a: an act that comes up alone; ch: one of several that come up (stop ends their row). -/
inductive DT where
  | nil
  | q (i : Nat) (t : DT)
  | a (i : Nat) (t : DT)
  | ch (i : Nat) (t : DT) (r : DT)
  | stop
noncomputable def wtree (c : Ctx) (T : Ty) (ws : List Nat) (ops : List Oper) (t : DT) : (Fr → Hp → Prop) → Fr → Hp → Prop :=
  DT.rec (motive := fun _ => (Fr → Hp → Prop) → Fr → Hp → Prop) (fun K fr H => K fr H)
    (fun i _ ih K fr H => nthK ops i fun o => strOk T fr o.guard o.op (wstep c T .quiet ops o fr H (ih K)))
    (fun i _ ih K fr H => nthK ops i fun o => strOk T fr o.guard o.op (wstep c T (match ws.contains i with | true => .wact | false => .act) ops o fr H (ih K)))
    (fun i _ _ ih rh K fr H => (nthK ops i fun o => strOk T fr o.guard o.op (wstep c T (match ws.contains i with | true => .wact | false => .act) ops o fr H (ih K))) ∧ rh K fr H)
    (fun _ _ _ => True) t
def DT.heads : DT → List Nat
  | .ch i _ r => i :: r.heads
  | _ => []
noncomputable def treeB (T : Ty) (ws : List Nat) (ops : Array Oper) : DT → Bool → Array Bool → Bool
  | .nil, b, l => !b && (Region.ready .any ops l).isEmpty
  | .q i t, b, l => !b && (Region.ready .any ops l).contains i && Region.free .any ops l i && !isWr ws ops i && (((List.range ops.size).all fun j => !isWr ws ops j || l.getD j true || anc .any ops ops.size j i) || (match ops[i]? with | some o => blindOp T o.guard o.op | none => false)) && treeB T ws ops t false (l.setIfInBounds i true)
  | .a i t, b, l => !b && (Region.ready .any ops l == [i]) && treeB T ws ops t false (l.setIfInBounds i true)
  | .ch i t r, b, l => (b || ((Region.ready .any ops l).all fun k => k == i || r.heads.contains k)) && (Region.ready .any ops l).contains i && treeB T ws ops t false (l.setIfInBounds i true) && treeB T ws ops r true l
  | .stop, b, _ => b
def DT.len : DT → Nat
  | .nil => 0
  | .q _ t => t.len + 1
  | .a _ t => t.len + 1
  | .ch _ t r => max (t.len + 1) r.len
  | .stop => 0
section
variable {c : Ctx} {T : Ty}
theorem wact_ok (hT : TOk c.P T) (ws : List Nat) (ds : List Deferred) (ops : List Oper) (K : Fr → Hp → Prop) {ih : Fr → Hp → Prop} {i n : Nat} {l : Array Bool} {fr : Fr} {H : Hp} {w' : World}
    (h : nthK ops i fun o => strOk T fr o.guard o.op (wstep c T (match ws.contains i with | true => .wact | false => .act) ops o fr H ih)) (hw' : St c H w')
    (next : ∀ fr' H' w2, ih fr' H' → St c H' w2 → wpAnyR c.P .any ⟨ops⟩ (isWr ws ⟨ops⟩) (DrawQ c ds K) n (l.setIfInBounds i true) (actD ds fr') w2) :
    wpOp c.P ⟨ops⟩ (DrawQ c ds K) i (fun a2 w2 => (isWr ws ⟨ops⟩ i = false → R w' w2) ∧ wpAnyR c.P .any ⟨ops⟩ (isWr ws ⟨ops⟩) (DrawQ c ds K) n (l.setIfInBounds i true) a2 w2) (actD ds fr) w' := by
  obtain ⟨o, hoi, h⟩ := nthK_some h
  obtain ⟨h, hst⟩ := strOk_out h
  have hmd : ∃ m : Md, wstep c T m ops o fr H ih ∧ m ≠ .plain ∧ (ws.contains i = false → m = .act) ∧ (m = .act ∨ m = .wact) := by
    cases hw9 : ws.contains i
    · rw [hw9] at h
      exact ⟨Md.act, h, (fun h => by cases h), (fun _ => rfl), .inl rfl⟩
    · rw [hw9] at h
      exact ⟨Md.wact, h, (fun h => by cases h), (fun h => by cases h), .inr rfl⟩
  clear h
  obtain ⟨m, h, hm2, hm3, hm4⟩ := hmd
  have hoi' : (⟨ops⟩ : Array Oper)[i]? = some o := by simpa using hoi
  unfold wpOp
  simp only [hoi']
  rw [show (actD ds fr).tmps = (act fr).tmps from rfl]
  rcases wstep_cases hT h with ⟨hwd, hd | ⟨he, _⟩, _⟩ | ⟨hwd, hk⟩
  · rw [if_pos hwd]
    have hd : GoodD c m o fr H fun v H' => setO fr o.dst v fun fr' => ih fr' H' := by
      rcases hm4 with rfl | rfl
      · exact hd
      · exact hd
    refine .inl (Good.wp (hd w' hw') fun v H' w2 hs2 hk hrr => ?_)
    obtain ⟨fr', e, hk⟩ := setO_act (ds := ds) hk
    rw [e]
    refine ⟨fun hi => hrr ?_, next fr' H' w2 hk hs2⟩
    have h2 : isWr ws ⟨ops⟩ i = (wr o.op || ws.contains i) := by unfold isWr; rw [hoi']
    rw [h2, Bool.or_eq_false_iff] at hi
    rw [hm3 hi.2]
    simp [rOf, hi.1]
  · exact absurd he hm2
  · rw [if_neg (by rw [hwd]; exact Bool.false_ne_true)]
    obtain ⟨fr', e, hk⟩ := setO_act (ds := ds) hk
    rw [e]
    exact ⟨fun _ => R.refl _, next fr' H w' hk hw'⟩
abbrev TreeA (c : Ctx) (T : Ty) (ws : List Nat) (ds : List Deferred) (ops : List Oper) (K' K : Fr → Hp → Prop) (t : DT) : Prop := ∀ (n : Nat) (l : Array Bool) (fr : Fr) (H : Hp) (w : World),
  t.len ≤ n → closedL .any ⟨ops⟩ l → treeB T ws ⟨ops⟩ t false l = true → wtree c T ws ops t K' fr H → St c H w → wpAnyR c.P .any ⟨ops⟩ (isWr ws ⟨ops⟩) (DrawQ c ds K) n l (actD ds fr) w
abbrev TreeC (c : Ctx) (T : Ty) (ws : List Nat) (ds : List Deferred) (ops : List Oper) (K' K : Fr → Hp → Prop) (t : DT) : Prop := ∀ (n : Nat) (l : Array Bool) (fr : Fr) (H : Hp) (w' : World),
  t.len ≤ n + 1 → closedL .any ⟨ops⟩ l → treeB T ws ⟨ops⟩ t true l = true → wtree c T ws ops t K' fr H → St c H w' → ∀ k ∈ t.heads,
    wpOp c.P ⟨ops⟩ (DrawQ c ds K) k (fun a2 w2 => (isWr ws ⟨ops⟩ k = false → R w' w2) ∧ wpAnyR c.P .any ⟨ops⟩ (isWr ws ⟨ops⟩) (DrawQ c ds K) n (l.setIfInBounds k true) a2 w2) (actD ds fr) w'
theorem wtree_ok (hT : TOk c.P T) (ws : List Nat) (ds : List Deferred) (ops : List Oper) (hs : Region.noSelect ⟨ops⟩ = true) (K' K : Fr → Hp → Prop) (hK : ∀ fr H, K' fr H → ∃ H2, (∀ w, St c H w → St c H2 w) ∧ K fr H2) (t : DT) : TreeA c T ws ds ops K' K t ∧ TreeC c T ws ds ops K' K t := by
  induction t with
  | nil =>
    refine ⟨fun n l fr H w _ _ ho h hw => ?_, fun n l fr H w _ _ ho h hw k hk => by cases hk⟩
    simp only [treeB, Bool.and_eq_true, List.isEmpty_iff] at ho
    obtain ⟨H2, hs2, hk⟩ := hK fr H h
    exact wpAnyR_done ho.2 fun w' hR => ⟨fr, H2, rfl, hs2 _ (hw.below hR), rfl, hk⟩
  | q i t ih =>
    refine ⟨fun n l fr H w hn hc ho h hw => ?_, fun n l fr H w _ _ ho h hw k hk => by cases hk⟩
    obtain ⟨n, rfl⟩ : ∃ m, n = m + 1 := ⟨n - 1, by simp only [DT.len] at hn; omega⟩
    simp only [treeB, Bool.and_eq_true] at ho
    obtain ⟨⟨⟨⟨⟨_, hr⟩, hf⟩, hwi⟩, hall⟩, ho⟩ := ho
    rw [Bool.not_eq_true'] at hwi
    have hr : i ∈ Region.ready .any ⟨ops⟩ l := by simpa using hr
    obtain ⟨o, hoi, h⟩ := nthK_some h
    obtain ⟨h, hst⟩ := strOk_out h
    have hoi' : (⟨ops⟩ : Array Oper)[i]? = some o := by simpa using hoi
    have hQ : ∀ (v : Value) (ch : List PanicEntry) (a : Act) (w : World), DrawQ c ds K (.panic ch) (a.put o.dst v) w → DrawQ c ds K (.panic ch) a w := fun v ch a w ⟨_, _, _, _, he, _⟩ => by cases he
    have hn' : t.len ≤ n := by simpa [DT.len] using hn
    rw [hoi', Bool.or_eq_true] at hall
    dsimp only at hall
    rcases hall with hall | hbl
    rotate_left
    · rcases wstep_wop h with ⟨hwd, h⟩ | ⟨hwd, hk⟩
      · obtain ⟨v, hk, hq⟩ := blind_wop hT o hbl hst h
        obtain ⟨fr', e, hk⟩ := setO_act (ds := ds) hk
        refine wpAnyR_firstB (v := v) hoi' (Region.noSelect_spec hs) (hQ v) n l (actD ds fr) w hc (Region.free_spec hoi' hf) hr (fun w' => .inl ⟨hwd, ?_⟩) ?_
        · unfold Quiet1
          rw [show (actD ds fr).eval = (act fr).eval from rfl, hq w']
          exact ⟨rfl, rfl⟩
        · rw [e]
          exact ih.1 n _ fr' H w hn' (hc.set hr) ho hk hw
      · obtain ⟨fr', e, hk⟩ := setO_act (ds := ds) hk
        refine wpAnyR_firstB (v := undef) hoi' (Region.noSelect_spec hs) (hQ _) n l (actD ds fr) w hc (Region.free_spec hoi' hf) hr (fun w' => .inr ⟨hwd, rfl⟩) ?_
        rw [e]
        exact ih.1 n _ fr' H w hn' (hc.set hr) ho hk hw
    simp only [List.all_eq_true, List.mem_range, Bool.or_eq_true, Bool.not_eq_true'] at hall
    have hwr : ∀ j, isWr ws ⟨ops⟩ j = true → l.getD j true = false → anc .any ⟨ops⟩ (⟨ops⟩ : Array Oper).size j i = true := fun j hj hl => by
      have hlt : j < (⟨ops⟩ : Array Oper).size := by
        unfold isWr at hj
        rcases Nat.lt_or_ge j (⟨ops⟩ : Array Oper).size with h' | h'
        · exact h'
        · rw [Array.getElem?_eq_none h'] at hj; cases hj
      rcases hall j hlt with (h1 | h1) | h1
      · rw [hj] at h1; cases h1
      · rw [hl] at h1; cases h1
      · exact h1
    rcases wstep_cases hT h with ⟨hwd, ⟨v, hk, hq⟩ | ⟨he, _⟩, _⟩ | ⟨hwd, hk⟩
    · obtain ⟨fr', e, hk⟩ := setO_act (ds := ds) hk
      refine wpAnyR_first (v := v) hoi' (Region.noSelect_spec hs) (hQ v) hwi n l (actD ds fr) w hc hwr (Region.free_spec hoi' hf) hr (fun w' hR => .inl ⟨hwd, hq w' (hw.below hR)⟩) ?_
      rw [e]
      exact ih.1 n _ fr' H w hn' (hc.set hr) ho hk hw
    · cases he
    · obtain ⟨fr', e, hk⟩ := setO_act (ds := ds) hk
      refine wpAnyR_first (v := undef) hoi' (Region.noSelect_spec hs) (hQ _) hwi n l (actD ds fr) w hc hwr (Region.free_spec hoi' hf) hr (fun w' hR => .inr ⟨hwd, rfl⟩) ?_
      rw [e]
      exact ih.1 n _ fr' H w hn' (hc.set hr) ho hk hw
  | a i t ih =>
    refine ⟨fun n l fr H w hn hc ho h hw => ?_, fun n l fr H w _ _ ho h hw k hk => by cases hk⟩
    obtain ⟨n, rfl⟩ : ∃ m, n = m + 1 := ⟨n - 1, by simp only [DT.len] at hn; omega⟩
    simp only [treeB, Bool.and_eq_true, beq_iff_eq] at ho
    obtain ⟨⟨_, hr⟩, ho⟩ := ho
    have hri : i ∈ Region.ready .any ⟨ops⟩ l := by rw [hr]; simp
    refine wpAnyR_alone hr fun w' hR => ?_
    exact wact_ok hT ws ds ops K h (hw.below hR) fun fr' H' w2 hk hs2 => ih.1 n _ fr' H' w2 (by simpa [DT.len] using hn) (hc.set hri) ho hk hs2
  | ch i t r iht ihr =>
    have key : ∀ (n : Nat) (l : Array Bool) (fr : Fr) (H : Hp) (w' : World), (DT.ch i t r).len ≤ n + 1 → closedL .any ⟨ops⟩ l → ((Region.ready .any ⟨ops⟩ l).contains i = true) → treeB T ws ⟨ops⟩ t false (l.setIfInBounds i true) = true → treeB T ws ⟨ops⟩ r true l = true →
        wtree c T ws ops (.ch i t r) K' fr H → St c H w' → ∀ k ∈ (DT.ch i t r).heads,
        wpOp c.P ⟨ops⟩ (DrawQ c ds K) k (fun a2 w2 => (isWr ws ⟨ops⟩ k = false → R w' w2) ∧ wpAnyR c.P .any ⟨ops⟩ (isWr ws ⟨ops⟩) (DrawQ c ds K) n (l.setIfInBounds k true) a2 w2) (actD ds fr) w' := by
      intro n l fr H w' hn hc hri h1 h2 h hw k hk
      have hri : i ∈ Region.ready .any ⟨ops⟩ l := by simpa using hri
      have hn1 : t.len + 1 ≤ n + 1 ∧ r.len ≤ n + 1 := by simp only [DT.len] at hn; omega
      rcases List.mem_cons.1 hk with rfl | hk
      · exact wact_ok hT ws ds ops K h.1 hw fun fr' H' w2 hk hs2 => iht.1 n _ fr' H' w2 (by omega) (hc.set hri) h1 hk hs2
      · exact ihr.2 n l fr H w' hn1.2 hc h2 h.2 hw k hk
    refine ⟨fun n l fr H w hn hc ho h hw => ?_, fun n l fr H w' hn hc ho h hw k hk => ?_⟩
    · obtain ⟨n, rfl⟩ : ∃ m, n = m + 1 := ⟨n - 1, by simp only [DT.len] at hn; omega⟩
      simp only [treeB, Bool.and_eq_true, Bool.false_or] at ho
      obtain ⟨⟨⟨hall, hri⟩, h1⟩, h2⟩ := ho
      intro w' hR
      refine ⟨fun he => ?_, fun k hk => ?_⟩
      · rw [he] at hri; cases hri
      · refine key n l fr H w' hn hc hri h1 h2 h (hw.below hR) k ?_
        have := List.all_eq_true.1 hall k hk
        simp only [Bool.or_eq_true, beq_iff_eq] at this
        rcases this with rfl | h
        · exact List.mem_cons_self ..
        · exact List.mem_cons_of_mem _ (by simpa using h)
    · simp only [treeB, Bool.and_eq_true] at ho
      obtain ⟨⟨⟨_, hri⟩, h1⟩, h2⟩ := ho
      exact key n l fr H w' hn hc hri h1 h2 h hw k hk
  | stop =>
    refine ⟨fun n l fr H w _ _ ho h hw => ?_, fun n l fr H w _ _ ho h hw k hk => by cases hk⟩
    cases ho
noncomputable def forkB (T : Ty) (ws : List Nat) (ops : List Oper) (t : DT) : Bool := ops.all noDefer && Region.noSelect ⟨ops⟩ && (decide (t.len ≤ ops.length)) && treeB T ws ⟨ops⟩ t false (Array.replicate ops.length false)
/-- The entries of a heap, in another order, some left out. -/
inductive Cov : Hp → Hp → Prop
  | nil {H : Hp} : Cov H []
  | cons {H H2 G : Hp} {x : Ent} (h : Pick H x H2) (k : Cov H2 G) : Cov H (x :: G)
theorem Cov.perm {H G : Hp} (h : Cov H G) : ∃ R, H.Perm (G ++ R) := by
  induction h with
  | nil => exact ⟨_, List.Perm.refl _⟩
  | cons hp _ ih =>
    obtain ⟨R, hR⟩ := ih
    exact ⟨R, hp.perm.trans (hR.cons _)⟩
theorem Cov.st {H G : Hp} (h : Cov H G) {w : World} (hw : St c H w) : St c G w := by
  obtain ⟨R, hR⟩ := h.perm
  exact (hw.perm hR).sub (List.sublist_append_left _ _)
theorem DrawS.forkK {id : Nat} {ops : List Oper} {K' K : Fr → Hp → Prop} {fr : Fr} {H : Hp} (ws : List Nat) (t : DT) (hT : TOk c.P T) (hm : c.P.follows .mixedOrders = true) (hB : forkB T ws ops t = true) (hK : ∀ fr H, K' fr H → ∃ H2, (∀ w, St c H w → St c H2 w) ∧ K fr H2) (h : wtree c T ws ops t K' fr H) : DrawS c T id ops K fr H := by
  simp only [forkB, Bool.and_eq_true, decide_eq_true_eq] at hB
  refine ⟨hm, fun j o ca hj e => ?_, fun ds w hw => wpAny_of_R (Wr := isWr ws ⟨ops⟩) _ _ _ _ (((wtree_ok hT ws ds ops hB.1.1.2 K' K hK t).1 _ _ fr H w hB.1.2 (closedL_start _) hB.2 h hw).on (R.drew w))⟩
  have h1 := List.all_eq_true.1 hB.1.1.1 o (List.mem_of_getElem? (by simpa using hj))
  unfold noDefer at h1
  rw [e] at h1
  cases h1
/-- All orders that may come are told. -/
theorem DrawS.fork {id : Nat} {ops : List Oper} {K : Fr → Hp → Prop} {fr : Fr} {H : Hp} (ws : List Nat) (t : DT) (hT : TOk c.P T) (hm : c.P.follows .mixedOrders = true) (hB : forkB T ws ops t = true) (h : wtree c T ws ops t K fr H) : DrawS c T id ops K fr H :=
  DrawS.forkK ws t hT hm hB (fun _ H hk => ⟨H, fun _ h => h, hk⟩) h
/-- .. behind each of them one state: what is behind the region is gone once. -/
theorem DrawS.join {β : Type} {id : Nat} {ops : List Oper} {K : Fr → Hp → Prop} {fr : Fr} {H : Hp} (F : β → (Nat → Value) → Fr) (G : β → Hp) (ws : List Nat) (t : DT) (hT : TOk c.P T) (hm : c.P.follows .mixedOrders = true) (hB : forkB T ws ops t = true)
    (h : wtree c T ws ops t (fun fr H => ∃ x, fr = F x (jk fr) ∧ Cov H (G x)) fr H) (k : ∀ x u, K (F x u) (G x)) : DrawS c T id ops K fr H :=
  DrawS.forkK ws t hT hm hB (fun fr' H' ⟨x, hF, hc⟩ => ⟨G x, fun _ hw => hc.st hw, by rw [hF]; exact k x (jk fr')⟩) h
end
end Go.Proofs.YtnaeeklnlddcaaaGreatDoor.Vex
/- A walk by reckoning, part seventeen: functions that give back new memory of any kind; maps that came in. No program in sight. -/
namespace Go.Proofs.YtnaeeklnlddcaaaGreatDoor.Vex
open Go Go.RowKit Go.MapKept

/-- New entries, behind a call. -/
def newH (w w' : World) (H : Hp) : Prop := (∀ y ∈ H, y.holds w' ∧ ∀ b, y.blk = some b → w.heap.size ≤ b ∧ b < w'.heap.size) ∧ (H.filterMap Ent.blk).Nodup
abbrev FnH (P : Program) (g : GI) (f : FuncId) (args : List Value) (pre : World → Prop) (K : Value → Hp → Prop) : Prop := FnE P g f args pre fun w v w' => ∃ H, K v H ∧ newH w w' H
theorem newH.of {P : Program} {g : GI} {w w' : World} {hG : g.G w} {H : Hp} (h : St (mkC P g w hG) H w') : newH w w' H :=
  ⟨fun y hy => ⟨(h.own y hy).1, fun b hb => ⟨((h.own y hy).2 b hb).2.elim id (fun h => by cases h), ((h.own y hy).2 b hb).1⟩⟩, h.apart⟩
theorem newH.cov {P : Program} {g : GI} {w w' : World} {hG : g.G w} {H H2 : Hp} (h : St (mkC P g w hG) H w') (hc : Cov H H2) : newH w w' H2 := newH.of (hc.st h)
section
variable {c : Ctx} {H : Hp}
theorem CallK.fnH {m : Bool} {f : Nat} {args : List Value} {pre : World → Prop} {K : Value → Hp → Prop} {K2 : Value → Hp → Prop} (h : FnH c.P c.g f args pre K) (hp : ∀ w, St c H w → pre w) (k : ∀ v H', K v H' → K2 v (H' ++ H)) : CallK c m f args H K2 :=
  CallK.fnE h hp fun w v w' hw ⟨H', hk, hn, hd⟩ hR => by
    refine ⟨H' ++ H, ?_, k v H' hk⟩
    have hw2 := hw.below hR
    refine ⟨hw2.mod, fun y hy => ?_, ?_⟩
    · rcases List.mem_append.1 hy with hy | hy
      · exact ⟨(hn y hy).1, fun b hb => ⟨((hn y hy).2 b hb).2, .inl (Nat.le_trans hw.mod.size ((hn y hy).2 b hb).1)⟩⟩
      · exact hw2.own y hy
    · rw [List.filterMap_append, List.nodup_append]
      refine ⟨hd, hw2.apart, fun a ha b hb e => ?_⟩
      obtain ⟨y, hy, hya⟩ := List.mem_filterMap.1 ha
      obtain ⟨z, hz, hzb⟩ := List.mem_filterMap.1 hb
      have h1 := ((hn y hy).2 a hya).1
      have h2 := ((hw.own z hz).2 b hzb).1
      omega
/-- A call whose value is known. -/
theorem CallK.fnEV {m : Bool} {f : Nat} {args : List Value} {pre : World → Prop} {v : Value} {K : Value → Hp → Prop} (h : FnE c.P c.g f args pre fun _ u _ => u = v) (hp : ∀ w, St c H w → pre w) (k : K v H) : CallK c m f args H K :=
  CallK.fnE h hp fun _ _ _ hw he hR => ⟨H, hw.below hR, by rw [he]; exact k⟩
theorem OthP.max2 {d : Option Nat} {x y : Operand} {ats : Array TypeId} {ty : TypeId} {pos : String} {after : Array Edge} {gd : Option (Nat × Bool)} {fr : Fr} {kd : IntKind} {a b : Int} {K : Value → Prop} (z : Int)
    (hx : evK fr x fun v => v = .int kd a) (hy : evK fr y fun v => v = .int kd b) (hz : max a b = z) (k : K (.int kd z)) : OthP c ⟨d, .call ⟨.builtin .max, #[x, y], ats⟩, ty, pos, after, gd⟩ fr H K := ⟨⟨_, k, fun w _ => by
  rw [evK_eq] at hx hy
  have hz' : z = if b > a then b else a := by subst hz; split <;> omega
  subst hz'
  simp only [go_sem, Builtin.max_]
  simp [hx, hy, Builtin.max2, List.foldlM]⟩⟩
/-- What a map has at a key, wherever the map lies. -/
theorem OthP.lookA {α : Type} [DecidableEq α] {kv : α → Value} {d : TypeDesc} {T : Ty} {fr : Fr} {dst : Option Nat} {ty : TypeId} {pos : String} {after : Array Edge} {gd : Option (Nat × Bool)} {t kt et : TypeId} {x i : Operand} {ok : Bool} {b : Nat} {k : α} {l : List (α × Value)} {z r : Value} {K : Value → Prop} (hk : KeyK d kv) (hT : TOk c.P T) (hb : ∀ w, St c H w → w.heap[b]? = some (mobj kv l))
    (hx : evK fr x fun v => v = .map (some b)) (hi : evK fr i fun v => v = kv k) (ht : (lookT T t).d = .map kt et) (hkt : (lookT T kt).d = d) (hd : d ≠ .invalid) (het : (lookT T et).d ≠ .invalid) (hz : (lookT T et).zero = z)
    (hr : (match ok with | true => .tuple ⟨[(mget k l).getD z, .bool (mget k l).isSome]⟩ | false => (mget k l).getD z) = r) (kk : K r) : OthP c ⟨dst, .lookup t x i ok, ty, pos, after, gd⟩ fr H K := ⟨⟨r, kk, fun w hw => by
  rw [evK_eq] at hx hi
  have hu := (lookT_ok hT (t := t) (by rw [ht]; intro h; cases h)).1
  have hku := (lookT_ok hT (t := kt) (by rw [hkt]; exact hd)).1
  rw [ht] at hu
  rw [hkt] at hku
  have hzv := run_zeroValue (lookT_ok hT (t := et) het) (w := w)
  rw [hz] at hzv
  have hb : w.heap[b]? = some (.map ⟨mkEs kv 0 l⟩ l.length) := hb w hw
  have hf := run_findKey (w := w) hku (findNow_es hk k l 0 0)
  have hc := run_checkKey (w := w) hku (hk.key k) (⟨mkEs kv 0 l⟩ : Array MapEntry).isEmpty 9999
  have hl : (Instr.lookup t (.map (some b)) (kv k) ok).run c.P w = .ok r w := by
    unfold Instr.lookup
    simp only [Sem.run_bind, run_underlying hu, Result.andThen_ok, MapKept.run_getObj_map hb, Sem.run_pure, hc, hf]
    subst hr
    cases mget k l with
    | none => cases ok <;> simp [hzv]
    | some v => cases ok <;> simp
  generalize (act fr).eval = ρ at *
  simp only [execOp, hx, hi, Sem.run_bind, hl, Result.andThen_ok, Sem.run_pure]⟩⟩
/-- An object that came in stays. -/
theorem obj_now {P : Program} {g : GI} {w : World} {hG : g.G w} {H : Hp} {b : Nat} {o : Obj} (h : w.heap[b]? = some o) : ∀ w', St (mkC P g w hG) H w' → w'.heap[b]? = some o := fun w' hw => by
  have hlt : b < w.heap.size := by
    rcases Nat.lt_or_ge b w.heap.size with h' | h'
    · exact h'
    · simp [Array.getElem?_eq_none h'] at h
  exact (hw.mod.block b hlt (fun h => by cases h)).trans h
/-- A cell that came in. -/
theorem Ld.now {P : Program} {g : GI} {w : World} {hG : g.G w} {H : Hp} {p : Addr} {v : Value} {K : Value → Prop} (h : w.cell? p = some v) (k : K v) : Ld (mkC P g w hG) H (.pointer (some p)) none K := Ld.old (c := mkC P g w hG) h (fun h => by cases h) k
end
end Go.Proofs.YtnaeeklnlddcaaaGreatDoor.Vex
/- A walk by reckoning, part eighteen: heaps with a tail of entries that are not told one by one. No program in sight. -/
namespace Go.Proofs.YtnaeeklnlddcaaaGreatDoor.Vex
open Go Go.RowKit

/-- What meets one heap meets another one. -/
def Into (c : Ctx) (H G : Hp) : Prop := ∀ w, St c H w → St c G w
section
variable {c : Ctx} {H G H2 : Hp} {x : Ent} {w : World}
theorem Into.refl : Into c H H := fun _ h => h
theorem Into.trans {K : Hp} (h : Into c H G) (k : Into c G K) : Into c H K := fun w hw => k w (h w hw)
theorem Into.perm (h : H.Perm G) : Into c H G := fun _ hw => hw.perm h
theorem Into.sub (h : G.Sublist H) : Into c H G := fun _ hw => hw.sub h
theorem Into.nil : Into c H [] := Into.sub (List.nil_sublist _)
theorem Into.skip (h : Into c H G) : Into c (x :: H) G := (Into.sub (List.sublist_cons_self _ _)).trans h
theorem Into.left : Into c (H ++ G) H := Into.sub (List.sublist_append_left _ _)
theorem Into.right : Into c (H ++ G) G := Into.sub (List.sublist_append_right _ _)
theorem Into.nilRow {e sz : Nat} (h : Into c H G) : Into c H (.row (.slice none 0 0) e sz 0 [] :: G) := fun w hw => (h w hw).nilRow e sz
/-- An entry is kept beside what the others are turned into: the others' own memory alone is looked at. -/
def Cv (H G : Hp) : Prop := ∃ R, H.Perm (G ++ R)
theorem Cv.into (h : Cv H G) : Into c H G := fun _ hw => by
  obtain ⟨R, hR⟩ := h
  exact (hw.perm hR).sub (List.sublist_append_left _ _)
theorem Cv.cons (h : Pick H x H2) (k : Cv H2 G) : Cv H (x :: G) := by
  obtain ⟨R, hR⟩ := k
  exact ⟨R, h.perm.trans (hR.cons _)⟩
theorem Cv.refl : Cv H H := ⟨[], by rw [List.append_nil]⟩
theorem Cv.nil : Cv H [] := ⟨H, List.Perm.refl _⟩
theorem Cv.skip (h : Cv H G) : Cv (x :: H) G := by
  obtain ⟨R, hR⟩ := h
  exact ⟨x :: R, (hR.cons x).trans List.perm_middle.symm⟩
theorem Cv.trans {K : Hp} (h : Cv H G) (k : Cv G K) : Cv H K := by
  obtain ⟨R, hR⟩ := h
  obtain ⟨S, hS⟩ := k
  exact ⟨S ++ R, hR.trans ((hS.append_right R).trans (by rw [List.append_assoc]))⟩
theorem Cv.of (h : H.Perm G) : Cv H G := ⟨[], by rw [List.append_nil]; exact h⟩
theorem Cv.left : Cv (H ++ G) H := ⟨G, List.Perm.refl _⟩
theorem Cv.right : Cv (H ++ G) G := ⟨H, List.perm_append_comm⟩
/-- A loop whose heap may change its order. -/
noncomputable def lpTQ (c : Ctx) {β : Type} (F : β → (Nat → Value) → Fr) (G : β → Hp) (pre : β → Prop) (μ : β → Nat) (x : β) (Q : Exit → Fr → Hp → Prop) (e : Exit) (fr : Fr) (H : Hp) : Prop := match e with
  | .normal => ∃ x', pre x' ∧ fr = F x' (jk fr) ∧ Into c H (G x') ∧ μ x' < μ x
  | e => Q e fr H
theorem LoopS.lpT {T : Ty} {β : Type} {body : Code} {Q : Exit → Fr → Hp → Prop} {fr : Fr} (hT : TOk c.P T) (F : β → (Nat → Value) → Fr) (G : β → Hp) (pre : β → Prop) (μ : β → Nat) (x0 : β) (h0 : pre x0) (hF : fr = F x0 (jk fr)) (hG : Into c H (G x0))
    (round : ∀ x u, pre x → wc c T body (lpTQ c F G pre μ x Q) (F x u) (G x)) : LoopS c T body Q fr H := by
  refine ⟨fun ds w hw => wp_loop_ghost (fun n a w => ∃ x u, pre x ∧ a = actD ds (F x u) ∧ St c (G x) w ∧ μ x = n) (μ x0) ⟨x0, jk fr, h0, by rw [← hF], hG w hw, rfl⟩ ?_⟩
  rintro n a w ⟨x, u, hx, rfl, hs, rfl⟩
  refine Code.wp_mono (fun e a w ⟨fr, H, ha, hs, hq⟩ => ?_) (wc_ok hT ds body _ _ _ w (round x u hx) hs)
  cases e with
  | normal =>
    obtain ⟨x', hx', hF', hG', hlt⟩ := hq
    exact ⟨μ x', hlt, x', jk fr, hx', by rw [ha, ← hF'], hG' w hs, rfl⟩
  | _ => exact ⟨fr, H, ha, hs, hq⟩
theorem LoopS.into {T : Ty} {body : Code} {Q : Exit → Fr → Hp → Prop} {fr : Fr} (hc : Into c H G) (h : LoopS c T body Q fr G) : LoopS c T body Q fr H := ⟨fun ds w hw => h.ok ds w (hc w hw)⟩

/-- All orders of a region, one state behind them, in a heap whose entries may change their order. -/
theorem DrawS.joinI {T : Ty} {β : Type} {id : Nat} {ops : List Oper} {K : Fr → Hp → Prop} {fr : Fr} (F : β → (Nat → Value) → Fr) (G : β → Hp) (ws : List Nat) (t : DT) (hT : TOk c.P T) (hm : c.P.follows .mixedOrders = true) (hB : forkB T ws ops t = true)
    (h : wtree c T ws ops t (fun fr H => ∃ x, fr = F x (jk fr) ∧ Into c H (G x)) fr H) (k : ∀ x u, K (F x u) (G x)) : DrawS c T id ops K fr H :=
  DrawS.forkK ws t hT hm hB (fun fr' H' ⟨x, hF, hc⟩ => ⟨G x, hc, by rw [hF]; exact k x (jk fr')⟩) h

theorem tk13 {b o i j : Nat} {n : Option Nat} {K : Value → Prop} (h : Ld c H (.pointer (some ⟨b, o + (i + j), none⟩)) n K) : Ld c H (.pointer (some (((⟨b, o, none⟩ : Addr).add i).add j))) n K := by
  rw [add_add, Addr.add_lit]
  exact h
theorem tk14 {b o i j n : Nat} {v : Value} {K : Hp → Prop} (h : Sto c H (.pointer (some ⟨b, o + (i + j), none⟩)) v n K) : Sto c H (.pointer (some (((⟨b, o, none⟩ : Addr).add i).add j))) v n K := by
  rw [add_add, Addr.add_lit]
  exact h

theorem CallK.into {m : Bool} {f : Nat} {args : List Value} {K : Value → Hp → Prop} (hi : Into c H G) (h : CallK c m f args G K) : CallK c m f args H K := ⟨h.go.imp (fun h => ⟨h.1, fun w hw => h.2 w (hi w hw)⟩) fun h w hw => h w (hi w hw)⟩

/-! ## Tails -/
instance RdA.appL {T : Hp} {A : Option Addr} {xs : List Value} [h : RdA c H A xs] : RdA c (H ++ T) A xs where
  ok := h.ok.sub (List.sublist_append_left _ _)
instance RdA.appR {T : Hp} {A : Option Addr} {xs : List Value} [h : RdA c T A xs] : RdA c (H ++ T) A xs where
  ok := h.ok.sub (List.sublist_append_right _ _)
/-- New memory with a tail. -/
abbrev FnT (P : Program) (g : GI) (f : FuncId) (args : List Value) (pre : World → Prop) {X : Type} (V : X → Value) (Q : X → Prop) (Hd T : X → Hp) : Prop := FnE P g f args pre fun w v w' => ∃ x, v = V x ∧ Q x ∧ newH w w' (Hd x ++ T x)
theorem CallK.fnT {m : Bool} {f : Nat} {args : List Value} {pre : World → Prop} {X : Type} {V : X → Value} {Q : X → Prop} {Hd T : X → Hp} {K : Value → Hp → Prop} (h : FnT c.P c.g f args pre V Q Hd T) (hp : ∀ w, St c H w → pre w)
    (k : ∀ x, Q x → K (V x) (Hd x ++ (H ++ T x))) : CallK c m f args H K :=
  CallK.post (CallK.fnH (K := fun v H' => ∃ x, v = V x ∧ Q x ∧ H' = Hd x ++ T x) (⟨h.can, fun w hG hP => (h.ok w hG hP).mono fun e w' ⟨v, he, ⟨x, h1, h2, h3⟩, hR⟩ => ⟨v, he, ⟨_, ⟨x, h1, h2, rfl⟩, h3⟩, hR⟩⟩) hp (fun v H' ⟨x, h1, h2, h3⟩ =>
    ⟨Hd x ++ (H ++ T x), fun w hw => by
      subst h3
      refine hw.perm ?_
      rw [List.append_assoc]
      exact List.Perm.append_left _ List.perm_append_comm, by rw [h1]; exact k x h2⟩))
theorem newH.into {P : Program} {g : GI} {w w' : World} {hG : g.G w} {H H2 : Hp} (h : St (mkC P g w hG) H w') (hc : Into (mkC P g w hG) H H2) : newH w w' H2 := newH.of (hc w' h)

/-- A key's value is laid, in a literal. -/
theorem OthU.ins {α : Type} [DecidableEq α] {kv : α → Value} {d : TypeDesc} {T : Ty} {fr : Fr} {dst : Option Nat} {ty : TypeId} {pos : String} {after : Array Edge} {gd : Option (Nat × Bool)} {t kt et : TypeId} {x i y : Operand} {b : Nat} {k : α} {l l' : List (α × Value)} {f : Obj → Hp} {v : Value} {K : Value → Hp → Prop} (hk : KeyK d kv) (hT : TOk c.P T) [ho : ObjAt b H (mobj kv l) f]
    (hx : evK fr x fun v => v = .map (some b)) (hi : evK fr i fun v => v = kv k) (hy : evK fr y fun u => u = v) (ht : (lookT T t).d = .map kt et) (hkt : (lookT T kt).d = d) (hd : d ≠ .invalid) (hl' : mput k v l = l')
    (kk : K undef (f (mobj kv l'))) : OthU c ⟨dst, .insert t x i y, ty, pos, after, gd⟩ fr H K := ⟨fun w hw => by
  rw [evK_eq] at hx hi hy
  have hu := (lookT_ok hT (t := t) (by rw [ht]; intro h; cases h)).1
  have hku := (lookT_ok hT (t := kt) (by rw [hkt]; exact hd)).1
  rw [ht] at hu
  rw [hkt] at hku
  have hb : w.heap[b]? = some (.map ⟨mkEs kv 0 l⟩ l.length) := ho.holds hw
  refine ⟨_, _, ?_, ho.put hw (o' := mobj kv l'), kk⟩
  have hr := run_mapUpd (k := k) (v := v) hk hu hku hb
  rw [hl'] at hr
  generalize (act fr).eval = ρ at *
  simp only [execOp, hx, hi, hy, Sem.run_bind, hr, Result.andThen_ok, Sem.run_pure]⟩

/-! ## Parts of a body: each has bytes of its own -/
structure Prt where
  A : Option Addr
  cp : Nat
  l : List UInt8
  f : Bool
def Prt.row (e : Nat) (q : Prt) : Ent := .row (.slice q.A q.l.length q.cp) e 1 q.l.length (q.l.map byteV)
def rowsP (e : Nat) (ps : List Prt) : Hp := ps.map (Prt.row e)
def pcells : List Prt → List Value
  | [] => []
  | q :: r => .slice q.A q.l.length q.cp :: .bool q.f :: pcells r
def pure1 (q : Prt) : List UInt8 × Bool := (q.l, q.f)
theorem pcells_length : ∀ ps : List Prt, (pcells ps).length = ps.length * 2
  | [] => rfl
  | q :: r => by simp only [pcells, List.length_cons, pcells_length r]; omega
theorem pcells_append : ∀ a b : List Prt, pcells (a ++ b) = pcells a ++ pcells b
  | [], _ => rfl
  | q :: a, b => by simp only [List.cons_append, pcells, pcells_append a b]
theorem pcells_at : ∀ (l : List Prt) (k : Nat) (h : k < l.length), (pcells l)[k * 2]? = some (.slice l[k].A l[k].l.length l[k].cp) ∧ (pcells l)[k * 2 + 1]? = some (.bool l[k].f) ∧ ((pcells l).drop (k * 2)).take 2 = [.slice l[k].A l[k].l.length l[k].cp, .bool l[k].f]
  | q :: r, 0, _ => ⟨rfl, rfl, rfl⟩
  | q :: r, k + 1, h => by
    have ih := pcells_at r k (by simpa using h)
    rw [show (k + 1) * 2 = k * 2 + 1 + 1 by omega]
    simp only [pcells, List.getElem?_cons_succ, List.drop_succ_cons, List.getElem_cons_succ]
    exact ih
theorem pcells_one {ps : List Prt} : ∀ u ∈ pcells ps, u.oneCell' = true := by
  induction ps with
  | nil => intro u h; cases h
  | cons q r ih =>
    intro u h
    simp only [pcells, List.mem_cons] at h
    rcases h with rfl | rfl | h
    · rfl
    · rfl
    · exact ih u h
theorem Prt.rd {e : Nat} {ps : List Prt} {q : Prt} (h : q ∈ ps) : RdS c (rowsP e ps) q.A (q.l.map byteV) :=
  RdS.sub (H := [q.row e]) RdS.here (List.singleton_sublist.2 (List.mem_map_of_mem h))
theorem rowsP_app {e : Nat} {a b : List Prt} : rowsP e (a ++ b) = rowsP e a ++ rowsP e b := List.map_append
theorem Cv.snoc {e : Nat} {ps : List Prt} {q : Prt} (h : Cv H (q.row e :: rowsP e ps)) : Cv H (rowsP e (ps ++ [q])) :=
  h.trans (.of (by rw [rowsP_app]; exact (List.perm_append_comm (l₁ := [q.row e]) (l₂ := rowsP e ps))))
theorem Cv.close {e : Nat} {ps : List Prt} {q : Prt} {X : Hp} : Cv (q.row e :: (X ++ rowsP e ps)) (X ++ rowsP e (ps ++ [q])) :=
  .of (by
    rw [rowsP_app, ← List.append_assoc]
    exact (List.perm_append_comm (l₁ := [q.row e]) (l₂ := X ++ rowsP e ps)))
end
end Go.Proofs.YtnaeeklnlddcaaaGreatDoor.Vex
/- A walk by reckoning, part nineteen: a row that is turned to its own type. No program in sight. -/
namespace Go.Proofs.YtnaeeklnlddcaaaGreatDoor.Vex
open Go Go.RowKit Go.MapKept

/-- A row's object, by its first cells. -/
def RowO (o : Obj) (xs : List Value) : Prop := ∃ cur e fz, o = .cells cur e fz ∧ cur.toList.take xs.length = xs
section
variable {c : Ctx} {T : Ty} {H : Hp} {fr : Fr} {dst : Option Nat} {ty : TypeId} {pos : String} {after : Array Edge} {gd : Option (Nat × Bool)}
theorem RowO.rd {o : Obj} {xs : List Value} (h : RowO o xs) {b : Nat} : ∀ H, RdA c (.obj b o :: H) (some ⟨b, 0, none⟩) xs := fun H => ⟨fun w hw j u hj => by
  obtain ⟨cur, e, fz, rfl, ht⟩ := h
  have ho : w.heap[b]? = some (.cells cur e fz) := (hw.own _ (List.mem_cons_self ..)).1
  refine ⟨_, rfl, ?_⟩
  have h1 : cur.toList[j]? = some u := by
    rw [← ht, List.getElem?_take] at hj
    split at hj
    · exact hj
    · cases hj
  rw [Addr.add_lit]
  show (match w.heap[b]? with | some (.cells c _ _) => c[0 + j]? | _ => none) = some u
  rw [ho]
  simpa using h1⟩
theorem Oth.same {t e : TypeId} {x : Operand} {b n cp : Nat} {e' sz n' : Nat} {xs : List Value} {H2 : Hp} {K : Value → Hp → Prop} [hr : TakeRow (.slice (some ⟨b, 0, none⟩) n cp) H e' sz n' xs H2] (hT : TOk c.P T)
    (hx : evK fr x fun v => v = .slice (some ⟨b, 0, none⟩) n cp) (ht : (lookT T t).d = .slice e) (he : (lookT T e).d = .int .u8) (k : ∀ o, RowO o xs → K (.slice (some ⟨b, 0, none⟩) n cp) (.obj b o :: H2)) :
    Oth c false ⟨dst, .convert t t x, ty, pos, after, gd⟩ fr H K := ⟨fun w hw => by
  rw [evK_eq] at hx
  have hu := (lookT_ok hT (t := t) (by rw [ht]; intro h; cases h)).1
  have hue := (lookT_ok hT (t := e) (by rw [he]; intro h; cases h)).1
  rw [ht] at hu
  rw [he] at hue
  have hw1 := hw.perm hr.ok.perm
  have hrow : RowH w (.slice (some ⟨b, 0, none⟩) n cp) e' sz n' xs := (hw1.own _ (List.mem_cons_self ..)).1
  have hbk := (hw1.own _ (List.mem_cons_self ..)).2
  obtain ⟨hl, h0 | ⟨g, cap, cur, fz, h1, hg, h2, h3, h4, h5, _⟩⟩ := hrow
  · cases h0.1
  cases h1
  have hsh : w.shape? b = some (e', cur.size) := by unfold World.shape?; rw [hg]
  obtain ⟨fz', hfz⟩ : ∃ fz', w.freeze ⟨b, cur.size, none⟩ 1 = w.putObj b (.cells cur e' fz') := by
    refine ⟨if fz.1 == fz.2 then (cur.size, cur.size + 1) else (min fz.1 cur.size, max fz.2 (cur.size + 1)), ?_⟩
    unfold World.freeze World.putObj
    rw [if_neg (by decide)]
    congr 1
    have hlt : b < w.heap.size := (hbk b rfl).1
    have hge : w.heap[b] = .cells cur e' fz := by rw [Array.getElem?_eq_getElem hlt] at hg; exact Option.some.inj hg
    apply Array.ext
    · simp
    · intro i h1 h2
      simp only [Array.getElem_modify, Array.getElem_setIfInBounds (by simpa using h1)]
      by_cases hi : b = i
      · subst hi
        rw [if_pos rfl, if_pos rfl, hge]
      · rw [if_neg hi, if_neg hi]
  have hobj : St c (.obj b (.cells cur e' fz) :: H2) w := by
    have hrest := hw1.sub (List.sublist_cons_self _ _)
    refine hrest.push hg (fun b' hb' => hbk b' hb') (fun b' hb' y hy hyb => ?_)
    have := hw1.apart
    rw [List.filterMap_cons] at this
    exact (List.nodup_cons.1 this).1 (List.mem_filterMap.2 ⟨y, hy, by rw [hyb, ← hb']; rfl⟩)
  have hrun : (convert t t (.slice (some ⟨b, 0, none⟩) n cp)).run c.P w = .ok (.slice (some ⟨b, 0, none⟩) n cp) (w.putObj b (.cells cur e' fz')) := by
    simp [convert, run_underlying hu, run_underlying hue, markStringish, hsh]
    exact hfz
  refine ⟨_, _, _, ?_, hobj.putObj (o' := .cells cur e' fz'), k _ ⟨cur, e', fz', rfl, by rw [hl]; exact h5⟩, fun h => by cases h⟩
  generalize (act fr).eval = ρ at *
  simp only [execOp, hx, Sem.run_bind, hrun, Result.andThen_ok, Sem.run_pure]⟩
end
end Go.Proofs.YtnaeeklnlddcaaaGreatDoor.Vex
/- A walk by reckoning, part twenty: ranges over strings. No program in sight. -/
namespace Go.Proofs.YtnaeeklnlddcaaaGreatDoor.Vex
open Go Go.RowKit Go.MapKept

section
variable {c : Ctx} {T : Ty} {H : Hp} {fr : Fr} {dst : Option Nat} {ty : TypeId} {pos : String} {after : Array Edge} {gd : Option (Nat × Bool)}
theorem Oth.rangeS {m : Bool} {t : TypeId} {x : Operand} {l : List UInt8} {K : Value → Hp → Prop} (hT : TOk c.P T) (ht : (lookT T t).d = .string) (hx : evK fr x fun v => v = str l) (k : ∀ b, K (.pointer (some ⟨b, 0, none⟩)) (.obj b (.stringIter ⟨⟨l⟩⟩ 0) :: H)) :
    Oth c m ⟨dst, .range t x, ty, pos, after, gd⟩ fr H K := ⟨fun w hw => by
  rw [evK_eq] at hx
  have hu := (lookT_ok hT (t := t) (by rw [ht]; intro h; cases h)).1
  rw [ht] at hu
  refine ⟨_, w.alloc (.stringIter ⟨⟨l⟩⟩ 0), _, ?_, hw.allocObj _, k _, fun _ => (Below.refl _ _).alloc (Nat.le_refl _) _⟩
  have hr : (Instr.range t (.string ⟨⟨l⟩⟩)).run c.P w = .ok (.pointer (some ⟨w.heap.size, 0, none⟩)) (w.alloc (.stringIter ⟨⟨l⟩⟩ 0)) := by
    unfold Instr.range
    simp only [Sem.run_bind, run_underlying hu, Result.andThen_ok, Sem.run_pure]
    rfl
  generalize (act fr).eval = ρ at *
  simp only [execOp, hx, Sem.run_bind, hr, Result.andThen_ok, Sem.run_pure]⟩
theorem Oth.nextS {it : Operand} {b : Nat} {s : ByteArray} {p : Nat} {f : Obj → Hp} {K : Value → Hp → Prop} [ho : ObjAt b H (.stringIter s p) f] (hx : evK fr it fun v => v = .pointer (some ⟨b, 0, none⟩)) (hp : p < s.size)
    (k : K (.tuple #[.bool true, .int .i64 (p : Nat), .int .i32 (Utf8.decode s p).1]) (f (.stringIter s (p + (Utf8.decode s p).2)))) : Oth c false ⟨dst, .next it true, ty, pos, after, gd⟩ fr H K := ⟨fun w hw => by
  rw [evK_eq] at hx
  have hb : w.heap[b]? = some (.stringIter s p) := ho.holds hw
  refine ⟨_, _, _, ?_, ho.put hw (o' := .stringIter s (p + (Utf8.decode s p).2)), k, fun h => by cases h⟩
  have hr : (Instr.next (.pointer (some ⟨b, 0, none⟩)) true ty).run c.P w = .ok (.tuple #[.bool true, .int .i64 (p : Nat), .int .i32 (Utf8.decode s p).1]) (w.putObj b (.stringIter s (p + (Utf8.decode s p).2))) := by
    simp only [Instr.next, getObj, setObj, Sem.run_bind, Sem.run, hb, Result.andThen, hp, if_true]
    simp [goInt, World.putObj]
  generalize (act fr).eval = ρ at *
  simp only [execOp, hx, Sem.run_bind, hr, Result.andThen_ok, Sem.run_pure]⟩
theorem Oth.nextE {it : Operand} {b : Nat} {s : ByteArray} {p : Nat} {f : Obj → Hp} {K : Value → Hp → Prop} [ho : ObjAt b H (.stringIter s p) f] (hx : evK fr it fun v => v = .pointer (some ⟨b, 0, none⟩)) (hp : ¬ p < s.size)
    (k : K (.tuple #[.bool false]) H) : Oth c false ⟨dst, .next it true, ty, pos, after, gd⟩ fr H K := ⟨fun w hw => by
  rw [evK_eq] at hx
  have hb : w.heap[b]? = some (.stringIter s p) := ho.holds hw
  refine ⟨_, _, _, ?_, hw, k, fun h => by cases h⟩
  have hr : (Instr.next (.pointer (some ⟨b, 0, none⟩)) true ty).run c.P w = .ok (.tuple #[.bool false]) w := by
    simp [Instr.next, getObj, Sem.run, hb, hp]
  generalize (act fr).eval = ρ at *
  simp only [execOp, hx, Sem.run_bind, hr, Result.andThen_ok, Sem.run_pure]⟩
end
end Go.Proofs.YtnaeeklnlddcaaaGreatDoor.Vex
/- The library's functions on bytes, that chunks lean on, reckoned. -/
namespace Go.Proofs.YtnaeeklnlddcaaaGreatDoor.Vex
open Go Go.RowKit
set_option maxRecDepth 100000
set_option linter.unusedSectionVars false
variable {gI : GI} [HasMax gI]

theorem bytes_one (l : List UInt8) : ∀ u ∈ l.map byteV, u.oneCell' = true := fun u hu => by
  obtain ⟨y, _, rfl⟩ := List.mem_map.1 hu
  rfl
theorem BEqual_f (A B : Option Addr) (cp cq : Nat) (a b : List UInt8) : FnR Tryz.prog gI 123 [.slice A a.length cp, .slice B b.length cq] [(A, a.map byteV), (B, b.map byteV)] (.bool (decide (a = b))) := by
  refine FnE.of tys_ok Tryz.func123 rfl (by kernel_rfl) rfl rfl ?_; intro w hG hP
  have hA : ∀ H, RdS (mkC Tryz.prog gI w hG) H A (a.map byteV) := fun H => hP.1.now
  have hB : ∀ H, RdS (mkC Tryz.prog gI w hG) H B (b.map byteV) := fun H => hP.2.1.now
  (conv => whnf); repeat ((first | refine tk1 ?_ | refine tk2 ?_ | refine tk3 ?_ | refine tk12 (fun _ => ?_) | refine tk4 ?_ | refine tk5 ?_ | refine tk6 ?_ | refine tk7 ?_ | refine tk8 ?_ | refine tk9 ?_ | refine tk10 (fun _ _ => ?_) | refine tk11 (fun _ => ?_) | refine tk13 ?_ | refine tk14 ?_); (conv => whnf))
  refine B2S.rd (hA _) rfl ?_
  (conv => whnf); repeat ((first | refine tk1 ?_ | refine tk2 ?_ | refine tk3 ?_ | refine tk12 (fun _ => ?_) | refine tk4 ?_ | refine tk5 ?_ | refine tk6 ?_ | refine tk7 ?_ | refine tk8 ?_ | refine tk9 ?_ | refine tk10 (fun _ _ => ?_) | refine tk11 (fun _ => ?_) | refine tk13 ?_ | refine tk14 ?_); (conv => whnf))
  refine B2S.rd (hB _) rfl ?_
  (conv => whnf); repeat ((first | refine tk1 ?_ | refine tk2 ?_ | refine tk3 ?_ | refine tk12 (fun _ => ?_) | refine tk4 ?_ | refine tk5 ?_ | refine tk6 ?_ | refine tk7 ?_ | refine tk8 ?_ | refine tk9 ?_ | refine tk10 (fun _ _ => ?_) | refine tk11 (fun _ => ?_) | refine tk13 ?_ | refine tk14 ?_); (conv => whnf))
  refine Cmp.of (decide (a = b)) (by simp) ?_
  (conv => whnf); repeat ((first | refine tk1 ?_ | refine tk2 ?_ | refine tk3 ?_ | refine tk12 (fun _ => ?_) | refine tk4 ?_ | refine tk5 ?_ | refine tk6 ?_ | refine tk7 ?_ | refine tk8 ?_ | refine tk9 ?_ | refine tk10 (fun _ _ => ?_) | refine tk11 (fun _ => ?_) | refine tk13 ?_ | refine tk14 ?_); (conv => whnf))
  exact fun w' _ => rfl
theorem cr_drop (l : List UInt8) (h : 0 < l.length) : crB l = decide (l.drop (l.length - 1) = [13]) := by
  obtain ⟨r, x, rfl⟩ : ∃ r x, l = r ++ [x] := ⟨l.dropLast, l.getLast (by intro e; rw [e] at h; cases h), (List.dropLast_concat_getLast _).symm⟩
  rw [cr_snoc]
  rw [show (r ++ [x]).length - 1 = r.length by simp, List.drop_left]
  by_cases hx : x = 13 <;> simp [hx]
theorem HasSuffix_f (A B : Option Addr) (cp cq : Nat) (l : List UInt8) (hl : l.length ≤ 1000000000) :
    FnE Tryz.prog gI 80 [.slice A l.length cp, .slice B 1 cq] (fun w => RdL w [(A, l.map byteV), (B, [byteV 13])] ∧ l.length ≤ cp) fun _ v _ => v = .bool (crB l) := by
  refine FnE.of tys_ok Tryz.func80 rfl (by kernel_rfl) rfl rfl ?_; intro w hG hP
  have hA : ∀ H, RdS (mkC Tryz.prog gI w hG) H A (l.map byteV) := fun H => hP.1.1.now
  have hB : ∀ H, RdS (mkC Tryz.prog gI w hG) H B [byteV 13] := fun H => hP.1.2.1.now
  have hcp := hP.2
  (conv => whnf); repeat ((first | refine tk1 ?_ | refine tk2 ?_ | refine tk3 ?_ | refine tk12 (fun _ => ?_) | refine tk4 ?_ | refine tk5 ?_ | refine tk6 ?_ | refine tk7 ?_ | refine tk8 ?_ | refine tk9 ?_ | refine tk10 (fun _ _ => ?_) | refine tk11 (fun _ => ?_) | refine tk13 ?_ | refine tk14 ?_); (conv => whnf))
  refine Cmp.cases (fun h => ?_) (fun h => ?_)
  · rw [cr_drop l (by omega)]
    (conv => whnf); repeat ((first | refine tk1 ?_ | refine tk2 ?_ | refine tk3 ?_ | refine tk12 (fun _ => ?_) | refine tk4 ?_ | refine tk5 ?_ | refine tk6 ?_ | refine tk7 ?_ | refine tk8 ?_ | refine tk9 ?_ | refine tk10 (fun _ _ => ?_) | refine tk11 (fun _ => ?_) | refine tk13 ?_ | refine tk14 ?_); (conv => whnf))
    refine SlcV.from (by omega) (by omega) ?_
    have hp := fun H => RdS.piece (cp := cp) (sz := 1) (lo := (l.length : Int) - ((1 : Nat) : Int)) (hA H) (by omega) (fun e => by omega)
    have hk : ((l.length : Int) - ((1 : Nat) : Int)).toNat = l.length - 1 := by omega
    have hd : (l.map byteV).drop (((l.length : Int) - ((1 : Nat) : Int)).toNat * 1) = (l.drop (l.length - 1)).map byteV := by rw [hk, Nat.mul_one, List.map_drop]
    rw [hd] at hp
    have hn : l.length - ((l.length : Int) - ((1 : Nat) : Int)).toNat = (l.drop (l.length - 1)).length := by rw [hk, List.length_drop]
    rw [hn]
    (conv => whnf); repeat ((first | refine tk1 ?_ | refine tk2 ?_ | refine tk3 ?_ | refine tk12 (fun _ => ?_) | refine tk4 ?_ | refine tk5 ?_ | refine tk6 ?_ | refine tk7 ?_ | refine tk8 ?_ | refine tk9 ?_ | refine tk10 (fun _ _ => ?_) | refine tk11 (fun _ => ?_) | refine tk13 ?_ | refine tk14 ?_); (conv => whnf))
    refine CallK.fnR (BEqual_f _ B _ cq (l.drop (l.length - 1)) [13]) ⟨hp _, hB _, trivial⟩ ?_
    (conv => whnf); repeat ((first | refine tk1 ?_ | refine tk2 ?_ | refine tk3 ?_ | refine tk12 (fun _ => ?_) | refine tk4 ?_ | refine tk5 ?_ | refine tk6 ?_ | refine tk7 ?_ | refine tk8 ?_ | refine tk9 ?_ | refine tk10 (fun _ _ => ?_) | refine tk11 (fun _ => ?_) | refine tk13 ?_ | refine tk14 ?_); (conv => whnf))
    exact fun w' _ => rfl
  · obtain rfl : l = [] := List.eq_nil_of_length_eq_zero (by omega)
    (conv => whnf); repeat ((first | refine tk1 ?_ | refine tk2 ?_ | refine tk3 ?_ | refine tk12 (fun _ => ?_) | refine tk4 ?_ | refine tk5 ?_ | refine tk6 ?_ | refine tk7 ?_ | refine tk8 ?_ | refine tk9 ?_ | refine tk10 (fun _ _ => ?_) | refine tk11 (fun _ => ?_) | refine tk13 ?_ | refine tk14 ?_); (conv => whnf))
    exact fun w' _ => rfl
theorem BClone_f (A : Option Addr) (cp : Nat) (l : List UInt8) (hl : l.length ≤ 1000000000) : FnS Tryz.prog gI 51 [.slice A l.length cp] [(A, l.map byteV)] 5 1 l.length (l.map byteV) := by
  refine FnE.of tys_ok Tryz.func51 rfl (by kernel_rfl) rfl rfl ?_; intro w hG hP
  have hR : ∀ H, RdA (mkC Tryz.prog gI w hG) H A (l.map byteV) := fun H => ⟨hP.1.now⟩
  (conv => whnf); repeat ((first | refine tk1 ?_ | refine tk2 ?_ | refine tk3 ?_ | refine tk12 (fun _ => ?_) | refine tk4 ?_ | refine tk5 ?_ | refine tk6 ?_ | refine tk7 ?_ | refine tk8 ?_ | refine tk9 ?_ | refine tk10 (fun _ _ => ?_) | refine tk11 (fun _ => ?_) | refine tk13 ?_ | refine tk14 ?_); (conv => whnf))
  refine OthP.nilEq tys_ok rfl rfl ?_
  cases A with
  | none =>
    have hnil := rdw_nil hP.1
    obtain rfl : l = [] := List.map_eq_nil_iff.1 hnil
    (conv => whnf); repeat ((first | refine tk1 ?_ | refine tk2 ?_ | refine tk3 ?_ | refine tk12 (fun _ => ?_) | refine tk4 ?_ | refine tk5 ?_ | refine tk6 ?_ | refine tk7 ?_ | refine tk8 ?_ | refine tk9 ?_ | refine tk10 (fun _ _ => ?_) | refine tk11 (fun _ => ?_) | refine tk13 ?_ | refine tk14 ?_); (conv => whnf))
    exact rowPost.nil _ _
  | some a =>
    (conv => whnf); repeat ((first | refine tk1 ?_ | refine tk2 ?_ | refine tk3 ?_ | refine tk12 (fun _ => ?_) | refine tk4 ?_ | refine tk5 ?_ | refine tk6 ?_ | refine tk7 ?_ | refine tk8 ?_ | refine tk9 ?_ | refine tk10 (fun _ _ => ?_) | refine tk11 (fun _ => ?_) | refine tk13 ?_ | refine tk14 ?_); (conv => whnf))
    refine AppS.tc SrcK.tc (by simp) (bytes_one l) (by decide) (by omega) (by omega) (zs := l.map byteV) (by simp) (fun B cq => ?_)
    rw [Nat.zero_add]
    (conv => whnf); repeat ((first | refine tk1 ?_ | refine tk2 ?_ | refine tk3 ?_ | refine tk12 (fun _ => ?_) | refine tk4 ?_ | refine tk5 ?_ | refine tk6 ?_ | refine tk7 ?_ | refine tk8 ?_ | refine tk9 ?_ | refine tk10 (fun _ _ => ?_) | refine tk11 (fun _ => ?_) | refine tk13 ?_ | refine tk14 ?_); (conv => whnf))
    exact rowPost.of (by simp)
end Go.Proofs.YtnaeeklnlddcaaaGreatDoor.Vex
/- A walk by reckoning, part twenty-one: arrays; slices made; copying; functions of the machine. No program in sight. -/
namespace Go.Proofs.YtnaeeklnlddcaaaGreatDoor.Vex
open Go Go.RowKit

section
variable {c : Ctx} {T : Ty} {H : Hp} {fr : Fr} {dst : Option Nat} {ty : TypeId} {pos : String} {after : Array Edge} {gd : Option (Nat × Bool)}
/-- An array's element, behind a pointer. -/
theorem OthP.idxArr {t e n : Nat} {x i : Operand} {b : Nat} {k : IntKind} {z : Int} {K : Value → Prop} (hT : TOk c.P T) (ht : (lookT T t).d = .array n e) (he : (lookT T e).d ≠ .invalid) (hs : (lookT T e).size = 1)
    (hx : evK fr x fun v => v = .pointer (some ⟨b, 0, none⟩)) (hi : evK fr i fun v => v = .int k z) (h0 : 0 ≤ z) (h1 : z < n) (kk : K (.pointer (some ⟨b, z.toNat, none⟩))) :
    OthP c ⟨dst, .indexAddr t x i, ty, pos, after, gd⟩ fr H K := ⟨⟨_, kk, fun w _ => by
  rw [evK_eq] at hx hi
  have hu := (lookT_ok hT (t := t) (by rw [ht]; intro h; cases h)).1
  rw [ht] at hu
  have hse := run_sizeOf (lookT_ok hT he) w
  rw [hs] at hse
  have hr : (Instr.indexAt t (.pointer (some ⟨b, 0, none⟩)) (.int k z)).run c.P w = .ok (.pointer (some ⟨b, z.toNat, none⟩)) w := by
    simp [Instr.indexAt, asIntOf, run_underlying hu, Instr.sureAddr, h0, h1, hse, Addr.add_lit]
  generalize (act fr).eval = ρ at *
  simp only [execOp, hx, hi, Sem.run_bind, hr, Result.andThen_ok, Sem.run_pure]⟩⟩
/-- An array, built of cells. -/
theorem OthP.mkArr {t e n : Nat} {ps : Array (Nat × Operand)} {z cs : List Value} {K : Value → Prop} (hT : TOk c.P T) (ht : (lookT T t).d = .array n e) (he : (lookT T e).d ≠ .invalid) (hs : (lookT T e).size = 1) (hz : (lookT T t).zero = .agg ⟨z⟩)
    (hf : evPK fr ps.toList fun ps => fillL ((List.range n).map fun i => (i * 1, 1)) ps z = some cs) (kk : K (.agg ⟨cs⟩)) :
    OthP c ⟨dst, .build t ps, ty, pos, after, gd⟩ fr H K := ⟨⟨_, kk, fun w _ => by
  rw [evPK_eq] at hf
  have hi := lookT_ok hT (t := t) (by rw [ht]; intro h; cases h)
  have hu := hi.1
  rw [ht] at hu
  have hse := run_sizeOf (lookT_ok hT he) w
  rw [hs] at hse
  have hzv := run_zeroValue hi w
  rw [hz] at hzv
  have hfill := fill_eq _ (fun i => some (i * 1, 1)) (fun i p hp => by
    rw [List.getElem?_map] at hp
    cases hr : (List.range n)[i]? with
    | none => rw [hr] at hp; cases hp
    | some j =>
      rw [hr] at hp
      obtain ⟨hj, he'⟩ := List.getElem?_eq_some_iff.1 hr
      simp at he'
      subst he'
      simpa using hp) _ _ cs hf
  have e2 : (Array.map (fun x => match x with | (i, x) => (i, (act fr).eval x)) ps).toList = ps.toList.map fun p => (p.1, (act fr).eval p.2) := by simp
  have hb : (Instr.build t (ps.map fun (i, x) => (i, (act fr).eval x))).run c.P w = .ok (.agg ⟨cs⟩) w := by
    unfold Instr.build
    simp only [Sem.run_bind, hzv, Result.andThen_ok, run_underlying hu, hse, Value.cells, e2, hfill, Sem.run_pure]
  simp only [execOp, Sem.run_bind, hb, Result.andThen_ok, Sem.run_pure]⟩⟩
/-- A slice of bytes, made: as a box. -/
theorem Oth.make {m : Bool} {t e : Nat} {x y : Operand} {n : Nat} {K : Value → Hp → Prop} (hT : TOk c.P T) (ht : (lookT T t).d = .slice e) (he : (lookT T e).d ≠ .invalid) (hz : (lookT T e).zero = .int .u8 0) (hs : (lookT T e).size = 1) (hb : (lookT T e).bytes = 1)
    (hx : evK fr x fun v => v = .int .i64 n) (hy : evK fr y fun v => v = .int .i64 n) (hn : n ≤ 1000000000) (k : ∀ b, K (.slice (some ⟨b, 0, none⟩) n n) (.box b (List.replicate n (.int .u8 0)) e :: H)) :
    Oth c m ⟨dst, .makeSlice t x y, ty, pos, after, gd⟩ fr H K := ⟨fun w hw => by
  rw [evK_eq] at hx hy
  have hu := (lookT_ok hT (t := t) (by rw [ht]; intro h; cases h)).1
  rw [ht] at hu
  have hi := (lookT_ok hT he).2.1
  obtain ⟨i, hi, hiz, his, hib⟩ : ∃ i, c.P.info? e = some i ∧ i.zero = some (.int .u8 0) ∧ i.size = 1 ∧ i.bytes = 1 := by
    cases h : c.P.info? e with
    | none => rw [h] at hi; cases hi
    | some i =>
      rw [h] at hi
      simp only [Option.map_some, Option.some.injEq, Prod.mk.injEq] at hi
      exact ⟨i, rfl, by rw [hi.1, hz], by rw [hi.2.1, hs], by rw [hi.2.2, hb]⟩
  have hr := run_make (P := c.P) w t e i _ hu hi hiz .i64 .i64 n n (by omega) (by omega) (by rw [hib]; omega) (by omega)
  have hc : madeCells (Value.int .u8 0).cells ((n : Int).toNat * i.size) = ⟨List.replicate n (.int .u8 0)⟩ := by
    rw [his, Nat.mul_one, Int.toNat_natCast, ← Array.toList_inj]
    apply List.ext_getElem
    · simp [madeCells]
    · intro j h1 h2
      simp [madeCells, Value.cells, Nat.mod_one]
  rw [hc] at hr
  simp only [Int.toNat_natCast] at hr
  refine ⟨_, _, _, ?_, hw.alloc (List.replicate n (.int .u8 0)) e, k _, fun _ => (Below.refl _ _).alloc (Nat.le_refl _) _⟩
  generalize (act fr).eval = ρ at *
  simp only [execOp, hx, hy, Sem.run_bind, hr, Result.andThen_ok, Sem.run_pure]⟩
/-- A box's cells are read as a slice. -/
theorem RdS.box {b : Nat} {vs : List Value} {t : TypeId} {f : List Value → Hp} [h : BoxAt b H vs t f] : RdS c H (some ⟨b, 0, none⟩) vs := fun w hw j u hj => by
  obtain ⟨H1, H2, rfl, _⟩ := h.ok
  have hg : w.heap[b]? = some (.cells ⟨vs⟩ t (0, 0)) := (hw.own (.box b vs t) (by simp)).1
  exact ⟨_, rfl, by rw [Addr.add_lit, Nat.zero_add, cell_of_row w b j ⟨vs⟩ t _ hg]; simpa using hj⟩
/-- A box is written over by bytes that lie elsewhere. -/
theorem Oth.copy {dT sT e : Nat} {x y : Operand} {b n cp cq j : Nat} {A : Option Addr} {vs news : List Value} {t : TypeId} {f : List Value → Hp} {K : Value → Hp → Prop} [h : BoxAt b H vs t f]
    (hT : TOk c.P T) (ht : (lookT T dT).d = .slice e) (he : (lookT T e).d ≠ .invalid) (hs : (lookT T e).size = 1)
    (hx : evK fr x fun v => v = .slice (some ⟨b, 0, none⟩) n cp) (hy : evK fr y fun v => v = .slice A j cq) (hr : RdS c H A news) (hv : vs.length = n) (hn : news.length = n) (h0 : 0 < n) (hj : n ≤ j) (h1 : ∀ u ∈ news, u.oneCell' = true) (k : K (.int .i64 n) (f news)) :
    Oth c false ⟨dst, .call ⟨.builtin .copy, #[x, y], #[dT, sT]⟩, ty, pos, after, gd⟩ fr H K := ⟨fun w hw => by
  rw [evK_eq] at hx hy
  obtain ⟨H1, H2, rfl, hf⟩ := h.ok
  rw [hf] at k
  have hu := (lookT_ok hT (t := dT) (by rw [ht]; intro h; cases h)).1
  rw [ht] at hu
  have hi : (c.P.info? e).map (·.size) = some 1 := by
    have hi := (lookT_ok hT he).2.1
    cases h : c.P.info? e with
    | none => rw [h] at hi; cases hi
    | some i =>
      rw [h] at hi
      simp only [Option.map_some, Option.some.injEq, Prod.mk.injEq] at hi ⊢
      rw [hi.2.1, hs]
  have hw1 := hw.perm (List.perm_middle (a := Ent.box b vs t))
  have hg : w.heap[b]? = some (.cells ⟨vs⟩ t (0, 0)) := (hw1.own _ (List.mem_cons_self ..)).1
  have hst := (hw1.setRow (vs' := news)).perm (List.perm_middle (a := Ent.box b news t)).symm
  obtain ⟨a, rfl, _⟩ := hr w hw 0 news[0] (by rw [List.getElem?_eq_getElem])
  have hrun := run_copy_row (P := c.P) w dT sT ty e b 0 n cp a j cq ⟨vs⟩ t news hu hi hg (by rw [hn]; exact (Nat.min_eq_right hj).symm) (fun i v hv => by
    obtain ⟨a', ha, hc⟩ := hr w hw i v hv
    cases ha
    exact hc) (by simp [hv, hn]) h1
  have hcs : (List.take 0 (⟨vs⟩ : Array Value).toList ++ news ++ List.drop (0 + news.length) (⟨vs⟩ : Array Value).toList).toArray = ⟨news⟩ := by
    rw [← Array.toList_inj]
    simp [List.drop_eq_nil_of_le (show vs.length ≤ news.length by omega)]
  rw [hcs, hn] at hrun
  refine ⟨_, _, _, ?_, hst, k, fun h => by cases h⟩
  have ea : (#[x, y] : Array Operand).map (act fr).eval = #[(act fr).eval x, (act fr).eval y] := by simp
  generalize (act fr).eval = ρ at *
  simp only [execOp, resolve, Sem.run_bind, Sem.run_pure, Result.andThen_ok, invoke, builtin, ea, hx, hy]
  rw [hrun]
  rfl⟩
/-- A function of the machine's own. -/
theorem CallK.ext {m : Bool} {f : Nat} {args : List Value} {v : Value} {K : Value → Hp → Prop} (h : ∀ w, c.g.G w → (callFunc f ⟨args⟩).run c.P w = .ok (.value v) w) (k : K v H) : CallK c m f args H K :=
  ⟨.inr fun w hw => ⟨v, w, H, h w hw.glob, hw, k, fun _ => R.refl _⟩⟩
theorem CallK.ext' {m : Bool} {f : Nat} {args : List Value} {v : Value} {K : Value → Hp → Prop} (h : ∀ w, St c H w → (callFunc f ⟨args⟩).run c.P w = .ok (.value v) w) (k : K v H) : CallK c m f args H K :=
  ⟨.inr fun w hw => ⟨v, w, H, h w hw, hw, k, fun _ => R.refl _⟩⟩
/-- What lay there before lies there still. -/
theorem St.old {p : Addr} {v : Value} {w : World} (hw : St c H w) (h : c.w0.cell? p = some v) (hM : p.block ∉ c.M) : w.cell? p = some v :=
  (World.cell?_of_block (hw.mod.block _ (World.block_lt_of_cell? _ _ h) hM)).trans h
/-- A rune, as a text. -/
theorem OthP.rune {src d : Nat} {x : Operand} {k : IntKind} {n : Int} {K : Value → Prop} (hT : TOk c.P T) (hs : (lookT T src).d ≠ .invalid) (hd : (lookT T d).d = .string) (hx : evK fr x fun v => v = .int k n) (kk : K (str (Utf8.encode n).data.toList)) :
    OthP c ⟨dst, .convert src d x, ty, pos, after, gd⟩ fr H K := ⟨⟨_, kk, fun w _ => by
  rw [evK_eq] at hx
  have hu := (lookT_ok hT (t := d) (by rw [hd]; intro h; cases h)).1
  rw [hd] at hu
  have hr := run_convert_int_string (P := c.P) w src d k n (by rw [(lookT_ok hT hs).1]; rfl) hu
  generalize (act fr).eval = ρ at *
  simp only [execOp, hx, Sem.run_bind, hr, Result.andThen_ok, Sem.run_pure]⟩⟩
theorem Ar.in32 {z : Int} {K : Value → Prop} (h : -2147483648 ≤ z) (h' : z ≤ 2147483647) (k : K (.int .i32 z)) : Ar .i32 z K :=
  ⟨z, by rw [IntKind.wrap]; simp [IntKind.bits, IntKind.signed]; omega, k⟩
/-- A slice's length is no more than its room. -/
theorem row_cap {A : Option Addr} {cp e sz n n' : Nat} {xs : List Value} {f : List Value → Hp} [h : RowAt A H cp e sz n n' xs f] {w : World} (hw : St c H w) : n ≤ cp := by
  obtain ⟨H1, H2, rfl, _⟩ := h.ok
  have hr : RowH w (.slice A n' cp) e sz n xs := (hw.own (.row (.slice A n' cp) e sz n xs) (by simp)).1
  obtain ⟨_, ⟨h1, h2⟩ | ⟨g, cap, cur, fz, h1, _, h2, _⟩⟩ := hr
  · omega
  · cases h1; exact h2
theorem SlcV.cut {A : Option Addr} {n cp sz : Nat} {h : Int} {K : Value → Prop} (h0 : 0 ≤ h) (h1 : h ≤ n) (hc : n ≤ cp) (k : K (.slice (if (cp : Int) = 0 then A else A.map (·.add (0 * sz))) h.toNat cp)) : SlcV c H A n cp 0 (some h) sz K :=
  ⟨Int.le_refl _, h0, fun h' e _ _ => by cases e; omega, k⟩
theorem run_ext {P : Program} {f : FuncId} {fn : Func} {args : List Value} {v : Value} {w : World} {e : Array Value → Sem Value} (hf : P.funcs[f]? = some fn) (hn : (fn.name == "runtime.NumGoroutine") = false) (hb : fn.body.isNone = true) (hx : Extern.findNext fn = none) (he : Extern.find fn = some e)
    (hr : (e ⟨args⟩).run P w = .ok v w) : (callFunc f ⟨args⟩).run P w = .ok (.value v) w := by
  simp only [callFunc, program, Sem.run, Sem.run_bind, Result.andThen_ok, hf, hn, hb, hx, he, mark]
  simp [hr, Sem.run, Result.andThen]
end
end Go.Proofs.YtnaeeklnlddcaaaGreatDoor.Vex
/- unicode/utf8.DecodeRune at every slice of bytes: the kit's contract over its own names, laid at this seat by hand; the two tables it reads. -/
namespace Go.Proofs.YtnaeeklnlddcaaaGreatDoor.Vex
open Go Go.RowKit Go.ChangeShapes

def decRen : Go.Shelf.Ren := ⟨fun | 32 => 166 | 49 => 196 | n => n, fun | 0 => 0 | 3 => 3 | 4 => 4 | 5 => 5 | 21 => 21 | 25 => 121 | 30 => 51 | 33 => 179 | 66 => 234 | 68 => 236 | 69 => 237 | n => n, fun | 2 => 1 | 3 => 2 | n => n⟩
theorem decLays : Go.Proofs.Lays7.n32 Tryz.prog decRen := {
  mixed := by kernel_rfl
  f32 := Tryz.func166.trans (congrArg some (by kernel_rfl))
  f49 := Tryz.func196.trans (congrArg some (by kernel_rfl))
  t0 := Tryz.underlying0
  a0 := Tryz.isAgg0
  z0 := Tryz.sizeOf0
  v0 := Tryz.zeroValue0
  i0 := by kernel_rfl
  t3 := Tryz.underlying3
  a3 := Tryz.isAgg3
  z3 := Tryz.sizeOf3
  v3 := Tryz.zeroValue3
  i3 := by kernel_rfl
  t4 := Tryz.underlying4
  a4 := Tryz.isAgg4
  z4 := Tryz.sizeOf4
  v4 := Tryz.zeroValue4
  i4 := by kernel_rfl
  t5 := Tryz.underlying5
  a5 := Tryz.isAgg5
  z5 := Tryz.sizeOf5
  v5 := Tryz.zeroValue5
  i5 := by kernel_rfl
  t21 := Tryz.underlying21
  a21 := Tryz.isAgg21
  z21 := Tryz.sizeOf21
  v21 := Tryz.zeroValue21
  i21 := by kernel_rfl
  t25 := Tryz.underlying121
  a25 := Tryz.isAgg121
  z25 := Tryz.sizeOf121
  v25 := Tryz.zeroValue121
  i25 := by kernel_rfl
  t30 := Tryz.underlying51
  a30 := Tryz.isAgg51
  z30 := Tryz.sizeOf51
  v30 := Tryz.zeroValue51
  i30 := by kernel_rfl
  t33 := Tryz.underlying179
  a33 := Tryz.isAgg179
  z33 := Tryz.sizeOf179
  v33 := Tryz.zeroValue179
  i33 := by kernel_rfl
  t66 := Tryz.underlying234
  a66 := Tryz.isAgg234
  z66 := Tryz.sizeOf234
  t68 := Tryz.underlying236
  a68 := Tryz.isAgg236
  z68 := Tryz.sizeOf236
  v68 := Tryz.zeroValue236
  i68 := by kernel_rfl
  t69 := Tryz.underlying237
  a69 := Tryz.isAgg237
  z69 := Tryz.sizeOf237
  v69 := Tryz.zeroValue237
  i69 := by kernel_rfl
  g2 := by kernel_rfl
  g3 := by kernel_rfl }
/-- The two tables. -/
class HasUtf (g : GI) : Prop where
  ok : ∀ w, g.G w → Lib.Utf8Tabs 1 2 w
def gU : GI where
  n := max gP.n (max (1 + 1) (2 + 1))
  G w := gP.G w ∧ Lib.Utf8Tabs 1 2 w
  keep w w' h := fun ⟨h1, h2⟩ => ⟨gP.keep w w' (fun k hk => h k (Nat.lt_of_lt_of_le hk (Nat.le_max_left _ _))) h1,
    fun c hc => (World.cell?_of_block (h 1 (by omega))).trans (h2.1 c hc),
    fun i hi => ⟨(World.cell?_of_block (h 2 (by omega))).trans (h2.2 i hi).1, (World.cell?_of_block (h 2 (by omega))).trans (h2.2 i hi).2⟩⟩
  size w := fun ⟨h1, h2⟩ => Nat.max_le.2 ⟨gP.size w h1, Nat.max_le.2 ⟨World.block_lt_of_cell? _ _ (h2.1 0 (by decide)), World.block_lt_of_cell? _ _ (h2.2 0 (by decide)).1⟩⟩
instance : HasMax gU := ⟨fun _ h => h.1.1.1⟩
instance : HasErr gU := ⟨fun _ h => h.1.1.2⟩
instance : HasPow gU := ⟨fun _ h => h.1.2⟩
instance : HasUtf gU := ⟨fun _ h => h.2⟩
def u8Ren : Go.Shelf.Ren := ⟨fun n => n, fun | 5 => 5 | 119 => 234 | 138 => 236 | 139 => 237 | n => n, fun | 3 => 1 | 4 => 2 | n => n⟩
theorem u8Types : U8Types Tryz.prog u8Ren := ⟨Tryz.underlying5, Tryz.underlying234, Tryz.underlying236, Tryz.underlying237⟩
theorem u8Extra : U8Extra Tryz.prog u8Ren := ⟨by kernel_rfl, by kernel_rfl, by kernel_rfl, by kernel_rfl, by kernel_rfl, by kernel_rfl, by kernel_rfl⟩
theorem gU_of {l : List (String × DataW Unit)} {W : World} (hL : laidMetH Tryz.prog l W) (hS : W.ShapedOpen Tryz.prog) (hp : (l.all fun x => x.2.handleName?.isNone) = true)
    (h1 : ("strconv.ErrSyntax", Rows.laid_strconv_ErrSyntax) ∈ l) (h2 : ("strconv.ErrRange", Rows.laid_strconv_ErrRange) ∈ l) (h3 : ("internal/strconv.uint64pow10", Rows.laid_internal_strconv_uint64pow10) ∈ l)
    (h4 : ("unicode/utf8.first", Rows.laid_unicode_utf8_first) ∈ l) (h5 : ("unicode/utf8.acceptRanges", Rows.laid_unicode_utf8_acceptRanges) ∈ l) : gU.G W := by
  have e4 : (Rows.laid_unicode_utf8_first : DataW Unit) = Lib.firstData := by kernel_rfl
  have e5 : (Rows.laid_unicode_utf8_acceptRanges : DataW Unit) = Lib.acceptData := by kernel_rfl
  rw [e4] at h4
  rw [e5] at h5
  exact ⟨gP_of hL hS hp h1 h2 h3, utf8Tabs_of_readsT u8Types u8Extra (reads_of hL hp h4) (reads_of hL hp h5)⟩
set_option linter.unusedSectionVars false
variable {gI : GI} [HasUtf gI]
theorem DecodeRune_f (A : Option Addr) (cp : Nat) (l : List UInt8) (h0 : 0 < l.length) : FnR Tryz.prog gI 166 [.slice A l.length cp] [(A, l.map byteV)] (.tuple #[.int .i32 (Lib.decodeGo ⟨⟨l⟩⟩).1, .int .i64 (Lib.decodeGo ⟨⟨l⟩⟩).2]) :=
  ⟨callable Tryz.func166 rfl (by kernel_rfl), fun w hG ⟨hr, _⟩ => by
    obtain ⟨x, r, rfl⟩ : ∃ x r, l = x :: r := by
      cases l with
      | nil => cases h0
      | cons x r => exact ⟨x, r, rfl⟩
    obtain ⟨b, o, rfl, hb⟩ := rdw_addr (show Rdw w A (byteV x :: r.map byteV) from hr)
    refine (Any7.utf8_DecodeRune decLays ⟨⟨x :: r⟩⟩ b o cp w (HasUtf.ok w hG) (fun j hj => ?_)).mono fun _ w' ⟨he, hw⟩ => ⟨_, he, rfl, hw⟩
    have hj' : j < (x :: r).length := hj
    obtain ⟨a, ha, hc⟩ := hr j (byteV (x :: r)[j]) (by rw [List.getElem?_map, List.getElem?_eq_getElem hj']; rfl)
    cases ha
    rw [Addr.add_lit] at hc
    rw [hc]
    have e : ((⟨⟨x :: r⟩⟩ : ByteArray).get! j) = (x :: r)[j] := by
      show (⟨x :: r⟩ : Array UInt8)[j]! = _
      rw [getElem!_pos _ _ (by exact hj')]
      rfl
    rw [e]
    rfl⟩
end Go.Proofs.YtnaeeklnlddcaaaGreatDoor.Vex
/- A rune beyond ASCII, decoded: plain facts. No program in sight. -/
namespace Go.Proofs.YtnaeeklnlddcaaaGreatDoor.Vex
open Go

theorem enc_size (r : Nat) (h : 128 ≤ r) : (r < 2048 → (Utf8.encode (r : Int)).size = 2) ∧ (2048 ≤ r → r < 65536 → (r < 55296 ∨ 57344 ≤ r) → (Utf8.encode (r : Int)).size = 3) ∧ (65536 ≤ r → r ≤ 1114111 → (Utf8.encode (r : Int)).size = 4) := by
  refine ⟨fun h1 => ?_, fun h1 h2 h3 => ?_, fun h1 h2 => ?_⟩
  · have hv : Utf8.valid (r : Int) = true := by unfold Utf8.valid; simp; omega
    unfold Utf8.encode
    simp only [hv, if_true, Int.toNat_natCast]
    rw [if_neg (by omega), if_pos (by omega)]
    rfl
  · have hv : Utf8.valid (r : Int) = true := by unfold Utf8.valid; simp; omega
    unfold Utf8.encode
    simp only [hv, if_true, Int.toNat_natCast]
    rw [if_neg (by omega), if_neg (by omega), if_pos (by omega)]
    rfl
  · have hv : Utf8.valid (r : Int) = true := by unfold Utf8.valid; simp; omega
    unfold Utf8.encode
    simp only [hv, if_true, Int.toNat_natCast]
    rw [if_neg (by omega), if_neg (by omega), if_neg (by omega)]
    rfl
/-- What a text's first rune is, where its first byte is no ASCII: all its bytes are none. -/
theorem dec_high (l : List UInt8) (h0 : 0 < l.length) (hx : 128 ≤ l[0].toNat) : ∃ r w, Lib.decodeGo ⟨⟨l⟩⟩ = (r, w) ∧ 1 ≤ w ∧ w ≤ l.length ∧ (∀ j (hj : j < l.length), j < w → 128 ≤ l[j].toNat) ∧
    r ≤ 1114111 ∧ (r = 65533 ∨ (r ≠ 65533 ∧ 128 ≤ r ∧ 2 ≤ w ∧ (Utf8.encode (r : Int)).size = w ∧ (w = 2 → r < 2048))) := by
  have g : ∀ j (hj : j < l.length), ((⟨⟨l⟩⟩ : ByteArray).get! j).toNat = l[j].toNat := fun j hj => by
    show ((⟨l⟩ : Array UInt8)[j]!).toNat = _
    rw [getElem!_pos _ _ (by exact hj)]
    rfl
  have hs : (⟨⟨l⟩⟩ : ByteArray).size = l.length := rfl
  unfold Lib.decodeGo
  rw [hs, if_neg (by omega), Lib.decode_at, hs]
  have g0 := g 0 h0
  rw [← g0] at hx
  generalize hb0 : ((⟨⟨l⟩⟩ : ByteArray).get! 0).toNat = b0 at *
  have g1 := fun h => g 1 h
  have g2 := fun h => g 2 h
  have g3 := fun h => g 3 h
  rw [show 0 + 1 = 1 from rfl, show 0 + 2 = 2 from rfl, show 0 + 3 = 3 from rfl]
  generalize hb1 : ((⟨⟨l⟩⟩ : ByteArray).get! 1).toNat = b1 at *
  generalize hb2 : ((⟨⟨l⟩⟩ : ByteArray).get! 2).toNat = b2 at *
  generalize hb3 : ((⟨⟨l⟩⟩ : ByteArray).get! 3).toNat = b3 at *
  have one : ∃ r w, ((65533 : Nat), (1 : Nat)) = (r, w) ∧ 1 ≤ w ∧ w ≤ l.length ∧ (∀ j (hj : j < l.length), j < w → 128 ≤ l[j].toNat) ∧ r ≤ 1114111 ∧ (r = 65533 ∨ (r ≠ 65533 ∧ 128 ≤ r ∧ 2 ≤ w ∧ (Utf8.encode (r : Int)).size = w ∧ (w = 2 → r < 2048))) :=
    ⟨_, _, rfl, Nat.le_refl _, h0, fun j hj h => by
      obtain rfl : j = 0 := by omega
      rw [← g0]; exact hx, by omega, .inl rfl⟩
  unfold Lib.decodeN
  rw [if_neg (by omega)]
  split
  · rename_i h
    split
    · rename_i hc
      have e := enc_size (b0 % 32 * 64 + b1 % 64) hc
      refine ⟨_, _, rfl, by omega, by omega, fun j hj hw => ?_, by omega, ?_⟩
      · have : j = 0 ∨ j = 1 := by omega
        rcases this with rfl | rfl
        · rw [← g0]; exact hx
        · rw [← g1 hj]; omega
      · exact .inr ⟨by omega, hc, by omega, e.1 (by omega), fun _ => by omega⟩
    · exact one
  split
  · rename_i h
    split
    · rename_i hc
      have e := enc_size (b0 % 16 * 4096 + b1 % 64 * 64 + b2 % 64) (by omega)
      refine ⟨_, _, rfl, by omega, by omega, fun j hj hw => ?_, by omega, ?_⟩
      · have : j = 0 ∨ j = 1 ∨ j = 2 := by omega
        rcases this with rfl | rfl | rfl
        · rw [← g0]; exact hx
        · rw [← g1 hj]; omega
        · rw [← g2 hj]; omega
      · by_cases h5 : b0 % 16 * 4096 + b1 % 64 * 64 + b2 % 64 = 65533
        · exact .inl h5
        · exact .inr ⟨h5, by omega, by omega, e.2.1 (by omega) (by omega) (by omega), fun h => by omega⟩
    · exact one
  split
  · rename_i h
    split
    · rename_i hc
      have e := enc_size (b0 % 8 * 262144 + b1 % 64 * 4096 + b2 % 64 * 64 + b3 % 64) (by omega)
      refine ⟨_, _, rfl, by omega, by omega, fun j hj hw => ?_, by omega, ?_⟩
      · have : j = 0 ∨ j = 1 ∨ j = 2 ∨ j = 3 := by omega
        rcases this with rfl | rfl | rfl | rfl
        · rw [← g0]; exact hx
        · rw [← g1 hj]; omega
        · rw [← g2 hj]; omega
        · rw [← g3 hj]; omega
      · exact .inr ⟨by omega, by omega, by omega, e.2.2 (by omega) (by omega), fun h => by omega⟩
    · exact one
  exact one
/-- No rune beyond ASCII begins as 13, 10 does. -/
theorem enc_ne (r : Nat) (h : 128 ≤ r) (hr : r < 2048) : ¬ ([13, 10] : List UInt8) = (Utf8.encode (r : Int)).data.toList := by
  have hv : Utf8.valid (r : Int) = true := by unfold Utf8.valid; simp; omega
  unfold Utf8.encode
  simp only [hv, if_true, Int.toNat_natCast]
  rw [if_neg (by omega), if_pos (by omega)]
  intro e
  have e1 := (List.cons.inj e).1
  have := congrArg UInt8.toNat e1
  rw [show (13 : UInt8).toNat = 13 from rfl, UInt8.toNat_ofNat'] at this
  omega
end Go.Proofs.YtnaeeklnlddcaaaGreatDoor.Vex
