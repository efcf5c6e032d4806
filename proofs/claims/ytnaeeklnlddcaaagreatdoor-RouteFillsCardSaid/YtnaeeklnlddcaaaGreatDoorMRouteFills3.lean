/- Maps whose keys are places of a pattern: a struct of a kind and a text. -/
import Derived.Test.YtnaeeklnlddcaaaGreatDoorMRouteFills2
import Derived.WideKeyRuns
import Derived.Lib.ItoaNum
import Derived.Lib.Join
import Derived.Lib.ItoaLen
import Derived.Lib.Atoi
namespace Go.Proofs.YtnaeeklnlddcaaaGreatDoor.Vex
open Go Go.RowKit Go.MapKept
set_option maxRecDepth 100000
set_option linter.unusedSectionVars false

/-- A place's key: its kind (0 a literal, 1 a parameter, 2 a rest), and its text. -/
abbrev Plk := Int × List UInt8
def plkV (p : Plk) : Value := .agg ⟨[.int .i64 p.1, str p.2]⟩
theorem plk_fields : (Tryz.prog.fieldsOf 118).toList = [{ name := "kind", type := 3, offset := 0, embedded := false, tag := "", pkgPath := "bellows/route", byteOffset := 0 }, { name := "text", type := 9, offset := 1, embedded := false, tag := "", pkgPath := "bellows/route", byteOffset := 8 }] := by kernel_rfl
theorem plk_run (p q : Plk) (w : World) : (Op.equal 118 (plkV p) (plkV q)).run Tryz.prog w = .ok (decide (p = q)) w := by
  obtain ⟨a, s⟩ := p
  obtain ⟨b, t⟩ := q
  unfold plkV
  show (Op.equalIn 10000 _ _ _).run _ w = _
  rw [show (10000 : Nat) = 9999 + 1 from rfl, run_equalIn_struct w 9999 _ _ _ (by kernel_rfl) (by kernel_rfl), plk_fields]
  have p0 : ∀ (u v : Value) w, (part 3 #[u, v] 0).run Tryz.prog w = .ok u w := fun u v w => by simp [go_sem]
  have p1 : ∀ (u v : Value) w, (part 9 #[u, v] 1).run Tryz.prog w = .ok v w := fun u v w => by simp [go_sem]
  have e0 : ∀ (x y : List UInt8) w, (Op.equalIn 9999 9 (str x) (str y)).run Tryz.prog w = .ok (x == y) w := fun x y w => by
    rw [show (9999 : Nat) = 9998 + 1 from rfl, run_equalIn_string w 9998 _ _ _ Tryz.underlying9, toList_str]
  have e1 : ∀ (x y : Int) w, (Op.equalIn 9999 3 (.int .i64 x) (.int .i64 y)).run Tryz.prog w = .ok (x == y) w := fun x y w => by
    rw [show (9999 : Nat) = 9998 + 1 from rfl, Op.equalIn]
    simp only [Sem.run_bind, run_underlying Tryz.underlying3, Result.andThen_ok, if_true, Sem.run_pure]
  simp only [Op.eqFields]
  by_cases h : a = b
  · subst h
    by_cases h2 : s = t
    · subst h2
      simp [go_sem, e0, e1]
    · simp [go_sem, e0, e1, h2]
  · simp [go_sem, e1, h]
theorem plk_find (k : Plk) (w : World) : ∀ (l : List (Plk × Value)) (i j : Nat), (Instr.findAsking 118 (plkV k) (mkEs plkV i l) j).run Tryz.prog w = .ok ((mget k l).map fun v => (j + place k l, v)) w
  | [], _, _ => rfl
  | p :: r, i, j => by
    simp only [mkEs, Instr.findAsking, Sem.run_bind, plk_run, Result.andThen_ok, mget, place]
    by_cases h : k = p.1
    · simp [h]
    · simp only [h, decide_false, if_false, Bool.false_eq_true]
      rw [plk_find k w r (i + 1) (j + 1)]
      cases mget k r with
      | none => rfl
      | some v => simp; omega
theorem plk_findKey (k : Plk) (l : List (Plk × Value)) (w : World) : (Instr.findKey 118 (plkV k) (mkEs plkV 0 l)).run Tryz.prog w = .ok ((mget k l).map fun v => (place k l, v)) w := by
  rw [run_findKey_eq w (by rw [Tryz.underlying118])]
  have := plk_find k w l 0 0
  simp only [Nat.zero_add] at this
  exact this
theorem plk_check (k : Plk) (e : Bool) (w : World) : (Instr.checkKey e 10000 118 (plkV k)).run Tryz.prog w = .ok () w := by
  obtain ⟨a, t⟩ := k
  have hu : Tryz.prog.underlying 118 = some (.struct (Tryz.prog.fieldsOf 118)) := by kernel_rfl
  have p0 : ∀ (u v : Value) w, (part 3 #[u, v] 0).run Tryz.prog w = .ok u w := fun u v w => by simp [go_sem]
  have p1 : ∀ (u v : Value) w, (part 9 #[u, v] 1).run Tryz.prog w = .ok v w := fun u v w => by simp [go_sem]
  have c0 := run_checkKey (w := w) (k := .int .i64 a) Tryz.underlying3 rfl e 9998
  have c1 := run_checkKey (w := w) (k := str t) Tryz.underlying9 trivial e 9998
  unfold plkV
  rw [show (10000 : Nat) = 9999 + 1 from rfl, Instr.checkKey]
  simp only [Sem.run_bind, run_underlying hu, Result.andThen_ok]
  rw [← Array.forIn_toList, plk_fields]
  have h0 := p0 (.int .i64 a) (str t) w
  have h1 := p1 (.int .i64 a) (str t) w
  simp only [List.forIn_cons, List.forIn_nil, Sem.run_bind, ne_eq, Result.andThen_ok, Sem.run_pure, show ¬ ("kind" = "_") by decide, show ¬ ("text" = "_") by decide, not_false_eq_true, if_true, h0, h1, c0, c1]
theorem plk_bits (k : Plk) : Instr.sameBits 10000 (plkV k) (plkV k) = true := by
  unfold plkV
  have h : ((⟨⟨k.2⟩⟩ : ByteArray) == ⟨⟨k.2⟩⟩) = true := by
    show ((⟨k.2⟩ : Array UInt8) == ⟨k.2⟩) = true
    simp
  simp [Instr.sameBits, h]
section
variable {c : Ctx} {T : Ty} {H : Hp} {fr : Fr} {dst : Option Nat} {ty : TypeId} {pos : String} {after : Array Edge} {gd : Option (Nat × Bool)}
/-- What such a map has at a key. -/
theorem OthP.lookP {t et : TypeId} {x i : Operand} {ok : Bool} {b : Nat} {k : Plk} {l : List (Plk × Value)} {z r : Value} {K : Value → Prop} (hP : c.P = Tryz.prog) (hT : TOk c.P T) (hb : ∀ w, St c H w → w.heap[b]? = some (mobj plkV l))
    (hx : evK fr x fun v => v = .map (some b)) (hi : evK fr i fun v => v = plkV k) (ht : (lookT T t).d = .map 118 et) (het : (lookT T et).d ≠ .invalid) (hz : (lookT T et).zero = z)
    (hr : (match ok with | true => .tuple ⟨[(mget k l).getD z, .bool (mget k l).isSome]⟩ | false => (mget k l).getD z) = r) (kk : K r) : OthP c ⟨dst, .lookup t x i ok, ty, pos, after, gd⟩ fr H K := ⟨⟨r, kk, fun w hw => by
  rw [evK_eq] at hx hi
  have hu := (lookT_ok hT (t := t) (by rw [ht]; intro h; cases h)).1
  rw [ht] at hu
  have hzv := run_zeroValue (lookT_ok hT (t := et) het) (w := w)
  rw [hz] at hzv
  have hb : w.heap[b]? = some (.map ⟨mkEs plkV 0 l⟩ l.length) := hb w hw
  have hf := plk_findKey k l w
  have hc := plk_check k (⟨mkEs plkV 0 l⟩ : Array MapEntry).isEmpty w
  rw [← hP] at hf hc
  have hl : (Instr.lookup t (.map (some b)) (plkV k) ok).run c.P w = .ok r w := by
    unfold Instr.lookup
    simp only [Sem.run_bind, run_underlying hu, Result.andThen_ok, MapKept.run_getObj_map hb, Sem.run_pure, hc, hf]
    subst hr
    cases mget k l with
    | none => cases ok <;> simp [hzv]
    | some v => cases ok <;> simp
  generalize (act fr).eval = ρ at *
  simp only [execOp, hx, hi, Sem.run_bind, hl, Result.andThen_ok, Sem.run_pure]⟩⟩
theorem run_mapUpdP {w : World} {t et : TypeId} {b : Nat} {k : Plk} {l : List (Plk × Value)} {v : Value} (hu : Tryz.prog.underlying t = some (.map 118 et)) (hb : w.heap[b]? = some (.map ⟨mkEs plkV 0 l⟩ l.length)) :
    (Instr.mapUpdate t (.map (some b)) (plkV k) v).run Tryz.prog w = .ok () (w.putObj b (mobj plkV (mput k v l))) := by
  have hf := plk_findKey k l w
  have hc := plk_check k false w
  unfold Instr.mapUpdate
  simp only [Sem.run_bind, run_underlying hu, Result.andThen_ok, MapKept.run_getObj_map hb, hc, hf]
  cases hl : mget k l with
  | none =>
    simp only [Option.map_none]
    rw [MapKept.run_setObj_map _ hb]
    unfold mobj
    rw [upd_new k v l hl, es_append]
    simp only [World.putObj, List.length_append, List.length_singleton, Nat.zero_add]
    congr 4
    rw [← Array.toList_inj]; simp
  | some u =>
    obtain ⟨h1, h2, h3⟩ := upd_old (kv := plkV) k v u l 0 hl
    simp only [Option.map_some]
    have e : (((⟨mkEs plkV 0 l⟩ : Array MapEntry)[place k l]?).map (·.key)).getD (plkV k) = plkV k := by
      have : (⟨mkEs plkV 0 l⟩ : Array MapEntry)[place k l]? = (mkEs plkV 0 l)[place k l]? := by simp
      rw [this, h3]; rfl
    have hkey : (Instr.keyThatStays (plkV k) (plkV k)).run Tryz.prog w = .ok (plkV k) w := by
      unfold Instr.keyThatStays
      rw [if_pos (plk_bits k)]; rfl
    simp only [e, Sem.run_bind, hkey, Result.andThen_ok]
    rw [MapKept.run_setObj_map _ hb]
    unfold mobj
    simp only [World.putObj, h2]
    congr 4
    rw [← h1, ← Array.toList_inj]
    simp
theorem OthU.updP {t et : TypeId} {x i y : Operand} {b : Nat} {k : Plk} {l l' : List (Plk × Value)} {f : Obj → Hp} {v : Value} {K : Value → Hp → Prop} (hP : c.P = Tryz.prog) (hT : TOk c.P T) [ho : ObjAt b H (mobj plkV l) f]
    (hx : evK fr x fun v => v = .map (some b)) (hi : evK fr i fun v => v = plkV k) (hy : evK fr y fun u => u = v) (ht : (lookT T t).d = .map 118 et) (hl' : mput k v l = l')
    (kk : K undef (f (mobj plkV l'))) : OthU c ⟨dst, .mapUpdate t x i y, ty, pos, after, gd⟩ fr H K := ⟨fun w hw => by
  rw [evK_eq] at hx hi hy
  have hu := (lookT_ok hT (t := t) (by rw [ht]; intro h; cases h)).1
  rw [ht] at hu
  have hb : w.heap[b]? = some (.map ⟨mkEs plkV 0 l⟩ l.length) := ho.holds hw
  refine ⟨_, _, ?_, ho.put hw (o' := mobj plkV l'), kk⟩
  rw [hP] at hu
  have hr := run_mapUpdP (k := k) (v := v) hu hb
  rw [hl', ← hP] at hr
  generalize (act fr).eval = ρ at *
  simp only [execOp, hx, hi, hy, Sem.run_bind, hr, Result.andThen_ok, Sem.run_pure]⟩
end
end Go.Proofs.YtnaeeklnlddcaaaGreatDoor.Vex
/- The first line of a request, as byte lists: what is told, what is written. No program in sight. -/
namespace Go.Proofs.YtnaeeklnlddcaaaGreatDoor

def freeL : List UInt8 := [45, 46, 95, 126]
def pathL : List UInt8 := [45, 46, 95, 126, 33, 36, 38, 39, 40, 41, 42, 43, 44, 59, 61, 58, 64, 47]
def queryL : List UInt8 := pathL ++ [63]
/-- A letter, a digit, or one of some marks. -/
def plainB (marks : List UInt8) (x : UInt8) : Bool := smallI x.toNat || greatI x.toNat || marks.contains x
def digI (x : Int) : Int := if 48 ≤ x ∧ x ≤ 57 then x - 48 else if 97 ≤ x ∧ x ≤ 102 then x - 87 else if 65 ≤ x ∧ x ≤ 70 then x - 55 else -1
def hexB (x : UInt8) : Bool := decide (0 ≤ digI x.toNat)
def hexV (a b : UInt8) : UInt8 := (16 * digI a.toNat + digI b.toNat).toNat.toUInt8
/-- Has a text just such bytes, or quoted ones? -/
def madeOf (marks : List UInt8) : List UInt8 → Bool
  | [] => true
  | 37 :: a :: b :: r => hexB a && hexB b && madeOf marks r
  | x :: r => plainB marks x && madeOf marks r
def pathOf (s : List UInt8) : Bool := (s.head? == some 47) && madeOf pathL s
def queryOf (s : List UInt8) : Bool := madeOf queryL s
def methodsL : List (List UInt8) := [[71, 69, 84], [72, 69, 65, 68], [80, 79, 83, 84], [80, 85, 84], [68, 69, 76, 69, 84, 69], [79, 80, 84, 73, 79, 78, 83]]
def methodOf (s : List UInt8) : Bool := methodsL.contains s
/-- Bytes for what was quoted. -/
def unq : List UInt8 → List UInt8
  | [] => []
  | 37 :: a :: b :: r => if hexB a && hexB b then hexV a b :: unq r else 37 :: unq (a :: b :: r)
  | x :: r => x :: unq r
def segs (s : List UInt8) : List (List UInt8) := (splitB 47 (s.drop 1)).map unq
def segE (s : List UInt8) : Int := if pathOf s then 0 else 3
def segO (s : List UInt8) : List (List UInt8) := if pathOf s then segs s else []
def hexD (n : Nat) : UInt8 := if n < 10 then (48 + n).toUInt8 else (55 + n).toUInt8
def quoteB (x : UInt8) : List UInt8 := if plainB freeL x then [x] else [37, hexD (x.toNat / 16), hexD (x.toNat % 16)]
def quoteOf (s : List UInt8) : List UInt8 := s.flatMap quoteB
/-- What stands ahead of the first place of a byte, what behind it, and whether there is one. -/
def cutB (c : UInt8) : List UInt8 → List UInt8 × List UInt8 × Bool
  | [] => ([], [], false)
  | x :: r => if x = c then ([], r, true) else (x :: (cutB c r).1, (cutB c r).2.1, (cutB c r).2.2)
def httpL : List UInt8 := [72, 84, 84, 80, 47, 49, 46]
/-- The version of a line's end; none: it tells none. -/
def versionOf (s : List UInt8) : Option Int := match s with
  | [72, 84, 84, 80, 47, 49, 46, d] => if 48 ≤ d.toNat ∧ d.toNat ≤ 57 then some (if d.toNat = 48 then 0 else 1) else none
  | _ => none
structure Rq where
  m : List UInt8
  p : List UInt8
  q : List UInt8
  v : Int
deriving DecidableEq
def rq0 : Rq := ⟨[], [], [], 0⟩
def lineTarget (s : List UInt8) : List UInt8 := (cutB 32 (cutB 32 s).2.1).1
def lineRq (s : List UInt8) : Rq := ⟨(cutB 32 s).1, (cutB 63 (lineTarget s)).1, (cutB 63 (lineTarget s)).2.1, (versionOf (cutB 32 (cutB 32 s).2.1).2.1).getD 0⟩
def lineOK (s : List UInt8) : Bool := decide (s.length ≤ 4096) && (cutB 32 s).2.2 && (cutB 32 (cutB 32 s).2.1).2.2 && (versionOf (cutB 32 (cutB 32 s).2.1).2.1).isSome && tokenOf (lineRq s).m && pathOf (lineRq s).p && queryOf (lineRq s).q
def lineR (s : List UInt8) : Rq := if lineOK s && methodOf (lineRq s).m then lineRq s else rq0
def lineSt (s : List UInt8) : Int := if lineOK s then (if methodOf (lineRq s).m then 200 else 501) else 400
def targetOf (r : Rq) : List UInt8 := if r.q = [] then r.p else r.p ++ 63 :: r.q
def writeL (r : Rq) : List UInt8 := r.m ++ [32] ++ targetOf r ++ [32, 72, 84, 84, 80, 47, 49, 46] ++ (if r.v = 0 then [48] else [49])
def writeOK (r : Rq) : Bool := methodOf r.m && pathOf r.p && queryOf r.q && decide (0 ≤ r.v) && decide (r.v ≤ 1) && decide ((writeL r).length ≤ 4096)
def writeS (r : Rq) : List UInt8 := if writeOK r then writeL r else []
def writeE (r : Rq) : Int := if writeOK r then 0 else 3

/-! ## Plain facts -/
theorem dig_range (x : UInt8) : -1 ≤ digI x.toNat ∧ digI x.toNat ≤ 15 := by unfold digI; split <;> (try split) <;> (try split) <;> omega
theorem hexB_iff (x : UInt8) : hexB x = true ↔ 0 ≤ digI x.toNat := by simp [hexB]
theorem hex_not_slash (x : UInt8) (h : hexB x = true) : x ≠ 47 := by
  intro e; subst e; revert h; decide
theorem hexV_toNat (a b : UInt8) (ha : hexB a = true) (hb : hexB b = true) : ((hexV a b).toNat : Int) = 16 * digI a.toNat + digI b.toNat := by
  rw [hexB_iff] at ha hb
  have h1 := dig_range a
  have h2 := dig_range b
  unfold hexV
  have : (16 * digI a.toNat + digI b.toNat).toNat < 256 := by omega
  rw [Nat.toUInt8, UInt8.toNat_ofNat', Nat.mod_eq_of_lt (by omega)]
  omega
theorem plain_not_37 {marks : List UInt8} (h : marks.contains 37 = false) : plainB marks 37 = false := by
  unfold plainB
  rw [h]; decide
theorem made_cons (marks : List UInt8) (x : UInt8) (r : List UInt8) (hx : x ≠ 37) : madeOf marks (x :: r) = (plainB marks x && madeOf marks r) := by
  simp [madeOf, hx]
theorem made_37 (marks : List UInt8) (h : marks.contains 37 = false) (r : List UInt8) : madeOf marks (37 :: r) = match r with | a :: b :: r => hexB a && hexB b && madeOf marks r | _ => false := by
  match r with
  | [] => simp [madeOf, plain_not_37 h]
  | [a] => simp [madeOf, plain_not_37 h]
  | a :: b :: r => simp [madeOf]
theorem unq_cons (x : UInt8) (r : List UInt8) (hx : x ≠ 37) : unq (x :: r) = x :: unq r := by
  simp [unq, hx]
theorem unq_37 (a b : UInt8) (r : List UInt8) (ha : hexB a = true) (hb : hexB b = true) : unq (37 :: a :: b :: r) = hexV a b :: unq r := by simp [unq, ha, hb]
theorem cutB_at (c : UInt8) : ∀ (l : List UInt8) (k : Nat), c ∉ l.take k → l[k]? = some c → cutB c l = (l.take k, l.drop (k + 1), true)
  | [], k, _, h => by simp at h
  | x :: r, 0, _, h => by simp at h; simp [cutB, h]
  | x :: r, k + 1, hn, h => by
    have hx : x ≠ c := fun e => hn (by simp [e])
    have ih := cutB_at c r k (fun e => hn (by simp [e])) (by simpa using h)
    simp [cutB, hx, ih]
theorem cutB_none (c : UInt8) : ∀ (l : List UInt8), c ∉ l → cutB c l = (l, [], false)
  | [], _ => rfl
  | x :: r, hn => by
    have hx : x ≠ c := fun e => hn (by simp [e])
    simp [cutB, hx, cutB_none c r (fun e => hn (by simp [e]))]
theorem cutB_length (c : UInt8) : ∀ l : List UInt8, (cutB c l).1.length + (cutB c l).2.1.length ≤ l.length
  | [] => by simp [cutB]
  | x :: r => by
    have := cutB_length c r
    unfold cutB
    split
    · simp
    · simp; omega
/-- The library's cut, at one byte. -/
theorem cut_one (c : UInt8) : ∀ l : List UInt8, Lib.cut l [c] = cutB c l := fun l => by
  unfold Lib.cut
  rcases index_one c l with ⟨h1, h2⟩ | ⟨k, h1, h2, h3, h4⟩
  · rw [h1, cutB_none c l h2]; simp
  · rw [h1, cutB_at c l k h3 h4]; simp
end Go.Proofs.YtnaeeklnlddcaaaGreatDoor
/- Routes, as plain functions: places of a pattern, pages by their shapes, which page a path leads to. No program in sight. -/
namespace Go.Proofs.YtnaeeklnlddcaaaGreatDoor.Vex

/-- A place: its kind (0 a literal, 1 a parameter, 2 a rest), and its text, or name. -/
abbrev Plc := Int × List UInt8
def letB (x : UInt8) : Bool := decide (97 ≤ x.toNat) && decide (x.toNat ≤ 122)
def nameB (s : List UInt8) : Bool := !decide (s = []) && s.all letB
/-- One place, of a raw text; whether it is the last one; the text without quotes. -/
def placeOf (s : List UInt8) (last : Bool) (t : List UInt8) : Option Plc :=
  if s.head? = some 42 ∧ nameB (s.drop 1) = true ∧ last = true then some (2, s.drop 1)
  else if s.head? = some 58 ∧ nameB (s.drop 1) = true then some (1, s.drop 1)
  else if s.head? = some 42 ∨ s.head? = some 58 then none
  else some (0, t)
def placesG : List (List UInt8) → List (List UInt8) → Option (List Plc)
  | [], _ => some []
  | s :: r, ts => match placeOf s (decide (r = [])) (ts.headD []) with
    | none => none
    | some p => (placesG r ts.tail).map (p :: ·)
def placesOf (s : List UInt8) : Option (List Plc) := if pathOf s = true ∧ s.length ≤ 4096 then placesG (splitB 47 (s.drop 1)) (segs s) else none
/-- A place as a key: no name. -/
def keyP (p : Plc) : Plc := if p.1 = 0 then p else (p.1, [])
structure Rpg where
  m : List UInt8
  p : List UInt8
deriving DecidableEq
def methodsR : List (List UInt8) := [[71, 69, 84], [80, 79, 83, 84], [80, 85, 84], [68, 69, 76, 69, 84, 69], [79, 80, 84, 73, 79, 78, 83]]
def pgOK (g : Rpg) : Bool := (placesOf g.p).isSome && methodsR.contains g.m
/-- A page's shape and method. -/
def shapeOf (g : Rpg) : List Plc := ((placesOf g.p).getD []).map keyP
def slotOf (g : Rpg) : List Plc × List UInt8 := (shapeOf g, g.m)
def slotsOK : List Rpg → Bool
  | [] => true
  | g :: r => !((r.map slotOf).contains (slotOf g)) && slotsOK r
def grownE (l : List Rpg) : Int := if 32 < l.length then 4 else if l.all pgOK then (if slotsOK l then 0 else 8) else 3
/-- The shapes that segments meet, the ones ahead first. -/
def cands : List (List UInt8) → List (List Plc)
  | [] => [[]]
  | s :: r => (cands r).map ((0, s) :: ·) ++ ((cands r).map ((1, []) :: ·) ++ [[(2, [])]])
/-- The page of a shape and a method: its place in the list. -/
def pageAt (l : List Rpg) (c : List Plc) (m : List UInt8) : Option Nat := (l.map slotOf).findIdx? fun x => decide (x = (c, m))
def anyAt (l : List Rpg) (c : List Plc) : Bool := l.any fun g => decide (shapeOf g = c)
/-- What is found along some shapes: the page (none: -1), and the status. -/
def findC (l : List Rpg) (m : List UInt8) : List (List Plc) → Int → Int × Int
  | [], st => (-1, st)
  | c :: r, st => match pageAt l c m with
    | some i => (i, if anyAt l c then 405 else st)
    | none => findC l m r (if anyAt l c then 405 else st)
def methodG (m : List UInt8) : List UInt8 := if m = [72, 69, 65, 68] then [71, 69, 84] else m
end Go.Proofs.YtnaeeklnlddcaaaGreatDoor.Vex
/- field.Items, reckoned: a range over strings.SplitSeq. -/
namespace Go.Proofs.YtnaeeklnlddcaaaGreatDoor.Vex
open Go Go.RowKit
set_option maxRecDepth 100000
set_option linter.unusedSectionVars false
variable {gI : GI} [HasMax gI]

theorem itemsLeft {l r : List UInt8} {out : List (List UInt8)} (h : out ++ itemsOf r = itemsOf l) : out.length ≤ l.length + 1 := by
  have := items_length l
  rw [← h, List.length_append] at this
  omega
theorem Items_f (l : List UInt8) (hl : l.length ≤ 4000000000) : FnS Tryz.prog gI 134 [str l] [] 9 1 (itemsOf l).length ((itemsOf l).map str) := by
  refine FnE.ofX tys_ok Tryz.func134 rfl (by kernel_rfl) rfl rfl ?_; intro w hG hP
  (conv => whnf); repeat ((first | refine tk1 ?_ | refine tk2 ?_ | refine tk3 ?_ | refine tk12 (fun _ => ?_) | refine tk4 ?_ | refine tk5 ?_ | refine tk6 ?_ | refine tk7 ?_ | refine tk8 ?_ | refine tk9 ?_ | refine tk10 (fun _ _ => ?_) | refine tk11 (fun _ => ?_) | refine tk13 ?_ | refine tk14 ?_); (conv => whnf))
  refine CallK.inl tys_ok Tryz.func38 rfl (by kernel_rfl) rfl rfl ?_
  (conv => whnf); repeat ((first | refine tk1 ?_ | refine tk2 ?_ | refine tk3 ?_ | refine tk12 (fun _ => ?_) | refine tk4 ?_ | refine tk5 ?_ | refine tk6 ?_ | refine tk7 ?_ | refine tk8 ?_ | refine tk9 ?_ | refine tk10 (fun _ _ => ?_) | refine tk11 (fun _ => ?_) | refine tk13 ?_ | refine tk14 ?_); (conv => whnf))
  refine CallK.inl tys_ok Tryz.func69 rfl (by kernel_rfl) rfl rfl ?_
  (conv => whnf); repeat ((first | refine tk1 ?_ | refine tk2 ?_ | refine tk3 ?_ | refine tk12 (fun _ => ?_) | refine tk4 ?_ | refine tk5 ?_ | refine tk6 ?_ | refine tk7 ?_ | refine tk8 ?_ | refine tk9 ?_ | refine tk10 (fun _ _ => ?_) | refine tk11 (fun _ => ?_) | refine tk13 ?_ | refine tk14 ?_); (conv => whnf))
  rename_i bo bs bp bk
  refine RngS.go tys_ok rfl Tryz.func111 rfl (by kernel_rfl) ?_
  intro fno D
  generalize hR : ready fno _ _ _ _ D = R
  have yl : ∀ (p r : List UInt8) (out : List (List UInt8)) (A : Option Addr) (cp : Nat) (K : Value → Hp → Prop), p.length ≤ 4000000000 → out.length ≤ 5000000000 →
      (∀ A' cp', K (.bool true) [.obj (D + 1) (.loop R), .row (.slice A' (out ++ itemOf p).length cp') 9 1 (out ++ itemOf p).length ((out ++ itemOf p).map str), .obj D (.deferred (some [])), .box bk [.int .i64 0] 3, .box bp [str [44]] 9, .box bs [str r] 9, .box bo [.slice A' (out ++ itemOf p).length cp'] 23]) →
      YldK (mkC Tryz.prog gI w hG) (D + 1) [str p] [.obj (D + 1) (.loop R), .row (.slice A out.length cp) 9 1 out.length (out.map str), .obj D (.deferred (some [])), .box bk [.int .i64 0] 3, .box bp [str [44]] 9, .box bs [str r] 9, .box bo [.slice A out.length cp] 23] K := by
    intro p r out A cp K hp hn hk
    subst hR
    refine YldK.run tys_ok .here rfl rfl rfl rfl ?_
    (conv => whnf); repeat ((first | refine tk1 ?_ | refine tk2 ?_ | refine tk3 ?_ | refine tk12 (fun _ => ?_) | refine tk4 ?_ | refine tk5 ?_ | refine tk6 ?_ | refine tk7 ?_ | refine tk8 ?_ | refine tk9 ?_ | refine tk10 (fun _ _ => ?_) | refine tk11 (fun _ => ?_) | refine tk13 ?_ | refine tk14 ?_); (conv => whnf))
    refine ⟨List.Perm.refl _, ?_⟩
    (conv => whnf); repeat ((first | refine tk1 ?_ | refine tk2 ?_ | refine tk3 ?_ | refine tk12 (fun _ => ?_) | refine tk4 ?_ | refine tk5 ?_ | refine tk6 ?_ | refine tk7 ?_ | refine tk8 ?_ | refine tk9 ?_ | refine tk10 (fun _ _ => ?_) | refine tk11 (fun _ => ?_) | refine tk13 ?_ | refine tk14 ?_); (conv => whnf))
    refine CallK.fn (Trim_f p (by omega)) ?_
    (conv => whnf); repeat ((first | refine tk1 ?_ | refine tk2 ?_ | refine tk3 ?_ | refine tk12 (fun _ => ?_) | refine tk4 ?_ | refine tk5 ?_ | refine tk6 ?_ | refine tk7 ?_ | refine tk8 ?_ | refine tk9 ?_ | refine tk10 (fun _ _ => ?_) | refine tk11 (fun _ => ?_) | refine tk13 ?_ | refine tk14 ?_); (conv => whnf))
    refine Cmp.cases (fun h0 => ?_) (fun h0 => ?_)
    · have hi : itemOf p = [trimB p] := by unfold itemOf; rw [if_neg h0]
      rw [hi] at hk
      (conv => whnf); repeat ((first | refine tk1 ?_ | refine tk2 ?_ | refine tk3 ?_ | refine tk12 (fun _ => ?_) | refine tk4 ?_ | refine tk5 ?_ | refine tk6 ?_ | refine tk7 ?_ | refine tk8 ?_ | refine tk9 ?_ | refine tk10 (fun _ _ => ?_) | refine tk11 (fun _ => ?_) | refine tk13 ?_ | refine tk14 ?_); (conv => whnf))
      refine AppS.tc SrcK.tc rfl (by simp [Value.oneCell']) (by decide) (by omega) (by omega) (zs := (out ++ [trimB p]).map str) (by simp) (fun A' cp' => ?_)
      (conv => whnf); repeat ((first | refine tk1 ?_ | refine tk2 ?_ | refine tk3 ?_ | refine tk12 (fun _ => ?_) | refine tk4 ?_ | refine tk5 ?_ | refine tk6 ?_ | refine tk7 ?_ | refine tk8 ?_ | refine tk9 ?_ | refine tk10 (fun _ _ => ?_) | refine tk11 (fun _ => ?_) | refine tk13 ?_ | refine tk14 ?_); (conv => whnf))
      have := hk A' cp'
      rw [List.length_append] at this
      exact ⟨_, _, (by first | exact Pick.here | exact Pick.here.skip | exact Pick.here.skip.skip | exact Pick.here.skip.skip.skip | exact Pick.here.skip.skip.skip.skip | exact Pick.here.skip.skip.skip.skip.skip | exact Pick.here.skip.skip.skip.skip.skip.skip | exact Pick.here.skip.skip.skip.skip.skip.skip.skip | exact Pick.here.skip.skip.skip.skip.skip.skip.skip.skip | exact Pick.here.skip.skip.skip.skip.skip.skip.skip.skip.skip | exact Pick.here.skip.skip.skip.skip.skip.skip.skip.skip.skip.skip | exact Pick.here.skip.skip.skip.skip.skip.skip.skip.skip.skip.skip.skip), (by repeat' (first | exact List.Sublist.refl _ | exact List.nil_sublist _ | apply List.Sublist.cons_cons | apply List.Sublist.cons)), this⟩
    · have hi : itemOf p = [] := by unfold itemOf; rw [if_pos (by simpa using h0)]
      rw [hi] at hk
      (conv => whnf); repeat ((first | refine tk1 ?_ | refine tk2 ?_ | refine tk3 ?_ | refine tk12 (fun _ => ?_) | refine tk4 ?_ | refine tk5 ?_ | refine tk6 ?_ | refine tk7 ?_ | refine tk8 ?_ | refine tk9 ?_ | refine tk10 (fun _ _ => ?_) | refine tk11 (fun _ => ?_) | refine tk13 ?_ | refine tk14 ?_); (conv => whnf))
      have := hk A cp
      rw [List.append_nil] at this
      exact ⟨_, _, (by first | exact Pick.here | exact Pick.here.skip | exact Pick.here.skip.skip | exact Pick.here.skip.skip.skip | exact Pick.here.skip.skip.skip.skip | exact Pick.here.skip.skip.skip.skip.skip | exact Pick.here.skip.skip.skip.skip.skip.skip | exact Pick.here.skip.skip.skip.skip.skip.skip.skip | exact Pick.here.skip.skip.skip.skip.skip.skip.skip.skip | exact Pick.here.skip.skip.skip.skip.skip.skip.skip.skip.skip | exact Pick.here.skip.skip.skip.skip.skip.skip.skip.skip.skip.skip | exact Pick.here.skip.skip.skip.skip.skip.skip.skip.skip.skip.skip.skip), (by repeat' (first | exact List.Sublist.refl _ | exact List.nil_sublist _ | apply List.Sublist.cons_cons | apply List.Sublist.cons)), this⟩
  (conv => whnf); repeat ((first | refine tk1 ?_ | refine tk2 ?_ | refine tk3 ?_ | refine tk12 (fun _ => ?_) | refine tk4 ?_ | refine tk5 ?_ | refine tk6 ?_ | refine tk7 ?_ | refine tk8 ?_ | refine tk9 ?_ | refine tk10 (fun _ _ => ?_) | refine tk11 (fun _ => ?_) | refine tk13 ?_ | refine tk14 ?_); (conv => whnf))
  refine LoopS.nilRow 9 1 (LoopS.perm (List.Perm.swap ..) ?_)
  refine LoopS.lp tys_ok (fun (x : List UInt8 × List (List UInt8) × Option Addr × Nat) u => [.func (.yield (D + 1)) ⟨[]⟩ ⟨[]⟩, .pointer (some ⟨bp, 0, none⟩), .pointer (some ⟨bs, 0, none⟩), .pointer (some ⟨bk, 0, none⟩), u 4, u 5, u 6, u 7, u 8, u 9, u 10, u 11, u 12, u 13, u 14, u 15, u 16, u 17, u 18, u 19, u 20, u 21, u 22, u 23, u 24, u 25, u 26, u 27, u 28, u 29, u 30, u 31, u 32, u 33, u 34, u 35, u 36, u 37, u 38, u 39, u 40, u 41, u 42, u 43, u 44, u 45, u 46, u 47, u 48, u 49, u 50, u 51])
    (fun x => [.obj (D + 1) (.loop R), .row (.slice x.2.2.1 x.2.1.length x.2.2.2) 9 1 x.2.1.length (x.2.1.map str), .obj D (.deferred (some [])), .box bk [.int .i64 0] 3, .box bp [str [44]] 9, .box bs [str x.1] 9, .box bo [.slice x.2.2.1 x.2.1.length x.2.2.2] 23])
    (fun x => x.2.1 ++ itemsOf x.1 = itemsOf l ∧ x.1.length ≤ l.length) (fun x => x.1.length) (l, [], none, 0) ⟨rfl, Nat.le_refl _⟩ rfl (by repeat' (first | exact List.Sublist.refl _ | exact List.nil_sublist _ | apply List.Sublist.cons_cons | apply List.Sublist.cons)) ?_
  rintro ⟨r, out, A, cp⟩ u ⟨hI, hz⟩
  dsimp only at hI hz ⊢
  have hn := itemsLeft hI
  (conv => whnf); repeat ((first | refine tk1 ?_ | refine tk2 ?_ | refine tk3 ?_ | refine tk12 (fun _ => ?_) | refine tk4 ?_ | refine tk5 ?_ | refine tk6 ?_ | refine tk7 ?_ | refine tk8 ?_ | refine tk9 ?_ | refine tk10 (fun _ _ => ?_) | refine tk11 (fun _ => ?_) | refine tk13 ?_ | refine tk14 ?_); (conv => whnf))
  refine CallK.fn (Index_f r [44] (by omega)) ?_
  rcases index_one 44 r with ⟨h1, h2⟩ | ⟨k, h1, h2, h3, h4⟩
  · rw [h1]
    (conv => whnf); repeat ((first | refine tk1 ?_ | refine tk2 ?_ | refine tk3 ?_ | refine tk12 (fun _ => ?_) | refine tk4 ?_ | refine tk5 ?_ | refine tk6 ?_ | refine tk7 ?_ | refine tk8 ?_ | refine tk9 ?_ | refine tk10 (fun _ _ => ?_) | refine tk11 (fun _ => ?_) | refine tk13 ?_ | refine tk14 ?_); (conv => whnf))
    refine yl r r out A cp _ (by omega) (by omega) (fun A' cp' => ?_)
    have hf : out ++ itemOf r = itemsOf l := by rw [← hI, items_none r h2]
    rw [hf]
    (conv => whnf); repeat ((first | refine tk1 ?_ | refine tk2 ?_ | refine tk3 ?_ | refine tk12 (fun _ => ?_) | refine tk4 ?_ | refine tk5 ?_ | refine tk6 ?_ | refine tk7 ?_ | refine tk8 ?_ | refine tk9 ?_ | refine tk10 (fun _ _ => ?_) | refine tk11 (fun _ => ?_) | refine tk13 ?_ | refine tk14 ?_); (conv => whnf))
    refine ⟨_, _, .here, ?_, ?_, ?_⟩
    · rw [← hR]; rfl
    · rw [← hR]; rfl
    (conv => whnf); repeat ((first | refine tk1 ?_ | refine tk2 ?_ | refine tk3 ?_ | refine tk12 (fun _ => ?_) | refine tk4 ?_ | refine tk5 ?_ | refine tk6 ?_ | refine tk7 ?_ | refine tk8 ?_ | refine tk9 ?_ | refine tk10 (fun _ _ => ?_) | refine tk11 (fun _ => ?_) | refine tk13 ?_ | refine tk14 ?_); (conv => whnf))
    refine ⟨_, _, rfl, (by first | exact Pick.here | exact Pick.here.skip | exact Pick.here.skip.skip | exact Pick.here.skip.skip.skip | exact Pick.here.skip.skip.skip.skip | exact Pick.here.skip.skip.skip.skip.skip | exact Pick.here.skip.skip.skip.skip.skip.skip | exact Pick.here.skip.skip.skip.skip.skip.skip.skip | exact Pick.here.skip.skip.skip.skip.skip.skip.skip.skip | exact Pick.here.skip.skip.skip.skip.skip.skip.skip.skip.skip | exact Pick.here.skip.skip.skip.skip.skip.skip.skip.skip.skip.skip | exact Pick.here.skip.skip.skip.skip.skip.skip.skip.skip.skip.skip.skip), ?_⟩
    (conv => whnf); repeat ((first | refine tk1 ?_ | refine tk2 ?_ | refine tk3 ?_ | refine tk12 (fun _ => ?_) | refine tk4 ?_ | refine tk5 ?_ | refine tk6 ?_ | refine tk7 ?_ | refine tk8 ?_ | refine tk9 ?_ | refine tk10 (fun _ _ => ?_) | refine tk11 (fun _ => ?_) | refine tk13 ?_ | refine tk14 ?_); (conv => whnf))
    exact rowPost.of (by simp)
  · rw [h1]
    have hs : (r.take ((k : Int) + 0).toNat).drop 0 = r.take k := by simp
    (conv => whnf); repeat ((first | refine tk1 ?_ | refine tk2 ?_ | refine tk3 ?_ | refine tk12 (fun _ => ?_) | refine tk4 ?_ | refine tk5 ?_ | refine tk6 ?_ | refine tk7 ?_ | refine tk8 ?_ | refine tk9 ?_ | refine tk10 (fun _ _ => ?_) | refine tk11 (fun _ => ?_) | refine tk13 ?_ | refine tk14 ?_); (conv => whnf))
    refine SlcS.at (by omega) (by omega) (by omega) ?_
    (conv => whnf); repeat ((first | refine tk1 ?_ | refine tk2 ?_ | refine tk3 ?_ | refine tk12 (fun _ => ?_) | refine tk4 ?_ | refine tk5 ?_ | refine tk6 ?_ | refine tk7 ?_ | refine tk8 ?_ | refine tk9 ?_ | refine tk10 (fun _ _ => ?_) | refine tk11 (fun _ => ?_) | refine tk13 ?_ | refine tk14 ?_); (conv => whnf))
    rw [show (List.take ((k : Int) + 0).toNat r).drop (0 : Int).toNat = r.take k by simp]
    refine yl (r.take k) r out A cp _ (by rw [List.length_take]; omega) (by omega) (fun A' cp' => ?_)
    (conv => whnf); repeat ((first | refine tk1 ?_ | refine tk2 ?_ | refine tk3 ?_ | refine tk12 (fun _ => ?_) | refine tk4 ?_ | refine tk5 ?_ | refine tk6 ?_ | refine tk7 ?_ | refine tk8 ?_ | refine tk9 ?_ | refine tk10 (fun _ _ => ?_) | refine tk11 (fun _ => ?_) | refine tk13 ?_ | refine tk14 ?_); (conv => whnf))
    refine slc ?_
    (conv => whnf); repeat ((first | refine tk1 ?_ | refine tk2 ?_ | refine tk3 ?_ | refine tk12 (fun _ => ?_) | refine tk4 ?_ | refine tk5 ?_ | refine tk6 ?_ | refine tk7 ?_ | refine tk8 ?_ | refine tk9 ?_ | refine tk10 (fun _ _ => ?_) | refine tk11 (fun _ => ?_) | refine tk13 ?_ | refine tk14 ?_); (conv => whnf))
    refine ⟨(r.drop (k + 1), out ++ itemOf (r.take k), A', cp'), ⟨?_, by dsimp only; rw [List.length_drop]; omega⟩, rfl, ?_, by dsimp only; rw [List.length_drop]; omega⟩
    · dsimp only
      rw [List.append_assoc, ← items_at r k h3 h4, hI]
    · dsimp only
      rw [show (List.take (r.length : Int).toNat r).drop ((k : Int) + (([44] : List UInt8).length : Nat)).toNat = r.drop (k + 1) by rw [Int.toNat_natCast, List.take_length]; congr 1]
      exact List.Sublist.refl _
end Go.Proofs.YtnaeeklnlddcaaaGreatDoor.Vex
/- What vary tells, as byte lists. No program in sight. -/
namespace Go.Proofs.YtnaeeklnlddcaaaGreatDoor

/-- Is a text one of some, in small letters? -/
def inS (l : List (List UInt8)) (s : List UInt8) : Bool := l.any fun x => smallOf x == smallOf s
def namesOf (v n : List UInt8) : Bool := (itemsOf v).any fun s => smallOf s == [42] || smallOf s == smallOf n
/-- Each text once, in small letters, in the order of their coming. -/
def dedup : List (List UInt8) → List (List UInt8) → List (List UInt8)
  | out, [] => out
  | out, s :: r => dedup (if inS out s then out else out ++ [s]) r
def allV (values : List (List UInt8)) (name : List UInt8) : List (List UInt8) := values.flatMap itemsOf ++ [name]
def mergeOK (values : List (List UInt8)) (name : List UInt8) : Bool := (allV values name).all tokenOf
def mergeO (values : List (List UInt8)) (name : List UInt8) : List (List UInt8) := dedup [] (allV values name)
def mergeS (values : List (List UInt8)) (name : List UInt8) : List UInt8 :=
  if mergeOK values name then (if inS (mergeO values name) [42] then [42] else Lib.join (mergeO values name) [44, 32]) else []
def mergeE (values : List (List UInt8)) (name : List UInt8) : Int := if mergeOK values name then 0 else 3
theorem small_star : smallOf [42] = [42] := by decide
theorem small_eq_star {s : List UInt8} : smallOf s = [42] ↔ s = [42] := by
  constructor
  · intro h
    have hl : s.length = 1 := by rw [← smallOf_length s, h]; rfl
    match s, hl with
    | [x], _ =>
      have h1 : lowB x = 42 := by simpa [smallOf] using h
      have h2 : ∀ n : Fin 256, lowB n.val.toUInt8 = 42 → n.val.toUInt8 = 42 := by decide +kernel
      have h3 := h2 ⟨x.toNat, x.toNat_lt⟩
      simp at h3
      rw [h3 h1]
  · rintro rfl; decide
theorem names_in (v n : List UInt8) : namesOf v n = (inS (itemsOf v) [42] || inS (itemsOf v) n) := by
  unfold namesOf inS
  rw [small_star]
  induction itemsOf v with
  | nil => rfl
  | cons x r ih => simp only [List.any_cons, ih]; cases smallOf x == [42] <;> cases smallOf x == smallOf n <;> simp
/-- Items of values that are put behind one another. -/
theorem join_cons (x y : List UInt8) (r : List (List UInt8)) (sep : List UInt8) : Lib.join (x :: y :: r) sep = x ++ sep ++ Lib.join (y :: r) sep := by
  simp [Lib.join, List.intercalate]
theorem items_of_join : ∀ values : List (List UInt8), itemsOf (Lib.join values [44]) = values.flatMap itemsOf
  | [] => by decide
  | [x] => by simp [Lib.join_one]
  | x :: y :: r => by
    rw [join_cons, List.flatMap_cons, ← items_of_join (y :: r), List.append_assoc]
    exact items_join x _
theorem join_length : ∀ (values : List (List UInt8)) (sep : List UInt8), (Lib.join values sep).length ≤ (values.map fun v => v.length + sep.length).sum
  | [], sep => by simp [Lib.join, List.intercalate]
  | [x], sep => by simp [Lib.join_one]
  | x :: y :: r, sep => by
    have := join_length (y :: r) sep
    rw [join_cons, List.map_cons, List.sum_cons, List.length_append, List.length_append]
    omega
theorem dedup_length : ∀ (l out : List (List UInt8)), (dedup out l).length ≤ out.length + l.length
  | [], out => by simp [dedup]
  | s :: r, out => by
    cases h : inS out s with
    | true =>
      have := dedup_length r out
      simp only [dedup, h, if_true, List.length_cons]
      omega
    | false =>
      have := dedup_length r (out ++ [s])
      simp only [List.length_append, List.length_singleton] at this
      simp only [dedup, h, Bool.false_eq_true, if_false, List.length_cons]
      omega
theorem dedup_mem : ∀ (l out : List (List UInt8)) (x : List UInt8), x ∈ dedup out l → x ∈ out ∨ x ∈ l
  | [], out, x, h => .inl h
  | s :: r, out, x, h => by
    unfold dedup at h
    rcases dedup_mem r _ x h with h | h
    · split at h
      · exact .inl h
      · rcases List.mem_append.1 h with h | h
        · exact .inl h
        · rw [List.mem_singleton] at h
          exact .inr (by rw [h]; exact List.mem_cons_self ..)
    · exact .inr (List.mem_cons_of_mem _ h)
theorem inS_append (a b : List (List UInt8)) (s : List UInt8) : inS (a ++ b) s = (inS a s || inS b s) := by simp [inS]
/-- What is put together names all that was named. -/
theorem inS_dedup (s : List UInt8) : ∀ (l out : List (List UInt8)), inS (dedup out l) s = (inS out s || inS l s)
  | [], out => by simp [dedup, inS]
  | x :: r, out => by
    have ih := inS_dedup s r (if inS out x then out else out ++ [x])
    unfold dedup
    rw [ih]
    have hc : inS (x :: r) s = (smallOf x == smallOf s || inS r s) := by simp [inS]
    rw [hc]
    split
    · rename_i h
      cases hx : smallOf x == smallOf s with
      | false => simp
      | true =>
        have hx : smallOf x = smallOf s := by simpa using hx
        have : inS out s = true := by unfold inS at h ⊢; rw [← hx]; exact h
        simp [this]
    · rw [inS_append]
      simp [inS, Bool.or_assoc]
end Go.Proofs.YtnaeeklnlddcaaaGreatDoor
/- Library functions on lists of texts and of fields, and the references' ones, reckoned. -/
namespace Go.Proofs.YtnaeeklnlddcaaaGreatDoor.Vex
open Go Go.RowKit
set_option maxRecDepth 100000
set_option linter.unusedSectionVars false
variable {gI : GI} [HasMax gI]

theorem rdw_addr {w : World} {A : Option Addr} {x : Value} {xs : List Value} (h : Rdw w A (x :: xs)) : ∃ b o, A = some ⟨b, o, none⟩ ∧ b < w.heap.size := by
  obtain ⟨a, ha, hc⟩ := h 0 x rfl
  obtain ⟨b, o, sp⟩ := a
  have hs : sp = none := by
    cases sp with
    | none => rfl
    | some s =>
      exfalso
      have : (⟨b, o, some s⟩ : Addr).add 0 = ⟨b, o, some s⟩ ∨ ((⟨b, o, some s⟩ : Addr).add 0).spot.isSome = true := by
        right; unfold Addr.add; split <;> simp_all
      unfold World.cell? at hc
      rcases this with h | h <;> simp [h] at hc <;> split at hc <;> simp_all
  subst hs
  refine ⟨b, o, ha, ?_⟩
  have := World.block_lt_of_cell? _ _ hc
  rwa [add_block] at this
theorem Join_f (A : Option Addr) (cp : Nat) (xs : List (List UInt8)) (sep : List UInt8) (hn : xs.length ≤ 1000000000000) (hl : (Lib.join xs sep).length ≤ 140737488355328) :
    FnE Tryz.prog gI 67 [.slice A xs.length cp, str sep] (fun w => Rdw w A (xs.map str) ∧ xs.length ≤ cp) (fun _ v _ => v = str (Lib.join xs sep)) :=
  ⟨callable Tryz.func67 rfl (by kernel_rfl), fun w _ ⟨hr, hc⟩ => by
    cases xs with
    | nil => exact (Tryz.strings_Join_none A cp ⟨⟨sep⟩⟩ w).mono fun e w' ⟨he, hw⟩ => ⟨_, he, rfl, by rw [hw]; exact R.refl _⟩
    | cons x r =>
      obtain ⟨b, o, rfl, hb⟩ := rdw_addr hr
      have hm : ((x :: r).map fun l => (⟨⟨l⟩⟩ : ByteArray)).map (·.data.toList) = x :: r := by
        rw [List.map_map]
        exact List.map_id _
      have h := Tryz.strings_Join b o cp ((x :: r).map fun l => ⟨⟨l⟩⟩) ⟨⟨sep⟩⟩ w (fun j y hj => by
        rw [List.getElem?_map] at hj
        cases hx : (x :: r)[j]? with
        | none => rw [hx] at hj; cases hj
        | some l =>
          rw [hx] at hj
          cases hj
          obtain ⟨a, ha, hcell⟩ := hr j (str l) (by rw [List.getElem?_map, hx]; rfl)
          cases ha
          rw [Addr.add_lit] at hcell
          exact hcell) hb (by rw [List.length_map]; omega) (by rw [List.length_map]; exact hc) (by rw [hm]; exact hl)
      rw [List.length_map, hm] at h
      exact h.mono fun e w' ⟨he, hw⟩ => ⟨_, he, rfl, hw⟩⟩
end Go.Proofs.YtnaeeklnlddcaaaGreatDoor.Vex
/- Numbers to the base of 16, reckoned: strconv.ParseUint at the base 16; library functions on texts. -/
namespace Go.Proofs.YtnaeeklnlddcaaaGreatDoor.Vex
open Go Go.RowKit
set_option maxRecDepth 100000
set_option linter.unusedSectionVars false
variable {gI : GI} [HasMax gI]

theorem idx_in (c : UInt8) : ∀ l : List UInt8, (0 ≤ Lib.indexByte l c) ↔ c ∈ l
  | [] => by simp [Lib.indexByte]
  | x :: r => by
    have ih := idx_in c r
    have hg := Lib.indexByte_ge r c
    unfold Lib.indexByte
    by_cases h : x = c
    · simp [h]
    · have h1 : (x == c) = false := by simpa using h
      rw [h1]
      simp only [Bool.false_eq_true, if_false, List.mem_cons]
      have h2 : ¬ c = x := fun e => h e.symm
      simp only [h2, false_or, ← ih]
      by_cases h3 : Lib.indexByte r c = -1
      · simp [h3]
      · have : (Lib.indexByte r c == -1) = false := by simpa using h3
        rw [this]
        simp only [Bool.false_eq_true, if_false]
        omega
theorem HasPrefix_f (s p : List UInt8) : Fn Tryz.prog gI 65 [str s, str p] (.bool (Lib.hasPrefix s p)) :=
  ⟨callable Tryz.func65 rfl (by kernel_rfl), fun w _ => (Tryz.strings_HasPrefix ⟨⟨s⟩⟩ ⟨⟨p⟩⟩ w).mono fun _ _ ⟨he, hw⟩ => ⟨he, by rw [hw]; exact R.refl _⟩⟩
theorem CutPrefix_f (s p : List UInt8) : Fn Tryz.prog gI 86 [str s, str p] (.tuple #[str (Lib.trimPrefix s p), .bool (Lib.hasPrefix s p)]) :=
  ⟨callable Tryz.func86 rfl (by kernel_rfl), fun w _ => (Tryz.strings_CutPrefix ⟨⟨s⟩⟩ ⟨⟨p⟩⟩ w).mono fun _ _ ⟨he, hw⟩ => ⟨he, by rw [hw]; exact R.refl _⟩⟩
theorem mem_bytes (l : List (List UInt8)) (x : List UInt8) : (⟨⟨x⟩⟩ : ByteArray) ∈ l.map (fun y => (⟨⟨y⟩⟩ : ByteArray)) ↔ x ∈ l := by
  constructor
  · intro h
    obtain ⟨y, hy, e⟩ := List.mem_map.1 h
    cases e
    exact hy
  · exact fun h => List.mem_map.2 ⟨x, h, rfl⟩
theorem Contains_f (A : Option Addr) (cp : Nat) (l : List (List UInt8)) (x : List UInt8) (hl : l.length ≤ 1000000000) : FnR Tryz.prog gI 33 [.slice A l.length cp, str x] [(A, l.map str)] (.bool (l.contains x)) :=
  ⟨callable Tryz.func33 rfl (by kernel_rfl), fun w _ ⟨hr, _⟩ => by
    cases l with
    | nil => exact (Tryz.slices_Contains_string_empty A cp ⟨⟨x⟩⟩ w).mono fun e w' ⟨he, hw⟩ => ⟨_, he, by simp, by rw [hw]; exact R.refl _⟩
    | cons y r =>
      obtain ⟨b, o, rfl, hb⟩ := rdw_addr hr
      have h := Tryz.slices_Contains_string b o (y :: r).length cp ((y :: r).map fun l => ⟨⟨l⟩⟩) ⟨⟨x⟩⟩ w (by rw [List.length_map]; exact Nat.le_refl _) (by omega) (fun j hj => by
        rw [List.length_map] at hj
        obtain ⟨a, ha, hcell⟩ := hr j (str (y :: r)[j]) (by rw [List.getElem?_map, List.getElem?_eq_getElem hj]; rfl)
        cases ha
        rw [Addr.add_lit] at hcell
        rw [hcell, List.getD_eq_getElem?_getD, List.getElem?_map, List.getElem?_eq_getElem hj]
        rfl)
      refine h.mono fun e w' ⟨he, hw⟩ => ⟨_, he, ?_, by rw [hw]; exact R.refl _⟩
      congr 1
      rw [Bool.eq_iff_iff, Lib.containsS_iff, List.take_of_length_le (by rw [List.length_map]; exact Nat.le_refl _), mem_bytes, List.contains_iff_mem]⟩
/-! ## To the base of 16 -/
def lwI (x : UInt8) : Int := bits .or .u8 x.toNat 32
theorem lw_facts (x : UInt8) : (48 ≤ x.toNat ∧ x.toNat ≤ 57 ∧ digI x.toNat = x.toNat - 48) ∨ (¬ (48 ≤ x.toNat ∧ x.toNat ≤ 57) ∧ ((97 ≤ lwI x ∧ lwI x ≤ 122 ∧ (digI x.toNat = lwI x - 87 ∧ lwI x ≤ 102 ∨ digI x.toNat = -1 ∧ 102 < lwI x)) ∨ (¬ (97 ≤ lwI x ∧ lwI x ≤ 122) ∧ digI x.toNat = -1))) := by
  have : ∀ n : Fin 256, (48 ≤ n.val ∧ n.val ≤ 57 ∧ digI n.val = n.val - 48) ∨ (¬ (48 ≤ n.val ∧ n.val ≤ 57) ∧ ((97 ≤ bits .or .u8 n.val 32 ∧ bits .or .u8 n.val 32 ≤ 122 ∧ (digI n.val = bits .or .u8 n.val 32 - 87 ∧ bits .or .u8 n.val 32 ≤ 102 ∨ digI n.val = -1 ∧ 102 < bits .or .u8 n.val 32)) ∨ (¬ (97 ≤ bits .or .u8 n.val 32 ∧ bits .or .u8 n.val 32 ≤ 122) ∧ digI n.val = -1))) := by decide +kernel
  exact this ⟨x.toNat, x.toNat_lt⟩
theorem lw_95 (x : UInt8) (h : x.toNat = 95) : digI x.toNat = -1 := by rw [h]; decide
theorem lower_f (x : UInt8) : Fn Tryz.prog gI 186 [.int .u8 x.toNat] (.int .u8 (lwI x)) :=
  ⟨callable Tryz.func186 rfl (by kernel_rfl), fun w _ => (Tryz.internal_strconv_lower x.toNat w).mono fun _ _ ⟨he, hw⟩ => ⟨he, by rw [hw]; exact R.refl _⟩⟩
/-- The value and the error's number: 0 none, 1 out of range, 2 no number. -/
def puGo (mx : Int) : Int → List UInt8 → Int × Int
  | n, [] => (n, 0)
  | n, x :: r => if digI x.toNat < 0 then (0, 2) else if 1152921504606846976 ≤ n then (mx, 1) else if mx < n * 16 + digI x.toNat then (mx, 1) else puGo mx (n * 16 + digI x.toNat) r
def puV (mx : Int) (l : List UInt8) : Int × Int := if l = [] then (0, 2) else puGo mx 0 l
def errV (k : Int) : Value := if k = 0 then .nilIface else .iface 239 (.int .i64 k)
theorem puGo_err (mx : Int) : ∀ (l : List UInt8) (n : Int), (puGo mx n l).2 = 0 ∨ (puGo mx n l).2 = 1 ∨ (puGo mx n l).2 = 2
  | [], n => .inl rfl
  | x :: r, n => by
    unfold puGo
    split
    · exact .inr (.inr rfl)
    · split
      · exact .inr (.inl rfl)
      · split
        · exact .inr (.inl rfl)
        · exact puGo_err mx r _
theorem Parse16_f [HasErr gI] (l : List UInt8) (bs mx : Int) (hb : bs = 8 ∧ mx = 255 ∨ bs = 64 ∧ mx = 18446744073709551615) (hl : l.length ≤ 1000000000) :
    Fn Tryz.prog gI 154 [str l, .int .i64 16, .int .i64 bs] (.tuple #[.int .u64 (puV mx l).1, errV (puV mx l).2]) := by
  refine Fn.of tys_ok Tryz.func154 rfl (by kernel_rfl) rfl rfl ?_; intro w hG
  (conv => whnf); repeat ((first | refine tk1 ?_ | refine tk2 ?_ | refine tk3 ?_ | refine tk12 (fun _ => ?_) | refine tk4 ?_ | refine tk5 ?_ | refine tk6 ?_ | refine tk7 ?_ | refine tk8 ?_ | refine tk9 ?_ | refine tk10 (fun _ _ => ?_) | refine tk11 (fun _ => ?_) | refine tk13 ?_ | refine tk14 ?_); (conv => whnf))
  refine Cmp.cases (fun h0 => ?_) (fun h0 => ?_)
  · (conv => whnf); repeat ((first | refine tk1 ?_ | refine tk2 ?_ | refine tk3 ?_ | refine tk12 (fun _ => ?_) | refine tk4 ?_ | refine tk5 ?_ | refine tk6 ?_ | refine tk7 ?_ | refine tk8 ?_ | refine tk9 ?_ | refine tk10 (fun _ _ => ?_) | refine tk11 (fun _ => ?_) | refine tk13 ?_ | refine tk14 ?_); (conv => whnf))
    refine OthP.mkI tys_ok rfl rfl ?_
    (conv => whnf); repeat ((first | refine tk1 ?_ | refine tk2 ?_ | refine tk3 ?_ | refine tk12 (fun _ => ?_) | refine tk4 ?_ | refine tk5 ?_ | refine tk6 ?_ | refine tk7 ?_ | refine tk8 ?_ | refine tk9 ?_ | refine tk10 (fun _ _ => ?_) | refine tk11 (fun _ => ?_) | refine tk13 ?_ | refine tk14 ?_); (conv => whnf))
    simp [puV, h0, errV]
  · have hpv : puV mx l = puGo mx 0 l := by unfold puV; rw [if_neg h0]
    have h255 : 255 ≤ mx := by omega
    (conv => whnf); repeat ((first | refine tk1 ?_ | refine tk2 ?_ | refine tk3 ?_ | refine tk12 (fun _ => ?_) | refine tk4 ?_ | refine tk5 ?_ | refine tk6 ?_ | refine tk7 ?_ | refine tk8 ?_ | refine tk9 ?_ | refine tk10 (fun _ _ => ?_) | refine tk11 (fun _ => ?_) | refine tk13 ?_ | refine tk14 ?_); (conv => whnf))
    refine Ar.any ?_
    rw [show IntKind.u64.wrap bs = bs by rcases hb with ⟨rfl, _⟩ | ⟨rfl, _⟩ <;> rfl]
    (conv => whnf); repeat ((first | refine tk1 ?_ | refine tk2 ?_ | refine tk3 ?_ | refine tk12 (fun _ => ?_) | refine tk4 ?_ | refine tk5 ?_ | refine tk6 ?_ | refine tk7 ?_ | refine tk8 ?_ | refine tk9 ?_ | refine tk10 (fun _ _ => ?_) | refine tk11 (fun _ => ?_) | refine tk13 ?_ | refine tk14 ?_); (conv => whnf))
    refine OthP.ints rfl rfl (v := .int .u64 (if bs = 8 then 256 else 0)) (fun w => by rcases hb with ⟨rfl, _⟩ | ⟨rfl, _⟩ <;> rfl) ?_
    (conv => whnf); repeat ((first | refine tk1 ?_ | refine tk2 ?_ | refine tk3 ?_ | refine tk12 (fun _ => ?_) | refine tk4 ?_ | refine tk5 ?_ | refine tk6 ?_ | refine tk7 ?_ | refine tk8 ?_ | refine tk9 ?_ | refine tk10 (fun _ _ => ?_) | refine tk11 (fun _ => ?_) | refine tk13 ?_ | refine tk14 ?_); (conv => whnf))
    refine Ar.any ?_
    rw [show IntKind.u64.wrap ((if bs = 8 then 256 else 0) - 1) = mx by rcases hb with ⟨rfl, rfl⟩ | ⟨rfl, rfl⟩ <;> rfl]
    (conv => whnf); repeat ((first | refine tk1 ?_ | refine tk2 ?_ | refine tk3 ?_ | refine tk12 (fun _ => ?_) | refine tk4 ?_ | refine tk5 ?_ | refine tk6 ?_ | refine tk7 ?_ | refine tk8 ?_ | refine tk9 ?_ | refine tk10 (fun _ _ => ?_) | refine tk11 (fun _ => ?_) | refine tk13 ?_ | refine tk14 ?_); (conv => whnf))
    rename_i b cp
    refine LoopS.lp tys_ok (fun (x : Nat × Int) u => [u 0, .int .i64 16, u 2, u 3, u 4, u 5, u 6, u 7, .bool false, str l, .int .u64 1152921504606846976, .int .u64 mx, .bool false, .int .u64 x.2, u 14, u 15, u 16, u 17, u 18, u 19, u 20, u 21, u 22, u 23, u 24, u 25, u 26, u 27, u 28, u 29, u 30, u 31, u 32, u 33, u 34, u 35, u 36, u 37, u 38, u 39, u 40, u 41, u 42, u 43, u 44, u 45, u 46, u 47, u 48, u 49, u 50, u 51, u 52, u 53, u 54, u 55, u 56, u 57, u 58, u 59, u 60, u 61, u 62, u 63, u 64, u 65, u 66, u 67, u 68, u 69, u 70, u 71, u 72, u 73, u 74, u 75, u 76, u 77, u 78, u 79, u 80, u 81, u 82, u 83, u 84, u 85, u 86, u 87, u 88, u 89, u 90, u 91, u 92, u 93, u 94, u 95, u 96, u 97, u 98, .slice (some ⟨b, 0, none⟩) l.length cp, .int .i64 l.length, .int .i64 (x.1 : Nat), u 102, u 103, u 104, u 105, u 106, u 107, u 108, u 109, u 110, u 111, u 112, u 113, u 114, u 115, u 116, u 117, u 118, u 119, u 120, u 121, u 122, u 123, u 124, u 125, u 126, u 127, u 128, u 129, u 130, u 131, u 132, u 133, u 134, u 135, u 136, u 137, u 138, u 139, u 140, u 141, u 142, u 143, u 144, u 145, u 146, u 147, u 148, u 149, u 150, u 151, u 152, u 153, u 154, u 155, u 156, u 157, u 158, u 159, u 160, u 161, u 162, u 163, u 164, u 165, u 166, u 167, u 168, u 169, u 170, u 171])
      (fun _ => [.row (.slice (some ⟨b, 0, none⟩) l.length cp) 5 1 l.length (l.map byteV)])
      (fun x => x.1 ≤ l.length ∧ 0 ≤ x.2 ∧ x.2 ≤ mx ∧ puGo mx 0 l = puGo mx x.2 (l.drop x.1)) (fun x => l.length - x.1) (0, 0) ⟨Nat.zero_le _, Int.le_refl _, by dsimp only; omega, rfl⟩ rfl (by repeat' (first | exact List.Sublist.refl _ | exact List.nil_sublist _ | apply List.Sublist.cons_cons | apply List.Sublist.cons)) ?_
    rintro ⟨k, n⟩ u ⟨hk, hn0, hnm, hI⟩
    dsimp only at hk hn0 hnm hI ⊢
    (conv => whnf); repeat ((first | refine tk1 ?_ | refine tk2 ?_ | refine tk3 ?_ | refine tk12 (fun _ => ?_) | refine tk4 ?_ | refine tk5 ?_ | refine tk6 ?_ | refine tk7 ?_ | refine tk8 ?_ | refine tk9 ?_ | refine tk10 (fun _ _ => ?_) | refine tk11 (fun _ => ?_) | refine tk13 ?_ | refine tk14 ?_); (conv => whnf))
    refine Cmp.cases (fun hlt => ?_) (fun hlt => ?_)
    · have hlt' : k < l.length := by omega
      obtain ⟨x, hx⟩ : ∃ x, l[k] = x := ⟨_, rfl⟩
      have hd : l.drop k = x :: l.drop (k + 1) := by rw [← hx]; exact List.drop_eq_getElem_cons hlt'
      have hlw := lw_facts x
      have hxt := x.toNat_lt
      rw [hd, puGo] at hI
      have bad : digI x.toNat = -1 → puV mx l = (0, 2) := fun h => by rw [hpv, hI, if_pos (by omega)]
      (conv => whnf); repeat ((first | refine tk1 ?_ | refine tk2 ?_ | refine tk3 ?_ | refine tk12 (fun _ => ?_) | refine tk4 ?_ | refine tk5 ?_ | refine tk6 ?_ | refine tk7 ?_ | refine tk8 ?_ | refine tk9 ?_ | refine tk10 (fun _ _ => ?_) | refine tk11 (fun _ => ?_) | refine tk13 ?_ | refine tk14 ?_); (conv => whnf))
      refine IdxA.tc (by simp; omega) (by omega) (by omega) ?_
      (conv => whnf); repeat ((first | refine tk1 ?_ | refine tk2 ?_ | refine tk3 ?_ | refine tk12 (fun _ => ?_) | refine tk4 ?_ | refine tk5 ?_ | refine tk6 ?_ | refine tk7 ?_ | refine tk8 ?_ | refine tk9 ?_ | refine tk10 (fun _ _ => ?_) | refine tk11 (fun _ => ?_) | refine tk13 ?_ | refine tk14 ?_); (conv => whnf))
      refine Ld.ta (v := .int .u8 x.toNat) (by simp [hlt', hx, byteV]) ?_
      (conv => whnf); repeat ((first | refine tk1 ?_ | refine tk2 ?_ | refine tk3 ?_ | refine tk12 (fun _ => ?_) | refine tk4 ?_ | refine tk5 ?_ | refine tk6 ?_ | refine tk7 ?_ | refine tk8 ?_ | refine tk9 ?_ | refine tk10 (fun _ _ => ?_) | refine tk11 (fun _ => ?_) | refine tk13 ?_ | refine tk14 ?_); (conv => whnf))
      refine Cmp.cases (fun h95 => ?_) (fun h95 => ?_)
      · have hbad := bad (lw_95 x (by omega))
        have h5 : lwI x = 127 := by unfold lwI; rw [show x.toNat = 95 by omega]; rfl
        (conv => whnf); repeat ((first | refine tk1 ?_ | refine tk2 ?_ | refine tk3 ?_ | refine tk12 (fun _ => ?_) | refine tk4 ?_ | refine tk5 ?_ | refine tk6 ?_ | refine tk7 ?_ | refine tk8 ?_ | refine tk9 ?_ | refine tk10 (fun _ _ => ?_) | refine tk11 (fun _ => ?_) | refine tk13 ?_ | refine tk14 ?_); (conv => whnf))
        refine CallK.fn (lower_f x) ?_
        (conv => whnf); repeat ((first | refine tk1 ?_ | refine tk2 ?_ | refine tk3 ?_ | refine tk12 (fun _ => ?_) | refine tk4 ?_ | refine tk5 ?_ | refine tk6 ?_ | refine tk7 ?_ | refine tk8 ?_ | refine tk9 ?_ | refine tk10 (fun _ _ => ?_) | refine tk11 (fun _ => ?_) | refine tk13 ?_ | refine tk14 ?_); (conv => whnf))
        refine CallK.fn (lower_f x) ?_
        (conv => whnf); repeat ((first | refine tk1 ?_ | refine tk2 ?_ | refine tk3 ?_ | refine tk12 (fun _ => ?_) | refine tk4 ?_ | refine tk5 ?_ | refine tk6 ?_ | refine tk7 ?_ | refine tk8 ?_ | refine tk9 ?_ | refine tk10 (fun _ _ => ?_) | refine tk11 (fun _ => ?_) | refine tk13 ?_ | refine tk14 ?_); (conv => whnf))
        refine OthP.mkI tys_ok rfl rfl ?_
        (conv => whnf); repeat ((first | refine tk1 ?_ | refine tk2 ?_ | refine tk3 ?_ | refine tk12 (fun _ => ?_) | refine tk4 ?_ | refine tk5 ?_ | refine tk6 ?_ | refine tk7 ?_ | refine tk8 ?_ | refine tk9 ?_ | refine tk10 (fun _ _ => ?_) | refine tk11 (fun _ => ?_) | refine tk13 ?_ | refine tk14 ?_); (conv => whnf))
        rw [hbad]; rfl
      · rcases hlw with ⟨g1, g2, g3⟩ | ⟨g1, ⟨g2, g3, ⟨g4, g5⟩ | ⟨g4, g5⟩⟩ | ⟨g2, g3⟩⟩
        · (conv => whnf); repeat ((first | refine tk1 ?_ | refine tk2 ?_ | refine tk3 ?_ | refine tk12 (fun _ => ?_) | refine tk4 ?_ | refine tk5 ?_ | refine tk6 ?_ | refine tk7 ?_ | refine tk8 ?_ | refine tk9 ?_ | refine tk10 (fun _ _ => ?_) | refine tk11 (fun _ => ?_) | refine tk13 ?_ | refine tk14 ?_); (conv => whnf))
          refine Ar.in8 (by omega) (by omega) ?_
          (conv => whnf); repeat ((first | refine tk1 ?_ | refine tk2 ?_ | refine tk3 ?_ | refine tk12 (fun _ => ?_) | refine tk4 ?_ | refine tk5 ?_ | refine tk6 ?_ | refine tk7 ?_ | refine tk8 ?_ | refine tk9 ?_ | refine tk10 (fun _ _ => ?_) | refine tk11 (fun _ => ?_) | refine tk13 ?_ | refine tk14 ?_); (conv => whnf))
          rw [show (x.toNat : Int) - 48 = digI x.toNat by omega]
          rw [if_neg (show ¬ digI x.toNat < 0 by omega)] at hI
          have hdr := dig_range x
          refine Ar.in8 (by omega) (by omega) ?_
          (conv => whnf); repeat ((first | refine tk1 ?_ | refine tk2 ?_ | refine tk3 ?_ | refine tk12 (fun _ => ?_) | refine tk4 ?_ | refine tk5 ?_ | refine tk6 ?_ | refine tk7 ?_ | refine tk8 ?_ | refine tk9 ?_ | refine tk10 (fun _ _ => ?_) | refine tk11 (fun _ => ?_) | refine tk13 ?_ | refine tk14 ?_); (conv => whnf))
          refine Cmp.cases (fun c1 => ?_) (fun c1 => ?_)
          · rw [if_pos (show 1152921504606846976 ≤ n by omega)] at hI
            (conv => whnf); repeat ((first | refine tk1 ?_ | refine tk2 ?_ | refine tk3 ?_ | refine tk12 (fun _ => ?_) | refine tk4 ?_ | refine tk5 ?_ | refine tk6 ?_ | refine tk7 ?_ | refine tk8 ?_ | refine tk9 ?_ | refine tk10 (fun _ _ => ?_) | refine tk11 (fun _ => ?_) | refine tk13 ?_ | refine tk14 ?_); (conv => whnf))
            refine OthP.mkI tys_ok rfl rfl ?_
            (conv => whnf); repeat ((first | refine tk1 ?_ | refine tk2 ?_ | refine tk3 ?_ | refine tk12 (fun _ => ?_) | refine tk4 ?_ | refine tk5 ?_ | refine tk6 ?_ | refine tk7 ?_ | refine tk8 ?_ | refine tk9 ?_ | refine tk10 (fun _ _ => ?_) | refine tk11 (fun _ => ?_) | refine tk13 ?_ | refine tk14 ?_); (conv => whnf))
            rw [hpv, hI]; rfl
          · rw [if_neg (show ¬ 1152921504606846976 ≤ n by omega)] at hI
            (conv => whnf); repeat ((first | refine tk1 ?_ | refine tk2 ?_ | refine tk3 ?_ | refine tk12 (fun _ => ?_) | refine tk4 ?_ | refine tk5 ?_ | refine tk6 ?_ | refine tk7 ?_ | refine tk8 ?_ | refine tk9 ?_ | refine tk10 (fun _ _ => ?_) | refine tk11 (fun _ => ?_) | refine tk13 ?_ | refine tk14 ?_); (conv => whnf))
            refine Ar.any ?_
            rw [show IntKind.u64.wrap 16 = 16 from rfl]
            (conv => whnf); repeat ((first | refine tk1 ?_ | refine tk2 ?_ | refine tk3 ?_ | refine tk12 (fun _ => ?_) | refine tk4 ?_ | refine tk5 ?_ | refine tk6 ?_ | refine tk7 ?_ | refine tk8 ?_ | refine tk9 ?_ | refine tk10 (fun _ _ => ?_) | refine tk11 (fun _ => ?_) | refine tk13 ?_ | refine tk14 ?_); (conv => whnf))
            refine Ar.any ?_
            rw [show IntKind.u64.wrap (n * 16) = n * 16 by rw [IntKind.wrap_u64]; omega]
            (conv => whnf); repeat ((first | refine tk1 ?_ | refine tk2 ?_ | refine tk3 ?_ | refine tk12 (fun _ => ?_) | refine tk4 ?_ | refine tk5 ?_ | refine tk6 ?_ | refine tk7 ?_ | refine tk8 ?_ | refine tk9 ?_ | refine tk10 (fun _ _ => ?_) | refine tk11 (fun _ => ?_) | refine tk13 ?_ | refine tk14 ?_); (conv => whnf))
            refine Ar.any ?_
            rw [show IntKind.u64.wrap (digI x.toNat) = digI x.toNat by rw [IntKind.wrap_u64]; omega]
            (conv => whnf); repeat ((first | refine tk1 ?_ | refine tk2 ?_ | refine tk3 ?_ | refine tk12 (fun _ => ?_) | refine tk4 ?_ | refine tk5 ?_ | refine tk6 ?_ | refine tk7 ?_ | refine tk8 ?_ | refine tk9 ?_ | refine tk10 (fun _ _ => ?_) | refine tk11 (fun _ => ?_) | refine tk13 ?_ | refine tk14 ?_); (conv => whnf))
            refine Ar.any ?_
            rw [show IntKind.u64.wrap (n * 16 + digI x.toNat) = n * 16 + digI x.toNat by rw [IntKind.wrap_u64]; omega]
            (conv => whnf); repeat ((first | refine tk1 ?_ | refine tk2 ?_ | refine tk3 ?_ | refine tk12 (fun _ => ?_) | refine tk4 ?_ | refine tk5 ?_ | refine tk6 ?_ | refine tk7 ?_ | refine tk8 ?_ | refine tk9 ?_ | refine tk10 (fun _ _ => ?_) | refine tk11 (fun _ => ?_) | refine tk13 ?_ | refine tk14 ?_); (conv => whnf))
            refine Cmp.cases (fun c2 => ?_) (fun c2 => ?_)
            · rw [if_pos (show mx < n * 16 + digI x.toNat by omega)] at hI
              (conv => whnf); repeat ((first | refine tk1 ?_ | refine tk2 ?_ | refine tk3 ?_ | refine tk12 (fun _ => ?_) | refine tk4 ?_ | refine tk5 ?_ | refine tk6 ?_ | refine tk7 ?_ | refine tk8 ?_ | refine tk9 ?_ | refine tk10 (fun _ _ => ?_) | refine tk11 (fun _ => ?_) | refine tk13 ?_ | refine tk14 ?_); (conv => whnf))
              refine OthP.mkI tys_ok rfl rfl ?_
              (conv => whnf); repeat ((first | refine tk1 ?_ | refine tk2 ?_ | refine tk3 ?_ | refine tk12 (fun _ => ?_) | refine tk4 ?_ | refine tk5 ?_ | refine tk6 ?_ | refine tk7 ?_ | refine tk8 ?_ | refine tk9 ?_ | refine tk10 (fun _ _ => ?_) | refine tk11 (fun _ => ?_) | refine tk13 ?_ | refine tk14 ?_); (conv => whnf))
              rw [hpv, hI]; rfl
            · rw [if_neg (show ¬ mx < n * 16 + digI x.toNat by omega)] at hI
              (conv => whnf); repeat ((first | refine tk1 ?_ | refine tk2 ?_ | refine tk3 ?_ | refine tk12 (fun _ => ?_) | refine tk4 ?_ | refine tk5 ?_ | refine tk6 ?_ | refine tk7 ?_ | refine tk8 ?_ | refine tk9 ?_ | refine tk10 (fun _ _ => ?_) | refine tk11 (fun _ => ?_) | refine tk13 ?_ | refine tk14 ?_); (conv => whnf))
              exact ⟨(k + 1, n * 16 + digI x.toNat), ⟨by dsimp only; omega, by dsimp only; omega, by dsimp only; omega, hI⟩, rfl, (by repeat' (first | exact List.Sublist.refl _ | exact List.nil_sublist _ | apply List.Sublist.cons_cons | apply List.Sublist.cons)), by dsimp only; omega⟩
        · (conv => whnf); repeat ((first | refine tk1 ?_ | refine tk2 ?_ | refine tk3 ?_ | refine tk12 (fun _ => ?_) | refine tk4 ?_ | refine tk5 ?_ | refine tk6 ?_ | refine tk7 ?_ | refine tk8 ?_ | refine tk9 ?_ | refine tk10 (fun _ _ => ?_) | refine tk11 (fun _ => ?_) | refine tk13 ?_ | refine tk14 ?_); (conv => whnf))
          refine Cmp.cases (fun q1 => ?_) (fun q1 => ?_)
          · (conv => whnf); repeat ((first | refine tk1 ?_ | refine tk2 ?_ | refine tk3 ?_ | refine tk12 (fun _ => ?_) | refine tk4 ?_ | refine tk5 ?_ | refine tk6 ?_ | refine tk7 ?_ | refine tk8 ?_ | refine tk9 ?_ | refine tk10 (fun _ _ => ?_) | refine tk11 (fun _ => ?_) | refine tk13 ?_ | refine tk14 ?_); (conv => whnf))
            refine CallK.fn (lower_f x) ?_
            (conv => whnf); repeat ((first | refine tk1 ?_ | refine tk2 ?_ | refine tk3 ?_ | refine tk12 (fun _ => ?_) | refine tk4 ?_ | refine tk5 ?_ | refine tk6 ?_ | refine tk7 ?_ | refine tk8 ?_ | refine tk9 ?_ | refine tk10 (fun _ _ => ?_) | refine tk11 (fun _ => ?_) | refine tk13 ?_ | refine tk14 ?_); (conv => whnf))
            refine CallK.fn (lower_f x) ?_
            (conv => whnf); repeat ((first | refine tk1 ?_ | refine tk2 ?_ | refine tk3 ?_ | refine tk12 (fun _ => ?_) | refine tk4 ?_ | refine tk5 ?_ | refine tk6 ?_ | refine tk7 ?_ | refine tk8 ?_ | refine tk9 ?_ | refine tk10 (fun _ _ => ?_) | refine tk11 (fun _ => ?_) | refine tk13 ?_ | refine tk14 ?_); (conv => whnf))
            refine CallK.fn (lower_f x) ?_
            (conv => whnf); repeat ((first | refine tk1 ?_ | refine tk2 ?_ | refine tk3 ?_ | refine tk12 (fun _ => ?_) | refine tk4 ?_ | refine tk5 ?_ | refine tk6 ?_ | refine tk7 ?_ | refine tk8 ?_ | refine tk9 ?_ | refine tk10 (fun _ _ => ?_) | refine tk11 (fun _ => ?_) | refine tk13 ?_ | refine tk14 ?_); (conv => whnf))
            refine Ar.in8 (by omega) (by omega) ?_
            (conv => whnf); repeat ((first | refine tk1 ?_ | refine tk2 ?_ | refine tk3 ?_ | refine tk12 (fun _ => ?_) | refine tk4 ?_ | refine tk5 ?_ | refine tk6 ?_ | refine tk7 ?_ | refine tk8 ?_ | refine tk9 ?_ | refine tk10 (fun _ _ => ?_) | refine tk11 (fun _ => ?_) | refine tk13 ?_ | refine tk14 ?_); (conv => whnf))
            refine Ar.in8 (by omega) (by omega) ?_
            rw [show lwI x - 97 + 10 = digI x.toNat by omega]
            (conv => whnf); repeat ((first | refine tk1 ?_ | refine tk2 ?_ | refine tk3 ?_ | refine tk12 (fun _ => ?_) | refine tk4 ?_ | refine tk5 ?_ | refine tk6 ?_ | refine tk7 ?_ | refine tk8 ?_ | refine tk9 ?_ | refine tk10 (fun _ _ => ?_) | refine tk11 (fun _ => ?_) | refine tk13 ?_ | refine tk14 ?_); (conv => whnf))
            rw [if_neg (show ¬ digI x.toNat < 0 by omega)] at hI
            have hdr := dig_range x
            refine Ar.in8 (by omega) (by omega) ?_
            (conv => whnf); repeat ((first | refine tk1 ?_ | refine tk2 ?_ | refine tk3 ?_ | refine tk12 (fun _ => ?_) | refine tk4 ?_ | refine tk5 ?_ | refine tk6 ?_ | refine tk7 ?_ | refine tk8 ?_ | refine tk9 ?_ | refine tk10 (fun _ _ => ?_) | refine tk11 (fun _ => ?_) | refine tk13 ?_ | refine tk14 ?_); (conv => whnf))
            refine Cmp.cases (fun c1 => ?_) (fun c1 => ?_)
            · rw [if_pos (show 1152921504606846976 ≤ n by omega)] at hI
              (conv => whnf); repeat ((first | refine tk1 ?_ | refine tk2 ?_ | refine tk3 ?_ | refine tk12 (fun _ => ?_) | refine tk4 ?_ | refine tk5 ?_ | refine tk6 ?_ | refine tk7 ?_ | refine tk8 ?_ | refine tk9 ?_ | refine tk10 (fun _ _ => ?_) | refine tk11 (fun _ => ?_) | refine tk13 ?_ | refine tk14 ?_); (conv => whnf))
              refine OthP.mkI tys_ok rfl rfl ?_
              (conv => whnf); repeat ((first | refine tk1 ?_ | refine tk2 ?_ | refine tk3 ?_ | refine tk12 (fun _ => ?_) | refine tk4 ?_ | refine tk5 ?_ | refine tk6 ?_ | refine tk7 ?_ | refine tk8 ?_ | refine tk9 ?_ | refine tk10 (fun _ _ => ?_) | refine tk11 (fun _ => ?_) | refine tk13 ?_ | refine tk14 ?_); (conv => whnf))
              rw [hpv, hI]; rfl
            · rw [if_neg (show ¬ 1152921504606846976 ≤ n by omega)] at hI
              (conv => whnf); repeat ((first | refine tk1 ?_ | refine tk2 ?_ | refine tk3 ?_ | refine tk12 (fun _ => ?_) | refine tk4 ?_ | refine tk5 ?_ | refine tk6 ?_ | refine tk7 ?_ | refine tk8 ?_ | refine tk9 ?_ | refine tk10 (fun _ _ => ?_) | refine tk11 (fun _ => ?_) | refine tk13 ?_ | refine tk14 ?_); (conv => whnf))
              refine Ar.any ?_
              rw [show IntKind.u64.wrap 16 = 16 from rfl]
              (conv => whnf); repeat ((first | refine tk1 ?_ | refine tk2 ?_ | refine tk3 ?_ | refine tk12 (fun _ => ?_) | refine tk4 ?_ | refine tk5 ?_ | refine tk6 ?_ | refine tk7 ?_ | refine tk8 ?_ | refine tk9 ?_ | refine tk10 (fun _ _ => ?_) | refine tk11 (fun _ => ?_) | refine tk13 ?_ | refine tk14 ?_); (conv => whnf))
              refine Ar.any ?_
              rw [show IntKind.u64.wrap (n * 16) = n * 16 by rw [IntKind.wrap_u64]; omega]
              (conv => whnf); repeat ((first | refine tk1 ?_ | refine tk2 ?_ | refine tk3 ?_ | refine tk12 (fun _ => ?_) | refine tk4 ?_ | refine tk5 ?_ | refine tk6 ?_ | refine tk7 ?_ | refine tk8 ?_ | refine tk9 ?_ | refine tk10 (fun _ _ => ?_) | refine tk11 (fun _ => ?_) | refine tk13 ?_ | refine tk14 ?_); (conv => whnf))
              refine Ar.any ?_
              rw [show IntKind.u64.wrap (digI x.toNat) = digI x.toNat by rw [IntKind.wrap_u64]; omega]
              (conv => whnf); repeat ((first | refine tk1 ?_ | refine tk2 ?_ | refine tk3 ?_ | refine tk12 (fun _ => ?_) | refine tk4 ?_ | refine tk5 ?_ | refine tk6 ?_ | refine tk7 ?_ | refine tk8 ?_ | refine tk9 ?_ | refine tk10 (fun _ _ => ?_) | refine tk11 (fun _ => ?_) | refine tk13 ?_ | refine tk14 ?_); (conv => whnf))
              refine Ar.any ?_
              rw [show IntKind.u64.wrap (n * 16 + digI x.toNat) = n * 16 + digI x.toNat by rw [IntKind.wrap_u64]; omega]
              (conv => whnf); repeat ((first | refine tk1 ?_ | refine tk2 ?_ | refine tk3 ?_ | refine tk12 (fun _ => ?_) | refine tk4 ?_ | refine tk5 ?_ | refine tk6 ?_ | refine tk7 ?_ | refine tk8 ?_ | refine tk9 ?_ | refine tk10 (fun _ _ => ?_) | refine tk11 (fun _ => ?_) | refine tk13 ?_ | refine tk14 ?_); (conv => whnf))
              refine Cmp.cases (fun c2 => ?_) (fun c2 => ?_)
              · rw [if_pos (show mx < n * 16 + digI x.toNat by omega)] at hI
                (conv => whnf); repeat ((first | refine tk1 ?_ | refine tk2 ?_ | refine tk3 ?_ | refine tk12 (fun _ => ?_) | refine tk4 ?_ | refine tk5 ?_ | refine tk6 ?_ | refine tk7 ?_ | refine tk8 ?_ | refine tk9 ?_ | refine tk10 (fun _ _ => ?_) | refine tk11 (fun _ => ?_) | refine tk13 ?_ | refine tk14 ?_); (conv => whnf))
                refine OthP.mkI tys_ok rfl rfl ?_
                (conv => whnf); repeat ((first | refine tk1 ?_ | refine tk2 ?_ | refine tk3 ?_ | refine tk12 (fun _ => ?_) | refine tk4 ?_ | refine tk5 ?_ | refine tk6 ?_ | refine tk7 ?_ | refine tk8 ?_ | refine tk9 ?_ | refine tk10 (fun _ _ => ?_) | refine tk11 (fun _ => ?_) | refine tk13 ?_ | refine tk14 ?_); (conv => whnf))
                rw [hpv, hI]; rfl
              · rw [if_neg (show ¬ mx < n * 16 + digI x.toNat by omega)] at hI
                (conv => whnf); repeat ((first | refine tk1 ?_ | refine tk2 ?_ | refine tk3 ?_ | refine tk12 (fun _ => ?_) | refine tk4 ?_ | refine tk5 ?_ | refine tk6 ?_ | refine tk7 ?_ | refine tk8 ?_ | refine tk9 ?_ | refine tk10 (fun _ _ => ?_) | refine tk11 (fun _ => ?_) | refine tk13 ?_ | refine tk14 ?_); (conv => whnf))
                exact ⟨(k + 1, n * 16 + digI x.toNat), ⟨by dsimp only; omega, by dsimp only; omega, by dsimp only; omega, hI⟩, rfl, (by repeat' (first | exact List.Sublist.refl _ | exact List.nil_sublist _ | apply List.Sublist.cons_cons | apply List.Sublist.cons)), by dsimp only; omega⟩
          · (conv => whnf); repeat ((first | refine tk1 ?_ | refine tk2 ?_ | refine tk3 ?_ | refine tk12 (fun _ => ?_) | refine tk4 ?_ | refine tk5 ?_ | refine tk6 ?_ | refine tk7 ?_ | refine tk8 ?_ | refine tk9 ?_ | refine tk10 (fun _ _ => ?_) | refine tk11 (fun _ => ?_) | refine tk13 ?_ | refine tk14 ?_); (conv => whnf))
            refine CallK.fn (lower_f x) ?_
            (conv => whnf); repeat ((first | refine tk1 ?_ | refine tk2 ?_ | refine tk3 ?_ | refine tk12 (fun _ => ?_) | refine tk4 ?_ | refine tk5 ?_ | refine tk6 ?_ | refine tk7 ?_ | refine tk8 ?_ | refine tk9 ?_ | refine tk10 (fun _ _ => ?_) | refine tk11 (fun _ => ?_) | refine tk13 ?_ | refine tk14 ?_); (conv => whnf))
            refine CallK.fn (lower_f x) ?_
            (conv => whnf); repeat ((first | refine tk1 ?_ | refine tk2 ?_ | refine tk3 ?_ | refine tk12 (fun _ => ?_) | refine tk4 ?_ | refine tk5 ?_ | refine tk6 ?_ | refine tk7 ?_ | refine tk8 ?_ | refine tk9 ?_ | refine tk10 (fun _ _ => ?_) | refine tk11 (fun _ => ?_) | refine tk13 ?_ | refine tk14 ?_); (conv => whnf))
            refine CallK.fn (lower_f x) ?_
            (conv => whnf); repeat ((first | refine tk1 ?_ | refine tk2 ?_ | refine tk3 ?_ | refine tk12 (fun _ => ?_) | refine tk4 ?_ | refine tk5 ?_ | refine tk6 ?_ | refine tk7 ?_ | refine tk8 ?_ | refine tk9 ?_ | refine tk10 (fun _ _ => ?_) | refine tk11 (fun _ => ?_) | refine tk13 ?_ | refine tk14 ?_); (conv => whnf))
            refine Ar.in8 (by omega) (by omega) ?_
            (conv => whnf); repeat ((first | refine tk1 ?_ | refine tk2 ?_ | refine tk3 ?_ | refine tk12 (fun _ => ?_) | refine tk4 ?_ | refine tk5 ?_ | refine tk6 ?_ | refine tk7 ?_ | refine tk8 ?_ | refine tk9 ?_ | refine tk10 (fun _ _ => ?_) | refine tk11 (fun _ => ?_) | refine tk13 ?_ | refine tk14 ?_); (conv => whnf))
            refine Ar.in8 (by omega) (by omega) ?_
            rw [show lwI x - 97 + 10 = digI x.toNat by omega]
            (conv => whnf); repeat ((first | refine tk1 ?_ | refine tk2 ?_ | refine tk3 ?_ | refine tk12 (fun _ => ?_) | refine tk4 ?_ | refine tk5 ?_ | refine tk6 ?_ | refine tk7 ?_ | refine tk8 ?_ | refine tk9 ?_ | refine tk10 (fun _ _ => ?_) | refine tk11 (fun _ => ?_) | refine tk13 ?_ | refine tk14 ?_); (conv => whnf))
            rw [if_neg (show ¬ digI x.toNat < 0 by omega)] at hI
            have hdr := dig_range x
            refine Ar.in8 (by omega) (by omega) ?_
            (conv => whnf); repeat ((first | refine tk1 ?_ | refine tk2 ?_ | refine tk3 ?_ | refine tk12 (fun _ => ?_) | refine tk4 ?_ | refine tk5 ?_ | refine tk6 ?_ | refine tk7 ?_ | refine tk8 ?_ | refine tk9 ?_ | refine tk10 (fun _ _ => ?_) | refine tk11 (fun _ => ?_) | refine tk13 ?_ | refine tk14 ?_); (conv => whnf))
            refine Cmp.cases (fun c1 => ?_) (fun c1 => ?_)
            · rw [if_pos (show 1152921504606846976 ≤ n by omega)] at hI
              (conv => whnf); repeat ((first | refine tk1 ?_ | refine tk2 ?_ | refine tk3 ?_ | refine tk12 (fun _ => ?_) | refine tk4 ?_ | refine tk5 ?_ | refine tk6 ?_ | refine tk7 ?_ | refine tk8 ?_ | refine tk9 ?_ | refine tk10 (fun _ _ => ?_) | refine tk11 (fun _ => ?_) | refine tk13 ?_ | refine tk14 ?_); (conv => whnf))
              refine OthP.mkI tys_ok rfl rfl ?_
              (conv => whnf); repeat ((first | refine tk1 ?_ | refine tk2 ?_ | refine tk3 ?_ | refine tk12 (fun _ => ?_) | refine tk4 ?_ | refine tk5 ?_ | refine tk6 ?_ | refine tk7 ?_ | refine tk8 ?_ | refine tk9 ?_ | refine tk10 (fun _ _ => ?_) | refine tk11 (fun _ => ?_) | refine tk13 ?_ | refine tk14 ?_); (conv => whnf))
              rw [hpv, hI]; rfl
            · rw [if_neg (show ¬ 1152921504606846976 ≤ n by omega)] at hI
              (conv => whnf); repeat ((first | refine tk1 ?_ | refine tk2 ?_ | refine tk3 ?_ | refine tk12 (fun _ => ?_) | refine tk4 ?_ | refine tk5 ?_ | refine tk6 ?_ | refine tk7 ?_ | refine tk8 ?_ | refine tk9 ?_ | refine tk10 (fun _ _ => ?_) | refine tk11 (fun _ => ?_) | refine tk13 ?_ | refine tk14 ?_); (conv => whnf))
              refine Ar.any ?_
              rw [show IntKind.u64.wrap 16 = 16 from rfl]
              (conv => whnf); repeat ((first | refine tk1 ?_ | refine tk2 ?_ | refine tk3 ?_ | refine tk12 (fun _ => ?_) | refine tk4 ?_ | refine tk5 ?_ | refine tk6 ?_ | refine tk7 ?_ | refine tk8 ?_ | refine tk9 ?_ | refine tk10 (fun _ _ => ?_) | refine tk11 (fun _ => ?_) | refine tk13 ?_ | refine tk14 ?_); (conv => whnf))
              refine Ar.any ?_
              rw [show IntKind.u64.wrap (n * 16) = n * 16 by rw [IntKind.wrap_u64]; omega]
              (conv => whnf); repeat ((first | refine tk1 ?_ | refine tk2 ?_ | refine tk3 ?_ | refine tk12 (fun _ => ?_) | refine tk4 ?_ | refine tk5 ?_ | refine tk6 ?_ | refine tk7 ?_ | refine tk8 ?_ | refine tk9 ?_ | refine tk10 (fun _ _ => ?_) | refine tk11 (fun _ => ?_) | refine tk13 ?_ | refine tk14 ?_); (conv => whnf))
              refine Ar.any ?_
              rw [show IntKind.u64.wrap (digI x.toNat) = digI x.toNat by rw [IntKind.wrap_u64]; omega]
              (conv => whnf); repeat ((first | refine tk1 ?_ | refine tk2 ?_ | refine tk3 ?_ | refine tk12 (fun _ => ?_) | refine tk4 ?_ | refine tk5 ?_ | refine tk6 ?_ | refine tk7 ?_ | refine tk8 ?_ | refine tk9 ?_ | refine tk10 (fun _ _ => ?_) | refine tk11 (fun _ => ?_) | refine tk13 ?_ | refine tk14 ?_); (conv => whnf))
              refine Ar.any ?_
              rw [show IntKind.u64.wrap (n * 16 + digI x.toNat) = n * 16 + digI x.toNat by rw [IntKind.wrap_u64]; omega]
              (conv => whnf); repeat ((first | refine tk1 ?_ | refine tk2 ?_ | refine tk3 ?_ | refine tk12 (fun _ => ?_) | refine tk4 ?_ | refine tk5 ?_ | refine tk6 ?_ | refine tk7 ?_ | refine tk8 ?_ | refine tk9 ?_ | refine tk10 (fun _ _ => ?_) | refine tk11 (fun _ => ?_) | refine tk13 ?_ | refine tk14 ?_); (conv => whnf))
              refine Cmp.cases (fun c2 => ?_) (fun c2 => ?_)
              · rw [if_pos (show mx < n * 16 + digI x.toNat by omega)] at hI
                (conv => whnf); repeat ((first | refine tk1 ?_ | refine tk2 ?_ | refine tk3 ?_ | refine tk12 (fun _ => ?_) | refine tk4 ?_ | refine tk5 ?_ | refine tk6 ?_ | refine tk7 ?_ | refine tk8 ?_ | refine tk9 ?_ | refine tk10 (fun _ _ => ?_) | refine tk11 (fun _ => ?_) | refine tk13 ?_ | refine tk14 ?_); (conv => whnf))
                refine OthP.mkI tys_ok rfl rfl ?_
                (conv => whnf); repeat ((first | refine tk1 ?_ | refine tk2 ?_ | refine tk3 ?_ | refine tk12 (fun _ => ?_) | refine tk4 ?_ | refine tk5 ?_ | refine tk6 ?_ | refine tk7 ?_ | refine tk8 ?_ | refine tk9 ?_ | refine tk10 (fun _ _ => ?_) | refine tk11 (fun _ => ?_) | refine tk13 ?_ | refine tk14 ?_); (conv => whnf))
                rw [hpv, hI]; rfl
              · rw [if_neg (show ¬ mx < n * 16 + digI x.toNat by omega)] at hI
                (conv => whnf); repeat ((first | refine tk1 ?_ | refine tk2 ?_ | refine tk3 ?_ | refine tk12 (fun _ => ?_) | refine tk4 ?_ | refine tk5 ?_ | refine tk6 ?_ | refine tk7 ?_ | refine tk8 ?_ | refine tk9 ?_ | refine tk10 (fun _ _ => ?_) | refine tk11 (fun _ => ?_) | refine tk13 ?_ | refine tk14 ?_); (conv => whnf))
                exact ⟨(k + 1, n * 16 + digI x.toNat), ⟨by dsimp only; omega, by dsimp only; omega, by dsimp only; omega, hI⟩, rfl, (by repeat' (first | exact List.Sublist.refl _ | exact List.nil_sublist _ | apply List.Sublist.cons_cons | apply List.Sublist.cons)), by dsimp only; omega⟩
        · have hbad := bad g4
          (conv => whnf); repeat ((first | refine tk1 ?_ | refine tk2 ?_ | refine tk3 ?_ | refine tk12 (fun _ => ?_) | refine tk4 ?_ | refine tk5 ?_ | refine tk6 ?_ | refine tk7 ?_ | refine tk8 ?_ | refine tk9 ?_ | refine tk10 (fun _ _ => ?_) | refine tk11 (fun _ => ?_) | refine tk13 ?_ | refine tk14 ?_); (conv => whnf))
          refine Cmp.cases (fun q1 => ?_) (fun q1 => ?_)
          · (conv => whnf); repeat ((first | refine tk1 ?_ | refine tk2 ?_ | refine tk3 ?_ | refine tk12 (fun _ => ?_) | refine tk4 ?_ | refine tk5 ?_ | refine tk6 ?_ | refine tk7 ?_ | refine tk8 ?_ | refine tk9 ?_ | refine tk10 (fun _ _ => ?_) | refine tk11 (fun _ => ?_) | refine tk13 ?_ | refine tk14 ?_); (conv => whnf))
            refine CallK.fn (lower_f x) ?_
            (conv => whnf); repeat ((first | refine tk1 ?_ | refine tk2 ?_ | refine tk3 ?_ | refine tk12 (fun _ => ?_) | refine tk4 ?_ | refine tk5 ?_ | refine tk6 ?_ | refine tk7 ?_ | refine tk8 ?_ | refine tk9 ?_ | refine tk10 (fun _ _ => ?_) | refine tk11 (fun _ => ?_) | refine tk13 ?_ | refine tk14 ?_); (conv => whnf))
            refine CallK.fn (lower_f x) ?_
            (conv => whnf); repeat ((first | refine tk1 ?_ | refine tk2 ?_ | refine tk3 ?_ | refine tk12 (fun _ => ?_) | refine tk4 ?_ | refine tk5 ?_ | refine tk6 ?_ | refine tk7 ?_ | refine tk8 ?_ | refine tk9 ?_ | refine tk10 (fun _ _ => ?_) | refine tk11 (fun _ => ?_) | refine tk13 ?_ | refine tk14 ?_); (conv => whnf))
            refine CallK.fn (lower_f x) ?_
            (conv => whnf); repeat ((first | refine tk1 ?_ | refine tk2 ?_ | refine tk3 ?_ | refine tk12 (fun _ => ?_) | refine tk4 ?_ | refine tk5 ?_ | refine tk6 ?_ | refine tk7 ?_ | refine tk8 ?_ | refine tk9 ?_ | refine tk10 (fun _ _ => ?_) | refine tk11 (fun _ => ?_) | refine tk13 ?_ | refine tk14 ?_); (conv => whnf))
            refine Ar.in8 (by omega) (by omega) ?_
            (conv => whnf); repeat ((first | refine tk1 ?_ | refine tk2 ?_ | refine tk3 ?_ | refine tk12 (fun _ => ?_) | refine tk4 ?_ | refine tk5 ?_ | refine tk6 ?_ | refine tk7 ?_ | refine tk8 ?_ | refine tk9 ?_ | refine tk10 (fun _ _ => ?_) | refine tk11 (fun _ => ?_) | refine tk13 ?_ | refine tk14 ?_); (conv => whnf))
            refine Ar.in8 (by omega) (by omega) ?_
            (conv => whnf); repeat ((first | refine tk1 ?_ | refine tk2 ?_ | refine tk3 ?_ | refine tk12 (fun _ => ?_) | refine tk4 ?_ | refine tk5 ?_ | refine tk6 ?_ | refine tk7 ?_ | refine tk8 ?_ | refine tk9 ?_ | refine tk10 (fun _ _ => ?_) | refine tk11 (fun _ => ?_) | refine tk13 ?_ | refine tk14 ?_); (conv => whnf))
            refine Ar.in8 (by omega) (by omega) ?_
            (conv => whnf); repeat ((first | refine tk1 ?_ | refine tk2 ?_ | refine tk3 ?_ | refine tk12 (fun _ => ?_) | refine tk4 ?_ | refine tk5 ?_ | refine tk6 ?_ | refine tk7 ?_ | refine tk8 ?_ | refine tk9 ?_ | refine tk10 (fun _ _ => ?_) | refine tk11 (fun _ => ?_) | refine tk13 ?_ | refine tk14 ?_); (conv => whnf))
            refine OthP.mkI tys_ok rfl rfl ?_
            (conv => whnf); repeat ((first | refine tk1 ?_ | refine tk2 ?_ | refine tk3 ?_ | refine tk12 (fun _ => ?_) | refine tk4 ?_ | refine tk5 ?_ | refine tk6 ?_ | refine tk7 ?_ | refine tk8 ?_ | refine tk9 ?_ | refine tk10 (fun _ _ => ?_) | refine tk11 (fun _ => ?_) | refine tk13 ?_ | refine tk14 ?_); (conv => whnf))
            rw [hbad]; rfl
          · (conv => whnf); repeat ((first | refine tk1 ?_ | refine tk2 ?_ | refine tk3 ?_ | refine tk12 (fun _ => ?_) | refine tk4 ?_ | refine tk5 ?_ | refine tk6 ?_ | refine tk7 ?_ | refine tk8 ?_ | refine tk9 ?_ | refine tk10 (fun _ _ => ?_) | refine tk11 (fun _ => ?_) | refine tk13 ?_ | refine tk14 ?_); (conv => whnf))
            refine CallK.fn (lower_f x) ?_
            (conv => whnf); repeat ((first | refine tk1 ?_ | refine tk2 ?_ | refine tk3 ?_ | refine tk12 (fun _ => ?_) | refine tk4 ?_ | refine tk5 ?_ | refine tk6 ?_ | refine tk7 ?_ | refine tk8 ?_ | refine tk9 ?_ | refine tk10 (fun _ _ => ?_) | refine tk11 (fun _ => ?_) | refine tk13 ?_ | refine tk14 ?_); (conv => whnf))
            refine CallK.fn (lower_f x) ?_
            (conv => whnf); repeat ((first | refine tk1 ?_ | refine tk2 ?_ | refine tk3 ?_ | refine tk12 (fun _ => ?_) | refine tk4 ?_ | refine tk5 ?_ | refine tk6 ?_ | refine tk7 ?_ | refine tk8 ?_ | refine tk9 ?_ | refine tk10 (fun _ _ => ?_) | refine tk11 (fun _ => ?_) | refine tk13 ?_ | refine tk14 ?_); (conv => whnf))
            refine CallK.fn (lower_f x) ?_
            (conv => whnf); repeat ((first | refine tk1 ?_ | refine tk2 ?_ | refine tk3 ?_ | refine tk12 (fun _ => ?_) | refine tk4 ?_ | refine tk5 ?_ | refine tk6 ?_ | refine tk7 ?_ | refine tk8 ?_ | refine tk9 ?_ | refine tk10 (fun _ _ => ?_) | refine tk11 (fun _ => ?_) | refine tk13 ?_ | refine tk14 ?_); (conv => whnf))
            refine Ar.in8 (by omega) (by omega) ?_
            (conv => whnf); repeat ((first | refine tk1 ?_ | refine tk2 ?_ | refine tk3 ?_ | refine tk12 (fun _ => ?_) | refine tk4 ?_ | refine tk5 ?_ | refine tk6 ?_ | refine tk7 ?_ | refine tk8 ?_ | refine tk9 ?_ | refine tk10 (fun _ _ => ?_) | refine tk11 (fun _ => ?_) | refine tk13 ?_ | refine tk14 ?_); (conv => whnf))
            refine Ar.in8 (by omega) (by omega) ?_
            (conv => whnf); repeat ((first | refine tk1 ?_ | refine tk2 ?_ | refine tk3 ?_ | refine tk12 (fun _ => ?_) | refine tk4 ?_ | refine tk5 ?_ | refine tk6 ?_ | refine tk7 ?_ | refine tk8 ?_ | refine tk9 ?_ | refine tk10 (fun _ _ => ?_) | refine tk11 (fun _ => ?_) | refine tk13 ?_ | refine tk14 ?_); (conv => whnf))
            refine Ar.in8 (by omega) (by omega) ?_
            (conv => whnf); repeat ((first | refine tk1 ?_ | refine tk2 ?_ | refine tk3 ?_ | refine tk12 (fun _ => ?_) | refine tk4 ?_ | refine tk5 ?_ | refine tk6 ?_ | refine tk7 ?_ | refine tk8 ?_ | refine tk9 ?_ | refine tk10 (fun _ _ => ?_) | refine tk11 (fun _ => ?_) | refine tk13 ?_ | refine tk14 ?_); (conv => whnf))
            refine OthP.mkI tys_ok rfl rfl ?_
            (conv => whnf); repeat ((first | refine tk1 ?_ | refine tk2 ?_ | refine tk3 ?_ | refine tk12 (fun _ => ?_) | refine tk4 ?_ | refine tk5 ?_ | refine tk6 ?_ | refine tk7 ?_ | refine tk8 ?_ | refine tk9 ?_ | refine tk10 (fun _ _ => ?_) | refine tk11 (fun _ => ?_) | refine tk13 ?_ | refine tk14 ?_); (conv => whnf))
            rw [hbad]; rfl
        · have hbad := bad g3
          (repeat' ((conv => whnf); first | (first | refine tk1 ?_ | refine tk2 ?_ | refine tk3 ?_ | refine tk12 (fun _ => ?_) | refine tk4 ?_ | refine tk5 ?_ | refine tk6 ?_ | refine tk7 ?_ | refine tk8 ?_ | refine tk9 ?_ | refine tk10 (fun _ _ => ?_) | refine tk11 (fun _ => ?_) | refine tk13 ?_ | refine tk14 ?_) | refine Cmp.cases (fun _ => ?_) (fun _ => ?_) | refine IdxS.nat (by omega) ?_ | refine IdxS.go (by omega) (by omega) (fun _ _ _ => ?_) | refine SlcS.at (by omega) (by omega) (by omega) ?_ | refine CatS.at (by simp only [List.length_append, List.length_cons, List.length_nil]; omega) ?_ | refine CallK.fn (lower_f x) ?_ | refine OthP.mkI tys_ok rfl rfl ?_)); all_goals (conv => whnf)
          all_goals (rw [hbad]; rfl)
    · (conv => whnf); repeat ((first | refine tk1 ?_ | refine tk2 ?_ | refine tk3 ?_ | refine tk12 (fun _ => ?_) | refine tk4 ?_ | refine tk5 ?_ | refine tk6 ?_ | refine tk7 ?_ | refine tk8 ?_ | refine tk9 ?_ | refine tk10 (fun _ _ => ?_) | refine tk11 (fun _ => ?_) | refine tk13 ?_ | refine tk14 ?_); (conv => whnf))
      rw [hpv, hI, List.drop_eq_nil_of_le (by omega)]; rfl
end Go.Proofs.YtnaeeklnlddcaaaGreatDoor.Vex
/- The law VaryAll, over byte lists: what is put together names all that was named; a second time it changes nothing. No program in sight. -/
namespace Go.Proofs.YtnaeeklnlddcaaaGreatDoor

theorem tok_byte (x : UInt8) (h : tokB x = true) : x ≠ 44 ∧ blankB x = false := by
  have : ∀ n : Fin 256, tokB n.val.toUInt8 = true → n.val.toUInt8 ≠ 44 ∧ blankB n.val.toUInt8 = false := by decide +kernel
  have h2 := this ⟨x.toNat, x.toNat_lt⟩
  simp at h2
  exact h2 h
theorem trimLB_no (l : List UInt8) (h : ∀ x ∈ l, blankB x = false) : trimLB l = l := by
  cases l with
  | nil => rfl
  | cons x r => exact trimLB_other _ _ (h x (List.mem_cons_self ..))
theorem trimRB_no (l : List UInt8) (h : ∀ x ∈ l, blankB x = false) : trimRB l = l := by
  rcases List.eq_nil_or_concat l with rfl | ⟨m, y, rfl⟩
  · rfl
  · rw [List.concat_eq_append] at h ⊢
    exact trimRB_other _ _ (h y (by simp))
theorem tok_parts {s : List UInt8} (h : tokenOf s = true) : s ≠ [] ∧ 44 ∉ s ∧ trimB s = s := by
  have ha := token_all h
  rw [List.all_eq_true] at ha
  refine ⟨fun e => by subst e; simp [tokenOf] at h, fun hm => (tok_byte _ (ha _ hm)).1 rfl, ?_⟩
  rw [trimB_eq, trimLB_no s fun x hx => (tok_byte x (ha x hx)).2, trimRB_no s fun x hx => (tok_byte x (ha x hx)).2]
theorem items_tok {s : List UInt8} (h : tokenOf s = true) : itemsOf s = [s] := by
  obtain ⟨h1, h2, h3⟩ := tok_parts h
  rw [items_none s h2]
  unfold itemOf
  rw [h3, if_neg h1]
theorem items_blank (x : UInt8) (m : List UInt8) (hx : blankB x = true) : itemsOf (x :: m) = itemsOf m := by
  have h44 : x ≠ 44 := fun e => by subst e; revert hx; decide
  unfold itemsOf
  simp only [splitB, if_neg h44]
  cases h : splitB 44 m with
  | nil => exact absurd h (splitB_ne 44 m)
  | cons p q => simp only [List.map_cons, trimB_front x p hx]
theorem items_out : ∀ out : List (List UInt8), (∀ x ∈ out, tokenOf x = true) → itemsOf (Lib.join out [44, 32]) = out
  | [], _ => by decide
  | [x], h => by rw [Lib.join_one]; exact items_tok (h x (List.mem_cons_self ..))
  | x :: y :: r, h => by
    rw [join_cons, show x ++ [44, 32] ++ Lib.join (y :: r) [44, 32] = x ++ 44 :: (32 :: Lib.join (y :: r) [44, 32]) by simp, items_join, items_tok (h x (List.mem_cons_self ..)), items_blank 32 _ (by decide), items_out (y :: r) fun z hz => h z (List.mem_cons_of_mem _ hz)]
    rfl
def nodS (l : List (List UInt8)) : Prop := l.Pairwise fun a b => smallOf a ≠ smallOf b
theorem inS_false {l : List (List UInt8)} {s : List UInt8} (h : inS l s = false) : ∀ x ∈ l, smallOf x ≠ smallOf s := by
  unfold inS at h
  rw [List.any_eq_false] at h
  exact fun x hx e => h x hx (by simp [e])
theorem inS_true {l : List (List UInt8)} {s : List UInt8} : inS l s = true ↔ ∃ x ∈ l, smallOf x = smallOf s := by
  unfold inS
  rw [List.any_eq_true]
  simp
theorem dedup_nod : ∀ (l out : List (List UInt8)), nodS out → nodS (dedup out l)
  | [], _, h => h
  | s :: r, out, h => by
    unfold dedup
    refine dedup_nod r _ ?_
    cases hs : inS out s with
    | true => exact h
    | false => exact List.pairwise_append.2 ⟨h, List.pairwise_singleton _ _, fun a ha b hb => by rw [List.mem_singleton] at hb; subst hb; exact inS_false hs a ha⟩
theorem dedup_same : ∀ (l out : List (List UInt8)), nodS (out ++ l) → dedup out l = out ++ l
  | [], out, _ => by simp [dedup]
  | s :: r, out, h => by
    have hs : inS out s = false := by
      cases hi : inS out s with
      | false => rfl
      | true =>
        obtain ⟨x, hx, he⟩ := inS_true.1 hi
        exact absurd he ((List.pairwise_append.1 h).2.2 x hx s (List.mem_cons_self ..))
    unfold dedup
    rw [hs, if_neg Bool.false_ne_true, dedup_same r (out ++ [s]) (by simpa using h)]
    simp
theorem dedup_append : ∀ (a b out : List (List UInt8)), dedup out (a ++ b) = dedup (dedup out a) b
  | [], _, _ => rfl
  | s :: a, b, out => by simp only [List.cons_append, dedup]; exact dedup_append a b _
theorem mergeO_tok {values : List (List UInt8)} {name : List UInt8} (h : mergeOK values name = true) : ∀ x ∈ mergeO values name, tokenOf x = true := fun x hx => by
  unfold mergeOK at h
  rw [List.all_eq_true] at h
  exact h x ((dedup_mem _ _ x hx).elim (fun h => by cases h) id)
theorem inS_mergeO (values : List (List UInt8)) (name s : List UInt8) : inS (mergeO values name) s = inS (allV values name) s := by
  unfold mergeO
  rw [inS_dedup]
  simp [inS]
theorem inS_name (values : List (List UInt8)) (name : List UInt8) : inS (allV values name) name = true := by
  rw [inS_true]
  exact ⟨name, by simp [allV], rfl⟩
theorem mergeO_nil (values : List (List UInt8)) (name : List UInt8) : mergeO values name ≠ [] := fun h => by
  have := inS_mergeO values name name
  rw [inS_name, h] at this
  cases this
/-- What is put together is the item * just where one of all is it. -/
theorem merge_star {values : List (List UInt8)} {name : List UInt8} (h : mergeOK values name = true) : mergeS values name = [42] ↔ inS (mergeO values name) [42] = true := by
  unfold mergeS
  rw [if_pos h]
  constructor
  · intro he
    cases hs : inS (mergeO values name) [42] with
    | true => rfl
    | false =>
      exfalso
      rw [hs, if_neg Bool.false_ne_true] at he
      have h1 := items_out _ (mergeO_tok h)
      rw [he] at h1
      rw [← h1] at hs
      revert hs
      decide
  · intro hs
    rw [hs, if_pos rfl]
theorem merge_items {values : List (List UInt8)} {name : List UInt8} (h : mergeOK values name = true) : itemsOf (mergeS values name) = if inS (mergeO values name) [42] then [[42]] else mergeO values name := by
  unfold mergeS
  rw [if_pos h]
  split
  · decide
  · exact items_out _ (mergeO_tok h)
theorem merge_again {values : List (List UInt8)} {name : List UInt8} (h : mergeOK values name = true) : mergeOK [mergeS values name] name = true ∧ mergeS [mergeS values name] name = mergeS values name := by
  have hn : tokenOf name = true := by
    unfold mergeOK allV at h
    rw [List.all_append] at h
    simp at h
    exact h.2
  have hi := merge_items h
  have hall : allV [mergeS values name] name = itemsOf (mergeS values name) ++ [name] := by simp [allV]
  have hok : mergeOK [mergeS values name] name = true := by
    unfold mergeOK
    rw [hall, hi, List.all_append]
    split
    · simp [hn]; decide
    · rw [List.all_eq_true.2 (mergeO_tok h)]; simp [hn]
  refine ⟨hok, ?_⟩
  cases hs : inS (mergeO values name) [42] with
  | true =>
    rw [(merge_star h).2 hs]
    have : inS (mergeO [[42]] name) [42] = true := by
      rw [inS_mergeO]
      unfold allV
      rw [inS_append]
      have : inS ([[42]].flatMap itemsOf) [42] = true := by decide
      rw [this]; rfl
    have hok2 : mergeOK [[42]] name = true := by rw [(merge_star h).2 hs] at hok; exact hok
    exact (merge_star hok2).2 this
  | false =>
    have ho : mergeO [mergeS values name] name = mergeO values name := by
      have hnod : nodS (mergeO values name) := dedup_nod _ _ List.Pairwise.nil
      show dedup [] (allV [mergeS values name] name) = _
      rw [hall, hi, hs, if_neg Bool.false_ne_true, dedup_append, dedup_same _ [] (by simpa using hnod)]
      have hin : inS (mergeO values name) name = true := by rw [inS_mergeO, inS_name]
      simp only [List.nil_append, dedup, hin, if_true]
    have hse : mergeS values name = Lib.join (mergeO values name) [44, 32] := by unfold mergeS; rw [if_pos h, hs, if_neg Bool.false_ne_true]
    rw [hse] at hok ho ⊢
    unfold mergeS
    rw [if_pos hok, ho, hs, if_neg Bool.false_ne_true]
theorem merge_names {values : List (List UInt8)} {name : List UInt8} (h : mergeOK values name = true) (s : List UInt8) : namesOf (mergeS values name) s = (inS (mergeO values name) [42] || inS (mergeO values name) s) := by
  rw [names_in, merge_items h]
  cases hs : inS (mergeO values name) [42] with
  | true =>
    have : inS [[42]] [42] = true := by decide
    simp [this]
  | false => simp [hs]
theorem inS_flat (s : List UInt8) : ∀ values : List (List UInt8), inS (values.flatMap itemsOf) s = values.any fun v => inS (itemsOf v) s
  | [] => rfl
  | v :: r => by rw [List.flatMap_cons, inS_append, inS_flat s r, List.any_cons]
/-- What is named behind: what was named, or the name, or all. -/
theorem merge_was {values : List (List UInt8)} {name : List UInt8} (h : mergeOK values name = true) (s : List UInt8) :
    namesOf (mergeS values name) s = ((smallOf s == smallOf name || values.any fun v => namesOf v s) || decide (mergeS values name = [42])) := by
  rw [merge_names h]
  cases hs : inS (mergeO values name) [42] with
  | true => rw [decide_eq_true ((merge_star h).2 hs)]; simp
  | false =>
    rw [decide_eq_false (fun e => by rw [(merge_star h).1 e] at hs; cases hs)]
    have hno : ∀ v ∈ values, inS (itemsOf v) [42] = false := fun v hv => by
      rw [inS_mergeO] at hs
      unfold allV at hs
      rw [inS_append, inS_flat, Bool.or_eq_false_iff, List.any_eq_false] at hs
      simpa using hs.1 v hv
    have hv : (values.any fun v => namesOf v s) = values.any fun v => inS (itemsOf v) s := by
      rw [Bool.eq_iff_iff, List.any_eq_true, List.any_eq_true]
      constructor
      · rintro ⟨v, hv, h1⟩
        rw [names_in, hno v hv] at h1
        exact ⟨v, hv, h1⟩
      · rintro ⟨v, hv, h1⟩
        exact ⟨v, hv, by rw [names_in, h1]; simp⟩
    rw [hv, inS_mergeO]
    unfold allV
    rw [inS_append, inS_flat]
    have : inS [name] s = (smallOf s == smallOf name) := by simp [inS, Bool.beq_comm]
    rw [this, Bool.false_or, Bool.or_false, Bool.or_comm]
/-! ## How long -/
theorem dedup_sum : ∀ (l out : List (List UInt8)), lsum (dedup out l) ≤ lsum out + lsum l
  | [], out => by simp [dedup]
  | s :: r, out => by
    unfold dedup
    rw [lsum_cons]
    cases inS out s with
    | true => have := dedup_sum r out; simp only [if_true]; omega
    | false =>
      have := dedup_sum r (out ++ [s])
      rw [lsum_append] at this
      have h1 : lsum [s] = s.length + 1 := rfl
      simp only [Bool.false_eq_true, if_false]
      omega
theorem join2_length : ∀ l : List (List UInt8), (Lib.join l [44, 32]).length ≤ 2 * lsum l := fun l => by
  refine Nat.le_trans (join_length l [44, 32]) ?_
  induction l with
  | nil => simp
  | cons x r ih => rw [lsum_cons]; simp only [List.map_cons, List.sum_cons, List.length_cons, List.length_nil] at ih ⊢; omega
theorem allV_sum (values : List (List UInt8)) (name : List UInt8) : lsum (allV values name) ≤ (Lib.join values [44]).length + 1 + name.length + 1 := by
  unfold allV
  rw [lsum_append, ← items_of_join]
  have := items_sum (Lib.join values [44])
  have h1 : lsum [name] = name.length + 1 := rfl
  omega
theorem mergeS_length (values : List (List UInt8)) (name : List UInt8) : (mergeS values name).length ≤ 2 * ((Lib.join values [44]).length + name.length + 2) := by
  have h1 := allV_sum values name
  have h2 := dedup_sum (allV values name) []
  have h3 := join2_length (mergeO values name)
  have h4 : lsum [] = 0 := rfl
  unfold mergeO at h3
  unfold mergeS
  split
  · split
    · simp; omega
    · unfold mergeO; omega
  · simp
theorem join_snoc : ∀ (l : List (List UInt8)) (x sep : List UInt8), l ≠ [] → Lib.join (l ++ [x]) sep = Lib.join l sep ++ sep ++ x
  | [], _, _, h => absurd rfl h
  | [y], x, sep, _ => by rw [List.singleton_append, join_cons, Lib.join_one, Lib.join_one]
  | y :: z :: r, x, sep, _ => by
    rw [List.cons_append, List.cons_append, join_cons, ← List.cons_append, join_snoc (z :: r) x sep (by simp), join_cons]
    simp
end Go.Proofs.YtnaeeklnlddcaaaGreatDoor
/- The laws of the first line, over byte lists. No program in sight. -/
namespace Go.Proofs.YtnaeeklnlddcaaaGreatDoor

theorem made_x (marks : List UInt8) (h37 : marks.contains 37 = false) (x : UInt8) (r : List UInt8) (h : madeOf marks (x :: r) = true) :
    (x ≠ 37 ∧ plainB marks x = true ∧ madeOf marks r = true) ∨ ∃ a b t, x = 37 ∧ r = a :: b :: t ∧ hexB a = true ∧ hexB b = true ∧ madeOf marks t = true := by
  by_cases hx : x = 37
  · subst hx
    rw [made_37 marks h37] at h
    match r with
    | [] => cases h
    | [_] => cases h
    | a :: b :: t => simp only [Bool.and_eq_true] at h; exact .inr ⟨a, b, t, rfl, rfl, h.1.1, h.1.2, h.2⟩
  · rw [made_cons marks x r hx, Bool.and_eq_true] at h
    exact .inl ⟨hx, h.1, h.2⟩
theorem made_app (marks : List UInt8) (h37 : marks.contains 37 = false) : ∀ (n : Nat) (a b : List UInt8), a.length ≤ n → madeOf marks a = true → madeOf marks (a ++ b) = madeOf marks b
  | _, [], _, _, _ => rfl
  | 0, x :: r, _, hl, _ => by simp at hl
  | n + 1, x :: r, b, hl, h => by
    rcases made_x marks h37 x r h with ⟨hx, h1, h2⟩ | ⟨p, q, t, rfl, rfl, h1, h2, h3⟩
    · rw [List.cons_append, made_cons marks x _ hx, h1, made_app marks h37 n r b (by simpa using hl) h2]; rfl
    · rw [List.cons_append, List.cons_append, List.cons_append, made_37 marks h37]
      dsimp only
      rw [made_app marks h37 n t b (by simp at hl; omega) h3]
      simp [h1, h2]
theorem made_sub {m1 m2 : List UInt8} (h1 : m1.contains 37 = false) (h2 : m2.contains 37 = false) (hs : ∀ x, plainB m1 x = true → plainB m2 x = true) : ∀ (n : Nat) (a : List UInt8), a.length ≤ n → madeOf m1 a = true → madeOf m2 a = true
  | _, [], _, _ => rfl
  | 0, x :: r, hl, _ => by simp at hl
  | n + 1, x :: r, hl, h => by
    rcases made_x m1 h1 x r h with ⟨hx, h3, h4⟩ | ⟨p, q, t, rfl, rfl, h3, h4, h5⟩
    · rw [made_cons m2 x _ hx, hs x h3, made_sub h1 h2 hs n r (by simpa using hl) h4]; rfl
    · rw [made_37 m2 h2]
      dsimp only
      rw [made_sub h1 h2 hs n t (by simp at hl; omega) h5]
      simp [h3, h4]
/-- A byte that is neither plain, nor a digit, nor the sign of a quoted one, does not stand there. -/
theorem made_no {marks : List UInt8} (h37 : marks.contains 37 = false) {c : UInt8} (hc : plainB marks c = false) (hh : hexB c = false) (hc3 : c ≠ 37) : ∀ (n : Nat) (a : List UInt8), a.length ≤ n → madeOf marks a = true → c ∉ a
  | _, [], _, _ => by simp
  | 0, x :: r, hl, _ => by simp at hl
  | n + 1, x :: r, hl, h => by
    rcases made_x marks h37 x r h with ⟨hx, h3, h4⟩ | ⟨p, q, t, rfl, rfl, h3, h4, h5⟩
    · have ih := made_no h37 hc hh hc3 n r (by simpa using hl) h4
      intro hm
      rcases List.mem_cons.1 hm with e | e
      · rw [← e, hc] at h3; cases h3
      · exact ih e
    · have ih := made_no h37 hc hh hc3 n t (by simp at hl; omega) h5
      intro hm
      simp only [List.mem_cons] at hm
      rcases hm with e | e | e | e
      · exact hc3 e
      · rw [← e, hh] at h3; cases h3
      · rw [← e, hh] at h4; cases h4
      · exact ih e
theorem path_37 : pathL.contains 37 = false := by decide
theorem query_37 : queryL.contains 37 = false := by decide
theorem path_query {s : List UInt8} (h : pathOf s = true) : queryOf s = true := by
  unfold pathOf at h
  rw [Bool.and_eq_true] at h
  refine made_sub path_37 query_37 (fun x hx => ?_) s.length s (Nat.le_refl _) h.2
  unfold plainB at hx ⊢
  unfold queryL
  simp only [Bool.or_eq_true, List.contains_iff_mem, List.mem_append] at hx ⊢
  rcases hx with (h | h) | h
  · exact .inl (.inl h)
  · exact .inl (.inr h)
  · exact .inr (.inl h)
theorem query_app {a b : List UInt8} (ha : queryOf a = true) (hb : queryOf b = true) : queryOf (a ++ b) = true := by
  unfold queryOf
  rw [made_app _ query_37 a.length a b (Nat.le_refl _) ha]
  exact hb
theorem path_app {a b : List UInt8} (ha : pathOf a = true) (hb : pathOf b = true) : pathOf (a ++ b) = true := by
  unfold pathOf at *
  rw [Bool.and_eq_true] at *
  rw [made_app _ path_37 a.length a b (Nat.le_refl _) ha.2]
  refine ⟨?_, hb.2⟩
  cases a with
  | nil => exact hb.1
  | cons x r => exact ha.1
theorem path_head {s : List UInt8} (h : pathOf s = true) : ∃ r, s = 47 :: r := by
  unfold pathOf at h
  rw [Bool.and_eq_true] at h
  cases s with
  | nil => cases h.1
  | cons x r =>
    have := h.1
    simp at this
    exact ⟨r, by rw [this]⟩
theorem segs_app {a b : List UInt8} (ha : pathOf a = true) (hb : pathOf b = true) : segs (a ++ b) = segs a ++ segs b := by
  obtain ⟨r, rfl⟩ := path_head ha
  obtain ⟨t, rfl⟩ := path_head hb
  unfold segs
  simp only [List.cons_append, List.drop_succ_cons, List.drop_zero]
  rw [splitB_join, List.map_append]
/-! ## What is quoted -/
theorem quoteB_facts (x : UInt8) : (∀ y ∈ quoteB x, y ≠ 47) ∧ madeOf pathL (quoteB x) = true ∧ (quoteB x = [x] ∧ x ≠ 37 ∨ ∃ a b, quoteB x = [37, a, b] ∧ hexB a = true ∧ hexB b = true ∧ hexV a b = x) := by
  have : ∀ n : Fin 256, ((quoteB n.val.toUInt8).all fun y => y != 47) && madeOf pathL (quoteB n.val.toUInt8) && (match quoteB n.val.toUInt8 with | [y] => y == n.val.toUInt8 && y != 37 | [z, a, b] => z == 37 && hexB a && hexB b && hexV a b == n.val.toUInt8 | _ => false) = true := by decide +kernel
  have h := this ⟨x.toNat, x.toNat_lt⟩
  simp only [show x.toNat.toUInt8 = x by simp, Bool.and_eq_true] at h
  refine ⟨fun y hy => by have := List.all_eq_true.1 h.1.1 y hy; simpa using this, h.1.2, ?_⟩
  have h2 := h.2
  split at h2
  · rename_i y hy
    simp at h2
    exact .inl ⟨by rw [hy, h2.1], fun e => h2.2 (by rw [h2.1, e])⟩
  · rename_i z a b hy
    simp at h2
    exact .inr ⟨a, b, by rw [hy, h2.1.1.1], h2.1.1.2, h2.1.2, h2.2⟩
  · cases h2
theorem quote_slash (s : List UInt8) : 47 ∉ quoteOf s := by
  intro h
  obtain ⟨x, _, hx⟩ := List.mem_flatMap.1 h
  exact (quoteB_facts x).1 47 hx rfl
theorem made_quote : ∀ s : List UInt8, madeOf pathL (quoteOf s) = true
  | [] => rfl
  | x :: r => by
    unfold quoteOf
    rw [List.flatMap_cons, made_app _ path_37 _ _ _ (Nat.le_refl _) (quoteB_facts x).2.1]
    exact made_quote r
theorem unq_quote : ∀ s : List UInt8, unq (quoteOf s) = s
  | [] => rfl
  | x :: r => by
    have ih := unq_quote r
    unfold quoteOf at ih ⊢
    rw [List.flatMap_cons]
    rcases (quoteB_facts x).2.2 with ⟨h1, h2⟩ | ⟨a, b, h1, h2, h3, h4⟩
    · rw [h1, List.singleton_append, unq_cons x _ h2, ih]
    · rw [h1, show ([37, a, b] ++ List.flatMap quoteB r) = 37 :: a :: b :: List.flatMap quoteB r from rfl, unq_37 a b _ h2 h3, ih, h4]
def pathOfL (l : List (List UInt8)) : List UInt8 := l.flatMap fun s => 47 :: quoteOf s
theorem pathOfL_made : ∀ l : List (List UInt8), madeOf pathL (pathOfL l) = true
  | [] => rfl
  | x :: r => by
    unfold pathOfL
    rw [List.flatMap_cons, List.cons_append, made_cons pathL 47 _ (by decide), made_app _ path_37 _ _ _ (Nat.le_refl _) (made_quote x)]
    rw [show plainB pathL 47 = true by decide]
    exact pathOfL_made r
theorem pathOfL_path {l : List (List UInt8)} (h : l ≠ []) : pathOf (pathOfL l) = true := by
  unfold pathOf
  rw [pathOfL_made, Bool.and_true]
  cases l with
  | nil => exact absurd rfl h
  | cons x r => rfl
theorem splitB_quotes : ∀ (x : List UInt8) (r : List (List UInt8)), splitB 47 ((pathOfL (x :: r)).drop 1) = quoteOf x :: r.map quoteOf
  | x, [] => by
    unfold pathOfL
    simp only [List.flatMap_cons, List.flatMap_nil, List.append_nil, List.drop_succ_cons, List.drop_zero, List.map_nil]
    exact splitB_none 47 _ (quote_slash x)
  | x, y :: r => by
    have ih := splitB_quotes y r
    have e : (pathOfL (x :: y :: r)).drop 1 = quoteOf x ++ 47 :: (pathOfL (y :: r)).drop 1 := by
      unfold pathOfL
      simp
    rw [e, splitB_app 47 _ _ (quote_slash x), ih]
    rfl
theorem segs_quotes {l : List (List UInt8)} (h : l ≠ []) : segs (pathOfL l) = l := by
  cases l with
  | nil => exact absurd rfl h
  | cons x r =>
    unfold segs
    rw [splitB_quotes, List.map_cons, unq_quote, List.map_map]
    congr 1
    rw [show unq ∘ quoteOf = id from funext unq_quote, List.map_id]
/-! ## Written, and read again -/
theorem version_end {v : Int} (h : v = 0 ∨ v = 1) : versionOf ([72, 84, 84, 80, 47, 49, 46] ++ (if v = 0 then [48] else [49])) = some v := by rcases h with rfl | rfl <;> rfl
theorem method_facts {m : List UInt8} (h : methodOf m = true) : tokenOf m = true ∧ 32 ∉ m := by
  have : ∀ x ∈ methodsL, tokenOf x = true ∧ 32 ∉ x := by decide +kernel
  unfold methodOf at h
  rw [List.contains_iff_mem] at h
  exact this m h
theorem path_no {p : List UInt8} (h : pathOf p = true) : 32 ∉ p ∧ 63 ∉ p := by
  unfold pathOf at h
  rw [Bool.and_eq_true] at h
  exact ⟨made_no path_37 (by decide) (by decide) (by decide) p.length p (Nat.le_refl _) h.2, made_no path_37 (by decide) (by decide) (by decide) p.length p (Nat.le_refl _) h.2⟩
theorem query_no {q : List UInt8} (h : queryOf q = true) : 32 ∉ q := made_no query_37 (by decide) (by decide) (by decide) q.length q (Nat.le_refl _) h
theorem cutB_app (c : UInt8) (a b : List UInt8) (h : c ∉ a) : cutB c (a ++ c :: b) = (a, b, true) := by
  rw [cutB_at c (a ++ c :: b) a.length (by simpa using h) (by simp)]
  simp
theorem write_line {r : Rq} (h : writeOK r = true) : lineSt (writeL r) = 200 ∧ lineR (writeL r) = r := by
  unfold writeOK at h
  simp only [Bool.and_eq_true, decide_eq_true_eq] at h
  obtain ⟨⟨⟨⟨⟨hm, hp⟩, hq⟩, h0⟩, h1⟩, hl⟩ := h
  have hv : r.v = 0 ∨ r.v = 1 := by omega
  obtain ⟨ht, hm32⟩ := method_facts hm
  obtain ⟨hp32, hp63⟩ := path_no hp
  have hq32 := query_no hq
  have htg : 32 ∉ targetOf r := by
    unfold targetOf
    split
    · exact hp32
    · intro hx
      rcases List.mem_append.1 hx with h | h
      · exact hp32 h
      · rcases List.mem_cons.1 h with e | e
        · exact absurd e (by decide)
        · exact hq32 e
  have hw : writeL r = r.m ++ 32 :: (targetOf r ++ 32 :: ([72, 84, 84, 80, 47, 49, 46] ++ (if r.v = 0 then [48] else [49]))) := by unfold writeL; simp
  have c1 := cutB_app 32 r.m (targetOf r ++ 32 :: ([72, 84, 84, 80, 47, 49, 46] ++ (if r.v = 0 then [48] else [49]))) hm32
  have c2 := cutB_app 32 (targetOf r) ([72, 84, 84, 80, 47, 49, 46] ++ (if r.v = 0 then [48] else [49])) htg
  have c3 : (cutB 63 (targetOf r)).1 = r.p ∧ (cutB 63 (targetOf r)).2.1 = r.q := by
    unfold targetOf
    split
    · rename_i hq0
      rw [cutB_none 63 _ hp63]
      exact ⟨rfl, hq0.symm⟩
    · rw [cutB_app 63 r.p r.q hp63]
      exact ⟨rfl, rfl⟩
  have e : lineRq (writeL r) = r := by
    unfold lineRq lineTarget
    rw [hw, c1]
    simp only [c2, version_end hv, c3.1, c3.2, Option.getD_some]
  have hok : lineOK (writeL r) = true := by
    unfold lineOK
    rw [e]
    rw [hw] at hl ⊢
    rw [c1]
    simp only [c2, version_end hv, ht, hp, hq, decide_eq_true hl, Option.isSome_some, Bool.and_self]
  unfold lineSt lineR
  rw [hok, e, hm]
  exact ⟨rfl, rfl⟩
theorem cutB_yes (c : UInt8) : ∀ l : List UInt8, (cutB c l).2.2 = true → l = (cutB c l).1 ++ c :: (cutB c l).2.1 ∧ c ∉ (cutB c l).1
  | [], h => by cases h
  | x :: r, h => by
    unfold cutB at h ⊢
    split
    · rename_i hx; subst hx; simp
    · rename_i hx
      rw [if_neg hx] at h
      obtain ⟨h1, h2⟩ := cutB_yes c r h
      refine ⟨by simp only [List.cons_append]; rw [← h1], fun hm => ?_⟩
      rcases List.mem_cons.1 hm with e | e
      · exact hx e.symm
      · exact h2 e
theorem cutB_nope (c : UInt8) : ∀ l : List UInt8, (cutB c l).2.2 = false → (cutB c l).1 = l ∧ (cutB c l).2.1 = []
  | [], _ => ⟨rfl, rfl⟩
  | x :: r, h => by
    unfold cutB at h ⊢
    split
    · rename_i hx; rw [if_pos hx] at h; cases h
    · rename_i hx
      rw [if_neg hx] at h
      obtain ⟨h1, h2⟩ := cutB_nope c r h
      exact ⟨by rw [h1], h2⟩
theorem version_some {s : List UInt8} {v : Int} (h : versionOf s = some v) : (v = 0 ∨ v = 1) ∧ ∃ d, s = [72, 84, 84, 80, 47, 49, 46, d] := by
  unfold versionOf at h
  split at h
  · rename_i d
    split at h
    · have := Option.some.inj h
      refine ⟨?_, d, rfl⟩
      split at this <;> omega
    · cases h
  · cases h
/-- What a line tells is written as that line, but for an empty query's sign and the version's digit. -/
theorem line_write {s : List UInt8} (h : lineSt s = 200) : lineR s = lineRq s ∧ writeOK (lineRq s) = true ∧ (writeL (lineRq s)).length ≤ s.length ∧ ((writeL (lineRq s)).length < s.length ∨ (writeL (lineRq s)).take ((writeL (lineRq s)).length - 1) = s.take (s.length - 1)) := by
  have hok : lineOK s = true := by
    unfold lineSt at h
    split at h
    · assumption
    · cases h
  have hmo : methodOf (lineRq s).m = true := by
    unfold lineSt at h
    rw [if_pos hok] at h
    split at h
    · assumption
    · cases h
  have hr : lineR s = lineRq s := by unfold lineR; rw [hok, hmo]; rfl
  have hok' := hok
  unfold lineOK at hok
  simp only [Bool.and_eq_true, decide_eq_true_eq] at hok
  obtain ⟨⟨⟨⟨⟨⟨hl, h1⟩, h2⟩, h3⟩, ht⟩, hp⟩, hq⟩ := hok
  obtain ⟨e1, n1⟩ := cutB_yes 32 s h1
  obtain ⟨e2, n2⟩ := cutB_yes 32 _ h2
  obtain ⟨v, hv⟩ := Option.isSome_iff_exists.1 h3
  obtain ⟨hv01, d, hd⟩ := version_some hv
  have hrv : (lineRq s).v = v := by unfold lineRq; simp only [hv, Option.getD_some]
  have hrm : (lineRq s).m = (cutB 32 s).1 := rfl
  have htgt : lineTarget s = (cutB 32 (cutB 32 s).2.1).1 := rfl
  have hs : s = (lineRq s).m ++ 32 :: (lineTarget s ++ 32 :: [72, 84, 84, 80, 47, 49, 46, d]) := by rw [hrm, htgt, ← hd, ← e2]; exact e1
  have hw : writeL (lineRq s) = (lineRq s).m ++ 32 :: (targetOf (lineRq s) ++ 32 :: ([72, 84, 84, 80, 47, 49, 46] ++ (if (lineRq s).v = 0 then [48] else [49]))) := by unfold writeL; simp
  have htg : targetOf (lineRq s) = lineTarget s ∨ (targetOf (lineRq s)).length < (lineTarget s).length := by
    have hpq : (lineRq s).p = (cutB 63 (lineTarget s)).1 ∧ (lineRq s).q = (cutB 63 (lineTarget s)).2.1 := ⟨rfl, rfl⟩
    unfold targetOf
    rw [hpq.1, hpq.2]
    cases hc : (cutB 63 (lineTarget s)).2.2 with
    | true =>
      obtain ⟨e3, _⟩ := cutB_yes 63 _ hc
      split
      · right
        conv => rhs; rw [e3]
        simp
      · exact .inl e3.symm
    | false =>
      obtain ⟨e3, e4⟩ := cutB_nope 63 _ hc
      rw [e4, if_pos rfl]
      exact .inl e3
  have hone : ((if (lineRq s).v = 0 then [48] else [49]) : List UInt8).length = 1 := by split <;> rfl
  have hwl : (writeL (lineRq s)).length = (lineRq s).m.length + (targetOf (lineRq s)).length + 10 := by rw [hw]; simp only [List.length_append, List.length_cons, List.length_nil, hone]; omega
  have hsl : s.length = (lineRq s).m.length + (lineTarget s).length + 10 := by
    conv => lhs; rw [hs]
    simp only [List.length_append, List.length_cons, List.length_nil]; omega
  have hle : (writeL (lineRq s)).length ≤ s.length := by
    rcases htg with e | e
    · rw [e] at hwl; omega
    · omega
  refine ⟨hr, ?_, hle, ?_⟩
  · unfold writeOK
    simp only [hmo, hp, hq, hrv, Bool.and_eq_true, decide_eq_true_eq, true_and]
    omega
  · rcases htg with e | e
    · right
      have k : ∀ (x : UInt8) (a : List UInt8), (a ++ [x]).take ((a ++ [x]).length - 1) = a := fun x a => by simp
      obtain ⟨x, hx⟩ : ∃ x, (if (lineRq s).v = 0 then [48] else [49] : List UInt8) = [x] := by split <;> exact ⟨_, rfl⟩
      have w1 : writeL (lineRq s) = ((lineRq s).m ++ 32 :: (lineTarget s ++ 32 :: [72, 84, 84, 80, 47, 49, 46])) ++ [x] := by rw [hw, hx, e]; simp
      have w2 : s = ((lineRq s).m ++ 32 :: (lineTarget s ++ 32 :: [72, 84, 84, 80, 47, 49, 46])) ++ [d] := by
        conv => lhs; rw [hs]
        simp
      rw [w1, k]
      conv => rhs; rw [w2]
      rw [k]
    · left; omega
theorem line_not {s : List UInt8} (h : lineSt s ≠ 200) : (lineSt s = 400 ∨ lineSt s = 501) ∧ lineR s = rq0 := by
  unfold lineSt lineR at *
  cases h1 : lineOK s <;> cases h2 : methodOf (lineRq s).m <;> simp_all
end Go.Proofs.YtnaeeklnlddcaaaGreatDoor
/- The program's functions on first lines, reckoned. -/
namespace Go.Proofs.YtnaeeklnlddcaaaGreatDoor.Vex
open Go Go.RowKit
set_option maxRecDepth 100000
set_option linter.unusedSectionVars false
variable {gI : GI} [HasMax gI] [HasErr gI]

theorem toErr_f (s : List UInt8) (bs k : Int) (hs : s.length ≤ 1000000000) (hk : k = 1 ∨ k = 2) : FnE Tryz.prog gI 155 [str [80, 97, 114, 115, 101, 85, 105, 110, 116], str s, .int .i64 16, .int .i64 bs, errV k] (fun _ => True) (fun _ v _ => ∃ te p, v = .iface te p) :=
  ⟨callable Tryz.func155 rfl (by kernel_rfl), fun w hG _ => by
    obtain ⟨⟨e1, c1, d1⟩, ⟨e2, c2, d2⟩⟩ := HasErr.ok w hG
    rcases hk with rfl | rfl
    · exact (Tryz.strconv_toError_range ⟨⟨_⟩⟩ ⟨⟨s⟩⟩ 16 bs e2 w (by show s.length ≤ _; omega) c2 d2).mono fun _ _ ⟨N, he, _, _, hb⟩ => ⟨_, he, ⟨_, _, rfl⟩, hb⟩
    · exact (Tryz.strconv_toError_syntax ⟨⟨_⟩⟩ ⟨⟨s⟩⟩ 16 bs e1 w (by show s.length ≤ _; omega) c1 d1).mono fun _ _ ⟨N, he, _, _, hb⟩ => ⟨_, he, ⟨_, _, rfl⟩, hb⟩⟩
theorem PU_f (l : List UInt8) (bs mx : Int) (hb : bs = 8 ∧ mx = 255 ∨ bs = 64 ∧ mx = 18446744073709551615) (hl : l.length ≤ 1000000000) :
    FnE Tryz.prog gI 114 [str l, .int .i64 16, .int .i64 bs] (fun _ => True) fun _ v _ => ((puV mx l).2 = 0 ∧ v = .tuple #[.int .u64 (puV mx l).1, .nilIface]) ∨ ((puV mx l).2 ≠ 0 ∧ ∃ te p, v = .tuple #[.int .u64 (puV mx l).1, .iface te p]) := by
  have hk : (puV mx l).2 = 0 ∨ (puV mx l).2 = 1 ∨ (puV mx l).2 = 2 := by
    unfold puV
    split
    · exact .inr (.inr rfl)
    · exact puGo_err mx l 0
  refine FnE.of tys_ok Tryz.func114 rfl (by kernel_rfl) rfl rfl ?_; intro w hG hP
  (conv => whnf); repeat ((first | refine tk1 ?_ | refine tk2 ?_ | refine tk3 ?_ | refine tk12 (fun _ => ?_) | refine tk4 ?_ | refine tk5 ?_ | refine tk6 ?_ | refine tk7 ?_ | refine tk8 ?_ | refine tk9 ?_ | refine tk10 (fun _ _ => ?_) | refine tk11 (fun _ => ?_) | refine tk13 ?_ | refine tk14 ?_); (conv => whnf))
  refine CallK.fn (Parse16_f l bs mx hb hl) ?_
  generalize hn : (puV mx l).1 = n at *
  generalize hq : (puV mx l).2 = k at *
  rcases hk with rfl | hk
  · (conv => whnf); repeat ((first | refine tk1 ?_ | refine tk2 ?_ | refine tk3 ?_ | refine tk12 (fun _ => ?_) | refine tk4 ?_ | refine tk5 ?_ | refine tk6 ?_ | refine tk7 ?_ | refine tk8 ?_ | refine tk9 ?_ | refine tk10 (fun _ _ => ?_) | refine tk11 (fun _ => ?_) | refine tk13 ?_ | refine tk14 ?_); (conv => whnf))
    refine OthP.ifNe tys_ok rfl rfl (v := errV 0) (b := true) rfl ?_
    (conv => whnf); repeat ((first | refine tk1 ?_ | refine tk2 ?_ | refine tk3 ?_ | refine tk12 (fun _ => ?_) | refine tk4 ?_ | refine tk5 ?_ | refine tk6 ?_ | refine tk7 ?_ | refine tk8 ?_ | refine tk9 ?_ | refine tk10 (fun _ _ => ?_) | refine tk11 (fun _ => ?_) | refine tk13 ?_ | refine tk14 ?_); (conv => whnf))
    exact fun w' _ => .inl ⟨rfl, rfl⟩
  · have hne : k ≠ 0 := by omega
    obtain ⟨tk, pk, he⟩ : ∃ tk pk, errV k = .iface tk pk := by rcases hk with rfl | rfl <;> exact ⟨_, _, rfl⟩
    have hte := toErr_f (gI := gI) l bs k hl hk
    rw [he] at hte ⊢
    (conv => whnf); repeat ((first | refine tk1 ?_ | refine tk2 ?_ | refine tk3 ?_ | refine tk12 (fun _ => ?_) | refine tk4 ?_ | refine tk5 ?_ | refine tk6 ?_ | refine tk7 ?_ | refine tk8 ?_ | refine tk9 ?_ | refine tk10 (fun _ _ => ?_) | refine tk11 (fun _ => ?_) | refine tk13 ?_ | refine tk14 ?_); (conv => whnf))
    refine OthP.ifNe tys_ok rfl rfl (v := .iface tk pk) rfl ?_
    (conv => whnf); repeat ((first | refine tk1 ?_ | refine tk2 ?_ | refine tk3 ?_ | refine tk12 (fun _ => ?_) | refine tk4 ?_ | refine tk5 ?_ | refine tk6 ?_ | refine tk7 ?_ | refine tk8 ?_ | refine tk9 ?_ | refine tk10 (fun _ _ => ?_) | refine tk11 (fun _ => ?_) | refine tk13 ?_ | refine tk14 ?_); (conv => whnf))
    refine CallK.fnE hte (fun _ _ => trivial) (fun w1 v w2 hs hv hr => ⟨_, hs.below hr, ?_⟩)
    obtain ⟨te, p, rfl⟩ := hv
    (conv => whnf); repeat ((first | refine tk1 ?_ | refine tk2 ?_ | refine tk3 ?_ | refine tk12 (fun _ => ?_) | refine tk4 ?_ | refine tk5 ?_ | refine tk6 ?_ | refine tk7 ?_ | refine tk8 ?_ | refine tk9 ?_ | refine tk10 (fun _ _ => ?_) | refine tk11 (fun _ => ?_) | refine tk13 ?_ | refine tk14 ?_); (conv => whnf))
    exact fun w' _ => .inr ⟨hne, te, p, rfl⟩
theorem plain_f (x : UInt8) (marks : List UInt8) : Fn Tryz.prog gI 71 [.int .u8 x.toNat, str marks] (.bool (plainB marks x)) := by
  have hi := idx_in x marks
  have hx : (((x.toNat : Nat) : Int).toNat.toUInt8) = x := by simp
  have hp : plainB marks x = (smallI x.toNat || greatI x.toNat || decide (0 ≤ Lib.indexByte marks x)) := by
    unfold plainB
    congr 1
    rw [Bool.eq_iff_iff, List.contains_iff_mem, decide_eq_true_iff, hi]
  have hf := IndexByte_f (gI := gI) marks x.toNat
  rw [hx] at hf
  rw [hp]
  refine Fn.of tys_ok Tryz.func71 rfl (by kernel_rfl) rfl rfl ?_; intro w hG
  (repeat' ((conv => whnf); first | (first | refine tk1 ?_ | refine tk2 ?_ | refine tk3 ?_ | refine tk12 (fun _ => ?_) | refine tk4 ?_ | refine tk5 ?_ | refine tk6 ?_ | refine tk7 ?_ | refine tk8 ?_ | refine tk9 ?_ | refine tk10 (fun _ _ => ?_) | refine tk11 (fun _ => ?_) | refine tk13 ?_ | refine tk14 ?_) | refine Cmp.cases (fun _ => ?_) (fun _ => ?_) | refine IdxS.nat (by omega) ?_ | refine IdxS.go (by omega) (by omega) (fun _ _ _ => ?_) | refine SlcS.at (by omega) (by omega) (by omega) ?_ | refine CatS.at (by simp only [List.length_append, List.length_cons, List.length_nil]; omega) ?_ | refine CallK.fn hf ?_)); all_goals (conv => whnf)
  all_goals first | rfl | (refine congrArg Value.bool ?_; first | (simp [smallI, greatI, *]; done) | (rw [Bool.eq_iff_iff]; simp [smallI, greatI]; omega) | (rw [Bool.eq_iff_iff]; simp [smallI, greatI, *]; omega))
def codeV : List UInt8 → UInt8 × Bool
  | a :: b :: _ => if hexB a && hexB b then (hexV a b, true) else (0, false)
  | _ => (0, false)
theorem pu_two (a b : UInt8) : puV 255 [a, b] = if hexB a && hexB b then (16 * digI a.toNat + digI b.toNat, 0) else (0, 2) := by
  have h1 := dig_range a
  have h2 := dig_range b
  have e1 : hexB a = decide (0 ≤ digI a.toNat) := rfl
  have e2 : hexB b = decide (0 ≤ digI b.toNat) := rfl
  unfold puV
  rw [if_neg (by simp)]
  simp only [puGo]
  by_cases ha : 0 ≤ digI a.toNat
  · by_cases hb : 0 ≤ digI b.toNat
    · rw [e1, e2, decide_eq_true ha, decide_eq_true hb]
      rw [if_neg (by omega), if_neg (by omega), if_neg (by omega), if_neg (by omega), if_neg (by omega), if_neg (by omega)]
      simp only [Bool.and_self, if_true]
      congr 1
      omega
    · rw [e1, e2, decide_eq_true ha, decide_eq_false hb]
      rw [if_neg (by omega), if_neg (by omega), if_neg (by omega), if_pos (by omega)]
      simp
  · rw [e1, decide_eq_false ha, if_pos (by omega)]
    simp
theorem code_f (s : List UInt8) (hs : s.length ≤ 1000000000) : Fn Tryz.prog gI 70 [str s] (.tuple #[.int .u8 (codeV s).1.toNat, .bool (codeV s).2]) := by
  refine Fn.of tys_ok Tryz.func70 rfl (by kernel_rfl) rfl rfl ?_; intro w hG
  match s with
  | [] => (conv => whnf); repeat ((first | refine tk1 ?_ | refine tk2 ?_ | refine tk3 ?_ | refine tk12 (fun _ => ?_) | refine tk4 ?_ | refine tk5 ?_ | refine tk6 ?_ | refine tk7 ?_ | refine tk8 ?_ | refine tk9 ?_ | refine tk10 (fun _ _ => ?_) | refine tk11 (fun _ => ?_) | refine tk13 ?_ | refine tk14 ?_); (conv => whnf)); rfl
  | [_] => (conv => whnf); repeat ((first | refine tk1 ?_ | refine tk2 ?_ | refine tk3 ?_ | refine tk12 (fun _ => ?_) | refine tk4 ?_ | refine tk5 ?_ | refine tk6 ?_ | refine tk7 ?_ | refine tk8 ?_ | refine tk9 ?_ | refine tk10 (fun _ _ => ?_) | refine tk11 (fun _ => ?_) | refine tk13 ?_ | refine tk14 ?_); (conv => whnf)); rfl
  | a :: b :: r =>
    have hl : (((a :: b :: r).length : Nat) : Int) = (r.length : Int) + 2 := by simp; omega
    have hpu := PU_f (gI := gI) [a, b] 8 255 (.inl ⟨rfl, rfl⟩) (by simp)
    rw [pu_two] at hpu
    (conv => whnf); repeat ((first | refine tk1 ?_ | refine tk2 ?_ | refine tk3 ?_ | refine tk12 (fun _ => ?_) | refine tk4 ?_ | refine tk5 ?_ | refine tk6 ?_ | refine tk7 ?_ | refine tk8 ?_ | refine tk9 ?_ | refine tk10 (fun _ _ => ?_) | refine tk11 (fun _ => ?_) | refine tk13 ?_ | refine tk14 ?_); (conv => whnf))
    refine SlcS.at (by omega) (by omega) (by rw [hl]; omega) ?_
    (conv => whnf); repeat ((first | refine tk1 ?_ | refine tk2 ?_ | refine tk3 ?_ | refine tk12 (fun _ => ?_) | refine tk4 ?_ | refine tk5 ?_ | refine tk6 ?_ | refine tk7 ?_ | refine tk8 ?_ | refine tk9 ?_ | refine tk10 (fun _ _ => ?_) | refine tk11 (fun _ => ?_) | refine tk13 ?_ | refine tk14 ?_); (conv => whnf))
    refine CallK.fnE hpu (fun _ _ => trivial) (fun w1 v w2 hs hv hr => ⟨_, hs.below hr, ?_⟩)
    cases hh : hexB a && hexB b
    · rw [hh] at hv
      simp only [Bool.false_eq_true, if_false] at hv
      rcases hv with ⟨h2, _⟩ | ⟨_, te, p, rfl⟩
      · exact absurd h2 (by decide)
      (conv => whnf); repeat ((first | refine tk1 ?_ | refine tk2 ?_ | refine tk3 ?_ | refine tk12 (fun _ => ?_) | refine tk4 ?_ | refine tk5 ?_ | refine tk6 ?_ | refine tk7 ?_ | refine tk8 ?_ | refine tk9 ?_ | refine tk10 (fun _ _ => ?_) | refine tk11 (fun _ => ?_) | refine tk13 ?_ | refine tk14 ?_); (conv => whnf))
      refine DrawS.go (qs 26) tys_ok mixed (by kernel_rfl) ?_
      (conv => whnf); repeat ((first | refine tk1 ?_ | refine tk2 ?_ | refine tk3 ?_ | refine tk12 (fun _ => ?_) | refine tk4 ?_ | refine tk5 ?_ | refine tk6 ?_ | refine tk7 ?_ | refine tk8 ?_ | refine tk9 ?_ | refine tk10 (fun _ _ => ?_) | refine tk11 (fun _ => ?_) | refine tk13 ?_ | refine tk14 ?_); (conv => whnf))
      refine Ar.in8 (by omega) (by omega) ?_
      (conv => whnf); repeat ((first | refine tk1 ?_ | refine tk2 ?_ | refine tk3 ?_ | refine tk12 (fun _ => ?_) | refine tk4 ?_ | refine tk5 ?_ | refine tk6 ?_ | refine tk7 ?_ | refine tk8 ?_ | refine tk9 ?_ | refine tk10 (fun _ _ => ?_) | refine tk11 (fun _ => ?_) | refine tk13 ?_ | refine tk14 ?_); (conv => whnf))
      refine OthP.ifEq tys_ok rfl rfl (v := .iface te p) rfl ?_
      (conv => whnf); repeat ((first | refine tk1 ?_ | refine tk2 ?_ | refine tk3 ?_ | refine tk12 (fun _ => ?_) | refine tk4 ?_ | refine tk5 ?_ | refine tk6 ?_ | refine tk7 ?_ | refine tk8 ?_ | refine tk9 ?_ | refine tk10 (fun _ _ => ?_) | refine tk11 (fun _ => ?_) | refine tk13 ?_ | refine tk14 ?_); (conv => whnf))
      simp [codeV, hh]
    · rw [hh] at hv
      simp only [if_true] at hv
      rcases hv with ⟨_, rfl⟩ | ⟨h2, _⟩
      rotate_left
      · exact absurd rfl h2
      rw [Bool.and_eq_true] at hh
      have hv := hexV_toNat a b hh.1 hh.2
      have ra := dig_range a
      have rb := dig_range b
      have ha0 := hh.1
      have hb0 := hh.2
      rw [hexB_iff] at ha0 hb0
      have na : ¬ (a.toNat : Int) = 43 ∧ ¬ (a.toNat : Int) = 45 ∧ ¬ (a.toNat : Int) = 95 := by
        refine ⟨?_, ?_, ?_⟩ <;> (intro e; rw [e] at ha0; revert ha0; decide)
      have nb : ¬ (b.toNat : Int) = 95 := by intro e; rw [e] at hb0; revert hb0; decide
      (conv => whnf); repeat ((first | refine tk1 ?_ | refine tk2 ?_ | refine tk3 ?_ | refine tk12 (fun _ => ?_) | refine tk4 ?_ | refine tk5 ?_ | refine tk6 ?_ | refine tk7 ?_ | refine tk8 ?_ | refine tk9 ?_ | refine tk10 (fun _ _ => ?_) | refine tk11 (fun _ => ?_) | refine tk13 ?_ | refine tk14 ?_); (conv => whnf))
      refine DrawS.go (qs 26) tys_ok mixed (by kernel_rfl) ?_
      (conv => whnf); repeat ((first | refine tk1 ?_ | refine tk2 ?_ | refine tk3 ?_ | refine tk12 (fun _ => ?_) | refine tk4 ?_ | refine tk5 ?_ | refine tk6 ?_ | refine tk7 ?_ | refine tk8 ?_ | refine tk9 ?_ | refine tk10 (fun _ _ => ?_) | refine tk11 (fun _ => ?_) | refine tk13 ?_ | refine tk14 ?_); (conv => whnf))
      refine Ar.in8 (by omega) (by omega) ?_
      (conv => whnf); repeat ((first | refine tk1 ?_ | refine tk2 ?_ | refine tk3 ?_ | refine tk12 (fun _ => ?_) | refine tk4 ?_ | refine tk5 ?_ | refine tk6 ?_ | refine tk7 ?_ | refine tk8 ?_ | refine tk9 ?_ | refine tk10 (fun _ _ => ?_) | refine tk11 (fun _ => ?_) | refine tk13 ?_ | refine tk14 ?_); (conv => whnf))
      refine OthP.ifEq tys_ok rfl rfl (v := .nilIface) rfl ?_
      (conv => whnf); repeat ((first | refine tk1 ?_ | refine tk2 ?_ | refine tk3 ?_ | refine tk12 (fun _ => ?_) | refine tk4 ?_ | refine tk5 ?_ | refine tk6 ?_ | refine tk7 ?_ | refine tk8 ?_ | refine tk9 ?_ | refine tk10 (fun _ _ => ?_) | refine tk11 (fun _ => ?_) | refine tk13 ?_ | refine tk14 ?_); (conv => whnf))
      refine IdxS.at a rfl (by omega) ?_
      (conv => whnf); repeat ((first | refine tk1 ?_ | refine tk2 ?_ | refine tk3 ?_ | refine tk12 (fun _ => ?_) | refine tk4 ?_ | refine tk5 ?_ | refine tk6 ?_ | refine tk7 ?_ | refine tk8 ?_ | refine tk9 ?_ | refine tk10 (fun _ _ => ?_) | refine tk11 (fun _ => ?_) | refine tk13 ?_ | refine tk14 ?_); (conv => whnf))
      refine IdxS.at a rfl (by omega) ?_
      (conv => whnf); repeat ((first | refine tk1 ?_ | refine tk2 ?_ | refine tk3 ?_ | refine tk12 (fun _ => ?_) | refine tk4 ?_ | refine tk5 ?_ | refine tk6 ?_ | refine tk7 ?_ | refine tk8 ?_ | refine tk9 ?_ | refine tk10 (fun _ _ => ?_) | refine tk11 (fun _ => ?_) | refine tk13 ?_ | refine tk14 ?_); (conv => whnf))
      refine IdxS.at a rfl (by omega) ?_
      (conv => whnf); repeat ((first | refine tk1 ?_ | refine tk2 ?_ | refine tk3 ?_ | refine tk12 (fun _ => ?_) | refine tk4 ?_ | refine tk5 ?_ | refine tk6 ?_ | refine tk7 ?_ | refine tk8 ?_ | refine tk9 ?_ | refine tk10 (fun _ _ => ?_) | refine tk11 (fun _ => ?_) | refine tk13 ?_ | refine tk14 ?_); (conv => whnf))
      refine IdxS.at b rfl (by omega) ?_
      (conv => whnf); repeat ((first | refine tk1 ?_ | refine tk2 ?_ | refine tk3 ?_ | refine tk12 (fun _ => ?_) | refine tk4 ?_ | refine tk5 ?_ | refine tk6 ?_ | refine tk7 ?_ | refine tk8 ?_ | refine tk9 ?_ | refine tk10 (fun _ _ => ?_) | refine tk11 (fun _ => ?_) | refine tk13 ?_ | refine tk14 ?_); (conv => whnf))
      simp [codeV, hh, hv]
theorem made_f (s marks : List UInt8) (h37 : marks.contains 37 = false) (hs : s.length ≤ 1000000000) : Fn Tryz.prog gI 68 [str s, str marks] (.bool (madeOf marks s)) := by
  refine Fn.of tys_ok Tryz.func68 rfl (by kernel_rfl) rfl rfl ?_; intro w hG
  (conv => whnf); repeat ((first | refine tk1 ?_ | refine tk2 ?_ | refine tk3 ?_ | refine tk12 (fun _ => ?_) | refine tk4 ?_ | refine tk5 ?_ | refine tk6 ?_ | refine tk7 ?_ | refine tk8 ?_ | refine tk9 ?_ | refine tk10 (fun _ _ => ?_) | refine tk11 (fun _ => ?_) | refine tk13 ?_ | refine tk14 ?_); (conv => whnf))
  refine LoopS.lp tys_ok (fun (i : Nat) u => [str s, str marks, u 2, u 3, u 4, .int .i64 (i : Nat), u 6, u 7, u 8, u 9, u 10, u 11, u 12, u 13, u 14, u 15, u 16, u 17, u 18, u 19, u 20, u 21, u 22, u 23, u 24, u 25, u 26, u 27, u 28, u 29, u 30, u 31, u 32, u 33, u 34]) (fun _ => [])
    (fun i => i ≤ s.length ∧ madeOf marks s = madeOf marks (s.drop i)) (fun i => s.length - i) 0 ⟨Nat.zero_le _, rfl⟩ rfl (by repeat' (first | exact List.Sublist.refl _ | exact List.nil_sublist _ | apply List.Sublist.cons_cons | apply List.Sublist.cons)) ?_
  intro i u ⟨hi, hI⟩
  (conv => whnf); repeat ((first | refine tk1 ?_ | refine tk2 ?_ | refine tk3 ?_ | refine tk12 (fun _ => ?_) | refine tk4 ?_ | refine tk5 ?_ | refine tk6 ?_ | refine tk7 ?_ | refine tk8 ?_ | refine tk9 ?_ | refine tk10 (fun _ _ => ?_) | refine tk11 (fun _ => ?_) | refine tk13 ?_ | refine tk14 ?_); (conv => whnf))
  refine Cmp.cases (fun hlt => ?_) (fun hlt => ?_)
  · have hlt' : i < s.length := by omega
    obtain ⟨x, hx⟩ : ∃ x, s[i] = x := ⟨_, rfl⟩
    have hd : s.drop i = x :: s.drop (i + 1) := by rw [← hx]; exact List.drop_eq_getElem_cons hlt'
    have hxi : s[(i : Int).toNat]? = some x := by rw [Int.toNat_natCast, List.getElem?_eq_getElem hlt', hx]
    rw [hd] at hI
    (conv => whnf); repeat ((first | refine tk1 ?_ | refine tk2 ?_ | refine tk3 ?_ | refine tk12 (fun _ => ?_) | refine tk4 ?_ | refine tk5 ?_ | refine tk6 ?_ | refine tk7 ?_ | refine tk8 ?_ | refine tk9 ?_ | refine tk10 (fun _ _ => ?_) | refine tk11 (fun _ => ?_) | refine tk13 ?_ | refine tk14 ?_); (conv => whnf))
    refine IdxS.at x hxi (by omega) ?_
    (conv => whnf); repeat ((first | refine tk1 ?_ | refine tk2 ?_ | refine tk3 ?_ | refine tk12 (fun _ => ?_) | refine tk4 ?_ | refine tk5 ?_ | refine tk6 ?_ | refine tk7 ?_ | refine tk8 ?_ | refine tk9 ?_ | refine tk10 (fun _ _ => ?_) | refine tk11 (fun _ => ?_) | refine tk13 ?_ | refine tk14 ?_); (conv => whnf))
    refine CallK.fnB (plain_f x marks) (fun hp => ?_) (fun hp => ?_)
    · have hx37 : x ≠ 37 := fun e => by subst e; rw [plain_not_37 h37] at hp; cases hp
      rw [made_cons marks x _ hx37, hp] at hI
      (conv => whnf); repeat ((first | refine tk1 ?_ | refine tk2 ?_ | refine tk3 ?_ | refine tk12 (fun _ => ?_) | refine tk4 ?_ | refine tk5 ?_ | refine tk6 ?_ | refine tk7 ?_ | refine tk8 ?_ | refine tk9 ?_ | refine tk10 (fun _ _ => ?_) | refine tk11 (fun _ => ?_) | refine tk13 ?_ | refine tk14 ?_); (conv => whnf))
      exact ⟨i + 1, ⟨by omega, hI⟩, rfl, (by repeat' (first | exact List.Sublist.refl _ | exact List.nil_sublist _ | apply List.Sublist.cons_cons | apply List.Sublist.cons)), by dsimp only; omega⟩
    · (conv => whnf); repeat ((first | refine tk1 ?_ | refine tk2 ?_ | refine tk3 ?_ | refine tk12 (fun _ => ?_) | refine tk4 ?_ | refine tk5 ?_ | refine tk6 ?_ | refine tk7 ?_ | refine tk8 ?_ | refine tk9 ?_ | refine tk10 (fun _ _ => ?_) | refine tk11 (fun _ => ?_) | refine tk13 ?_ | refine tk14 ?_); (conv => whnf))
      refine IdxS.at x hxi (by omega) ?_
      (conv => whnf); repeat ((first | refine tk1 ?_ | refine tk2 ?_ | refine tk3 ?_ | refine tk12 (fun _ => ?_) | refine tk4 ?_ | refine tk5 ?_ | refine tk6 ?_ | refine tk7 ?_ | refine tk8 ?_ | refine tk9 ?_ | refine tk10 (fun _ _ => ?_) | refine tk11 (fun _ => ?_) | refine tk13 ?_ | refine tk14 ?_); (conv => whnf))
      refine Cmp.cases (fun hq => ?_) (fun hq => ?_)
      · have hx37 : x ≠ 37 := fun e => by subst e; exact hq rfl
        rw [made_cons marks x _ hx37, hp] at hI
        (conv => whnf); repeat ((first | refine tk1 ?_ | refine tk2 ?_ | refine tk3 ?_ | refine tk12 (fun _ => ?_) | refine tk4 ?_ | refine tk5 ?_ | refine tk6 ?_ | refine tk7 ?_ | refine tk8 ?_ | refine tk9 ?_ | refine tk10 (fun _ _ => ?_) | refine tk11 (fun _ => ?_) | refine tk13 ?_ | refine tk14 ?_); (conv => whnf))
        rw [hI]; rfl
      · have hx37 : x = 37 := b8 (n := 37) (by decide) (by omega)
        subst hx37
        rw [made_37 marks h37] at hI
        (conv => whnf); repeat ((first | refine tk1 ?_ | refine tk2 ?_ | refine tk3 ?_ | refine tk12 (fun _ => ?_) | refine tk4 ?_ | refine tk5 ?_ | refine tk6 ?_ | refine tk7 ?_ | refine tk8 ?_ | refine tk9 ?_ | refine tk10 (fun _ _ => ?_) | refine tk11 (fun _ => ?_) | refine tk13 ?_ | refine tk14 ?_); (conv => whnf))
        refine SlcS.at (by omega) (by omega) (by omega) ?_
        rw [show (List.take (s.length : Int).toNat s).drop ((i : Int) + 1).toNat = s.drop (i + 1) by rw [Int.toNat_natCast, List.take_length]; congr 1]
        (conv => whnf); repeat ((first | refine tk1 ?_ | refine tk2 ?_ | refine tk3 ?_ | refine tk12 (fun _ => ?_) | refine tk4 ?_ | refine tk5 ?_ | refine tk6 ?_ | refine tk7 ?_ | refine tk8 ?_ | refine tk9 ?_ | refine tk10 (fun _ _ => ?_) | refine tk11 (fun _ => ?_) | refine tk13 ?_ | refine tk14 ?_); (conv => whnf))
        refine CallK.fn (code_f (s.drop (i + 1)) (by rw [List.length_drop]; omega)) ?_
        have hz : (s.drop (i + 1)).length = s.length - (i + 1) := List.length_drop
        match hr : s.drop (i + 1) with
        | [] =>
          rw [hr] at hI
          (conv => whnf); repeat ((first | refine tk1 ?_ | refine tk2 ?_ | refine tk3 ?_ | refine tk12 (fun _ => ?_) | refine tk4 ?_ | refine tk5 ?_ | refine tk6 ?_ | refine tk7 ?_ | refine tk8 ?_ | refine tk9 ?_ | refine tk10 (fun _ _ => ?_) | refine tk11 (fun _ => ?_) | refine tk13 ?_ | refine tk14 ?_); (conv => whnf))
          rw [hI]
        | [y] =>
          rw [hr] at hI
          (conv => whnf); repeat ((first | refine tk1 ?_ | refine tk2 ?_ | refine tk3 ?_ | refine tk12 (fun _ => ?_) | refine tk4 ?_ | refine tk5 ?_ | refine tk6 ?_ | refine tk7 ?_ | refine tk8 ?_ | refine tk9 ?_ | refine tk10 (fun _ _ => ?_) | refine tk11 (fun _ => ?_) | refine tk13 ?_ | refine tk14 ?_); (conv => whnf))
          rw [hI]
        | a :: b :: t =>
          rw [hr] at hI hz
          simp only [List.length_cons] at hz
          have ht : s.drop (i + 3) = t := by
            rw [show i + 3 = (i + 1) + 2 by omega, ← List.drop_drop, hr]; rfl
          cases hh : hexB a && hexB b
          · have hc : codeV (a :: b :: t) = (0, false) := by simp only [codeV, hh]; rfl
            rw [hc]
            simp only [hh, Bool.false_and] at hI
            (conv => whnf); repeat ((first | refine tk1 ?_ | refine tk2 ?_ | refine tk3 ?_ | refine tk12 (fun _ => ?_) | refine tk4 ?_ | refine tk5 ?_ | refine tk6 ?_ | refine tk7 ?_ | refine tk8 ?_ | refine tk9 ?_ | refine tk10 (fun _ _ => ?_) | refine tk11 (fun _ => ?_) | refine tk13 ?_ | refine tk14 ?_); (conv => whnf))
            rw [hI]
          · have hc : codeV (a :: b :: t) = (hexV a b, true) := by simp only [codeV, hh]; rfl
            rw [hc]
            simp only [hh, Bool.true_and] at hI
            (conv => whnf); repeat ((first | refine tk1 ?_ | refine tk2 ?_ | refine tk3 ?_ | refine tk12 (fun _ => ?_) | refine tk4 ?_ | refine tk5 ?_ | refine tk6 ?_ | refine tk7 ?_ | refine tk8 ?_ | refine tk9 ?_ | refine tk10 (fun _ _ => ?_) | refine tk11 (fun _ => ?_) | refine tk13 ?_ | refine tk14 ?_); (conv => whnf))
            exact ⟨i + 3, ⟨by omega, by rw [hI, ht]⟩, rfl, (by repeat' (first | exact List.Sublist.refl _ | exact List.nil_sublist _ | apply List.Sublist.cons_cons | apply List.Sublist.cons)), by dsimp only; omega⟩
  · (conv => whnf); repeat ((first | refine tk1 ?_ | refine tk2 ?_ | refine tk3 ?_ | refine tk12 (fun _ => ?_) | refine tk4 ?_ | refine tk5 ?_ | refine tk6 ?_ | refine tk7 ?_ | refine tk8 ?_ | refine tk9 ?_ | refine tk10 (fun _ _ => ?_) | refine tk11 (fun _ => ?_) | refine tk13 ?_ | refine tk14 ?_); (conv => whnf))
    rw [hI, List.drop_eq_nil_of_le (by omega)]; rfl
theorem head_prefix (s : List UInt8) : Lib.hasPrefix s [47] = (s.head? == some 47) := by
  cases s with
  | nil => rfl
  | cons x r => simp [Lib.hasPrefix, List.isPrefixOf, Bool.beq_comm]
theorem Path_f (s : List UInt8) (hs : s.length ≤ 1000000000) : Fn Tryz.prog gI 37 [str s] (.bool (pathOf s)) := by
  refine Fn.of tys_ok Tryz.func37 rfl (by kernel_rfl) rfl rfl ?_; intro w hG
  (conv => whnf); repeat ((first | refine tk1 ?_ | refine tk2 ?_ | refine tk3 ?_ | refine tk12 (fun _ => ?_) | refine tk4 ?_ | refine tk5 ?_ | refine tk6 ?_ | refine tk7 ?_ | refine tk8 ?_ | refine tk9 ?_ | refine tk10 (fun _ _ => ?_) | refine tk11 (fun _ => ?_) | refine tk13 ?_ | refine tk14 ?_); (conv => whnf))
  refine CallK.fn (HasPrefix_f s [47]) ?_
  rw [head_prefix]
  cases h : (s.head? == some 47)
  · (conv => whnf); repeat ((first | refine tk1 ?_ | refine tk2 ?_ | refine tk3 ?_ | refine tk12 (fun _ => ?_) | refine tk4 ?_ | refine tk5 ?_ | refine tk6 ?_ | refine tk7 ?_ | refine tk8 ?_ | refine tk9 ?_ | refine tk10 (fun _ _ => ?_) | refine tk11 (fun _ => ?_) | refine tk13 ?_ | refine tk14 ?_); (conv => whnf))
    unfold pathOf; rw [h]; rfl
  · (conv => whnf); repeat ((first | refine tk1 ?_ | refine tk2 ?_ | refine tk3 ?_ | refine tk12 (fun _ => ?_) | refine tk4 ?_ | refine tk5 ?_ | refine tk6 ?_ | refine tk7 ?_ | refine tk8 ?_ | refine tk9 ?_ | refine tk10 (fun _ _ => ?_) | refine tk11 (fun _ => ?_) | refine tk13 ?_ | refine tk14 ?_); (conv => whnf))
    refine CallK.fn (made_f s pathL path_37 hs) ?_
    (conv => whnf); repeat ((first | refine tk1 ?_ | refine tk2 ?_ | refine tk3 ?_ | refine tk12 (fun _ => ?_) | refine tk4 ?_ | refine tk5 ?_ | refine tk6 ?_ | refine tk7 ?_ | refine tk8 ?_ | refine tk9 ?_ | refine tk10 (fun _ _ => ?_) | refine tk11 (fun _ => ?_) | refine tk13 ?_ | refine tk14 ?_); (conv => whnf))
    unfold pathOf; rw [h]; rfl
def verV (s : List UInt8) : Int × Bool := match versionOf s with | some v => (v, true) | none => (0, false)
end Go.Proofs.YtnaeeklnlddcaaaGreatDoor.Vex
/- The program's functions on first lines, reckoned: Parse, Write, Quote, Segments. -/
namespace Go.Proofs.YtnaeeklnlddcaaaGreatDoor.Vex
open Go Go.RowKit
set_option maxRecDepth 100000
set_option linter.unusedSectionVars false
variable {gI : GI} [HasMax gI]

def rqV (r : Rq) : Value := .agg ⟨[str r.m, str r.p, str r.q, .int .i64 r.v, .slice none 0 0, .slice none 0 0]⟩
theorem Itoa_f [HasPow gI] (n : Int) (h0 : -9223372036854775808 ≤ n) (h1 : n ≤ 9223372036854775807) : Fn Tryz.prog gI 55 [.int .i64 n] (str (Lib.itoa n)) :=
  ⟨callable Tryz.func55 rfl (by kernel_rfl), fun w hG => (Tryz.strconv_Itoa n h0 h1 w (HasPow.ok w hG)).mono fun _ _ ⟨he, k, os, hw⟩ => ⟨he, by
    rw [hw]
    exact ⟨rfl, rfl, rfl, by simp [«Sort».grow, World.drewN], fun i hi => by
      show (w.heap ++ os)[i]? = w.heap[i]?
      exact Array.getElem?_append_left hi⟩⟩⟩
theorem itoa_01 {v : Int} (h : v = 0 ∨ v = 1) : Lib.itoa v = if v = 0 then [48] else [49] := by rcases h with rfl | rfl <;> decide +kernel
end Go.Proofs.YtnaeeklnlddcaaaGreatDoor.Vex
/- line.Quote, line.unquoted, line.Segments, reckoned. -/
namespace Go.Proofs.YtnaeeklnlddcaaaGreatDoor.Vex
open Go Go.RowKit
set_option maxRecDepth 100000
set_option linter.unusedSectionVars false
variable {gI : GI} [HasMax gI] [HasErr gI]

theorem made_cut : ∀ (n : Nat) (a b : List UInt8), a.length ≤ n → madeOf pathL (a ++ 47 :: b) = true → madeOf pathL a = true ∧ madeOf pathL b = true
  | _, [], b, _, h => by
    rcases made_x pathL path_37 47 b h with ⟨_, _, h2⟩ | ⟨_, _, _, h, _⟩
    · exact ⟨rfl, h2⟩
    · cases h
  | 0, x :: r, _, hl, _ => by simp at hl
  | n + 1, x :: r, b, hl, h => by
    rcases made_x pathL path_37 x (r ++ 47 :: b) h with ⟨hx, h1, h2⟩ | ⟨p, q, t, rfl, hr, h1, h2, h3⟩
    · have ih := made_cut n r b (by simpa using hl) h2
      rw [made_cons pathL x _ hx, h1, ih.1]
      exact ⟨rfl, ih.2⟩
    · match r with
      | [] =>
        cases hr
        exact absurd h1 (by decide)
      | [y] =>
        cases hr
        exact absurd h2 (by decide)
      | y :: z :: r =>
        cases hr
        have ih := made_cut n r b (by simp at hl; omega) h3
        rw [made_37 pathL path_37]
        simp [h1, h2, ih.1, ih.2]
theorem quoteB_le (x : UInt8) : (quoteB x).length ≤ 3 := by unfold quoteB; split <;> simp
theorem quote_le (l : List UInt8) : (quoteOf l).length ≤ 3 * l.length := by
  induction l with
  | nil => simp [quoteOf]
  | cons x r ih =>
    have := quoteB_le x
    simp only [quoteOf, List.flatMap_cons, List.length_append, List.length_cons] at ih ⊢
    omega
theorem quote_take (s : List UInt8) (k : Nat) (h : k < s.length) : quoteOf (s.take (k + 1)) = quoteOf (s.take k) ++ quoteB s[k] := by
  unfold quoteOf
  rw [List.take_succ_eq_append_getElem h, List.flatMap_append]
  simp
def hexT : List UInt8 := [48, 49, 50, 51, 52, 53, 54, 55, 56, 57, 65, 66, 67, 68, 69, 70]
theorem hexT_at (n : Nat) (h : n < 16) : hexT[n]? = some (hexD n) := by
  have : ∀ n : Fin 16, hexT[n.val]? = some (hexD n.val) := by decide
  exact this ⟨n, h⟩
theorem and_15 (x : UInt8) : ((x.toNat % 16 : Nat) : Int) = bits .and .u8 x.toNat 15 := by
  have : ∀ n : Fin 256, ((n.val % 16 : Nat) : Int) = bits .and .u8 n.val 15 := by decide +kernel
  exact this ⟨x.toNat, x.toNat_lt⟩
theorem Quote_f (s : List UInt8) (hs : s.length ≤ 1000000000) : Fn Tryz.prog gI 40 [str s] (str (quoteOf s)) := by
  refine Fn.of tys_ok Tryz.func40 rfl (by kernel_rfl) rfl rfl ?_; intro w hG
  (conv => whnf); repeat ((first | refine tk1 ?_ | refine tk2 ?_ | refine tk3 ?_ | refine tk12 (fun _ => ?_) | refine tk4 ?_ | refine tk5 ?_ | refine tk6 ?_ | refine tk7 ?_ | refine tk8 ?_ | refine tk9 ?_ | refine tk10 (fun _ _ => ?_) | refine tk11 (fun _ => ?_) | refine tk13 ?_ | refine tk14 ?_); (conv => whnf))
  refine LoopS.nilRow 5 1 ?_
  refine LoopS.lp tys_ok (fun (x : Nat × List UInt8 × Option Addr × Nat) u => [str s, u 1, u 2, .slice x.2.2.1 x.2.1.length x.2.2.2, u 4, u 5, u 6, .int .i64 s.length, .int .i64 (x.1 : Nat), u 9, u 10, u 11, u 12, u 13, u 14, u 15, u 16, u 17, u 18, u 19, u 20, u 21, u 22, u 23, u 24, u 25, u 26, u 27, u 28, u 29, u 30, u 31])
    (fun x => [.row (.slice x.2.2.1 x.2.1.length x.2.2.2) 5 1 x.2.1.length (x.2.1.map byteV)])
    (fun x => x.1 ≤ s.length ∧ x.2.1 = quoteOf (s.take x.1)) (fun x => s.length - x.1) (0, [], none, 0) ⟨Nat.zero_le _, rfl⟩ rfl (by repeat' (first | exact List.Sublist.refl _ | exact List.nil_sublist _ | apply List.Sublist.cons_cons | apply List.Sublist.cons)) ?_
  rintro ⟨k, out, A, cp⟩ u ⟨hk, ho⟩
  dsimp only at hk ho ⊢
  have hn := quote_le (s.take k)
  rw [← ho, List.length_take] at hn
  (conv => whnf); repeat ((first | refine tk1 ?_ | refine tk2 ?_ | refine tk3 ?_ | refine tk12 (fun _ => ?_) | refine tk4 ?_ | refine tk5 ?_ | refine tk6 ?_ | refine tk7 ?_ | refine tk8 ?_ | refine tk9 ?_ | refine tk10 (fun _ _ => ?_) | refine tk11 (fun _ => ?_) | refine tk13 ?_ | refine tk14 ?_); (conv => whnf))
  refine Cmp.cases (fun hlt => ?_) (fun hlt => ?_)
  · have hlt' : k < s.length := by omega
    obtain ⟨x, hx⟩ : ∃ x, s[k] = x := ⟨_, rfl⟩
    have hq := quote_take s k hlt'
    rw [hx, ← ho] at hq
    have hxt := x.toNat_lt
    (conv => whnf); repeat ((first | refine tk1 ?_ | refine tk2 ?_ | refine tk3 ?_ | refine tk12 (fun _ => ?_) | refine tk4 ?_ | refine tk5 ?_ | refine tk6 ?_ | refine tk7 ?_ | refine tk8 ?_ | refine tk9 ?_ | refine tk10 (fun _ _ => ?_) | refine tk11 (fun _ => ?_) | refine tk13 ?_ | refine tk14 ?_); (conv => whnf))
    refine IdxS.at x (by rw [Int.toNat_natCast, List.getElem?_eq_getElem hlt', hx]) (by omega) ?_
    (conv => whnf); repeat ((first | refine tk1 ?_ | refine tk2 ?_ | refine tk3 ?_ | refine tk12 (fun _ => ?_) | refine tk4 ?_ | refine tk5 ?_ | refine tk6 ?_ | refine tk7 ?_ | refine tk8 ?_ | refine tk9 ?_ | refine tk10 (fun _ _ => ?_) | refine tk11 (fun _ => ?_) | refine tk13 ?_ | refine tk14 ?_); (conv => whnf))
    refine CallK.fnB (plain_f x freeL) (fun hp => ?_) (fun hp => ?_)
    · have hb : quoteB x = [x] := by unfold quoteB; rw [hp]; rfl
      rw [hb] at hq
      (conv => whnf); repeat ((first | refine tk1 ?_ | refine tk2 ?_ | refine tk3 ?_ | refine tk12 (fun _ => ?_) | refine tk4 ?_ | refine tk5 ?_ | refine tk6 ?_ | refine tk7 ?_ | refine tk8 ?_ | refine tk9 ?_ | refine tk10 (fun _ _ => ?_) | refine tk11 (fun _ => ?_) | refine tk13 ?_ | refine tk14 ?_); (conv => whnf))
      refine AppS.tc SrcK.tc rfl (by simp [Value.oneCell']) (by decide) (by omega) (by omega) (zs := (out ++ [x]).map byteV) (by simp [byteV]) (fun A' cp' => ?_)
      rw [show out.length + 1 = (out ++ [x]).length by simp]
      (conv => whnf); repeat ((first | refine tk1 ?_ | refine tk2 ?_ | refine tk3 ?_ | refine tk12 (fun _ => ?_) | refine tk4 ?_ | refine tk5 ?_ | refine tk6 ?_ | refine tk7 ?_ | refine tk8 ?_ | refine tk9 ?_ | refine tk10 (fun _ _ => ?_) | refine tk11 (fun _ => ?_) | refine tk13 ?_ | refine tk14 ?_); (conv => whnf))
      exact ⟨(k + 1, out ++ [x], A', cp'), ⟨by dsimp only; omega, hq.symm⟩, rfl, (by repeat' (first | exact List.Sublist.refl _ | exact List.nil_sublist _ | apply List.Sublist.cons_cons | apply List.Sublist.cons)), by dsimp only; omega⟩
    · have hb : quoteB x = [37, hexD (x.toNat / 16), hexD (x.toNat % 16)] := by unfold quoteB; rw [hp]; rfl
      rw [hb] at hq
      (conv => whnf); repeat ((first | refine tk1 ?_ | refine tk2 ?_ | refine tk3 ?_ | refine tk12 (fun _ => ?_) | refine tk4 ?_ | refine tk5 ?_ | refine tk6 ?_ | refine tk7 ?_ | refine tk8 ?_ | refine tk9 ?_ | refine tk10 (fun _ _ => ?_) | refine tk11 (fun _ => ?_) | refine tk13 ?_ | refine tk14 ?_); (conv => whnf))
      refine DrawS.go [(0, true), (1, true), (2, true), (3, true), (4, true), (5, true), (6, true), (7, false), (8, false), (9, true)] tys_ok mixed (by kernel_rfl) ?_
      (conv => whnf); repeat ((first | refine tk1 ?_ | refine tk2 ?_ | refine tk3 ?_ | refine tk12 (fun _ => ?_) | refine tk4 ?_ | refine tk5 ?_ | refine tk6 ?_ | refine tk7 ?_ | refine tk8 ?_ | refine tk9 ?_ | refine tk10 (fun _ _ => ?_) | refine tk11 (fun _ => ?_) | refine tk13 ?_ | refine tk14 ?_); (conv => whnf))
      refine OthP.ints rfl rfl (v := .int .u8 ((x.toNat : Int).fdiv 16)) (fun w => rfl) ?_
      rw [show (x.toNat : Int).fdiv 16 = ((x.toNat / 16 : Nat) : Int) by rw [Int.fdiv_eq_ediv_of_nonneg _ (by decide)]; omega]
      (conv => whnf); repeat ((first | refine tk1 ?_ | refine tk2 ?_ | refine tk3 ?_ | refine tk12 (fun _ => ?_) | refine tk4 ?_ | refine tk5 ?_ | refine tk6 ?_ | refine tk7 ?_ | refine tk8 ?_ | refine tk9 ?_ | refine tk10 (fun _ _ => ?_) | refine tk11 (fun _ => ?_) | refine tk13 ?_ | refine tk14 ?_); (conv => whnf))
      refine IdxS.at (hexD (x.toNat / 16)) (by rw [Int.toNat_natCast]; exact hexT_at _ (by omega)) (by omega) ?_
      (conv => whnf); repeat ((first | refine tk1 ?_ | refine tk2 ?_ | refine tk3 ?_ | refine tk12 (fun _ => ?_) | refine tk4 ?_ | refine tk5 ?_ | refine tk6 ?_ | refine tk7 ?_ | refine tk8 ?_ | refine tk9 ?_ | refine tk10 (fun _ _ => ?_) | refine tk11 (fun _ => ?_) | refine tk13 ?_ | refine tk14 ?_); (conv => whnf))
      refine OthP.ints rfl rfl (v := .int .u8 ((x.toNat % 16 : Nat) : Int)) (fun w => by rw [and_15 x]; rfl) ?_
      (conv => whnf); repeat ((first | refine tk1 ?_ | refine tk2 ?_ | refine tk3 ?_ | refine tk12 (fun _ => ?_) | refine tk4 ?_ | refine tk5 ?_ | refine tk6 ?_ | refine tk7 ?_ | refine tk8 ?_ | refine tk9 ?_ | refine tk10 (fun _ _ => ?_) | refine tk11 (fun _ => ?_) | refine tk13 ?_ | refine tk14 ?_); (conv => whnf))
      refine IdxS.at (hexD (x.toNat % 16)) (by rw [Int.toNat_natCast]; exact hexT_at _ (by omega)) (by omega) ?_
      (conv => whnf); repeat ((first | refine tk1 ?_ | refine tk2 ?_ | refine tk3 ?_ | refine tk12 (fun _ => ?_) | refine tk4 ?_ | refine tk5 ?_ | refine tk6 ?_ | refine tk7 ?_ | refine tk8 ?_ | refine tk9 ?_ | refine tk10 (fun _ _ => ?_) | refine tk11 (fun _ => ?_) | refine tk13 ?_ | refine tk14 ?_); (conv => whnf))
      refine AppS.tc SrcK.tc rfl (by simp [Value.oneCell']) (by decide) (by omega) (by omega) (zs := (out ++ [37, hexD (x.toNat / 16), hexD (x.toNat % 16)]).map byteV) (by simp [byteV]) (fun A' cp' => ?_)
      rw [show out.length + 3 = (out ++ [37, hexD (x.toNat / 16), hexD (x.toNat % 16)]).length by simp]
      (conv => whnf); repeat ((first | refine tk1 ?_ | refine tk2 ?_ | refine tk3 ?_ | refine tk12 (fun _ => ?_) | refine tk4 ?_ | refine tk5 ?_ | refine tk6 ?_ | refine tk7 ?_ | refine tk8 ?_ | refine tk9 ?_ | refine tk10 (fun _ _ => ?_) | refine tk11 (fun _ => ?_) | refine tk13 ?_ | refine tk14 ?_); (conv => whnf))
      exact ⟨(k + 1, out ++ [37, hexD (x.toNat / 16), hexD (x.toNat % 16)], A', cp'), ⟨by dsimp only; omega, hq.symm⟩, rfl, (by repeat' (first | exact List.Sublist.refl _ | exact List.nil_sublist _ | apply List.Sublist.cons_cons | apply List.Sublist.cons)), by dsimp only; omega⟩
  · (conv => whnf); repeat ((first | refine tk1 ?_ | refine tk2 ?_ | refine tk3 ?_ | refine tk12 (fun _ => ?_) | refine tk4 ?_ | refine tk5 ?_ | refine tk6 ?_ | refine tk7 ?_ | refine tk8 ?_ | refine tk9 ?_ | refine tk10 (fun _ _ => ?_) | refine tk11 (fun _ => ?_) | refine tk13 ?_ | refine tk14 ?_); (conv => whnf))
    refine B2S.tc rfl rfl ?_
    (conv => whnf); repeat ((first | refine tk1 ?_ | refine tk2 ?_ | refine tk3 ?_ | refine tk12 (fun _ => ?_) | refine tk4 ?_ | refine tk5 ?_ | refine tk6 ?_ | refine tk7 ?_ | refine tk8 ?_ | refine tk9 ?_ | refine tk10 (fun _ _ => ?_) | refine tk11 (fun _ => ?_) | refine tk13 ?_ | refine tk14 ?_); (conv => whnf))
    rw [ho, List.take_of_length_le (by omega)]
theorem unq_f (s : List UInt8) (hs : s.length ≤ 1000000000) (hm : madeOf pathL s = true) : Fn Tryz.prog gI 39 [str s] (str (unq s)) := by
  refine Fn.of tys_ok Tryz.func39 rfl (by kernel_rfl) rfl rfl ?_; intro w hG
  (conv => whnf); repeat ((first | refine tk1 ?_ | refine tk2 ?_ | refine tk3 ?_ | refine tk12 (fun _ => ?_) | refine tk4 ?_ | refine tk5 ?_ | refine tk6 ?_ | refine tk7 ?_ | refine tk8 ?_ | refine tk9 ?_ | refine tk10 (fun _ _ => ?_) | refine tk11 (fun _ => ?_) | refine tk13 ?_ | refine tk14 ?_); (conv => whnf))
  refine LoopS.nilRow 5 1 ?_
  refine LoopS.lp tys_ok (fun (x : List UInt8 × List UInt8 × Option Addr × Nat) u => [str x.1, u 1, u 2, .slice x.2.2.1 x.2.1.length x.2.2.2, u 4, u 5, u 6, u 7, u 8, u 9, u 10, u 11, u 12, u 13, u 14, u 15, u 16, u 17, u 18, u 19, u 20, u 21, u 22, u 23, u 24, u 25, u 26, u 27])
    (fun x => [.row (.slice x.2.2.1 x.2.1.length x.2.2.2) 5 1 x.2.1.length (x.2.1.map byteV)])
    (fun x => x.2.1 ++ unq x.1 = unq s ∧ madeOf pathL x.1 = true ∧ x.2.1.length + x.1.length ≤ s.length) (fun x => x.1.length) (s, [], none, 0) ⟨rfl, hm, by simp⟩ rfl (by repeat' (first | exact List.Sublist.refl _ | exact List.nil_sublist _ | apply List.Sublist.cons_cons | apply List.Sublist.cons)) ?_
  rintro ⟨r, out, A, cp⟩ u ⟨hI, hr, hz⟩
  dsimp only at hI hr hz ⊢
  match r with
  | [] =>
    (conv => whnf); repeat ((first | refine tk1 ?_ | refine tk2 ?_ | refine tk3 ?_ | refine tk12 (fun _ => ?_) | refine tk4 ?_ | refine tk5 ?_ | refine tk6 ?_ | refine tk7 ?_ | refine tk8 ?_ | refine tk9 ?_ | refine tk10 (fun _ _ => ?_) | refine tk11 (fun _ => ?_) | refine tk13 ?_ | refine tk14 ?_); (conv => whnf))
    refine B2S.tc rfl rfl ?_
    (conv => whnf); repeat ((first | refine tk1 ?_ | refine tk2 ?_ | refine tk3 ?_ | refine tk12 (fun _ => ?_) | refine tk4 ?_ | refine tk5 ?_ | refine tk6 ?_ | refine tk7 ?_ | refine tk8 ?_ | refine tk9 ?_ | refine tk10 (fun _ _ => ?_) | refine tk11 (fun _ => ?_) | refine tk13 ?_ | refine tk14 ?_); (conv => whnf))
    rw [← hI]; simp [unq]
  | x :: t =>
    simp only [List.length_cons] at hz
    have hl : (((x :: t).length : Nat) : Int) = (t.length : Int) + 1 := by simp
    (conv => whnf); repeat ((first | refine tk1 ?_ | refine tk2 ?_ | refine tk3 ?_ | refine tk12 (fun _ => ?_) | refine tk4 ?_ | refine tk5 ?_ | refine tk6 ?_ | refine tk7 ?_ | refine tk8 ?_ | refine tk9 ?_ | refine tk10 (fun _ _ => ?_) | refine tk11 (fun _ => ?_) | refine tk13 ?_ | refine tk14 ?_); (conv => whnf))
    refine IdxS.at x rfl (by omega) ?_
    (conv => whnf); repeat ((first | refine tk1 ?_ | refine tk2 ?_ | refine tk3 ?_ | refine tk12 (fun _ => ?_) | refine tk4 ?_ | refine tk5 ?_ | refine tk6 ?_ | refine tk7 ?_ | refine tk8 ?_ | refine tk9 ?_ | refine tk10 (fun _ _ => ?_) | refine tk11 (fun _ => ?_) | refine tk13 ?_ | refine tk14 ?_); (conv => whnf))
    rcases made_x pathL path_37 x t hr with ⟨h37, _, h2⟩ | ⟨a, b, q, rfl, rfl, ha, hb, hq⟩
    · rw [unq_cons x t h37] at hI
      have hx : ¬ (x.toNat : Int) = 37 := fun e => h37 (b8 (n := 37) (by decide) (by omega))
      (conv => whnf); repeat ((first | refine tk1 ?_ | refine tk2 ?_ | refine tk3 ?_ | refine tk12 (fun _ => ?_) | refine tk4 ?_ | refine tk5 ?_ | refine tk6 ?_ | refine tk7 ?_ | refine tk8 ?_ | refine tk9 ?_ | refine tk10 (fun _ _ => ?_) | refine tk11 (fun _ => ?_) | refine tk13 ?_ | refine tk14 ?_); (conv => whnf))
      refine DrawS.go [(0, true), (1, true), (4, true), (5, true), (6, true), (2, false), (3, false), (7, true), (8, true)] tys_ok mixed (by kernel_rfl) ?_
      (conv => whnf); repeat ((first | refine tk1 ?_ | refine tk2 ?_ | refine tk3 ?_ | refine tk12 (fun _ => ?_) | refine tk4 ?_ | refine tk5 ?_ | refine tk6 ?_ | refine tk7 ?_ | refine tk8 ?_ | refine tk9 ?_ | refine tk10 (fun _ _ => ?_) | refine tk11 (fun _ => ?_) | refine tk13 ?_ | refine tk14 ?_); (conv => whnf))
      refine SlcS.at (by omega) (by rw [hl]; omega) (by omega) ?_
      rw [show ((x :: t).take ((x :: t).length : Int).toNat).drop (1 : Int).toNat = t by rw [Int.toNat_natCast, List.take_length]; rfl]
      (conv => whnf); repeat ((first | refine tk1 ?_ | refine tk2 ?_ | refine tk3 ?_ | refine tk12 (fun _ => ?_) | refine tk4 ?_ | refine tk5 ?_ | refine tk6 ?_ | refine tk7 ?_ | refine tk8 ?_ | refine tk9 ?_ | refine tk10 (fun _ _ => ?_) | refine tk11 (fun _ => ?_) | refine tk13 ?_ | refine tk14 ?_); (conv => whnf))
      refine AppS.tc SrcK.tc rfl (by simp [Value.oneCell']) (by decide) (by omega) (by omega) (zs := (out ++ [x]).map byteV) (by simp [byteV]) (fun A' cp' => ?_)
      rw [show out.length + 1 = (out ++ [x]).length by simp]
      (conv => whnf); repeat ((first | refine tk1 ?_ | refine tk2 ?_ | refine tk3 ?_ | refine tk12 (fun _ => ?_) | refine tk4 ?_ | refine tk5 ?_ | refine tk6 ?_ | refine tk7 ?_ | refine tk8 ?_ | refine tk9 ?_ | refine tk10 (fun _ _ => ?_) | refine tk11 (fun _ => ?_) | refine tk13 ?_ | refine tk14 ?_); (conv => whnf))
      exact ⟨(t, out ++ [x], A', cp'), ⟨by rw [← hI]; simp, h2, by simp; omega⟩, rfl, (by repeat' (first | exact List.Sublist.refl _ | exact List.nil_sublist _ | apply List.Sublist.cons_cons | apply List.Sublist.cons)), by dsimp only; simp⟩
    · rw [unq_37 a b q ha hb] at hI
      have hc : codeV (a :: b :: q) = (hexV a b, true) := by simp only [codeV, ha, hb]; rfl
      have hcf := code_f (gI := gI) (a :: b :: q) (by simp at hz ⊢; omega)
      rw [hc] at hcf
      simp only [List.length_cons] at hz
      (conv => whnf); repeat ((first | refine tk1 ?_ | refine tk2 ?_ | refine tk3 ?_ | refine tk12 (fun _ => ?_) | refine tk4 ?_ | refine tk5 ?_ | refine tk6 ?_ | refine tk7 ?_ | refine tk8 ?_ | refine tk9 ?_ | refine tk10 (fun _ _ => ?_) | refine tk11 (fun _ => ?_) | refine tk13 ?_ | refine tk14 ?_); (conv => whnf))
      refine SlcS.at (by omega) (by rw [hl]; omega) (by omega) ?_
      rw [show ((37 :: a :: b :: q).take ((37 :: a :: b :: q).length : Int).toNat).drop (1 : Int).toNat = a :: b :: q by rw [Int.toNat_natCast, List.take_length]; rfl]
      (conv => whnf); repeat ((first | refine tk1 ?_ | refine tk2 ?_ | refine tk3 ?_ | refine tk12 (fun _ => ?_) | refine tk4 ?_ | refine tk5 ?_ | refine tk6 ?_ | refine tk7 ?_ | refine tk8 ?_ | refine tk9 ?_ | refine tk10 (fun _ _ => ?_) | refine tk11 (fun _ => ?_) | refine tk13 ?_ | refine tk14 ?_); (conv => whnf))
      refine CallK.fn hcf ?_
      (conv => whnf); repeat ((first | refine tk1 ?_ | refine tk2 ?_ | refine tk3 ?_ | refine tk12 (fun _ => ?_) | refine tk4 ?_ | refine tk5 ?_ | refine tk6 ?_ | refine tk7 ?_ | refine tk8 ?_ | refine tk9 ?_ | refine tk10 (fun _ _ => ?_) | refine tk11 (fun _ => ?_) | refine tk13 ?_ | refine tk14 ?_); (conv => whnf))
      refine DrawS.go [(0, true), (1, true), (4, true), (5, true), (6, true), (2, false), (3, false), (7, true), (8, true)] tys_ok mixed (by kernel_rfl) ?_
      (conv => whnf); repeat ((first | refine tk1 ?_ | refine tk2 ?_ | refine tk3 ?_ | refine tk12 (fun _ => ?_) | refine tk4 ?_ | refine tk5 ?_ | refine tk6 ?_ | refine tk7 ?_ | refine tk8 ?_ | refine tk9 ?_ | refine tk10 (fun _ _ => ?_) | refine tk11 (fun _ => ?_) | refine tk13 ?_ | refine tk14 ?_); (conv => whnf))
      refine SlcS.at (by omega) (by rw [hl]; simp; omega) (by omega) ?_
      rw [show ((37 :: a :: b :: q).take ((37 :: a :: b :: q).length : Int).toNat).drop (3 : Int).toNat = q by rw [Int.toNat_natCast, List.take_length]; rfl]
      (conv => whnf); repeat ((first | refine tk1 ?_ | refine tk2 ?_ | refine tk3 ?_ | refine tk12 (fun _ => ?_) | refine tk4 ?_ | refine tk5 ?_ | refine tk6 ?_ | refine tk7 ?_ | refine tk8 ?_ | refine tk9 ?_ | refine tk10 (fun _ _ => ?_) | refine tk11 (fun _ => ?_) | refine tk13 ?_ | refine tk14 ?_); (conv => whnf))
      refine AppS.tc SrcK.tc rfl (by simp [Value.oneCell']) (by decide) (by omega) (by omega) (zs := (out ++ [hexV a b]).map byteV) (by simp [byteV]) (fun A' cp' => ?_)
      rw [show out.length + 1 = (out ++ [hexV a b]).length by simp]
      (conv => whnf); repeat ((first | refine tk1 ?_ | refine tk2 ?_ | refine tk3 ?_ | refine tk12 (fun _ => ?_) | refine tk4 ?_ | refine tk5 ?_ | refine tk6 ?_ | refine tk7 ?_ | refine tk8 ?_ | refine tk9 ?_ | refine tk10 (fun _ _ => ?_) | refine tk11 (fun _ => ?_) | refine tk13 ?_ | refine tk14 ?_); (conv => whnf))
      exact ⟨(q, out ++ [hexV a b], A', cp'), ⟨by rw [← hI]; simp, hq, by simp; omega⟩, rfl, (by repeat' (first | exact List.Sublist.refl _ | exact List.nil_sublist _ | apply List.Sublist.cons_cons | apply List.Sublist.cons)), by dsimp only; simp; omega⟩
def segPost (s : List UInt8) (w : World) (v : Value) (w' : World) : Prop := ∃ u, v = .tuple #[u, .int .i64 (segE s)] ∧ rowPost 9 1 (segO s).length ((segO s).map str) w u w'
theorem Segments_f (s : List UInt8) (hs : s.length ≤ 1000000000) : FnE Tryz.prog gI 15 [str s] (fun _ => True) (segPost s) := by
  refine FnE.ofX tys_ok Tryz.func15 rfl (by kernel_rfl) rfl rfl ?_; intro w hG hP
  (conv => whnf); repeat ((first | refine tk1 ?_ | refine tk2 ?_ | refine tk3 ?_ | refine tk12 (fun _ => ?_) | refine tk4 ?_ | refine tk5 ?_ | refine tk6 ?_ | refine tk7 ?_ | refine tk8 ?_ | refine tk9 ?_ | refine tk10 (fun _ _ => ?_) | refine tk11 (fun _ => ?_) | refine tk13 ?_ | refine tk14 ?_); (conv => whnf))
  refine CallK.fn (Path_f s (by omega)) ?_
  cases hp : pathOf s
  · have e1 : segO s = [] := by unfold segO; rw [hp]; rfl
    have e2 : segE s = 3 := by unfold segE; rw [hp]; rfl
    unfold segPost
    rw [e1, e2]
    (conv => whnf); repeat ((first | refine tk1 ?_ | refine tk2 ?_ | refine tk3 ?_ | refine tk12 (fun _ => ?_) | refine tk4 ?_ | refine tk5 ?_ | refine tk6 ?_ | refine tk7 ?_ | refine tk8 ?_ | refine tk9 ?_ | refine tk10 (fun _ _ => ?_) | refine tk11 (fun _ => ?_) | refine tk13 ?_ | refine tk14 ?_); (conv => whnf))
    exact fun w' hs => ⟨_, rfl, rowPost.nil _ _ w' hs⟩
  have e1 : segO s = segs s := by unfold segO; rw [hp]; rfl
  have e2 : segE s = 0 := by unfold segE; rw [hp]; rfl
  obtain ⟨l, rfl⟩ := path_head hp
  have hm : madeOf pathL l = true := by
    unfold pathOf at hp
    rw [Bool.and_eq_true] at hp
    rcases made_x pathL path_37 47 l hp.2 with ⟨_, _, h2⟩ | ⟨_, _, _, h, _⟩
    · exact h2
    · cases h
  have e3 : segs (47 :: l) = (splitB 47 l).map unq := rfl
  unfold segPost
  rw [e1, e2, e3]
  simp only [List.length_cons] at hs
  have hl : (((47 :: l).length : Nat) : Int) = (l.length : Int) + 1 := by simp
  (conv => whnf); repeat ((first | refine tk1 ?_ | refine tk2 ?_ | refine tk3 ?_ | refine tk12 (fun _ => ?_) | refine tk4 ?_ | refine tk5 ?_ | refine tk6 ?_ | refine tk7 ?_ | refine tk8 ?_ | refine tk9 ?_ | refine tk10 (fun _ _ => ?_) | refine tk11 (fun _ => ?_) | refine tk13 ?_ | refine tk14 ?_); (conv => whnf))
  refine SlcS.at (by omega) (by rw [hl]; omega) (by omega) ?_
  rw [show ((47 :: l).take ((47 :: l).length : Int).toNat).drop (1 : Int).toNat = l by rw [Int.toNat_natCast, List.take_length]; rfl]
  (conv => whnf); repeat ((first | refine tk1 ?_ | refine tk2 ?_ | refine tk3 ?_ | refine tk12 (fun _ => ?_) | refine tk4 ?_ | refine tk5 ?_ | refine tk6 ?_ | refine tk7 ?_ | refine tk8 ?_ | refine tk9 ?_ | refine tk10 (fun _ _ => ?_) | refine tk11 (fun _ => ?_) | refine tk13 ?_ | refine tk14 ?_); (conv => whnf))
  refine CallK.inl tys_ok Tryz.func38 rfl (by kernel_rfl) rfl rfl ?_
  (conv => whnf); repeat ((first | refine tk1 ?_ | refine tk2 ?_ | refine tk3 ?_ | refine tk12 (fun _ => ?_) | refine tk4 ?_ | refine tk5 ?_ | refine tk6 ?_ | refine tk7 ?_ | refine tk8 ?_ | refine tk9 ?_ | refine tk10 (fun _ _ => ?_) | refine tk11 (fun _ => ?_) | refine tk13 ?_ | refine tk14 ?_); (conv => whnf))
  refine CallK.inl tys_ok Tryz.func69 rfl (by kernel_rfl) rfl rfl ?_
  (conv => whnf); repeat ((first | refine tk1 ?_ | refine tk2 ?_ | refine tk3 ?_ | refine tk12 (fun _ => ?_) | refine tk4 ?_ | refine tk5 ?_ | refine tk6 ?_ | refine tk7 ?_ | refine tk8 ?_ | refine tk9 ?_ | refine tk10 (fun _ _ => ?_) | refine tk11 (fun _ => ?_) | refine tk13 ?_ | refine tk14 ?_); (conv => whnf))
  rename_i bo bs bp bk
  refine RngS.go tys_ok rfl Tryz.func111 rfl (by kernel_rfl) ?_
  intro fno D
  generalize hR : ready fno _ _ _ _ D = R
  have yl : ∀ (p r : List UInt8) (out : List (List UInt8)) (A : Option Addr) (cp : Nat) (K : Value → Hp → Prop), p.length ≤ 1000000000 → madeOf pathL p = true → out.length ≤ 5000000000 →
      (∀ A' cp', K (.bool true) [.obj (D + 1) (.loop R), .row (.slice A' (out ++ [unq p]).length cp') 9 1 (out ++ [unq p]).length ((out ++ [unq p]).map str), .obj D (.deferred (some [])), .box bk [.int .i64 0] 3, .box bp [str [47]] 9, .box bs [str r] 9, .box bo [.slice A' (out ++ [unq p]).length cp'] 23]) →
      YldK (mkC Tryz.prog gI w hG) (D + 1) [str p] [.obj (D + 1) (.loop R), .row (.slice A out.length cp) 9 1 out.length (out.map str), .obj D (.deferred (some [])), .box bk [.int .i64 0] 3, .box bp [str [47]] 9, .box bs [str r] 9, .box bo [.slice A out.length cp] 23] K := by
    intro p r out A cp K hz hmp hn hk
    subst hR
    refine YldK.run tys_ok .here rfl rfl rfl rfl ?_
    (conv => whnf); repeat ((first | refine tk1 ?_ | refine tk2 ?_ | refine tk3 ?_ | refine tk12 (fun _ => ?_) | refine tk4 ?_ | refine tk5 ?_ | refine tk6 ?_ | refine tk7 ?_ | refine tk8 ?_ | refine tk9 ?_ | refine tk10 (fun _ _ => ?_) | refine tk11 (fun _ => ?_) | refine tk13 ?_ | refine tk14 ?_); (conv => whnf))
    refine ⟨List.Perm.refl _, ?_⟩
    (conv => whnf); repeat ((first | refine tk1 ?_ | refine tk2 ?_ | refine tk3 ?_ | refine tk12 (fun _ => ?_) | refine tk4 ?_ | refine tk5 ?_ | refine tk6 ?_ | refine tk7 ?_ | refine tk8 ?_ | refine tk9 ?_ | refine tk10 (fun _ _ => ?_) | refine tk11 (fun _ => ?_) | refine tk13 ?_ | refine tk14 ?_); (conv => whnf))
    refine DrawS.go [(0, true), (1, true), (2, true), (3, false), (4, false), (5, false)] tys_ok mixed (by kernel_rfl) ?_
    (conv => whnf); repeat ((first | refine tk1 ?_ | refine tk2 ?_ | refine tk3 ?_ | refine tk12 (fun _ => ?_) | refine tk4 ?_ | refine tk5 ?_ | refine tk6 ?_ | refine tk7 ?_ | refine tk8 ?_ | refine tk9 ?_ | refine tk10 (fun _ _ => ?_) | refine tk11 (fun _ => ?_) | refine tk13 ?_ | refine tk14 ?_); (conv => whnf))
    refine CallQ.fn (unq_f p (by omega) hmp) ?_
    (conv => whnf); repeat ((first | refine tk1 ?_ | refine tk2 ?_ | refine tk3 ?_ | refine tk12 (fun _ => ?_) | refine tk4 ?_ | refine tk5 ?_ | refine tk6 ?_ | refine tk7 ?_ | refine tk8 ?_ | refine tk9 ?_ | refine tk10 (fun _ _ => ?_) | refine tk11 (fun _ => ?_) | refine tk13 ?_ | refine tk14 ?_); (conv => whnf))
    refine AppS.tc SrcK.tc rfl (by simp [Value.oneCell']) (by decide) (by omega) (by omega) (zs := (out ++ [unq p]).map str) (by simp) (fun A' cp' => ?_)
    (conv => whnf); repeat ((first | refine tk1 ?_ | refine tk2 ?_ | refine tk3 ?_ | refine tk12 (fun _ => ?_) | refine tk4 ?_ | refine tk5 ?_ | refine tk6 ?_ | refine tk7 ?_ | refine tk8 ?_ | refine tk9 ?_ | refine tk10 (fun _ _ => ?_) | refine tk11 (fun _ => ?_) | refine tk13 ?_ | refine tk14 ?_); (conv => whnf))
    have := hk A' cp'
    rw [List.length_append] at this
    exact ⟨_, _, (by first | exact Pick.here | exact Pick.here.skip | exact Pick.here.skip.skip | exact Pick.here.skip.skip.skip | exact Pick.here.skip.skip.skip.skip | exact Pick.here.skip.skip.skip.skip.skip | exact Pick.here.skip.skip.skip.skip.skip.skip | exact Pick.here.skip.skip.skip.skip.skip.skip.skip | exact Pick.here.skip.skip.skip.skip.skip.skip.skip.skip | exact Pick.here.skip.skip.skip.skip.skip.skip.skip.skip.skip | exact Pick.here.skip.skip.skip.skip.skip.skip.skip.skip.skip.skip | exact Pick.here.skip.skip.skip.skip.skip.skip.skip.skip.skip.skip.skip), (by repeat' (first | exact List.Sublist.refl _ | exact List.nil_sublist _ | apply List.Sublist.cons_cons | apply List.Sublist.cons)), this⟩
  (conv => whnf); repeat ((first | refine tk1 ?_ | refine tk2 ?_ | refine tk3 ?_ | refine tk12 (fun _ => ?_) | refine tk4 ?_ | refine tk5 ?_ | refine tk6 ?_ | refine tk7 ?_ | refine tk8 ?_ | refine tk9 ?_ | refine tk10 (fun _ _ => ?_) | refine tk11 (fun _ => ?_) | refine tk13 ?_ | refine tk14 ?_); (conv => whnf))
  refine LoopS.nilRow 9 1 (LoopS.perm (List.Perm.swap ..) ?_)
  refine LoopS.lp tys_ok (fun (x : List UInt8 × List (List UInt8) × Option Addr × Nat) u => [.func (.yield (D + 1)) ⟨[]⟩ ⟨[]⟩, .pointer (some ⟨bp, 0, none⟩), .pointer (some ⟨bs, 0, none⟩), .pointer (some ⟨bk, 0, none⟩), u 4, u 5, u 6, u 7, u 8, u 9, u 10, u 11, u 12, u 13, u 14, u 15, u 16, u 17, u 18, u 19, u 20, u 21, u 22, u 23, u 24, u 25, u 26, u 27, u 28, u 29, u 30, u 31, u 32, u 33, u 34, u 35, u 36, u 37, u 38, u 39, u 40, u 41, u 42, u 43, u 44, u 45, u 46, u 47, u 48, u 49, u 50, u 51])
    (fun x => [.obj (D + 1) (.loop R), .row (.slice x.2.2.1 x.2.1.length x.2.2.2) 9 1 x.2.1.length (x.2.1.map str), .obj D (.deferred (some [])), .box bk [.int .i64 0] 3, .box bp [str [47]] 9, .box bs [str x.1] 9, .box bo [.slice x.2.2.1 x.2.1.length x.2.2.2] 23])
    (fun x => x.2.1 ++ (splitB 47 x.1).map unq = (splitB 47 l).map unq ∧ x.1.length ≤ l.length ∧ madeOf pathL x.1 = true) (fun x => x.1.length) (l, [], none, 0) ⟨rfl, Nat.le_refl _, hm⟩ rfl (by repeat' (first | exact List.Sublist.refl _ | exact List.nil_sublist _ | apply List.Sublist.cons_cons | apply List.Sublist.cons)) ?_
  rintro ⟨r, out, A, cp⟩ u ⟨hI, hz, hmr⟩
  dsimp only at hI hz hmr ⊢
  have hn : out.length ≤ l.length + 1 := by
    have := splitB_length 47 l
    have h2 := congrArg List.length hI
    simp only [List.length_append, List.length_map] at h2
    omega
  (conv => whnf); repeat ((first | refine tk1 ?_ | refine tk2 ?_ | refine tk3 ?_ | refine tk12 (fun _ => ?_) | refine tk4 ?_ | refine tk5 ?_ | refine tk6 ?_ | refine tk7 ?_ | refine tk8 ?_ | refine tk9 ?_ | refine tk10 (fun _ _ => ?_) | refine tk11 (fun _ => ?_) | refine tk13 ?_ | refine tk14 ?_); (conv => whnf))
  refine CallK.fn (Index_f r [47] (by omega)) ?_
  rcases index_one 47 r with ⟨h1, h2⟩ | ⟨k, h1, h2, h3, h4⟩
  · rw [h1]
    (conv => whnf); repeat ((first | refine tk1 ?_ | refine tk2 ?_ | refine tk3 ?_ | refine tk12 (fun _ => ?_) | refine tk4 ?_ | refine tk5 ?_ | refine tk6 ?_ | refine tk7 ?_ | refine tk8 ?_ | refine tk9 ?_ | refine tk10 (fun _ _ => ?_) | refine tk11 (fun _ => ?_) | refine tk13 ?_ | refine tk14 ?_); (conv => whnf))
    refine yl r r out A cp _ (by omega) hmr (by omega) (fun A' cp' => ?_)
    have hf : out ++ [unq r] = (splitB 47 l).map unq := by rw [← hI, splitB_none 47 r h2]; rfl
    rw [hf]
    (conv => whnf); repeat ((first | refine tk1 ?_ | refine tk2 ?_ | refine tk3 ?_ | refine tk12 (fun _ => ?_) | refine tk4 ?_ | refine tk5 ?_ | refine tk6 ?_ | refine tk7 ?_ | refine tk8 ?_ | refine tk9 ?_ | refine tk10 (fun _ _ => ?_) | refine tk11 (fun _ => ?_) | refine tk13 ?_ | refine tk14 ?_); (conv => whnf))
    refine ⟨_, _, .here, ?_, ?_, ?_⟩
    · rw [← hR]; rfl
    · rw [← hR]; rfl
    (conv => whnf); repeat ((first | refine tk1 ?_ | refine tk2 ?_ | refine tk3 ?_ | refine tk12 (fun _ => ?_) | refine tk4 ?_ | refine tk5 ?_ | refine tk6 ?_ | refine tk7 ?_ | refine tk8 ?_ | refine tk9 ?_ | refine tk10 (fun _ _ => ?_) | refine tk11 (fun _ => ?_) | refine tk13 ?_ | refine tk14 ?_); (conv => whnf))
    refine ⟨_, _, rfl, (by first | exact Pick.here | exact Pick.here.skip | exact Pick.here.skip.skip | exact Pick.here.skip.skip.skip | exact Pick.here.skip.skip.skip.skip | exact Pick.here.skip.skip.skip.skip.skip | exact Pick.here.skip.skip.skip.skip.skip.skip | exact Pick.here.skip.skip.skip.skip.skip.skip.skip | exact Pick.here.skip.skip.skip.skip.skip.skip.skip.skip | exact Pick.here.skip.skip.skip.skip.skip.skip.skip.skip.skip | exact Pick.here.skip.skip.skip.skip.skip.skip.skip.skip.skip.skip | exact Pick.here.skip.skip.skip.skip.skip.skip.skip.skip.skip.skip.skip), ?_⟩
    (conv => whnf); repeat ((first | refine tk1 ?_ | refine tk2 ?_ | refine tk3 ?_ | refine tk12 (fun _ => ?_) | refine tk4 ?_ | refine tk5 ?_ | refine tk6 ?_ | refine tk7 ?_ | refine tk8 ?_ | refine tk9 ?_ | refine tk10 (fun _ _ => ?_) | refine tk11 (fun _ => ?_) | refine tk13 ?_ | refine tk14 ?_); (conv => whnf))
    exact fun w' hs => ⟨_, rfl, rowPost.of (by simp) w' hs⟩
  · rw [h1]
    have hr : r = r.take k ++ 47 :: r.drop (k + 1) := by
      have h5 := List.take_append_drop k r
      rw [List.drop_eq_getElem_cons h2] at h5
      rw [List.getElem?_eq_getElem h2] at h4
      rw [Option.some.inj h4] at h5
      exact h5.symm
    have hmc := made_cut (r.take k).length (r.take k) (r.drop (k + 1)) (Nat.le_refl _) (by rw [← hr]; exact hmr)
    (conv => whnf); repeat ((first | refine tk1 ?_ | refine tk2 ?_ | refine tk3 ?_ | refine tk12 (fun _ => ?_) | refine tk4 ?_ | refine tk5 ?_ | refine tk6 ?_ | refine tk7 ?_ | refine tk8 ?_ | refine tk9 ?_ | refine tk10 (fun _ _ => ?_) | refine tk11 (fun _ => ?_) | refine tk13 ?_ | refine tk14 ?_); (conv => whnf))
    refine SlcS.at (by omega) (by omega) (by omega) ?_
    (conv => whnf); repeat ((first | refine tk1 ?_ | refine tk2 ?_ | refine tk3 ?_ | refine tk12 (fun _ => ?_) | refine tk4 ?_ | refine tk5 ?_ | refine tk6 ?_ | refine tk7 ?_ | refine tk8 ?_ | refine tk9 ?_ | refine tk10 (fun _ _ => ?_) | refine tk11 (fun _ => ?_) | refine tk13 ?_ | refine tk14 ?_); (conv => whnf))
    rw [show (List.take ((k : Int) + 0).toNat r).drop (0 : Int).toNat = r.take k by simp]
    refine yl (r.take k) r out A cp _ (by rw [List.length_take]; omega) hmc.1 (by omega) (fun A' cp' => ?_)
    (conv => whnf); repeat ((first | refine tk1 ?_ | refine tk2 ?_ | refine tk3 ?_ | refine tk12 (fun _ => ?_) | refine tk4 ?_ | refine tk5 ?_ | refine tk6 ?_ | refine tk7 ?_ | refine tk8 ?_ | refine tk9 ?_ | refine tk10 (fun _ _ => ?_) | refine tk11 (fun _ => ?_) | refine tk13 ?_ | refine tk14 ?_); (conv => whnf))
    refine slc ?_
    (conv => whnf); repeat ((first | refine tk1 ?_ | refine tk2 ?_ | refine tk3 ?_ | refine tk12 (fun _ => ?_) | refine tk4 ?_ | refine tk5 ?_ | refine tk6 ?_ | refine tk7 ?_ | refine tk8 ?_ | refine tk9 ?_ | refine tk10 (fun _ _ => ?_) | refine tk11 (fun _ => ?_) | refine tk13 ?_ | refine tk14 ?_); (conv => whnf))
    refine ⟨(r.drop (k + 1), out ++ [unq (r.take k)], A', cp'), ⟨?_, by dsimp only; rw [List.length_drop]; omega, hmc.2⟩, rfl, ?_, by dsimp only; rw [List.length_drop]; omega⟩
    · dsimp only
      rw [List.append_assoc, ← hI, splitB_at 47 r k h3 h4]
      rfl
    · dsimp only
      rw [show (List.take (r.length : Int).toNat r).drop ((k : Int) + (([47] : List UInt8).length : Nat)).toNat = r.drop (k + 1) by rw [Int.toNat_natCast, List.take_length]; congr 1]
      exact List.Sublist.refl _
end Go.Proofs.YtnaeeklnlddcaaaGreatDoor.Vex
/- Plain definitions on sizes of bodies: numbers, lengths, codings. No program in sight. -/
namespace Go.Proofs.YtnaeeklnlddcaaaGreatDoor

def digitsL : List UInt8 := [48, 49, 50, 51, 52, 53, 54, 55, 56, 57]
def digB (x : UInt8) : Bool := decide (48 ≤ x.toNat) && decide (x.toNat ≤ 57)
def numStep (n : Nat) (x : UInt8) : Nat := 10 * n + (x.toNat - 48)
def numF (n : Nat) (l : List UInt8) : Nat := l.foldl numStep n
def numV (l : List UInt8) : Nat := numF 0 l
def numOK (l : List UInt8) : Bool := decide (1 ≤ l.length) && (decide (l.length ≤ 9) && l.all digB)
def numN (l : List UInt8) : Int := if numOK l then (numV l : Int) else 0

theorem digit_is (x : UInt8) : digitsL.contains x = digB x := by
  have : ∀ n : Fin 256, digitsL.contains (UInt8.ofNat n.val) = digB (UInt8.ofNat n.val) := by decide +kernel
  have h := this ⟨x.toNat, x.toNat_lt⟩
  simpa using h
theorem dropWhile_nil (p : UInt8 → Bool) : ∀ l : List UInt8, l.dropWhile p = [] ↔ ∀ x ∈ l, p x = true
  | [] => by simp
  | a :: r => by
    rw [List.dropWhile_cons]
    cases h : p a
    · simp [h]
    · simp [h, dropWhile_nil p r]
theorem dropWhile_again (p : UInt8 → Bool) : ∀ l : List UInt8, (∀ x ∈ l.dropWhile p, p x = true) → l.dropWhile p = []
  | [], _ => rfl
  | a :: r, h => by
    rw [List.dropWhile_cons] at h ⊢
    cases hp : p a
    · rw [if_neg (by simp [hp])] at h
      have := h a (by simp)
      rw [hp] at this
      cases this
    · simp only [hp, if_true] at h ⊢
      exact dropWhile_again p r h
theorem trim_nil (c l : List UInt8) : Lib.trimS l c = [] ↔ ∀ x ∈ l, c.contains x = true := by
  unfold Lib.trimS Lib.trimLeftS Lib.trimRightS
  rw [dropWhile_nil]
  constructor
  · intro h
    have h1 := dropWhile_again (fun x => c.contains x) l.reverse (fun x hx => h x (List.mem_reverse.2 hx))
    rw [dropWhile_nil] at h1
    exact fun x hx => h1 x (List.mem_reverse.2 hx)
  · intro h x hx
    have h1 : (l.reverse.dropWhile fun x => c.contains x) = [] := (dropWhile_nil _ _).2 fun x hx => h x (List.mem_reverse.1 hx)
    rw [h1] at hx
    cases hx
theorem trim_digits (l : List UInt8) : Lib.trimS l digitsL = [] ↔ l.all digB = true := by
  rw [trim_nil, List.all_eq_true]
  exact ⟨fun h x hx => by rw [← digit_is]; exact h x hx, fun h x hx => by rw [digit_is]; exact h x hx⟩
theorem decFrom_all : ∀ (l : List UInt8) (n : Nat), l.all digB = true → Lib.decFrom n l = some (numF n l)
  | [], n, _ => rfl
  | x :: r, n, h => by
    simp only [List.all_cons, Bool.and_eq_true] at h
    have hx := h.1
    unfold digB at hx
    simp only [Bool.and_eq_true, decide_eq_true_eq] at hx
    unfold Lib.decFrom Lib.digitVal
    rw [if_pos hx]
    simp only
    rw [decFrom_all r _ h.2, Nat.mul_comm]
    rfl
theorem atoi_all (l : List UInt8) (h : l.all digB = true) (h0 : l ≠ []) : Lib.atoi l = some (numV l : Int) := by
  cases l with
  | nil => exact absurd rfl h0
  | cons x r =>
    have hx : digB x = true := by simp only [List.all_cons, Bool.and_eq_true] at h; exact h.1
    have n45 : (x == 45) = false := by
      rw [beq_eq_false_iff_ne]; rintro rfl; exact absurd hx (by decide)
    have n43 : (x == 43) = false := by
      rw [beq_eq_false_iff_ne]; rintro rfl; exact absurd hx (by decide)
    unfold Lib.atoi
    simp only [n45, n43, Bool.false_eq_true, if_false]
    unfold Lib.decNat
    rw [decFrom_all _ 0 h]
    rfl
theorem numF_lt : ∀ (l : List UInt8) (n : Nat), l.all digB = true → numF n l < (n + 1) * 10 ^ l.length
  | [], n, _ => by simp [numF]
  | x :: r, n, h => by
    simp only [List.all_cons, Bool.and_eq_true] at h
    have hx := h.1
    unfold digB at hx
    simp only [Bool.and_eq_true, decide_eq_true_eq] at hx
    have ih := numF_lt r (numStep n x) h.2
    have e : numF n (x :: r) = numF (numStep n x) r := rfl
    rw [e]
    refine Nat.lt_of_lt_of_le ih ?_
    rw [List.length_cons, Nat.pow_succ, Nat.mul_comm (10 ^ r.length) 10, ← Nat.mul_assoc]
    exact Nat.mul_le_mul_right _ (by unfold numStep; omega)
theorem numV_lt {l : List UInt8} (h : numOK l = true) : numV l < 1000000000 := by
  unfold numOK at h
  simp only [Bool.and_eq_true, decide_eq_true_eq] at h
  have h1 := numF_lt l 0 h.2.2
  have h2 : 10 ^ l.length ≤ 10 ^ 9 := Nat.pow_le_pow_right (by omega) h.2.1
  unfold numV
  omega
theorem numN_range (l : List UInt8) : 0 ≤ numN l ∧ numN l < 1000000000 := by
  unfold numN
  split
  · rename_i h
    have := numV_lt h
    omega
  · omega

/-! A body's size. -/
def hostN : List UInt8 := [104, 111, 115, 116]
def lenN : List UInt8 := [99, 111, 110, 116, 101, 110, 116, 45, 108, 101, 110, 103, 116, 104]
def codN : List UInt8 := [116, 114, 97, 110, 115, 102, 101, 114, 45, 101, 110, 99, 111, 100, 105, 110, 103]
def chunkedN : List UInt8 := [99, 104, 117, 110, 107, 101, 100]
def itemsAll (l : List (List UInt8)) : List (List UInt8) := l.flatMap itemsOf
/-- What lengths tell, from one that was told on (none: there was none). -/
def lenGo (x : Option Int) : List (List UInt8) → Int × Int × Int
  | [] => match x with | none => (0, 0, 400) | some n => (1, n, 200)
  | s :: r => if numOK s = true ∧ (x = none ∨ x = some (numN s)) then lenGo (some (numN s)) r else (0, 0, 400)
/-- Where a text stands first; below 0: nowhere. -/
def idxI (s : List UInt8) : List (List UInt8) → Int
  | [] => -1
  | x :: r => if s = x then 0 else (if idxI s r < 0 then -1 else idxI s r + 1)
def codS (v : Int) (long : Bool) (l : List (List UInt8)) : Int × Int × Int :=
  if v = 0 ∨ long = true ∨ idxI chunkedN (l.map smallOf) ≠ (l.length : Int) - 1 ∨ l = [] then (0, 0, 400) else if 1 < l.length then (0, 0, 501) else (2, 0, 200)
/-- A body's size, by a request's fields and version. -/
def sizeOf (F : List Vex.Fld) (v : Int) : Int × Int × Int :=
  if 1 < (Vex.allOf F hostN).length ∨ ((Vex.allOf F hostN).length = 0 ∧ v ≠ 0) then (0, 0, 400)
  else if Vex.allOf F codN ≠ [] then codS v (decide (Vex.allOf F lenN ≠ [])) (itemsAll (Vex.allOf F codN))
  else if Vex.allOf F lenN ≠ [] then lenGo none (itemsAll (Vex.allOf F lenN))
  else (0, 0, 200)
theorem idxI_range (s : List UInt8) : ∀ l : List (List UInt8), -1 ≤ idxI s l ∧ (idxI s l < (l.length : Int))
  | [] => by simp [idxI]
  | x :: r => by
    have h := idxI_range s r
    unfold idxI
    rw [List.length_cons]
    split
    · omega
    · split <;> omega
theorem lenGo_range : ∀ (l : List (List UInt8)) (x : Option Int), (∀ n, x = some n → 0 ≤ n ∧ n < 1000000000) → 0 ≤ (lenGo x l).2.1 ∧ (lenGo x l).2.1 < 1000000000
  | [], x, h => by
    unfold lenGo
    split
    · decide
    · rename_i n
      exact h n rfl
  | s :: r, x, h => by
    unfold lenGo
    split
    · exact lenGo_range r _ (fun n hn => by cases hn; exact numN_range s)
    · decide
theorem itemsAll_append (a b : List (List UInt8)) : itemsAll (a ++ b) = itemsAll a ++ itemsAll b := by
  unfold itemsAll
  rw [List.flatMap_append]
end Go.Proofs.YtnaeeklnlddcaaaGreatDoor
/- A walk by reckoning, part eighteen: heaps with a tail of entries that are not told one by one. No program in sight. -/
namespace Go.Proofs.YtnaeeklnlddcaaaGreatDoor.Vex
open Go Go.RowKit

/-- What meets one heap meets another one. -/
def Into (c : Ctx) (H G : Hp) : Prop := ∀ w, St c H w → St c G w
section
variable {c : Ctx} {H G H2 : Hp} {x : Ent} {w : World}
theorem Into.refl : Into c H H := fun _ h => h
theorem Into.trans {K : Hp} (h : Into c H G) (k : Into c G K) : Into c H K := fun w hw => k w (h w hw)
theorem Into.perm (h : H.Perm G) : Into c H G := fun _ hw => hw.perm h
theorem Into.sub (h : G.Sublist H) : Into c H G := fun _ hw => hw.sub h
theorem Into.nil : Into c H [] := Into.sub (List.nil_sublist _)
theorem Into.skip (h : Into c H G) : Into c (x :: H) G := (Into.sub (List.sublist_cons_self _ _)).trans h
theorem Into.left : Into c (H ++ G) H := Into.sub (List.sublist_append_left _ _)
theorem Into.right : Into c (H ++ G) G := Into.sub (List.sublist_append_right _ _)
theorem Into.nilRow {e sz : Nat} (h : Into c H G) : Into c H (.row (.slice none 0 0) e sz 0 [] :: G) := fun w hw => (h w hw).nilRow e sz
/-- An entry is kept beside what the others are turned into: the others' own memory alone is looked at. -/
def Cv (H G : Hp) : Prop := ∃ R, H.Perm (G ++ R)
theorem Cv.into (h : Cv H G) : Into c H G := fun _ hw => by
  obtain ⟨R, hR⟩ := h
  exact (hw.perm hR).sub (List.sublist_append_left _ _)
theorem Cv.cons (h : Pick H x H2) (k : Cv H2 G) : Cv H (x :: G) := by
  obtain ⟨R, hR⟩ := k
  exact ⟨R, h.perm.trans (hR.cons _)⟩
theorem Cv.refl : Cv H H := ⟨[], by rw [List.append_nil]⟩
theorem Cv.nil : Cv H [] := ⟨H, List.Perm.refl _⟩
theorem Cv.skip (h : Cv H G) : Cv (x :: H) G := by
  obtain ⟨R, hR⟩ := h
  exact ⟨x :: R, (hR.cons x).trans List.perm_middle.symm⟩
theorem Cv.trans {K : Hp} (h : Cv H G) (k : Cv G K) : Cv H K := by
  obtain ⟨R, hR⟩ := h
  obtain ⟨S, hS⟩ := k
  exact ⟨S ++ R, hR.trans ((hS.append_right R).trans (by rw [List.append_assoc]))⟩
theorem Cv.of (h : H.Perm G) : Cv H G := ⟨[], by rw [List.append_nil]; exact h⟩
theorem Cv.left : Cv (H ++ G) H := ⟨G, List.Perm.refl _⟩
theorem Cv.right : Cv (H ++ G) G := ⟨H, List.perm_append_comm⟩
/-- A loop whose heap may change its order. -/
noncomputable def lpTQ (c : Ctx) {β : Type} (F : β → (Nat → Value) → Fr) (G : β → Hp) (pre : β → Prop) (μ : β → Nat) (x : β) (Q : Exit → Fr → Hp → Prop) (e : Exit) (fr : Fr) (H : Hp) : Prop := match e with
  | .normal => ∃ x', pre x' ∧ fr = F x' (jk fr) ∧ Into c H (G x') ∧ μ x' < μ x
  | e => Q e fr H
theorem LoopS.lpT {T : Ty} {β : Type} {body : Code} {Q : Exit → Fr → Hp → Prop} {fr : Fr} (hT : TOk c.P T) (F : β → (Nat → Value) → Fr) (G : β → Hp) (pre : β → Prop) (μ : β → Nat) (x0 : β) (h0 : pre x0) (hF : fr = F x0 (jk fr)) (hG : Into c H (G x0))
    (round : ∀ x u, pre x → wc c T body (lpTQ c F G pre μ x Q) (F x u) (G x)) : LoopS c T body Q fr H := by
  refine ⟨fun ds w hw => wp_loop_ghost (fun n a w => ∃ x u, pre x ∧ a = actD ds (F x u) ∧ St c (G x) w ∧ μ x = n) (μ x0) ⟨x0, jk fr, h0, by rw [← hF], hG w hw, rfl⟩ ?_⟩
  rintro n a w ⟨x, u, hx, rfl, hs, rfl⟩
  refine Code.wp_mono (fun e a w ⟨fr, H, ha, hs, hq⟩ => ?_) (wc_ok hT ds body _ _ _ w (round x u hx) hs)
  cases e with
  | normal =>
    obtain ⟨x', hx', hF', hG', hlt⟩ := hq
    exact ⟨μ x', hlt, x', jk fr, hx', by rw [ha, ← hF'], hG' w hs, rfl⟩
  | _ => exact ⟨fr, H, ha, hs, hq⟩
theorem LoopS.into {T : Ty} {body : Code} {Q : Exit → Fr → Hp → Prop} {fr : Fr} (hc : Into c H G) (h : LoopS c T body Q fr G) : LoopS c T body Q fr H := ⟨fun ds w hw => h.ok ds w (hc w hw)⟩

/-- All orders of a region, one state behind them, in a heap whose entries may change their order. -/
theorem DrawS.joinI {T : Ty} {β : Type} {id : Nat} {ops : List Oper} {K : Fr → Hp → Prop} {fr : Fr} (F : β → (Nat → Value) → Fr) (G : β → Hp) (ws : List Nat) (t : DT) (hT : TOk c.P T) (hm : c.P.follows .mixedOrders = true) (hB : forkB T ws ops t = true)
    (h : wtree c T ws ops t (fun fr H => ∃ x, fr = F x (jk fr) ∧ Into c H (G x)) fr H) (k : ∀ x u, K (F x u) (G x)) : DrawS c T id ops K fr H :=
  DrawS.forkK ws t hT hm hB (fun fr' H' ⟨x, hF, hc⟩ => ⟨G x, hc, by rw [hF]; exact k x (jk fr')⟩) h

theorem tk13 {b o i j : Nat} {n : Option Nat} {K : Value → Prop} (h : Ld c H (.pointer (some ⟨b, o + (i + j), none⟩)) n K) : Ld c H (.pointer (some (((⟨b, o, none⟩ : Addr).add i).add j))) n K := by
  rw [add_add, Addr.add_lit]
  exact h
theorem tk14 {b o i j n : Nat} {v : Value} {K : Hp → Prop} (h : Sto c H (.pointer (some ⟨b, o + (i + j), none⟩)) v n K) : Sto c H (.pointer (some (((⟨b, o, none⟩ : Addr).add i).add j))) v n K := by
  rw [add_add, Addr.add_lit]
  exact h

theorem CallK.into {m : Bool} {f : Nat} {args : List Value} {K : Value → Hp → Prop} (hi : Into c H G) (h : CallK c m f args G K) : CallK c m f args H K := ⟨h.go.imp (fun h => ⟨h.1, fun w hw => h.2 w (hi w hw)⟩) fun h w hw => h w (hi w hw)⟩

/-! ## Tails -/
instance RdA.appL {T : Hp} {A : Option Addr} {xs : List Value} [h : RdA c H A xs] : RdA c (H ++ T) A xs where
  ok := h.ok.sub (List.sublist_append_left _ _)
instance RdA.appR {T : Hp} {A : Option Addr} {xs : List Value} [h : RdA c T A xs] : RdA c (H ++ T) A xs where
  ok := h.ok.sub (List.sublist_append_right _ _)
/-- New memory with a tail. -/
abbrev FnT (P : Program) (g : GI) (f : FuncId) (args : List Value) (pre : World → Prop) {X : Type} (V : X → Value) (Q : X → Prop) (Hd T : X → Hp) : Prop := FnE P g f args pre fun w v w' => ∃ x, v = V x ∧ Q x ∧ newH w w' (Hd x ++ T x)
theorem CallK.fnT {m : Bool} {f : Nat} {args : List Value} {pre : World → Prop} {X : Type} {V : X → Value} {Q : X → Prop} {Hd T : X → Hp} {K : Value → Hp → Prop} (h : FnT c.P c.g f args pre V Q Hd T) (hp : ∀ w, St c H w → pre w)
    (k : ∀ x, Q x → K (V x) (Hd x ++ (H ++ T x))) : CallK c m f args H K :=
  CallK.post (CallK.fnH (K := fun v H' => ∃ x, v = V x ∧ Q x ∧ H' = Hd x ++ T x) (⟨h.can, fun w hG hP => (h.ok w hG hP).mono fun e w' ⟨v, he, ⟨x, h1, h2, h3⟩, hR⟩ => ⟨v, he, ⟨_, ⟨x, h1, h2, rfl⟩, h3⟩, hR⟩⟩) hp (fun v H' ⟨x, h1, h2, h3⟩ =>
    ⟨Hd x ++ (H ++ T x), fun w hw => by
      subst h3
      refine hw.perm ?_
      rw [List.append_assoc]
      exact List.Perm.append_left _ List.perm_append_comm, by rw [h1]; exact k x h2⟩))
theorem newH.into {P : Program} {g : GI} {w w' : World} {hG : g.G w} {H H2 : Hp} (h : St (mkC P g w hG) H w') (hc : Into (mkC P g w hG) H H2) : newH w w' H2 := newH.of (hc w' h)

/-- A key's value is laid, in a literal. -/
theorem OthU.ins {α : Type} [DecidableEq α] {kv : α → Value} {d : TypeDesc} {T : Ty} {fr : Fr} {dst : Option Nat} {ty : TypeId} {pos : String} {after : Array Edge} {gd : Option (Nat × Bool)} {t kt et : TypeId} {x i y : Operand} {b : Nat} {k : α} {l l' : List (α × Value)} {f : Obj → Hp} {v : Value} {K : Value → Hp → Prop} (hk : KeyK d kv) (hT : TOk c.P T) [ho : ObjAt b H (mobj kv l) f]
    (hx : evK fr x fun v => v = .map (some b)) (hi : evK fr i fun v => v = kv k) (hy : evK fr y fun u => u = v) (ht : (lookT T t).d = .map kt et) (hkt : (lookT T kt).d = d) (hd : d ≠ .invalid) (hl' : mput k v l = l')
    (kk : K undef (f (mobj kv l'))) : OthU c ⟨dst, .insert t x i y, ty, pos, after, gd⟩ fr H K := ⟨fun w hw => by
  rw [evK_eq] at hx hi hy
  have hu := (lookT_ok hT (t := t) (by rw [ht]; intro h; cases h)).1
  have hku := (lookT_ok hT (t := kt) (by rw [hkt]; exact hd)).1
  rw [ht] at hu
  rw [hkt] at hku
  have hb : w.heap[b]? = some (.map ⟨mkEs kv 0 l⟩ l.length) := ho.holds hw
  refine ⟨_, _, ?_, ho.put hw (o' := mobj kv l'), kk⟩
  have hr := run_mapUpd (k := k) (v := v) hk hu hku hb
  rw [hl'] at hr
  generalize (act fr).eval = ρ at *
  simp only [execOp, hx, hi, hy, Sem.run_bind, hr, Result.andThen_ok, Sem.run_pure]⟩

/-! ## Parts of a body: each has bytes of its own -/
structure Prt where
  A : Option Addr
  cp : Nat
  l : List UInt8
  f : Bool
def Prt.row (e : Nat) (q : Prt) : Ent := .row (.slice q.A q.l.length q.cp) e 1 q.l.length (q.l.map byteV)
def rowsP (e : Nat) (ps : List Prt) : Hp := ps.map (Prt.row e)
def pcells : List Prt → List Value
  | [] => []
  | q :: r => .slice q.A q.l.length q.cp :: .bool q.f :: pcells r
def pure1 (q : Prt) : List UInt8 × Bool := (q.l, q.f)
theorem pcells_length : ∀ ps : List Prt, (pcells ps).length = ps.length * 2
  | [] => rfl
  | q :: r => by simp only [pcells, List.length_cons, pcells_length r]; omega
theorem pcells_append : ∀ a b : List Prt, pcells (a ++ b) = pcells a ++ pcells b
  | [], _ => rfl
  | q :: a, b => by simp only [List.cons_append, pcells, pcells_append a b]
theorem pcells_at : ∀ (l : List Prt) (k : Nat) (h : k < l.length), (pcells l)[k * 2]? = some (.slice l[k].A l[k].l.length l[k].cp) ∧ (pcells l)[k * 2 + 1]? = some (.bool l[k].f) ∧ ((pcells l).drop (k * 2)).take 2 = [.slice l[k].A l[k].l.length l[k].cp, .bool l[k].f]
  | q :: r, 0, _ => ⟨rfl, rfl, rfl⟩
  | q :: r, k + 1, h => by
    have ih := pcells_at r k (by simpa using h)
    rw [show (k + 1) * 2 = k * 2 + 1 + 1 by omega]
    simp only [pcells, List.getElem?_cons_succ, List.drop_succ_cons, List.getElem_cons_succ]
    exact ih
theorem pcells_one {ps : List Prt} : ∀ u ∈ pcells ps, u.oneCell' = true := by
  induction ps with
  | nil => intro u h; cases h
  | cons q r ih =>
    intro u h
    simp only [pcells, List.mem_cons] at h
    rcases h with rfl | rfl | h
    · rfl
    · rfl
    · exact ih u h
theorem Prt.rd {e : Nat} {ps : List Prt} {q : Prt} (h : q ∈ ps) : RdS c (rowsP e ps) q.A (q.l.map byteV) :=
  RdS.sub (H := [q.row e]) RdS.here (List.singleton_sublist.2 (List.mem_map_of_mem h))
theorem rowsP_app {e : Nat} {a b : List Prt} : rowsP e (a ++ b) = rowsP e a ++ rowsP e b := List.map_append
theorem Cv.snoc {e : Nat} {ps : List Prt} {q : Prt} (h : Cv H (q.row e :: rowsP e ps)) : Cv H (rowsP e (ps ++ [q])) :=
  h.trans (.of (by rw [rowsP_app]; exact (List.perm_append_comm (l₁ := [q.row e]) (l₂ := rowsP e ps))))
theorem Cv.close {e : Nat} {ps : List Prt} {q : Prt} {X : Hp} : Cv (q.row e :: (X ++ rowsP e ps)) (X ++ rowsP e (ps ++ [q])) :=
  .of (by
    rw [rowsP_app, ← List.append_assoc]
    exact (List.perm_append_comm (l₁ := [q.row e]) (l₂ := X ++ rowsP e ps)))
end
end Go.Proofs.YtnaeeklnlddcaaaGreatDoor.Vex
/- The program's functions on routes, reckoned: strings.Split, a name, places. -/
namespace Go.Proofs.YtnaeeklnlddcaaaGreatDoor.Vex
open Go Go.RowKit
set_option maxRecDepth 100000
set_option linter.unusedSectionVars false
variable {gI : GI} [HasMax gI] [HasErr gI]

theorem splitK_is (c : UInt8) : ∀ (n : Nat) (l : List UInt8), l.length ≤ n → Lib.splitK [c] 0 (Lib.count l [c]) l = splitB c l := by
  intro n
  induction n with
  | zero =>
    intro l h
    obtain rfl : l = [] := List.eq_nil_of_length_eq_zero (by omega)
    rw [Lib.count_miss rfl]
    rfl
  | succ n ih =>
    intro l h
    rcases index_one c l with ⟨h1, h2⟩ | ⟨k, h1, h2, h3, h4⟩
    · rw [Lib.count_miss h1, splitB_none c l h2]
      rfl
    · rw [Lib.count_hit (by simp) h1, splitB_at c l k h3 h4, Nat.add_comm 1, Lib.splitK]
      rw [if_neg (by rw [h1, beq_iff_eq]; omega), h1]
      rw [show ((k : Nat) : Int).toNat = k by omega, show ([c] : List UInt8).length = 1 from rfl, Nat.add_zero]
      rw [ih (l.drop (k + 1)) (by rw [List.length_drop]; omega)]
theorem Split_f (l : List UInt8) (c : UInt8) (hl : l.length ≤ 1000000000) : FnS Tryz.prog gI 64 [str l, str [c]] [] 9 1 (splitB c l).length ((splitB c l).map str) :=
  ⟨callable Tryz.func64 rfl (by kernel_rfl), fun w hG _ => by
    obtain ⟨m, hm⟩ := HasMax.ok w hG
    refine (Tryz.strings_Split ⟨⟨l⟩⟩ ⟨⟨[c]⟩⟩ m w (by show l.length < _; omega) hm (Nat.le_refl _)).mono fun e w' ⟨he, hw⟩ => ?_
    have hk := splitK_is c l.length l (Nat.le_refl _)
    have hd := Lib.splitB_data ⟨⟨[c]⟩⟩ 0 (Lib.countB ⟨⟨l⟩⟩ ⟨⟨[c]⟩⟩) ⟨⟨l⟩⟩
    have hs : (Lib.splitB ⟨⟨[c]⟩⟩ 0 (Lib.countB ⟨⟨l⟩⟩ ⟨⟨[c]⟩⟩) ⟨⟨l⟩⟩).map (·.data.toList) = splitB c l := hd.trans hk
    have hn := congrArg List.length hs
    rw [List.length_map, Lib.splitB_all ⟨⟨[c]⟩⟩ (Nat.le_refl _) 0 _ ⟨⟨l⟩⟩ rfl] at hn
    have hc : Lib.countB ⟨⟨l⟩⟩ ⟨⟨[c]⟩⟩ + 1 = (splitB c l).length := hn
    have hz := splitB_length c l
    have hv : (Lib.splitB ⟨⟨[c]⟩⟩ 0 (Lib.countB ⟨⟨l⟩⟩ ⟨⟨[c]⟩⟩) ⟨⟨l⟩⟩).map Value.string = (splitB c l).map str := by
      rw [← hs, List.map_map]
      rfl
    rw [hc] at he
    rw [hv] at hw
    subst hw
    refine ⟨_, he, ⟨⟨by rw [List.length_map, Nat.mul_one], .inr ⟨w.heap.size, (splitB c l).length, ((splitB c l).map str).toArray, (0, 0), rfl, heap_alloc_new w _, Nat.le_refl _, by simp only [maxLen]; omega, by simp, ?_, .inl (Nat.le_refl _)⟩⟩, fun b hb => ?_⟩, (Below.refl _ _).alloc (Nat.le_refl _) _⟩
    · rw [Nat.mul_one]
      simp
      exact List.take_of_length_le (by rw [List.length_map]; exact Nat.le_refl _)
    · cases hb
      exact ⟨Nat.le_refl _, by simp⟩⟩
def lettersL : List UInt8 := [97, 98, 99, 100, 101, 102, 103, 104, 105, 106, 107, 108, 109, 110, 111, 112, 113, 114, 115, 116, 117, 118, 119, 120, 121, 122]
theorem letter_is (x : UInt8) : lettersL.contains x = letB x := by
  have : ∀ n : Fin 256, lettersL.contains (UInt8.ofNat n.val) = letB (UInt8.ofNat n.val) := by decide +kernel
  have h := this ⟨x.toNat, x.toNat_lt⟩
  simpa using h
theorem TrimL_f (l : List UInt8) (hs : l.length ≤ 9223372036854775807) : Fn Tryz.prog gI 107 [str l, str lettersL] (str (Lib.trimS l lettersL)) :=
  ⟨callable Tryz.func107 rfl (by kernel_rfl), fun w _ => (Any.strings_Trim_laid Tryz.lays160 (by kernel_rfl) ⟨⟨l⟩⟩ ⟨⟨lettersL⟩⟩ w hs (by decide) (ascii_of_all (by decide))).mono fun e w' ⟨he, hb⟩ => ⟨he, hb⟩⟩
theorem name_f (s : List UInt8) (hs : s.length ≤ 1000000000) : Fn Tryz.prog gI 66 [str s] (.bool (nameB s)) := by
  refine Fn.of tys_ok Tryz.func66 rfl (by kernel_rfl) rfl rfl ?_; intro w hG
  have ht : Lib.trimS s lettersL = [] ↔ s.all letB = true := by
    rw [trim_nil, List.all_eq_true]
    exact ⟨fun h x hx => by rw [← letter_is]; exact h x hx, fun h x hx => by rw [letter_is]; exact h x hx⟩
  unfold nameB
  by_cases h0 : s = []
  · subst h0
    (conv => whnf); repeat ((first | refine tk1 ?_ | refine tk2 ?_ | refine tk3 ?_ | refine tk12 (fun _ => ?_) | refine tk4 ?_ | refine tk5 ?_ | refine tk6 ?_ | refine tk7 ?_ | refine tk8 ?_ | refine tk9 ?_ | refine tk10 (fun _ _ => ?_) | refine tk11 (fun _ => ?_) | refine tk13 ?_ | refine tk14 ?_); (conv => whnf))
    rfl
  rw [decide_eq_false h0]
  (conv => whnf); repeat ((first | refine tk1 ?_ | refine tk2 ?_ | refine tk3 ?_ | refine tk12 (fun _ => ?_) | refine tk4 ?_ | refine tk5 ?_ | refine tk6 ?_ | refine tk7 ?_ | refine tk8 ?_ | refine tk9 ?_ | refine tk10 (fun _ _ => ?_) | refine tk11 (fun _ => ?_) | refine tk13 ?_ | refine tk14 ?_); (conv => whnf))
  refine CallK.fn (TrimL_f s (by omega)) ?_
  by_cases h1 : Lib.trimS s lettersL = []
  · rw [ht.1 h1]
    (conv => whnf); repeat ((first | refine tk1 ?_ | refine tk2 ?_ | refine tk3 ?_ | refine tk12 (fun _ => ?_) | refine tk4 ?_ | refine tk5 ?_ | refine tk6 ?_ | refine tk7 ?_ | refine tk8 ?_ | refine tk9 ?_ | refine tk10 (fun _ _ => ?_) | refine tk11 (fun _ => ?_) | refine tk13 ?_ | refine tk14 ?_); (conv => whnf))
    rfl
  · have h2 : s.all letB = false := by
      cases h : s.all letB
      · rfl
      · exact absurd (ht.2 h) h1
    rw [h2]
    (conv => whnf); repeat ((first | refine tk1 ?_ | refine tk2 ?_ | refine tk3 ?_ | refine tk12 (fun _ => ?_) | refine tk4 ?_ | refine tk5 ?_ | refine tk6 ?_ | refine tk7 ?_ | refine tk8 ?_ | refine tk9 ?_ | refine tk10 (fun _ _ => ?_) | refine tk11 (fun _ => ?_) | refine tk13 ?_ | refine tk14 ?_); (conv => whnf))
    rfl
def plcCells : List Plc → List Value
  | [] => []
  | p :: r => .int .i64 p.1 :: str p.2 :: plcCells r
theorem plcCells_length : ∀ l : List Plc, (plcCells l).length = l.length * 2
  | [] => rfl
  | p :: r => by simp only [plcCells, List.length_cons, plcCells_length r]; omega
theorem plcCells_app : ∀ a b : List Plc, plcCells (a ++ b) = plcCells a ++ plcCells b
  | [], _ => rfl
  | p :: a, b => by simp only [List.cons_append, plcCells, plcCells_app a b]
/-- Places from some on. -/
theorem placesG_len : ∀ (a b : List (List UInt8)) (l : List Plc), placesG a b = some l → l.length = a.length
  | [], _, l, h => by cases h; rfl
  | s :: r, ts, l, h => by
    unfold placesG at h
    split at h
    · cases h
    · rename_i p hp
      cases hr : placesG r ts.tail with
      | none => rw [hr] at h; cases h
      | some t =>
        rw [hr] at h
        cases h
        rw [List.length_cons, List.length_cons, placesG_len r _ t hr]
structure PlM where
  A : Option Addr
  c : Nat
/-- What places tells: the places, or none. -/
def PlV (o : Option (List Plc)) (x : PlM) : Value := .tuple #[.slice x.A (o.getD []).length x.c, .bool o.isSome]
def PlH (o : Option (List Plc)) (x : PlM) : Hp := [.row (.slice x.A (o.getD []).length x.c) 118 2 (o.getD []).length (plcCells (o.getD []))]
theorem pre_one (c : UInt8) (s : List UInt8) : Lib.hasPrefix s [c] = decide (s.head? = some c) := by
  cases s with
  | nil => rfl
  | cons x r =>
    show ((c == x) && true) = _
    rw [Bool.and_true, Bool.eq_iff_iff, beq_iff_eq, decide_eq_true_eq]
    exact ⟨fun h => by rw [h]; rfl, fun h => (Option.some.inj h).symm⟩
theorem cut_one (x : UInt8) (q : List UInt8) : ((x :: q).take (((x :: q).length : Nat) : Int).toNat).drop (Int.toNat 1) = q := by rw [Int.toNat_natCast, List.take_length]; rfl
set_option maxHeartbeats 8000000 in
theorem places_f (s : List UInt8) (hs : s.length ≤ 1000000000) : FnT Tryz.prog gI 35 [str s] (fun _ => True) (PlV (placesOf s)) (fun _ => True) (PlH (placesOf s)) (fun _ => []) := by
  have hseg := Segments_f (gI := gI) s hs
  refine FnE.of tys_ok Tryz.func35 rfl (by kernel_rfl) rfl rfl ?_; intro w hG hP
  have hfail : ∀ (o : Option (List Plc)) (w w' : World) (hG : gI.G w), o = none → St (mkC Tryz.prog gI w hG) [] w' → ∃ x, Value.tuple #[.slice none 0 0, .bool false] = PlV o x ∧ True ∧ newH w w' (PlH o x ++ []) := fun o w w' hG hr hw' => by
    subst hr
    exact ⟨⟨none, 0⟩, rfl, trivial, newH.of (hw'.nilRow 118 2)⟩
  (conv => whnf); repeat ((first | refine tk1 ?_ | refine tk2 ?_ | refine tk3 ?_ | refine tk12 (fun _ => ?_) | refine tk4 ?_ | refine tk5 ?_ | refine tk6 ?_ | refine tk7 ?_ | refine tk8 ?_ | refine tk9 ?_ | refine tk10 (fun _ _ => ?_) | refine tk11 (fun _ => ?_) | refine tk13 ?_ | refine tk14 ?_); (conv => whnf))
  refine CallK.fnG (G := fun u => .tuple #[u, .int .i64 (segE s)]) hseg (fun _ _ => trivial) (fun TA tc _ => ?_)
  unfold placesOf
  cases hp : pathOf s
  · rw [if_neg (by simp), show segE s = 3 by unfold segE; rw [hp]; rfl]
    (conv => whnf); repeat ((first | refine tk1 ?_ | refine tk2 ?_ | refine tk3 ?_ | refine tk12 (fun _ => ?_) | refine tk4 ?_ | refine tk5 ?_ | refine tk6 ?_ | refine tk7 ?_ | refine tk8 ?_ | refine tk9 ?_ | refine tk10 (fun _ _ => ?_) | refine tk11 (fun _ => ?_) | refine tk13 ?_ | refine tk14 ?_); (conv => whnf))
    exact fun w' hw' => hfail _ w w' hG rfl (hw'.sub (List.nil_sublist _))
  rw [show segE s = 0 by unfold segE; rw [hp]; rfl, show segO s = segs s by unfold segO; rw [hp]; rfl]
  by_cases hl : 4096 < s.length
  · rw [if_neg (by omega)]
    (conv => whnf); repeat ((first | refine tk1 ?_ | refine tk2 ?_ | refine tk3 ?_ | refine tk12 (fun _ => ?_) | refine tk4 ?_ | refine tk5 ?_ | refine tk6 ?_ | refine tk7 ?_ | refine tk8 ?_ | refine tk9 ?_ | refine tk10 (fun _ _ => ?_) | refine tk11 (fun _ => ?_) | refine tk13 ?_ | refine tk14 ?_); (conv => whnf))
    exact fun w' hw' => hfail _ w w' hG rfl (hw'.sub (List.nil_sublist _))
  rw [if_pos ⟨rfl, by omega⟩]
  obtain ⟨l, rfl⟩ := path_head hp
  rw [List.drop_succ_cons, List.drop_zero]
  simp only [List.length_cons] at hl hs
  have hraw := splitB_length 47 l
  have hmem := fun p hp => (splitB_mem 47 l p hp).2
  have hT : (segs (47 :: l)).length = (splitB 47 l).length := by unfold segs; rw [List.length_map]; rfl
  obtain ⟨T, hTT⟩ : ∃ T, segs (47 :: l) = T := ⟨_, rfl⟩
  have hsp := Split_f (gI := gI) l 47 (by omega)
  obtain ⟨R, hRR⟩ : ∃ R, splitB 47 l = R := ⟨_, rfl⟩
  rw [hTT] at hT ⊢
  rw [hRR] at hraw hmem hT hsp ⊢
  obtain ⟨G, hG2⟩ : ∃ G, placesG R T = G := ⟨_, rfl⟩
  rw [hG2]
  (conv => whnf); repeat ((first | refine tk1 ?_ | refine tk2 ?_ | refine tk3 ?_ | refine tk12 (fun _ => ?_) | refine tk4 ?_ | refine tk5 ?_ | refine tk6 ?_ | refine tk7 ?_ | refine tk8 ?_ | refine tk9 ?_ | refine tk10 (fun _ _ => ?_) | refine tk11 (fun _ => ?_) | refine tk13 ?_ | refine tk14 ?_); (conv => whnf))
  refine SlcS.at (by omega) (by simp only [List.length_cons]; omega) (by omega) ?_
  rw [show (((47 : UInt8) :: l).take ((((47 : UInt8) :: l).length : Nat) : Int).toNat).drop (Int.toNat 1) = l by rw [Int.toNat_natCast, List.take_length]; rfl]
  (conv => whnf); repeat ((first | refine tk1 ?_ | refine tk2 ?_ | refine tk3 ?_ | refine tk12 (fun _ => ?_) | refine tk4 ?_ | refine tk5 ?_ | refine tk6 ?_ | refine tk7 ?_ | refine tk8 ?_ | refine tk9 ?_ | refine tk10 (fun _ _ => ?_) | refine tk11 (fun _ => ?_) | refine tk13 ?_ | refine tk14 ?_); (conv => whnf))
  refine CallK.fnS hsp trivial (fun RA rc => ?_)
  (conv => whnf); repeat ((first | refine tk1 ?_ | refine tk2 ?_ | refine tk3 ?_ | refine tk12 (fun _ => ?_) | refine tk4 ?_ | refine tk5 ?_ | refine tk6 ?_ | refine tk7 ?_ | refine tk8 ?_ | refine tk9 ?_ | refine tk10 (fun _ _ => ?_) | refine tk11 (fun _ => ?_) | refine tk13 ?_ | refine tk14 ?_); (conv => whnf))
  refine LoopS.lpT tys_ok (fun (z : Nat × List Plc × Option Addr × Nat) u => [u 0, u 1, .slice z.2.2.1 z.2.1.length z.2.2.2, u 3, .slice TA T.length tc, u 5, .slice RA R.length rc, u 7, u 8, u 9, u 10, u 11, u 12, u 13, u 14, u 15, u 16, u 17, u 18, u 19, u 20, u 21, u 22, u 23, .slice RA R.length rc, .int .i64 R.length, .int .i64 (z.1 : Nat), u 27, u 28, u 29, u 30, u 31, u 32, u 33, u 34, u 35, u 36, u 37, u 38, u 39, u 40, u 41, u 42, u 43, u 44, u 45, u 46, u 47, u 48, u 49, u 50, u 51, u 52, u 53, u 54, u 55, u 56, u 57, u 58, u 59, u 60, u 61, u 62, u 63, u 64, u 65, u 66, u 67, u 68, u 69, u 70, u 71, u 72, u 73, u 74, u 75, u 76, u 77, u 78, u 79, u 80])
    (fun z => .row (.slice z.2.2.1 z.2.1.length z.2.2.2) 118 2 z.2.1.length (plcCells z.2.1) :: .row (.slice RA R.length rc) 9 1 R.length (R.map str) :: [.row (.slice TA T.length tc) 9 1 T.length (T.map str)])
    (fun z => z.1 ≤ R.length ∧ z.2.1.length = z.1 ∧ (placesG (R.drop z.1) (T.drop z.1)).map (z.2.1 ++ ·) = G) (fun z => R.length - z.1) (0, [], none, 0) ⟨Nat.zero_le _, rfl, by simpa using hG2⟩ rfl (Into.nilRow (e := 118) (sz := 2) (Cv.into (by (try dsimp only); repeat' (first | with_reducible exact Cv.refl | with_reducible exact Cv.left | with_reducible exact Cv.right | with_reducible exact Cv.nil | (with_reducible apply Cv.cons; focus ((repeat (first | with_reducible exact Pick.here | with_reducible apply Pick.skip)); done)) | (apply Cv.cons; focus ((repeat (first | exact Pick.here | apply Pick.skip)); done)) | exact Cv.nil | exact Cv.refl | exact Cv.left | exact Cv.right | refine Cv.skip ?_)))) ?_
  rintro ⟨k, acc, A, cp⟩ u ⟨hk, ha, hI⟩
  dsimp only at hk ha hI ⊢
  by_cases hlt : k < R.length
  rotate_left
  · obtain rfl : k = R.length := by omega
    rw [List.drop_length] at hI
    have hI : some (acc ++ []) = G := hI
    rw [List.append_nil] at hI
    subst hI
    (conv => whnf); repeat ((first | refine tk1 ?_ | refine tk2 ?_ | refine tk3 ?_ | refine tk12 (fun _ => ?_) | refine tk4 ?_ | refine tk5 ?_ | refine tk6 ?_ | refine tk7 ?_ | refine tk8 ?_ | refine tk9 ?_ | refine tk10 (fun _ _ => ?_) | refine tk11 (fun _ => ?_) | refine tk13 ?_ | refine tk14 ?_); (conv => whnf))
    exact fun w' hw' => ⟨⟨A, cp⟩, rfl, trivial, newH.into hw' (Cv.into (by (try dsimp only); repeat' (first | with_reducible exact Cv.refl | with_reducible exact Cv.left | with_reducible exact Cv.right | with_reducible exact Cv.nil | (with_reducible apply Cv.cons; focus ((repeat (first | with_reducible exact Pick.here | with_reducible apply Pick.skip)); done)) | (apply Cv.cons; focus ((repeat (first | exact Pick.here | apply Pick.skip)); done)) | exact Cv.nil | exact Cv.refl | exact Cv.left | exact Cv.right | refine Cv.skip ?_)))⟩
  have hltT : k < T.length := by omega
  have hxR : (R.map str)[((k : Nat) : Int).toNat * 1]? = some (str R[k]) := by rw [Int.toNat_natCast, Nat.mul_one, List.getElem?_map, List.getElem?_eq_getElem hlt]; rfl
  have hxT : (T.map str)[((k : Nat) : Int).toNat * 1]? = some (str T[k]) := by rw [Int.toNat_natCast, Nat.mul_one, List.getElem?_map, List.getElem?_eq_getElem hltT]; rfl
  have hrl := hmem R[k] (List.getElem_mem hlt)
  rw [List.drop_eq_getElem_cons hlt, List.drop_eq_getElem_cons hltT] at hI
  have hlast : decide (R.drop (k + 1) = []) = decide (k = R.length - 1) := by
    rw [decide_eq_decide, List.drop_eq_nil_iff]
    omega
  generalize R[k] = s at *
  generalize T[k] = t at *
  unfold placesG at hI
  rw [hlast] at hI
  simp only [List.headD_cons, List.tail_cons] at hI
  have h42 := pre_one 42 s
  have h58 := pre_one 58 s
  have hp42 := HasPrefix_f (gI := gI) s [42]
  have hp58 := HasPrefix_f (gI := gI) s [58]
  rw [h42] at hp42
  rw [h58] at hp58
  clear h42 h58
  unfold placeOf at hI
  by_cases c42 : s.head? = some 42
  · obtain ⟨q, rfl⟩ : ∃ q, s = 42 :: q := by
      cases s with
      | nil => cases c42
      | cons x r => exact ⟨r, by simp at c42; rw [c42]⟩
    rw [decide_eq_true c42] at hp42
    rw [decide_eq_false (by simp)] at hp58
    have hn := name_f (gI := gI) q (by simp only [List.length_cons] at hrl; omega)
    rw [List.drop_succ_cons, List.drop_zero] at hI
    cases hnq : nameB q
    · rw [hnq] at hn
      rw [hnq] at hI
      have hI : none = G := by simpa using hI
      (repeat' ((conv => whnf); first | (first | refine tk1 ?_ | refine tk2 ?_ | refine tk3 ?_ | refine tk12 (fun _ => ?_) | refine tk4 ?_ | refine tk5 ?_ | refine tk6 ?_ | refine tk7 ?_ | refine tk8 ?_ | refine tk9 ?_ | refine tk10 (fun _ _ => ?_) | refine tk11 (fun _ => ?_) | refine tk13 ?_ | refine tk14 ?_) | refine Cmp.cases (fun _ => ?_) (fun _ => ?_) | refine IdxS.nat (by omega) ?_ | refine IdxS.go (by omega) (by omega) (fun _ _ _ => ?_) | refine SlcS.at (by omega) (by omega) (by omega) ?_ | refine CatS.at (by simp only [List.length_append, List.length_cons, List.length_nil]; omega) ?_ | (refine IdxA.tc (xs := R.map str) (by rw [List.length_map]; omega) (by omega) (by omega) ?_) | (refine Ld.ta (xs := R.map str) hxR ?_) | (refine IdxA.tc (xs := T.map str) (by rw [List.length_map]; omega) (by omega) (by omega) ?_) | (refine Ld.ta (xs := T.map str) hxT ?_) | (refine CallK.fn hp42 ?_) | (refine CallK.fn hp58 ?_) | (refine CallK.fn hn ?_) | (refine SlcS.at (by omega) (by simp only [List.length_cons]; omega) (by omega) ?_; rw [cut_one 42 q]))); all_goals (conv => whnf)
      exact fun w' hw' => hfail _ w w' hG hI.symm (hw'.sub (List.nil_sublist _))
    · rw [hnq] at hn
      rw [hnq] at hI
      by_cases hkl : k = R.length - 1
      · rw [if_pos ⟨rfl, rfl, by rw [decide_eq_true hkl]⟩] at hI
        (repeat' ((conv => whnf); first | (first | refine tk1 ?_ | refine tk2 ?_ | refine tk3 ?_ | refine tk12 (fun _ => ?_) | refine tk4 ?_ | refine tk5 ?_ | refine tk6 ?_ | refine tk7 ?_ | refine tk8 ?_ | refine tk9 ?_ | refine tk10 (fun _ _ => ?_) | refine tk11 (fun _ => ?_) | refine tk13 ?_ | refine tk14 ?_) | refine Cmp.cases (fun _ => ?_) (fun _ => ?_) | refine IdxS.nat (by omega) ?_ | refine IdxS.go (by omega) (by omega) (fun _ _ _ => ?_) | refine SlcS.at (by omega) (by omega) (by omega) ?_ | refine CatS.at (by simp only [List.length_append, List.length_cons, List.length_nil]; omega) ?_ | (refine IdxA.tc (xs := R.map str) (by rw [List.length_map]; omega) (by omega) (by omega) ?_) | (refine Ld.ta (xs := R.map str) hxR ?_) | (refine IdxA.tc (xs := T.map str) (by rw [List.length_map]; omega) (by omega) (by omega) ?_) | (refine Ld.ta (xs := T.map str) hxT ?_) | (refine CallK.fn hp42 ?_) | (refine CallK.fn hp58 ?_) | (refine CallK.fn hn ?_) | (refine SlcS.at (by omega) (by simp only [List.length_cons]; omega) (by omega) ?_; rw [cut_one 42 q]))); all_goals (conv => whnf)
        refine AppS.tc (m := 1) (news := [.int .i64 2, str q]) SrcK.tc rfl (by simp [Value.oneCell']) (by decide) (by omega) (by omega) (zs := plcCells (acc ++ [(2, q)])) (by rw [plcCells_app]; rfl) (fun A' cp' => ?_)
        rw [show acc.length + 1 = (acc ++ [((2 : Int), q)]).length by simp]
        (conv => whnf); repeat ((first | refine tk1 ?_ | refine tk2 ?_ | refine tk3 ?_ | refine tk12 (fun _ => ?_) | refine tk4 ?_ | refine tk5 ?_ | refine tk6 ?_ | refine tk7 ?_ | refine tk8 ?_ | refine tk9 ?_ | refine tk10 (fun _ _ => ?_) | refine tk11 (fun _ => ?_) | refine tk13 ?_ | refine tk14 ?_); (conv => whnf))
        exact ⟨(k + 1, acc ++ [(2, q)], A', cp'), ⟨by dsimp only; omega, by dsimp only; rw [List.length_append]; simp only [List.length_singleton]; omega, by dsimp only; rw [← hI]; cases placesG (R.drop (k + 1)) (T.drop (k + 1)) <;> simp⟩, rfl, Cv.into (by (try dsimp only); repeat' (first | with_reducible exact Cv.refl | with_reducible exact Cv.left | with_reducible exact Cv.right | with_reducible exact Cv.nil | (with_reducible apply Cv.cons; focus ((repeat (first | with_reducible exact Pick.here | with_reducible apply Pick.skip)); done)) | (apply Cv.cons; focus ((repeat (first | exact Pick.here | apply Pick.skip)); done)) | exact Cv.nil | exact Cv.refl | exact Cv.left | exact Cv.right | refine Cv.skip ?_)), by dsimp only; omega⟩
      · have hI : none = G := by rw [decide_eq_false hkl] at hI; simpa using hI
        (repeat' ((conv => whnf); first | (first | refine tk1 ?_ | refine tk2 ?_ | refine tk3 ?_ | refine tk12 (fun _ => ?_) | refine tk4 ?_ | refine tk5 ?_ | refine tk6 ?_ | refine tk7 ?_ | refine tk8 ?_ | refine tk9 ?_ | refine tk10 (fun _ _ => ?_) | refine tk11 (fun _ => ?_) | refine tk13 ?_ | refine tk14 ?_) | refine Cmp.cases (fun _ => ?_) (fun _ => ?_) | refine IdxS.nat (by omega) ?_ | refine IdxS.go (by omega) (by omega) (fun _ _ _ => ?_) | refine SlcS.at (by omega) (by omega) (by omega) ?_ | refine CatS.at (by simp only [List.length_append, List.length_cons, List.length_nil]; omega) ?_ | (refine IdxA.tc (xs := R.map str) (by rw [List.length_map]; omega) (by omega) (by omega) ?_) | (refine Ld.ta (xs := R.map str) hxR ?_) | (refine IdxA.tc (xs := T.map str) (by rw [List.length_map]; omega) (by omega) (by omega) ?_) | (refine Ld.ta (xs := T.map str) hxT ?_) | (refine CallK.fn hp42 ?_) | (refine CallK.fn hp58 ?_) | (refine CallK.fn hn ?_) | (refine SlcS.at (by omega) (by simp only [List.length_cons]; omega) (by omega) ?_; rw [cut_one 42 q]))); all_goals (conv => whnf)
        exact fun w' hw' => hfail _ w w' hG hI.symm (hw'.sub (List.nil_sublist _))
  by_cases c58 : s.head? = some 58
  · obtain ⟨q, rfl⟩ : ∃ q, s = 58 :: q := by
      cases s with
      | nil => cases c58
      | cons x r => exact ⟨r, by simp at c58; rw [c58]⟩
    rw [decide_eq_true c58] at hp58
    rw [decide_eq_false c42] at hp42
    have hn := name_f (gI := gI) q (by simp only [List.length_cons] at hrl; omega)
    rw [List.drop_succ_cons, List.drop_zero] at hI
    rw [if_neg (fun h => c42 h.1)] at hI
    cases hnq : nameB q
    · rw [hnq] at hn hI
      have hI : none = G := by simpa using hI
      (repeat' ((conv => whnf); first | (first | refine tk1 ?_ | refine tk2 ?_ | refine tk3 ?_ | refine tk12 (fun _ => ?_) | refine tk4 ?_ | refine tk5 ?_ | refine tk6 ?_ | refine tk7 ?_ | refine tk8 ?_ | refine tk9 ?_ | refine tk10 (fun _ _ => ?_) | refine tk11 (fun _ => ?_) | refine tk13 ?_ | refine tk14 ?_) | refine Cmp.cases (fun _ => ?_) (fun _ => ?_) | refine IdxS.nat (by omega) ?_ | refine IdxS.go (by omega) (by omega) (fun _ _ _ => ?_) | refine SlcS.at (by omega) (by omega) (by omega) ?_ | refine CatS.at (by simp only [List.length_append, List.length_cons, List.length_nil]; omega) ?_ | (refine IdxA.tc (xs := R.map str) (by rw [List.length_map]; omega) (by omega) (by omega) ?_) | (refine Ld.ta (xs := R.map str) hxR ?_) | (refine IdxA.tc (xs := T.map str) (by rw [List.length_map]; omega) (by omega) (by omega) ?_) | (refine Ld.ta (xs := T.map str) hxT ?_) | (refine CallK.fn hp42 ?_) | (refine CallK.fn hp58 ?_) | (refine CallK.fn hn ?_) | (refine SlcS.at (by omega) (by simp only [List.length_cons]; omega) (by omega) ?_; rw [cut_one 58 q]))); all_goals (conv => whnf)
      exact fun w' hw' => hfail _ w w' hG hI.symm (hw'.sub (List.nil_sublist _))
    · rw [hnq] at hn hI
      rw [if_pos ⟨rfl, rfl⟩] at hI
      (repeat' ((conv => whnf); first | (first | refine tk1 ?_ | refine tk2 ?_ | refine tk3 ?_ | refine tk12 (fun _ => ?_) | refine tk4 ?_ | refine tk5 ?_ | refine tk6 ?_ | refine tk7 ?_ | refine tk8 ?_ | refine tk9 ?_ | refine tk10 (fun _ _ => ?_) | refine tk11 (fun _ => ?_) | refine tk13 ?_ | refine tk14 ?_) | refine Cmp.cases (fun _ => ?_) (fun _ => ?_) | refine IdxS.nat (by omega) ?_ | refine IdxS.go (by omega) (by omega) (fun _ _ _ => ?_) | refine SlcS.at (by omega) (by omega) (by omega) ?_ | refine CatS.at (by simp only [List.length_append, List.length_cons, List.length_nil]; omega) ?_ | (refine IdxA.tc (xs := R.map str) (by rw [List.length_map]; omega) (by omega) (by omega) ?_) | (refine Ld.ta (xs := R.map str) hxR ?_) | (refine IdxA.tc (xs := T.map str) (by rw [List.length_map]; omega) (by omega) (by omega) ?_) | (refine Ld.ta (xs := T.map str) hxT ?_) | (refine CallK.fn hp42 ?_) | (refine CallK.fn hp58 ?_) | (refine CallK.fn hn ?_) | (refine SlcS.at (by omega) (by simp only [List.length_cons]; omega) (by omega) ?_; rw [cut_one 58 q]))); all_goals (conv => whnf)
      refine AppS.tc (m := 1) (news := [.int .i64 1, str q]) SrcK.tc rfl (by simp [Value.oneCell']) (by decide) (by omega) (by omega) (zs := plcCells (acc ++ [(1, q)])) (by rw [plcCells_app]; rfl) (fun A' cp' => ?_)
      rw [show acc.length + 1 = (acc ++ [((1 : Int), q)]).length by simp]
      (conv => whnf); repeat ((first | refine tk1 ?_ | refine tk2 ?_ | refine tk3 ?_ | refine tk12 (fun _ => ?_) | refine tk4 ?_ | refine tk5 ?_ | refine tk6 ?_ | refine tk7 ?_ | refine tk8 ?_ | refine tk9 ?_ | refine tk10 (fun _ _ => ?_) | refine tk11 (fun _ => ?_) | refine tk13 ?_ | refine tk14 ?_); (conv => whnf))
      exact ⟨(k + 1, acc ++ [(1, q)], A', cp'), ⟨by dsimp only; omega, by dsimp only; rw [List.length_append]; simp only [List.length_singleton]; omega, by dsimp only; rw [← hI]; cases placesG (R.drop (k + 1)) (T.drop (k + 1)) <;> simp⟩, rfl, Cv.into (by (try dsimp only); repeat' (first | with_reducible exact Cv.refl | with_reducible exact Cv.left | with_reducible exact Cv.right | with_reducible exact Cv.nil | (with_reducible apply Cv.cons; focus ((repeat (first | with_reducible exact Pick.here | with_reducible apply Pick.skip)); done)) | (apply Cv.cons; focus ((repeat (first | exact Pick.here | apply Pick.skip)); done)) | exact Cv.nil | exact Cv.refl | exact Cv.left | exact Cv.right | refine Cv.skip ?_)), by dsimp only; omega⟩
  · rw [decide_eq_false c58] at hp58
    rw [decide_eq_false c42] at hp42
    rw [if_neg (fun h => c42 h.1), if_neg (fun h => c58 h.1), if_neg (fun h => h.elim c42 c58)] at hI
    (repeat' ((conv => whnf); first | (first | refine tk1 ?_ | refine tk2 ?_ | refine tk3 ?_ | refine tk12 (fun _ => ?_) | refine tk4 ?_ | refine tk5 ?_ | refine tk6 ?_ | refine tk7 ?_ | refine tk8 ?_ | refine tk9 ?_ | refine tk10 (fun _ _ => ?_) | refine tk11 (fun _ => ?_) | refine tk13 ?_ | refine tk14 ?_) | refine Cmp.cases (fun _ => ?_) (fun _ => ?_) | refine IdxS.nat (by omega) ?_ | refine IdxS.go (by omega) (by omega) (fun _ _ _ => ?_) | refine SlcS.at (by omega) (by omega) (by omega) ?_ | refine CatS.at (by simp only [List.length_append, List.length_cons, List.length_nil]; omega) ?_ | (refine IdxA.tc (xs := R.map str) (by rw [List.length_map]; omega) (by omega) (by omega) ?_) | (refine Ld.ta (xs := R.map str) hxR ?_) | (refine IdxA.tc (xs := T.map str) (by rw [List.length_map]; omega) (by omega) (by omega) ?_) | (refine Ld.ta (xs := T.map str) hxT ?_) | (refine CallK.fn hp42 ?_) | (refine CallK.fn hp58 ?_))); all_goals (conv => whnf)
    refine AppS.tc (m := 1) (news := [.int .i64 0, str t]) SrcK.tc rfl (by simp [Value.oneCell']) (by decide) (by omega) (by omega) (zs := plcCells (acc ++ [(0, t)])) (by rw [plcCells_app]; rfl) (fun A' cp' => ?_)
    rw [show acc.length + 1 = (acc ++ [((0 : Int), t)]).length by simp]
    (conv => whnf); repeat ((first | refine tk1 ?_ | refine tk2 ?_ | refine tk3 ?_ | refine tk12 (fun _ => ?_) | refine tk4 ?_ | refine tk5 ?_ | refine tk6 ?_ | refine tk7 ?_ | refine tk8 ?_ | refine tk9 ?_ | refine tk10 (fun _ _ => ?_) | refine tk11 (fun _ => ?_) | refine tk13 ?_ | refine tk14 ?_); (conv => whnf))
    exact ⟨(k + 1, acc ++ [(0, t)], A', cp'), ⟨by dsimp only; omega, by dsimp only; rw [List.length_append]; simp only [List.length_singleton]; omega, by dsimp only; rw [← hI]; cases placesG (R.drop (k + 1)) (T.drop (k + 1)) <;> simp⟩, rfl, Cv.into (by (try dsimp only); repeat' (first | with_reducible exact Cv.refl | with_reducible exact Cv.left | with_reducible exact Cv.right | with_reducible exact Cv.nil | (with_reducible apply Cv.cons; focus ((repeat (first | with_reducible exact Pick.here | with_reducible apply Pick.skip)); done)) | (apply Cv.cons; focus ((repeat (first | exact Pick.here | apply Pick.skip)); done)) | exact Cv.nil | exact Cv.refl | exact Cv.left | exact Cv.right | refine Cv.skip ?_)), by dsimp only; omega⟩
end Go.Proofs.YtnaeeklnlddcaaaGreatDoor.Vex
/- The tree of pages in memory: nodes. -/
namespace Go.Proofs.YtnaeeklnlddcaaaGreatDoor.Vex
open Go Go.RowKit
set_option maxRecDepth 100000
set_option linter.unusedSectionVars false
variable {gI : GI} [HasMax gI] [HasErr gI]

/-- A node: its box, its two maps, the keys that lead to it, its pages by their methods, and what stands behind it. -/
structure Nd where
  b : Nat
  pm : Nat
  nm : Nat
  c : List Plk
  pages : List (List UInt8 × Value)
  next : List (Plk × Value)
def Nd.hd (n : Nd) : Hp := [.box n.b [.map (some n.pm), .map (some n.nm)] 78, .obj n.pm (mobj str n.pages), .obj n.nm (mobj plkV n.next)]
def nodesH (ns : List Nd) : Hp := ns.flatMap Nd.hd
theorem nodesH_mem {ns : List Nd} {n : Nd} (h : n ∈ ns) : ∀ x ∈ n.hd, x ∈ nodesH ns := fun _ hx => List.mem_flatMap.2 ⟨n, h, hx⟩
theorem Ld.mem {c : Ctx} {H : Hp} {b i : Nat} {vs : List Value} {t : TypeId} {v : Value} {K : Value → Prop} (hm : Ent.box b vs t ∈ H) (h : vs[i]? = some v) (k : K v) : Ld c H (.pointer (some ⟨b, i, none⟩)) none K :=
  ⟨v, _, rfl, fun w hw => by
    have hb : w.heap[b]? = some (.cells ⟨vs⟩ t (0, 0)) := (hw.own _ hm).1
    show w.cell? ⟨b, i, none⟩ = some v
    rw [cell_of_row w b i ⟨vs⟩ t (0, 0) hb]
    simpa using h, k⟩
theorem objAt_mem {c : Ctx} {H : Hp} {b : Nat} {o : Obj} (hm : Ent.obj b o ∈ H) : ∀ w, St c H w → w.heap[b]? = some o := fun _ hw => (hw.own _ hm).1
structure MkM where
  b : Nat
  pm : Nat
  nm : Nat
def MkM.nd (x : MkM) (c : List Plk) : Nd := ⟨x.b, x.pm, x.nm, c, [], []⟩
theorem rmade_f (c : List Plk) : FnT Tryz.prog gI 59 [] (fun _ => True) (fun x : MkM => .pointer (some ⟨x.b, 0, none⟩)) (fun _ => True) (fun x => (x.nd c).hd) (fun _ => []) := by
  refine FnE.of tys_ok Tryz.func59 rfl (by kernel_rfl) rfl rfl ?_; intro w hG hP
  (conv => whnf); repeat ((first | refine tk1 ?_ | refine tk2 ?_ | refine tk3 ?_ | refine tk12 (fun _ => ?_) | refine tk4 ?_ | refine tk5 ?_ | refine tk6 ?_ | refine tk7 ?_ | refine tk8 ?_ | refine tk9 ?_ | refine tk10 (fun _ _ => ?_) | refine tk11 (fun _ => ?_) | refine tk13 ?_ | refine tk14 ?_); (conv => whnf))
  refine Oth.mkMap str (fun pm => ?_)
  (conv => whnf); repeat ((first | refine tk1 ?_ | refine tk2 ?_ | refine tk3 ?_ | refine tk12 (fun _ => ?_) | refine tk4 ?_ | refine tk5 ?_ | refine tk6 ?_ | refine tk7 ?_ | refine tk8 ?_ | refine tk9 ?_ | refine tk10 (fun _ _ => ?_) | refine tk11 (fun _ => ?_) | refine tk13 ?_ | refine tk14 ?_); (conv => whnf))
  refine Oth.mkMap plkV (fun nm => ?_)
  (conv => whnf); repeat ((first | refine tk1 ?_ | refine tk2 ?_ | refine tk3 ?_ | refine tk12 (fun _ => ?_) | refine tk4 ?_ | refine tk5 ?_ | refine tk6 ?_ | refine tk7 ?_ | refine tk8 ?_ | refine tk9 ?_ | refine tk10 (fun _ _ => ?_) | refine tk11 (fun _ => ?_) | refine tk13 ?_ | refine tk14 ?_); (conv => whnf))
  rename_i b
  exact fun w' hw' => ⟨⟨b, pm, nm⟩, rfl, trivial, newH.into hw' (Cv.into (by (try dsimp only); repeat' (first | with_reducible exact Cv.refl | with_reducible exact Cv.left | with_reducible exact Cv.right | with_reducible exact Cv.nil | (with_reducible apply Cv.cons; focus ((repeat (first | with_reducible exact Pick.here | with_reducible apply Pick.skip)); done)) | (apply Cv.cons; focus ((repeat (first | exact Pick.here | apply Pick.skip)); done)) | exact Cv.nil | exact Cv.refl | exact Cv.left | exact Cv.right | refine Cv.skip ?_)))⟩
end Go.Proofs.YtnaeeklnlddcaaaGreatDoor.Vex
/- Trees of pages as lists of nodes: what they say of pages. -/
namespace Go.Proofs.YtnaeeklnlddcaaaGreatDoor.Vex
open Go Go.RowKit

def Nd.ptr (n : Nd) : Value := .pointer (some ⟨n.b, 0, none⟩)
/-- A list of nodes is a tree of pages: pg tells the page of a shape and a method. -/
structure TreeI (ns : List Nd) (pg : List Plk → List UInt8 → Option Int) : Prop where
  nodup : (ns.map Nd.c).Nodup
  next : ∀ n ∈ ns, ∀ p, (mget p n.next = none ∧ ∀ m ∈ ns, m.c ≠ n.c ++ [p]) ∨ (∃ m ∈ ns, m.c = n.c ++ [p] ∧ mget p n.next = some m.ptr)
  pages : ∀ n ∈ ns, ∀ m, mget m n.pages = (pg n.c m).map (.int .i64)
  cover : ∀ c m i, pg c m = some i → ∃ n ∈ ns, n.c = c
  pref : ∀ n ∈ ns, ∀ d p, n.c = d ++ [p] → ∃ m ∈ ns, m.c = d
  keys : ∀ n ∈ ns, (n.pages.map Prod.fst).Nodup
theorem mput_keys {α : Type} [DecidableEq α] (k : α) (v : Value) : ∀ l : List (α × Value), (l.map Prod.fst).Nodup → ((mput k v l).map Prod.fst).Nodup ∧ ∀ a, a ∈ (mput k v l).map Prod.fst → a = k ∨ a ∈ l.map Prod.fst
  | [], _ => ⟨by simp [mput], fun a ha => by simp [mput] at ha; exact .inl ha⟩
  | p :: r, h => by
    rw [List.map_cons, List.nodup_cons] at h
    unfold mput
    by_cases hk : k = p.1
    · rw [if_pos hk, List.map_cons, List.nodup_cons]
      exact ⟨⟨by rw [hk]; exact h.1, h.2⟩, fun a ha => by
        rcases List.mem_cons.1 ha with e | e
        · exact .inl e
        · exact .inr (List.mem_cons_of_mem _ e)⟩
    · rw [if_neg hk, List.map_cons, List.nodup_cons]
      obtain ⟨h1, h2⟩ := mput_keys k v r h.2
      refine ⟨⟨fun hm => ?_, h1⟩, fun a ha => ?_⟩
      · rcases h2 _ hm with e | e
        · exact hk e.symm
        · exact h.1 e
      · rcases List.mem_cons.1 ha with e | e
        · exact .inr (by rw [e]; exact List.mem_cons_self ..)
        · rcases h2 a e with e | e
          · exact .inl e
          · exact .inr (List.mem_cons_of_mem _ e)
theorem tree_root (n : Nd) (hc : n.c = []) (hp : n.pages = []) (hn : n.next = []) : TreeI [n] (fun _ _ => none) where
  nodup := by simp
  next := fun a ha p => .inl ⟨by rw [List.mem_singleton.1 ha, hn]; rfl, fun m hm => by rw [List.mem_singleton.1 hm, List.mem_singleton.1 ha, hc]; simp⟩
  pages := fun a ha m => by rw [List.mem_singleton.1 ha, hp]; rfl
  cover := fun _ _ _ h => by cases h
  pref := fun a ha d p h => by rw [List.mem_singleton.1 ha, hc] at h; simp at h
  keys := fun a ha => by rw [List.mem_singleton.1 ha, hp]; simp
/-- A child more. -/
theorem tree_child {us bs : List Nd} {n : Nd} {pg : List Plk → List UInt8 → Option Int} (h : TreeI (us ++ n :: bs) pg) (p : Plk) (hp : mget p n.next = none) (z : Nd) (hz : z.c = n.c ++ [p]) (hz1 : z.pages = []) (hz2 : z.next = []) :
    TreeI (us ++ { n with next := mput p z.ptr n.next } :: (bs ++ [z])) pg := by
  have hn : n ∈ us ++ n :: bs := List.mem_append_right _ (List.mem_cons_self ..)
  have hno : ∀ m ∈ us ++ n :: bs, m.c ≠ n.c ++ [p] := by
    rcases h.next n hn p with ⟨_, h2⟩ | ⟨m, _, _, h2⟩
    · exact h2
    · rw [hp] at h2; cases h2
  have hnd := h.nodup
  rw [List.map_append, List.map_cons, List.nodup_append] at hnd
  have hda : ∀ m ∈ us, m.c ≠ n.c := fun m hm => hnd.2.2 m.c (List.mem_map_of_mem hm) n.c (List.mem_cons_self ..)
  have hdb : ∀ m ∈ bs, m.c ≠ n.c := fun m hm e => (List.nodup_cons.1 hnd.2.1).1 (e ▸ List.mem_map_of_mem hm)
  obtain ⟨n', hn'⟩ : ∃ n', ({ n with next := mput p z.ptr n.next } : Nd) = n' := ⟨_, rfl⟩
  have hc : n'.c = n.c := by rw [← hn']
  have hpg : n'.pages = n.pages := by rw [← hn']
  have hnx : n'.next = mput p z.ptr n.next := by rw [← hn']
  have hptr : n'.ptr = n.ptr := by rw [← hn']; rfl
  rw [hn']
  clear hn'
  have inv : ∀ m, m ∈ us ++ n' :: (bs ++ [z]) ↔ (m ∈ us ∨ m = n' ∨ m ∈ bs ∨ m = z) := fun m => by simp [List.mem_append, List.mem_cons]
  have old : ∀ m ∈ us ++ n :: bs, ∃ m' ∈ us ++ n' :: (bs ++ [z]), m'.c = m.c ∧ m'.ptr = m.ptr := fun m hm => by
    rcases List.mem_append.1 hm with hm | hm
    · exact ⟨m, (inv m).2 (.inl hm), rfl, rfl⟩
    · rcases List.mem_cons.1 hm with rfl | hm
      · exact ⟨n', (inv n').2 (.inr (.inl rfl)), hc, hptr⟩
      · exact ⟨m, (inv m).2 (.inr (.inr (.inl hm))), rfl, rfl⟩
  have new : ∀ m' ∈ us ++ n' :: (bs ++ [z]), m' = z ∨ ∃ m ∈ us ++ n :: bs, m'.c = m.c ∧ m'.pages = m.pages ∧ ((m' = m ∧ m.c ≠ n.c) ∨ (m' = n' ∧ m = n)) := fun m' hm => by
    rcases (inv m').1 hm with hm | rfl | hm | rfl
    · exact .inr ⟨m', List.mem_append_left _ hm, rfl, rfl, .inl ⟨rfl, hda _ hm⟩⟩
    · exact .inr ⟨n, hn, hc, hpg, .inr ⟨rfl, rfl⟩⟩
    · exact .inr ⟨m', List.mem_append_right _ (List.mem_cons_of_mem _ hm), rfl, rfl, .inl ⟨rfl, hdb _ hm⟩⟩
    · exact .inl rfl
  have zin : z ∈ us ++ n' :: (bs ++ [z]) := (inv z).2 (.inr (.inr (.inr rfl)))
  have nope : ∀ a q, (∀ m ∈ us ++ n :: bs, m.c ≠ a ++ [q]) → z.c ≠ a ++ [q] → ∀ m ∈ us ++ n' :: (bs ++ [z]), m.c ≠ a ++ [q] := fun a q h1 h2 m hm => by
    rcases new m hm with rfl | ⟨m0, hm0, e, _⟩
    · exact h2
    · rw [e]; exact h1 m0 hm0
  refine ⟨?_, fun a ha q => ?_, fun a ha m => ?_, fun c m i hi => ?_, fun a ha d q hd => ?_, fun a ha => ?_⟩
  · have e : (us ++ n' :: (bs ++ [z])).map Nd.c = (us ++ n :: bs).map Nd.c ++ [z.c] := by simp [hc]
    rw [e, List.nodup_append]
    refine ⟨h.nodup, by simp, fun a ha b hb => ?_⟩
    obtain ⟨m, hm, rfl⟩ := List.mem_map.1 ha
    rw [List.mem_singleton.1 hb, hz]
    exact hno m hm
  · rcases new a ha with rfl | ⟨a0, ha0, hac, _, ha1⟩
    · refine .inl ⟨by rw [hz2]; rfl, fun m hm e => ?_⟩
      rcases new m hm with rfl | ⟨m0, hm0, e0, _⟩
      · have := congrArg List.length e
        simp at this
      · rw [e0] at e
        obtain ⟨t, ht, e1⟩ := h.pref m0 hm0 _ q e
        exact hno t ht (e1.trans hz)
    rcases ha1 with ⟨rfl, hne⟩ | ⟨rfl, rfl⟩
    · rcases h.next a ha0 q with ⟨h1, h2⟩ | ⟨m, hm, h1, h2⟩
      · refine .inl ⟨h1, nope _ _ h2 fun e => ?_⟩
        rw [hz] at e
        exact hne (List.append_inj_left' e rfl).symm
      · obtain ⟨m', hm', e1, e2⟩ := old m hm
        exact .inr ⟨m', hm', e1.trans h1, by rw [h2, e2]⟩
    · rw [hnx, look_upd, hc]
      by_cases hq : q = p
      · subst hq
        rw [if_pos rfl]
        exact .inr ⟨z, zin, hz, rfl⟩
      · rw [if_neg hq]
        rcases h.next a0 ha0 q with ⟨h1, h2⟩ | ⟨m, hm, h1, h2⟩
        · refine .inl ⟨h1, nope _ _ h2 fun e => ?_⟩
          rw [hz] at e
          have := List.append_inj_right' e rfl
          exact hq (by simpa using this.symm)
        · obtain ⟨m', hm', e1, e2⟩ := old m hm
          exact .inr ⟨m', hm', e1.trans h1, by rw [h2, e2]⟩
  · rcases new a ha with rfl | ⟨a0, ha0, hac, hap, _⟩
    · rw [hz1]
      cases hi : pg a.c m with
      | none => rfl
      | some i =>
        obtain ⟨t, ht, e⟩ := h.cover _ _ _ hi
        exact absurd (e.trans hz) (hno t ht)
    · rw [hap, hac]
      exact h.pages a0 ha0 m
  · obtain ⟨t, ht, e⟩ := h.cover _ _ _ hi
    obtain ⟨t', ht', e1, _⟩ := old t ht
    exact ⟨t', ht', e1.trans e⟩
  · rcases new a ha with rfl | ⟨a0, ha0, hac, _, _⟩
    · rw [hz] at hd
      have := List.append_inj_left' hd rfl
      exact ⟨n', (inv n').2 (.inr (.inl rfl)), hc.trans this⟩
    · rw [hac] at hd
      obtain ⟨t, ht, e⟩ := h.pref a0 ha0 d q hd
      obtain ⟨t', ht', e1, _⟩ := old t ht
      exact ⟨t', ht', e1.trans e⟩
  · rcases new a ha with rfl | ⟨a0, ha0, _, hap, _⟩
    · rw [hz1]; simp
    · rw [hap]; exact h.keys a0 ha0
/-- A page more. -/
theorem tree_page {us bs : List Nd} {n : Nd} {pg : List Plk → List UInt8 → Option Int} (h : TreeI (us ++ n :: bs) pg) (m : List UInt8) (i : Int) :
    TreeI (us ++ { n with pages := mput m (.int .i64 i) n.pages } :: bs) (fun c x => if c = n.c ∧ x = m then some i else pg c x) := by
  have hn : n ∈ us ++ n :: bs := List.mem_append_right _ (List.mem_cons_self ..)
  have hnd := h.nodup
  rw [List.map_append, List.map_cons, List.nodup_append] at hnd
  have hda : ∀ m ∈ us, m.c ≠ n.c := fun m hm => hnd.2.2 m.c (List.mem_map_of_mem hm) n.c (List.mem_cons_self ..)
  have hdb : ∀ m ∈ bs, m.c ≠ n.c := fun m hm e => (List.nodup_cons.1 hnd.2.1).1 (e ▸ List.mem_map_of_mem hm)
  obtain ⟨n', hn'⟩ : ∃ n', ({ n with pages := mput m (.int .i64 i) n.pages } : Nd) = n' := ⟨_, rfl⟩
  have hc : n'.c = n.c := by rw [← hn']
  have hpg : n'.pages = mput m (.int .i64 i) n.pages := by rw [← hn']
  have hnx : n'.next = n.next := by rw [← hn']
  have hptr : n'.ptr = n.ptr := by rw [← hn']; rfl
  rw [hn']
  clear hn'
  have inv : ∀ m, m ∈ us ++ n' :: bs ↔ (m ∈ us ∨ m = n' ∨ m ∈ bs) := fun m => by simp [List.mem_append, List.mem_cons]
  have old : ∀ m ∈ us ++ n :: bs, ∃ m' ∈ us ++ n' :: bs, m'.c = m.c ∧ m'.ptr = m.ptr := fun m hm => by
    rcases List.mem_append.1 hm with hm | hm
    · exact ⟨m, (inv m).2 (.inl hm), rfl, rfl⟩
    · rcases List.mem_cons.1 hm with rfl | hm
      · exact ⟨n', (inv n').2 (.inr (.inl rfl)), hc, hptr⟩
      · exact ⟨m, (inv m).2 (.inr (.inr hm)), rfl, rfl⟩
  have new : ∀ m' ∈ us ++ n' :: bs, ∃ m ∈ us ++ n :: bs, m'.c = m.c ∧ m'.next = m.next ∧ ((m' = m ∧ m.c ≠ n.c) ∨ (m' = n' ∧ m = n)) := fun m' hm => by
    rcases (inv m').1 hm with hm | rfl | hm
    · exact ⟨m', List.mem_append_left _ hm, rfl, rfl, .inl ⟨rfl, hda _ hm⟩⟩
    · exact ⟨n, hn, hc, hnx, .inr ⟨rfl, rfl⟩⟩
    · exact ⟨m', List.mem_append_right _ (List.mem_cons_of_mem _ hm), rfl, rfl, .inl ⟨rfl, hdb _ hm⟩⟩
  refine ⟨?_, fun a ha q => ?_, fun a ha x => ?_, fun c x j hj => ?_, fun a ha d q hd => ?_, fun a ha => ?_⟩
  · have e : (us ++ n' :: bs).map Nd.c = (us ++ n :: bs).map Nd.c := by simp [hc]
    rw [e]
    exact h.nodup
  · obtain ⟨a0, ha0, hac, han, _⟩ := new a ha
    rw [han, hac]
    rcases h.next a0 ha0 q with ⟨h1, h2⟩ | ⟨t, ht, h1, h2⟩
    · refine .inl ⟨h1, fun b hb => ?_⟩
      obtain ⟨b0, hb0, hbc, _⟩ := new b hb
      rw [hbc]
      exact h2 b0 hb0
    · obtain ⟨t', ht', e1, e2⟩ := old t ht
      exact .inr ⟨t', ht', e1.trans h1, by rw [h2, e2]⟩
  · obtain ⟨a0, ha0, hac, _, ha1⟩ := new a ha
    rcases ha1 with ⟨rfl, hne⟩ | ⟨rfl, rfl⟩
    · rw [if_neg (fun hh => hne hh.1)]
      exact h.pages a ha0 x
    · rw [hpg, look_upd, hc]
      by_cases hx : x = m
      · rw [if_pos hx, if_pos ⟨rfl, hx⟩]; rfl
      · rw [if_neg hx, if_neg (fun hh => hx hh.2)]
        exact h.pages a0 ha0 x
  · split at hj
    · rename_i hh
      exact ⟨n', (inv n').2 (.inr (.inl rfl)), hc.trans hh.1.symm⟩
    · obtain ⟨t, ht, e⟩ := h.cover _ _ _ hj
      obtain ⟨t', ht', e1, _⟩ := old t ht
      exact ⟨t', ht', e1.trans e⟩
  · obtain ⟨a0, ha0, hac, _⟩ := new a ha
    rw [hac] at hd
    obtain ⟨t, ht, e⟩ := h.pref a0 ha0 d q hd
    obtain ⟨t', ht', e1, _⟩ := old t ht
    exact ⟨t', ht', e1.trans e⟩
  · obtain ⟨a0, ha0, _, _, ha1⟩ := new a ha
    rcases ha1 with ⟨rfl, _⟩ | ⟨rfl, rfl⟩
    · exact h.keys a ha0
    · rw [hpg]; exact (mput_keys m _ _ (h.keys a0 ha0)).1
end Go.Proofs.YtnaeeklnlddcaaaGreatDoor.Vex
/- The laws of routes, over lists: the order of pages counts for nothing; a literal path leads to its page. No program in sight. -/
namespace Go.Proofs.YtnaeeklnlddcaaaGreatDoor.Vex

/-- Parameters of a path at a page's places: the segments are those from there on. -/
def paramsG : List Plc → List (List UInt8) → List Fld
  | [], _ => []
  | p :: r, ss => (if p.1 = 1 then [(p.2, ss.headD [])] else if p.1 = 2 then [(p.2, Lib.join ss [47])] else []) ++ paramsG r ss.tail
structure Fnd where
  n : Int
  ps : List Fld
  st : Int
  e : Int
def placesAt (l : List Rpg) (n : Int) : List Plc := ((l[n.toNat]?).bind fun g => placesOf g.p).getD []
/-- What is found. -/
def findO (l : List Rpg) (m path : List UInt8) : Fnd :=
  if grownE l ≠ 0 then ⟨0, [], 0, grownE l⟩
  else if pathOf path = false then ⟨-1, [], 404, 0⟩
  else if (findC l (methodG m) (cands (segs path)) 404).1 < 0 then ⟨-1, [], (findC l (methodG m) (cands (segs path)) 404).2, 0⟩
  else ⟨(findC l (methodG m) (cands (segs path)) 404).1, paramsG (placesAt l (findC l (methodG m) (cands (segs path)) 404).1) (segs path), 200, 0⟩

theorem pageAt_some {l : List Rpg} {c : List Plc} {m : List UInt8} {i : Nat} (h : pageAt l c m = some i) : ∃ g, l[i]? = some g ∧ shapeOf g = c ∧ g.m = m := by
  unfold pageAt at h
  rw [List.findIdx?_map] at h
  obtain ⟨h1, h2, _⟩ := List.findIdx?_eq_some_iff_getElem.1 h
  refine ⟨l[i], List.getElem?_eq_getElem h1, ?_⟩
  have h3 : slotOf l[i] = (c, m) := by simpa using h2
  exact ⟨(Prod.mk.inj h3).1, (Prod.mk.inj h3).2⟩
theorem pageAt_none {l : List Rpg} {c : List Plc} {m : List UInt8} (h : pageAt l c m = none) : ∀ g ∈ l, slotOf g ≠ (c, m) := by
  unfold pageAt at h
  rw [List.findIdx?_map, List.findIdx?_eq_none_iff] at h
  intro g hg e
  have := h g hg
  simp [e] at this
theorem findC_cases (l : List Rpg) (m : List UInt8) : ∀ (cs : List (List Plc)) (st : Int), (findC l m cs st).1 = -1 ∨ ∃ (i : Nat) (g : Rpg), (findC l m cs st).1 = i ∧ l[i]? = some g ∧ shapeOf g ∈ cs ∧ g.m = m
  | [], _ => .inl rfl
  | c :: r, st => by
    unfold findC
    cases h : pageAt l c m with
    | some i =>
      obtain ⟨g, h1, h2, h3⟩ := pageAt_some h
      exact .inr ⟨i, g, rfl, h1, by rw [h2]; exact List.mem_cons_self .., h3⟩
    | none =>
      rcases findC_cases l m r (if anyAt l c then 405 else st) with h1 | ⟨i, g, h1, h2, h3, h4⟩
      · exact .inl h1
      · exact .inr ⟨i, g, h1, h2, List.mem_cons_of_mem _ h3, h4⟩
theorem slotsOK_nodup : ∀ l : List Rpg, slotsOK l = true ↔ (l.map slotOf).Nodup
  | [] => by simp [slotsOK]
  | g :: r => by
    unfold slotsOK
    rw [List.map_cons, List.nodup_cons, Bool.and_eq_true, slotsOK_nodup r]
    simp
theorem grownE_perm {l t : List Rpg} (h : l.Perm t) : grownE l = grownE t := by
  unfold grownE
  rw [h.length_eq]
  have h1 : l.all pgOK = t.all pgOK := by
    rw [Bool.eq_iff_iff, List.all_eq_true, List.all_eq_true]
    exact ⟨fun a x hx => a x (h.mem_iff.2 hx), fun a x hx => a x (h.mem_iff.1 hx)⟩
  have h2 : slotsOK l = slotsOK t := by
    rw [Bool.eq_iff_iff, slotsOK_nodup, slotsOK_nodup]
    exact (h.map slotOf).nodup_iff
  rw [h1, h2]
theorem nodup_slot {l : List Rpg} (h : (l.map slotOf).Nodup) {a b : Rpg} (ha : a ∈ l) (hb : b ∈ l) (e : slotOf a = slotOf b) : a = b := by
  induction l with
  | nil => cases ha
  | cons x r ih =>
    rw [List.map_cons, List.nodup_cons] at h
    rcases List.mem_cons.1 ha with h1 | h1
    · rcases List.mem_cons.1 hb with h2 | h2
      · rw [h1, h2]
      · exact absurd (by rw [← h1, e]; exact List.mem_map_of_mem h2) h.1
    · rcases List.mem_cons.1 hb with h2 | h2
      · exact absurd (by rw [← h2, ← e]; exact List.mem_map_of_mem h1) h.1
      · exact ih h.2 h1 h2
theorem anyAt_perm {l t : List Rpg} (h : l.Perm t) (c : List Plc) : anyAt l c = anyAt t c := by
  unfold anyAt
  rw [Bool.eq_iff_iff, List.any_eq_true, List.any_eq_true]
  exact ⟨fun ⟨x, hx, hc⟩ => ⟨x, h.mem_iff.1 hx, hc⟩, fun ⟨x, hx, hc⟩ => ⟨x, h.mem_iff.2 hx, hc⟩⟩
theorem findC_perm {l t : List Rpg} (h : l.Perm t) (hn : (l.map slotOf).Nodup) (m : List UInt8) : ∀ (cs : List (List Plc)) (st : Int), (findC l m cs st).2 = (findC t m cs st).2 ∧
    (((findC l m cs st).1 = -1 ∧ (findC t m cs st).1 = -1) ∨ ∃ (i j : Nat) (g : Rpg), (findC l m cs st).1 = i ∧ (findC t m cs st).1 = j ∧ l[i]? = some g ∧ t[j]? = some g)
  | [], _ => ⟨rfl, .inl ⟨rfl, rfl⟩⟩
  | c :: r, st => by
    unfold findC
    rw [← anyAt_perm h c]
    cases h1 : pageAt l c m with
    | none =>
      cases h2 : pageAt t c m with
      | none => exact findC_perm h hn m r _
      | some j =>
        obtain ⟨g, h3, h4, h5⟩ := pageAt_some h2
        exact absurd (show slotOf g = (c, m) by unfold slotOf; rw [h4, h5]) (pageAt_none h1 g (h.mem_iff.2 (List.mem_of_getElem? h3)))
    | some i =>
      obtain ⟨g, h3, h4, h5⟩ := pageAt_some h1
      cases h2 : pageAt t c m with
      | none => exact absurd (show slotOf g = (c, m) by unfold slotOf; rw [h4, h5]) (pageAt_none h2 g (h.mem_iff.1 (List.mem_of_getElem? h3)))
      | some j =>
        obtain ⟨g', h6, h7, h8⟩ := pageAt_some h2
        have e : g = g' := nodup_slot hn (List.mem_of_getElem? h3) (h.mem_iff.2 (List.mem_of_getElem? h6)) (by unfold slotOf; rw [h4, h5, h7, h8])
        subst e
        exact ⟨rfl, .inr ⟨i, j, g, rfl, rfl, h3, h6⟩⟩
/-- The order of pages counts for nothing. -/
theorem order_law {l t : List Rpg} (h : l.Perm t) (m path : List UInt8) : (findO l m path).e = (findO t m path).e ∧ ((findO l m path).e ≠ 0 → (findO l m path).n = 0 ∧ (findO l m path).ps = []) ∧
    ((findO l m path).e = 0 → (findO l m path).st = (findO t m path).st ∧ (findO l m path).ps = (findO t m path).ps ∧
      (((findO l m path).n = -1 ∧ (findO t m path).n = -1) ∨ ∃ (i j : Nat) (g : Rpg), (findO l m path).n = i ∧ (findO t m path).n = j ∧ l[i]? = some g ∧ t[j]? = some g)) := by
  unfold findO
  rw [← grownE_perm h]
  by_cases hg : grownE l = 0
  rotate_left
  · rw [if_pos hg, if_pos hg]
    exact ⟨rfl, fun _ => ⟨rfl, rfl⟩, fun h => absurd h hg⟩
  rw [if_neg (not_not_intro hg), if_neg (not_not_intro hg)]
  have hn : (l.map slotOf).Nodup := by
    rw [← slotsOK_nodup]
    unfold grownE at hg
    cases hs : slotsOK l
    · rw [hs] at hg
      split at hg
      · cases hg
      · split at hg <;> cases hg
    · rfl
  by_cases hp : pathOf path = false
  · rw [if_pos hp, if_pos hp]
    exact ⟨rfl, fun h => absurd rfl h, fun _ => ⟨rfl, rfl, .inl ⟨rfl, rfl⟩⟩⟩
  rw [if_neg hp, if_neg hp]
  obtain ⟨h1, h2⟩ := findC_perm h hn (methodG m) (cands (segs path)) 404
  generalize findC l (methodG m) (cands (segs path)) 404 = a at *
  generalize findC t (methodG m) (cands (segs path)) 404 = b at *
  obtain ⟨an, ast⟩ := a
  obtain ⟨bn, bst⟩ := b
  dsimp only at h1 h2 ⊢
  subst h1
  rcases h2 with ⟨rfl, rfl⟩ | ⟨i, j, g, rfl, rfl, h3, h4⟩
  · rw [if_pos (by decide), if_pos (by decide)]
    exact ⟨rfl, fun h => absurd rfl h, fun _ => ⟨rfl, rfl, .inl ⟨rfl, rfl⟩⟩⟩
  · rw [if_neg (by omega), if_neg (by omega)]
    refine ⟨rfl, fun h => absurd rfl h, fun _ => ⟨rfl, ?_, .inr ⟨i, j, g, rfl, rfl, h3, h4⟩⟩⟩
    unfold placesAt
    rw [Int.toNat_natCast, Int.toNat_natCast, h3, h4]

/-! ## Literal paths -/
/-- No place begins with one of the signs. -/
def litG : Bool → List UInt8 → Bool
  | _, [] => true
  | b, x :: r => !(b && (decide (x = 42) || decide (x = 58))) && litG (decide (x = 47)) r
theorem lit_split : ∀ (b : Bool) (q : List UInt8), litG b q = true → ∃ h t, splitB 47 q = h :: t ∧ (b = true → h.head? ≠ some 42 ∧ h.head? ≠ some 58) ∧ ∀ s ∈ t, s.head? ≠ some 42 ∧ s.head? ≠ some 58
  | b, [], _ => ⟨[], [], rfl, fun _ => ⟨by simp, by simp⟩, fun s h => by cases h⟩
  | b, x :: r, h => by
    unfold litG at h
    rw [Bool.and_eq_true] at h
    obtain ⟨h1, h2⟩ := h
    obtain ⟨u, t, e, h3, h4⟩ := lit_split _ r h2
    unfold splitB
    by_cases hx : x = 47
    · rw [if_pos hx, e]
      rw [decide_eq_true hx] at h3
      refine ⟨[], u :: t, rfl, fun _ => ⟨by simp, by simp⟩, fun s hs => ?_⟩
      rcases List.mem_cons.1 hs with rfl | hs
      · exact h3 rfl
      · exact h4 s hs
    · rw [if_neg hx, e]
      refine ⟨x :: u, t, rfl, fun hb => ?_, h4⟩
      subst hb
      simp only [Bool.true_and, Bool.not_eq_true', Bool.or_eq_false_iff, decide_eq_false_iff_not] at h1
      simp only [List.head?_cons, ne_eq, Option.some.injEq]
      exact h1
theorem placesG_lit : ∀ (R T : List (List UInt8)), R.length = T.length → (∀ s ∈ R, s.head? ≠ some 42 ∧ s.head? ≠ some 58) → placesG R T = some (T.map fun t => ((0 : Int), t))
  | [], [], _, _ => rfl
  | [], _ :: _, h, _ => by cases h
  | _ :: _, [], h, _ => by cases h
  | s :: r, t :: ts, hl, h => by
    have hs := h s (List.mem_cons_self ..)
    unfold placesG placeOf
    rw [if_neg (fun e => hs.1 e.1), if_neg (fun e => hs.2 e.1), if_neg (fun e => e.elim hs.1 hs.2)]
    simp only [List.headD_cons, List.tail_cons]
    rw [placesG_lit r ts (by simpa using hl) fun x hx => h x (List.mem_cons_of_mem _ hx)]
    rfl
theorem places_lit {p : List UInt8} (hp : pathOf p = true) (hl : p.length ≤ 4096) (h : litG false p = true) : placesOf p = some ((segs p).map fun t => ((0 : Int), t)) := by
  unfold placesOf
  rw [if_pos ⟨hp, hl⟩]
  obtain ⟨r, rfl⟩ := path_head hp
  rw [List.drop_succ_cons, List.drop_zero]
  have h2 : litG true r = true := by
    unfold litG at h
    rw [Bool.and_eq_true] at h
    exact h.2
  obtain ⟨u, t, e, h3, h4⟩ := lit_split true r h2
  refine placesG_lit _ _ (by unfold segs; rw [List.length_map]; rfl) fun s hs => ?_
  rw [e] at hs
  rcases List.mem_cons.1 hs with rfl | hs
  · exact h3 rfl
  · exact h4 s hs
theorem cands_lit : ∀ ss : List (List UInt8), ∃ cs, cands ss = (ss.map fun t => ((0 : Int), t)) :: cs
  | [] => ⟨[], rfl⟩
  | s :: r => by
    obtain ⟨cs, h⟩ := cands_lit r
    unfold cands
    rw [h]
    exact ⟨_, rfl⟩
theorem paramsG_lit : ∀ (T ss : List (List UInt8)), paramsG (T.map fun t => ((0 : Int), t)) ss = []
  | [], _ => rfl
  | t :: r, ss => by
    rw [List.map_cons, paramsG, if_neg (show ¬ ((0 : Int) = 1) by decide), if_neg (show ¬ ((0 : Int) = 2) by decide), paramsG_lit r]
    rfl
theorem key_lit (T : List (List UInt8)) : (T.map fun t => ((0 : Int), t)).map keyP = T.map fun t => ((0 : Int), t) := by
  rw [List.map_map]
  rfl
theorem grown_zero {l : List Rpg} (h : grownE l = 0) : l.length ≤ 32 ∧ (∀ g ∈ l, pgOK g = true) ∧ (l.map slotOf).Nodup := by
  unfold grownE at h
  split at h
  · cases h
  split at h
  · split at h
    · rename_i h1 h2 h3
      exact ⟨by omega, List.all_eq_true.1 h2, (slotsOK_nodup l).1 h3⟩
    · cases h
  · cases h
theorem pgOK_is {g : Rpg} (h : pgOK g = true) : (∃ ls, placesOf g.p = some ls) ∧ pathOf g.p = true ∧ g.p.length ≤ 4096 ∧ methodsR.contains g.m = true := by
  unfold pgOK at h
  rw [Bool.and_eq_true] at h
  obtain ⟨ls, hls⟩ := Option.isSome_iff_exists.1 h.1
  refine ⟨⟨ls, hls⟩, ?_⟩
  unfold placesOf at hls
  split at hls
  · rename_i hh
    exact ⟨hh.1, hh.2, h.2⟩
  · cases hls
theorem methodG_page {m : List UInt8} (h : methodsR.contains m = true) : methodG m = m := by
  unfold methodG
  rw [if_neg]
  intro e
  rw [e] at h
  revert h
  decide
theorem pageAt_mem {l : List Rpg} (hn : (l.map slotOf).Nodup) {k : Nat} {g : Rpg} (h : l[k]? = some g) : pageAt l (shapeOf g) g.m = some k := by
  obtain ⟨hk, rfl⟩ := List.getElem?_eq_some_iff.1 h
  unfold pageAt
  rw [List.findIdx?_map, List.findIdx?_eq_some_iff_getElem]
  refine ⟨hk, by simp [slotOf], fun j hj e => ?_⟩
  have h1 : slotOf l[j] = slotOf l[k] := by simpa [slotOf] using e
  have := List.pairwise_iff_getElem.1 hn j k (by simp; omega) (by simpa using hk) hj
  simp only [List.getElem_map, ne_eq] at this
  exact this h1
/-- A literal path leads to the page that has it as its pattern. -/
theorem literal_law {l : List Rpg} {k : Nat} {g : Rpg} (hg : grownE l = 0) (hk : l[k]? = some g) (hl : litG false g.p = true) : findO l g.m g.p = ⟨k, [], 200, 0⟩ := by
  obtain ⟨_, h2, h3⟩ := grown_zero hg
  obtain ⟨_, hp, hpl, hm⟩ := pgOK_is (h2 g (List.mem_of_getElem? hk))
  have hpo := places_lit hp hpl hl
  have hs : shapeOf g = (segs g.p).map fun t => ((0 : Int), t) := by
    unfold shapeOf
    rw [hpo, Option.getD_some, key_lit]
  obtain ⟨cs, hc⟩ := cands_lit (segs g.p)
  have hf : (findC l (methodG g.m) (cands (segs g.p)) 404).1 = k := by
    rw [hc, methodG_page hm, ← hs, findC, pageAt_mem h3 hk]
  unfold findO
  rw [if_neg (not_not_intro hg), hp, if_neg (by decide), hf, if_neg (by omega)]
  unfold placesAt
  rw [Int.toNat_natCast, hk, Option.bind_some, hpo, Option.getD_some, paramsG_lit]
end Go.Proofs.YtnaeeklnlddcaaaGreatDoor.Vex
/- Trees of pages: which nodes a path's segments meet; what is found along them. -/
namespace Go.Proofs.YtnaeeklnlddcaaaGreatDoor.Vex
open Go Go.RowKit

/-- The node of a shape. -/
def lead (ns : List Nd) (c : List Plk) : Option Nd := ns.find? fun n => decide (n.c = c)
/-- The nodes at which segments may end, from a shape on. -/
def ways (ns : List Nd) (c : List Plk) (ss : List (List UInt8)) : List Nd := (cands ss).filterMap fun d => lead ns (c ++ d)
theorem lead_some {ns : List Nd} {c : List Plk} {n : Nd} (h : lead ns c = some n) : n ∈ ns ∧ n.c = c :=
  ⟨List.mem_of_find?_eq_some h, by simpa using List.find?_some h⟩
theorem lead_none {ns : List Nd} {c : List Plk} (h : lead ns c = none) : ∀ n ∈ ns, n.c ≠ c := fun n hn e => by
  have := List.find?_eq_none.1 h n hn
  simp [e] at this
section
variable {ns : List Nd} {pg : List Plk → List UInt8 → Option Int}
theorem TreeI.one (h : TreeI ns pg) {m n : Nd} (hm : m ∈ ns) (hn : n ∈ ns) (e : m.c = n.c) : m = n := by
  have hd := h.nodup
  clear h
  induction ns with
  | nil => cases hm
  | cons x r ih =>
    rw [List.map_cons, List.nodup_cons] at hd
    rcases List.mem_cons.1 hm with h1 | h1
    · rcases List.mem_cons.1 hn with h2 | h2
      · rw [h1, h2]
      · exact absurd (by rw [← h1, e]; exact List.mem_map_of_mem h2) hd.1
    · rcases List.mem_cons.1 hn with h2 | h2
      · exact absurd (by rw [← h2, ← e]; exact List.mem_map_of_mem h1) hd.1
      · exact ih h1 h2 hd.2
theorem TreeI.lead (h : TreeI ns pg) {n : Nd} (hn : n ∈ ns) : Vex.lead ns n.c = some n := by
  cases hl : Vex.lead ns n.c with
  | none => exact absurd rfl (lead_none hl n hn)
  | some m => rw [h.one (lead_some hl).1 hn (lead_some hl).2]
/-- No node, none behind it. -/
theorem TreeI.voidL (h : TreeI ns pg) {c : List Plk} (hc : ∀ m ∈ ns, m.c ≠ c) : ∀ (k : Nat) (d : List Plk), d.length = k → ∀ m ∈ ns, m.c ≠ c ++ d
  | 0, d, hk => by
    obtain rfl : d = [] := List.eq_nil_of_length_eq_zero hk
    simpa using hc
  | k + 1, d, hk => fun m hm e => by
    have hd : d ≠ [] := fun e => by rw [e] at hk; cases hk
    rw [← List.dropLast_concat_getLast hd, ← List.append_assoc] at e
    obtain ⟨t, ht, e2⟩ := h.pref m hm _ _ e
    exact TreeI.voidL h hc k d.dropLast (by rw [List.length_dropLast, hk]; rfl) t ht e2
theorem TreeI.void (h : TreeI ns pg) {c : List Plk} (hc : ∀ m ∈ ns, m.c ≠ c) (d : List Plk) : ∀ m ∈ ns, m.c ≠ c ++ d := h.voidL hc d.length d rfl
theorem ways_none (h : TreeI ns pg) {c : List Plk} (hc : ∀ m ∈ ns, m.c ≠ c) (ss : List (List UInt8)) : ways ns c ss = [] := by
  unfold ways
  rw [List.filterMap_eq_nil_iff]
  intro d _
  cases hl : lead ns (c ++ d) with
  | none => rfl
  | some m => exact absurd (lead_some hl).2 (h.void hc d m (lead_some hl).1)
theorem ways_nil (c : List Plk) : ways ns c [] = (lead ns c).toList := by
  unfold ways cands
  rw [List.filterMap_cons, List.append_nil]
  cases lead ns c <;> rfl
theorem ways_cons (c : List Plk) (s : List UInt8) (r : List (List UInt8)) : ways ns c (s :: r) = ways ns (c ++ [(0, s)]) r ++ (ways ns (c ++ [(1, [])]) r ++ (lead ns (c ++ [(2, [])])).toList) := by
  unfold ways
  rw [cands, List.filterMap_append, List.filterMap_append, List.filterMap_map, List.filterMap_map]
  have e : ∀ (p : Plk) (l : List (List Plk)), l.filterMap ((fun d => lead ns (c ++ d)) ∘ fun x => p :: x) = l.filterMap fun d => lead ns (c ++ [p] ++ d) := fun p l => by
    congr 1
    funext d
    simp
  have e2 : ([[((2 : Int), ([] : List UInt8))]] : List (List Plk)).filterMap (fun d => lead ns (c ++ d)) = (lead ns (c ++ [(2, [])])).toList := by
    rw [List.filterMap_cons]
    cases lead ns (c ++ [(2, [])]) <;> rfl
  rw [e, e, e2]
theorem ways_mem {c : List Plk} {ss : List (List UInt8)} {n : Nd} (h : n ∈ ways ns c ss) : n ∈ ns := by
  obtain ⟨d, _, hd⟩ := List.mem_filterMap.1 h
  exact (lead_some hd).1
end
/-- Nodes are met, as long as true comes of it. -/
inductive RunS {σ : Type} (Step : σ → Nd → σ → Bool → Prop) : List Nd → σ → σ → Bool → Prop
  | nil (s : σ) : RunS Step [] s s true
  | stop {n : Nd} {r : List Nd} {s s' : σ} : Step s n s' false → RunS Step (n :: r) s s' false
  | go {n : Nd} {r : List Nd} {s s1 s' : σ} {b : Bool} : Step s n s1 true → RunS Step r s1 s' b → RunS Step (n :: r) s s' b
theorem RunS.one {σ : Type} {Step : σ → Nd → σ → Bool → Prop} {n : Nd} {s s' : σ} {b : Bool} (h : Step s n s' b) : RunS Step [n] s s' b := by
  cases b
  · exact .stop h
  · exact .go h (.nil _)
theorem RunS.halt {σ : Type} {Step : σ → Nd → σ → Bool → Prop} {a : List Nd} {s s' : σ} (h : RunS Step a s s' false) (b : List Nd) : RunS Step (a ++ b) s s' false := by
  generalize hx : false = x at h
  induction h with
  | nil s => cases hx
  | stop h => exact .stop h
  | go h _ ih => exact .go h (ih hx)
theorem RunS.app {σ : Type} {Step : σ → Nd → σ → Bool → Prop} {a b : List Nd} {s s1 s' : σ} {x : Bool} (h : RunS Step a s s1 true) (k : RunS Step b s1 s' x) : RunS Step (a ++ b) s s' x := by
  generalize hx : true = y at h
  induction h with
  | nil s => exact k
  | stop h => cases hx
  | go h _ ih => exact .go h (ih k hx)

/-! ## Find -/
def stAt (n : Nd) (st : Int) : Int := if n.pages = [] then st else 405
/-- What Find does at a node. -/
def FindS (pg : List Plk → List UInt8 → Option Int) (m : List UInt8) (s : Int × Int) (n : Nd) (s' : Int × Int) (b : Bool) : Prop :=
  match pg n.c m with
  | some i => s' = (i, stAt n s.2) ∧ b = false
  | none => s' = (s.1, stAt n s.2) ∧ b = true
def pgOf (l : List Rpg) (c : List Plk) (m : List UInt8) : Option Int := Option.map (fun i : Nat => Int.ofNat i) (pageAt l c m)
theorem pageAt_isSome {l : List Rpg} {g : Rpg} (h : g ∈ l) : ∃ i, pageAt l (shapeOf g) g.m = some i := by
  cases hp : pageAt l (shapeOf g) g.m with
  | some i => exact ⟨i, rfl⟩
  | none => exact absurd rfl (pageAt_none hp g h)
theorem any_pages {ns : List Nd} {l : List Rpg} (h : TreeI ns (pgOf l)) {n : Nd} (hn : n ∈ ns) : anyAt l n.c = !decide (n.pages = []) := by
  unfold anyAt
  cases hp : n.pages with
  | nil =>
    rw [decide_eq_true rfl, Bool.not_true, List.any_eq_false]
    intro g hg e
    have e : shapeOf g = n.c := by simpa using e
    obtain ⟨i, hi⟩ := pageAt_isSome hg
    have := h.pages n hn g.m
    rw [hp] at this
    unfold pgOf at this
    rw [← e, hi] at this
    cases this
  | cons x r =>
    rw [decide_eq_false (by simp), Bool.not_false, List.any_eq_true]
    have h1 := h.pages n hn x.1
    have h2 : mget x.1 n.pages = some x.2 := by rw [hp, mget, if_pos rfl]
    rw [h2] at h1
    unfold pgOf at h1
    cases hpa : pageAt l n.c x.1 with
    | none => rw [hpa] at h1; cases h1
    | some i =>
      obtain ⟨g, hg, hs, _⟩ := pageAt_some hpa
      exact ⟨g, List.mem_of_getElem? hg, by rw [hs]; exact decide_eq_true rfl⟩
theorem any_none {ns : List Nd} {l : List Rpg} (h : TreeI ns (pgOf l)) {c : List Plk} (hc : ∀ n ∈ ns, n.c ≠ c) : anyAt l c = false ∧ ∀ m, pageAt l c m = none := by
  have h2 : ∀ m, pageAt l c m = none := fun m => by
    cases hp : pageAt l c m with
    | none => rfl
    | some i =>
      obtain ⟨n, hn, e⟩ := h.cover c m i (by unfold pgOf; rw [hp]; rfl)
      exact absurd e (hc n hn)
  refine ⟨?_, h2⟩
  unfold anyAt
  rw [List.any_eq_false]
  intro g hg e
  have e : shapeOf g = c := by simpa using e
  obtain ⟨i, hi⟩ := pageAt_isSome hg
  rw [e, h2] at hi
  cases hi
theorem find_ways {ns : List Nd} {l : List Rpg} (h : TreeI ns (pgOf l)) (m : List UInt8) : ∀ (cs : List (List Plc)) (st : Int) (s' : Int × Int) (b : Bool), RunS (FindS (pgOf l) m) (cs.filterMap fun d => lead ns ([] ++ d)) (-1, st) s' b → s' = findC l m cs st
  | [], st, s', b, hr => by
    cases hr
    rfl
  | c :: r, st, s', b, hr => by
    rw [List.filterMap_cons, List.nil_append] at hr
    unfold findC
    cases hl : lead ns c with
    | none =>
      rw [hl] at hr
      obtain ⟨h1, h2⟩ := any_none h (lead_none hl)
      rw [h1, h2 m]
      exact find_ways h m r st s' b hr
    | some n =>
      rw [hl] at hr
      obtain ⟨hn, hc⟩ := lead_some hl
      have ha := any_pages h hn
      rw [hc] at ha
      have hst : (if anyAt l c = true then (405 : Int) else st) = stAt n st := by
        rw [ha]
        unfold stAt
        by_cases e : n.pages = [] <;> simp [e]
      rw [hst]
      have key : ∀ s1 b1, FindS (pgOf l) m (-1, st) n s1 b1 → match pageAt l c m with | some i => s1 = ((i : Int), stAt n st) ∧ b1 = false | none => s1 = (-1, stAt n st) ∧ b1 = true := fun s1 b1 hs => by
        unfold FindS pgOf at hs
        rw [hc] at hs
        cases hp : pageAt l c m <;> rw [hp] at hs <;> exact hs
      cases hr with
      | stop hs =>
        have := key _ _ hs
        cases hp : pageAt l c m <;> rw [hp] at this
        · cases this.2
        · exact this.1
      | go hs hr2 =>
        have := key _ _ hs
        cases hp : pageAt l c m <;> rw [hp] at this
        · obtain ⟨rfl, _⟩ := this
          exact find_ways h m r _ s' b hr2
        · cases this.2
/-! ## Growing -/
/-- A page more, if its place is free. -/
def hangP (pg : List Plk → List UInt8 → Option Int) (c : List Plk) (m : List UInt8) (i : Int) : List Plk → List UInt8 → Option Int := fun d x => if (pg c m).isNone = true ∧ d = c ∧ x = m then some i else pg d x
theorem pgOf_nil : pgOf [] = fun _ _ => none := rfl
theorem pgOf_snoc {l : List Rpg} {g : Rpg} (hf : pgOf l (shapeOf g) g.m = none) : pgOf (l ++ [g]) = hangP (pgOf l) (shapeOf g) g.m l.length := by
  funext c x
  unfold hangP
  rw [hf]
  unfold pgOf pageAt at *
  rw [List.map_append, List.findIdx?_append, List.length_map]
  simp only [Option.isNone_none, true_and]
  by_cases he : c = shapeOf g ∧ x = g.m
  · obtain ⟨rfl, rfl⟩ := he
    rw [if_pos ⟨rfl, rfl⟩]
    have hn : (l.map slotOf).findIdx? (fun x => decide (x = (shapeOf g, g.m))) = none := by
      rw [Option.map_eq_none_iff] at hf
      exact hf
    rw [hn]
    simp [slotOf]
  · rw [if_neg he]
    have : (([g] : List Rpg).map slotOf).findIdx? (fun y => decide (y = (c, x))) = none := by
      simp only [List.map_cons, List.map_nil, List.findIdx?_cons, List.findIdx?_nil, Option.map_none]
      rw [if_neg]
      simp only [decide_eq_true_eq]
      intro e
      exact he ⟨(Prod.mk.inj e).1.symm, (Prod.mk.inj e).2.symm⟩
    rw [this]
    simp
theorem slots_snoc {l : List Rpg} {g : Rpg} (h : (l.map slotOf).Nodup) (hf : pgOf l (shapeOf g) g.m = none) : ((l ++ [g]).map slotOf).Nodup := by
  rw [List.map_append, List.nodup_append]
  refine ⟨h, by simp, fun a ha b hb e => ?_⟩
  obtain ⟨x, hx, rfl⟩ := List.mem_map.1 ha
  have hb : b = slotOf g := by simpa using hb
  have hn : pageAt l (shapeOf g) g.m = none := Option.map_eq_none_iff.1 hf
  exact pageAt_none hn x hx (e.trans hb)
theorem slots_dup {l r : List Rpg} {g : Rpg} (hf : pgOf l (shapeOf g) g.m ≠ none) : ¬ ((l ++ g :: r).map slotOf).Nodup := by
  intro h
  cases hp : pageAt l (shapeOf g) g.m with
  | none => exact hf (by unfold pgOf; rw [hp]; rfl)
  | some i =>
    obtain ⟨x, hx, h1, h2⟩ := pageAt_some hp
    rw [List.map_append, List.map_cons, List.nodup_append] at h
    exact h.2.2 (slotOf x) (List.mem_map_of_mem (List.mem_of_getElem? hx)) (slotOf g) (List.mem_cons_self ..) (by unfold slotOf; rw [h1, h2])
end Go.Proofs.YtnaeeklnlddcaaaGreatDoor.Vex
