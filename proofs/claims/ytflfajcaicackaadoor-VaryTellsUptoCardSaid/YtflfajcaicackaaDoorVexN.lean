/- A walk by reckoning, part fourteen: maps of one's own, whose keys are texts or integers; a row that is made; copies. No program in sight. -/
import Derived.Test.YtflfajcaicackaaDoorVexM
import Derived.MapKept
import Derived.Laws.MakeOwn
namespace Go.Proofs.YtflfajcaicackaaDoor.Vex
open Go Go.RowKit Go.MapKept

/-- Keys of one kind. -/
structure KeyK {α : Type} [DecidableEq α] (d : TypeDesc) (kv : α → Value) : Prop where
  same : ∀ a b, Instr.sameNow d (kv a) (kv b) = some (decide (a = b))
  key : ∀ a, IsKey d (kv a)
  bits : ∀ a, Instr.sameBits 10000 (kv a) (kv a) = true
theorem strK : KeyK .string str := ⟨fun a b => by
  have h : ((⟨⟨a⟩⟩ : ByteArray) == ⟨⟨b⟩⟩) = decide (a = b) := by
    rw [Bool.eq_iff_iff, decide_eq_true_iff]
    show ((⟨a⟩ : Array UInt8) == ⟨b⟩) = true ↔ _
    simp
  show some _ = _
  rw [h], fun _ => trivial, fun a => by
  show ((⟨a⟩ : Array UInt8) == ⟨a⟩) = true
  simp⟩
theorem intK (k : IntKind) : KeyK (.int k) (fun n : Int => .int k n) := ⟨fun a b => by
  simp only [Instr.sameNow, if_true]
  congr 1, fun _ => rfl, fun a => by
  show (k == k && a == a) = true
  simp⟩
def mkEs {α : Type} (kv : α → Value) : Nat → List (α × Value) → List MapEntry
  | _, [] => []
  | i, p :: r => ⟨kv p.1, p.2, i⟩ :: mkEs kv (i + 1) r
/-- The map of these entries, in the order of their coming. -/
def mobj {α : Type} (kv : α → Value) (l : List (α × Value)) : Obj := .map ⟨mkEs kv 0 l⟩ l.length
def mget {α : Type} [DecidableEq α] (k : α) : List (α × Value) → Option Value
  | [] => none
  | p :: r => if k = p.1 then some p.2 else mget k r
def mput {α : Type} [DecidableEq α] (k : α) (v : Value) : List (α × Value) → List (α × Value)
  | [] => [(k, v)]
  | p :: r => if k = p.1 then (k, v) :: r else p :: mput k v r
def place {α : Type} [DecidableEq α] (k : α) : List (α × Value) → Nat
  | [] => 0
  | p :: r => if k = p.1 then 0 else place k r + 1
section
variable {α : Type} [DecidableEq α] {kv : α → Value} {d : TypeDesc}
theorem findNow_es (hk : KeyK d kv) (k : α) : ∀ (l : List (α × Value)) (i j : Nat), Instr.findNow d (kv k) (mkEs kv i l) j = some ((mget k l).map fun v => (j + place k l, v))
  | [], _, _ => rfl
  | p :: r, i, j => by
    simp only [mkEs, Instr.findNow, hk.same, mget, place]
    by_cases h : k = p.1
    · simp [h]
    · simp only [h, decide_false, if_false]
      rw [findNow_es hk k r (i + 1) (j + 1)]
      cases mget k r with
      | none => rfl
      | some v => simp; omega
omit [DecidableEq α] in
theorem length_es : ∀ (l : List (α × Value)) (i : Nat), (mkEs kv i l).length = l.length
  | [], _ => rfl
  | _ :: r, i => by simp [mkEs, length_es r]
theorem upd_new (k : α) (v : Value) : ∀ (l : List (α × Value)), mget k l = none → mput k v l = l ++ [(k, v)]
  | [], _ => rfl
  | p :: r, h => by
    simp only [mget] at h
    split at h
    · cases h
    · rename_i hn
      simp only [mput, if_neg hn, upd_new k v r h, List.cons_append]
omit [DecidableEq α] in
theorem es_append (p : α × Value) : ∀ (l : List (α × Value)) (i : Nat), mkEs kv i (l ++ [p]) = mkEs kv i l ++ [⟨kv p.1, p.2, i + l.length⟩]
  | [], i => by simp [mkEs]
  | q :: r, i => by rw [List.cons_append, mkEs, es_append p r (i + 1), mkEs, List.length_cons, show i + 1 + r.length = i + (r.length + 1) by omega]; rfl
theorem upd_old (k : α) (v u : Value) : ∀ (l : List (α × Value)) (i : Nat), mget k l = some u → (mkEs kv i l).modify (place k l) (fun e => { e with key := kv k, val := v }) = mkEs kv i (mput k v l) ∧ (mput k v l).length = l.length ∧ ((mkEs kv i l)[place k l]?).map (·.key) = some (kv k)
  | [], _, h => by cases h
  | p :: r, i, h => by
    simp only [mget] at h
    simp only [place, mput, mkEs]
    by_cases hp : k = p.1
    · simp [hp, mkEs, List.modify_cons]
    · rw [if_neg hp] at h
      obtain ⟨h1, h2, h3⟩ := upd_old k v u r (i + 1) h
      simp only [hp, if_false, mkEs, List.length_cons, h2]
      exact ⟨by rw [List.modify_succ_cons, h1], trivial, by rw [List.getElem?_cons_succ]; exact h3⟩
theorem look_upd (k a : α) (v : Value) : ∀ (l : List (α × Value)), mget a (mput k v l) = if a = k then some v else mget a l
  | [] => by simp [mput, mget]
  | p :: r => by
    simp only [mput]
    by_cases hk : k = p.1
    · rw [if_pos hk]
      simp only [mget]
      by_cases ha : a = k
      · simp [ha]
      · rw [if_neg ha, if_neg ha, if_neg (by rw [← hk]; exact ha)]
    · rw [if_neg hk]
      simp only [mget, look_upd k a v r]
      by_cases ha : a = k
      · rw [if_neg (by rw [ha]; exact hk)]; simp [ha]
      · rw [if_neg ha]
        simp [ha]
end
section
variable {c : Ctx} {T : Ty} {H : Hp} {fr : Fr} {α : Type} [DecidableEq α] {kv : α → Value} {d : TypeDesc} {dst : Option Nat} {ty : TypeId} {pos : String} {after : Array Edge} {gd : Option (Nat × Bool)}
theorem ObjAt.holds {b : Nat} {o : Obj} {f : Obj → Hp} (h : ObjAt b H o f) {w : World} (hw : St c H w) : w.heap[b]? = some o := by
  obtain ⟨H1, H2, rfl, _⟩ := h.ok
  exact (hw.own (.obj b o) (by simp)).1
theorem ObjAt.put {b : Nat} {o o' : Obj} {f : Obj → Hp} (h : ObjAt b H o f) {w : World} (hw : St c H w) : St c (f o') (w.putObj b o') := by
  obtain ⟨H1, H2, rfl, hf⟩ := h.ok
  rw [hf]
  have h1 : St c (.obj b o :: (H1 ++ H2)) w := hw.perm List.perm_middle
  exact (h1.putObj (o' := o')).perm List.perm_middle.symm
omit [DecidableEq α] in
/-- A new map. -/
theorem Oth.mkMap {m : Bool} {t : TypeId} {K : Value → Hp → Prop} (kv : α → Value) (k : ∀ b, K (.map (some b)) (.obj b (mobj kv []) :: H)) : Oth c m ⟨dst, .makeMap t none, ty, pos, after, gd⟩ fr H K :=
  ⟨fun w hw => ⟨.map (some w.heap.size), w.alloc (.map #[] 0), _, rfl, hw.allocObj _, k _, fun _ => (Below.refl _ _).alloc (Nat.le_refl _) _⟩⟩
/-- What a map has at a key. -/
theorem OthP.look {t kt et : TypeId} {x i : Operand} {ok : Bool} {b : Nat} {k : α} {l : List (α × Value)} {f : Obj → Hp} {z r : Value} {K : Value → Prop} (hk : KeyK d kv) (hT : TOk c.P T) [ho : ObjAt b H (mobj kv l) f]
    (hx : evK fr x fun v => v = .map (some b)) (hi : evK fr i fun v => v = kv k) (ht : (lookT T t).d = .map kt et) (hkt : (lookT T kt).d = d) (hd : d ≠ .invalid) (het : (lookT T et).d ≠ .invalid) (hz : (lookT T et).zero = z)
    (hr : (match ok with | true => .tuple ⟨[(mget k l).getD z, .bool (mget k l).isSome]⟩ | false => (mget k l).getD z) = r) (kk : K r) : OthP c ⟨dst, .lookup t x i ok, ty, pos, after, gd⟩ fr H K := ⟨⟨r, kk, fun w hw => by
  rw [evK_eq] at hx hi
  have hu := (lookT_ok hT (t := t) (by rw [ht]; intro h; cases h)).1
  have hku := (lookT_ok hT (t := kt) (by rw [hkt]; exact hd)).1
  rw [ht] at hu
  rw [hkt] at hku
  have hzv := run_zeroValue (lookT_ok hT (t := et) het) (w := w)
  rw [hz] at hzv
  have hb : w.heap[b]? = some (.map ⟨mkEs kv 0 l⟩ l.length) := ho.holds hw
  have hf := run_findKey (w := w) hku (findNow_es hk k l 0 0)
  have hc := run_checkKey (w := w) hku (hk.key k) (⟨mkEs kv 0 l⟩ : Array MapEntry).isEmpty 9999
  have hl : (Instr.lookup t (.map (some b)) (kv k) ok).run c.P w = .ok r w := by
    unfold Instr.lookup
    simp only [Sem.run_bind, run_underlying hu, Result.andThen_ok, MapKept.run_getObj_map hb, Sem.run_pure, hc, hf]
    subst hr
    cases mget k l with
    | none => cases ok <;> simp [hzv]
    | some v => cases ok <;> simp
  generalize (act fr).eval = ρ at *
  simp only [execOp, hx, hi, Sem.run_bind, hl, Result.andThen_ok, Sem.run_pure]⟩⟩
theorem run_mapUpd {P : Program} {w : World} {t kt et : TypeId} {b : Nat} {k : α} {l : List (α × Value)} {v : Value} (hk : KeyK d kv) (hu : P.underlying t = some (.map kt et)) (hku : P.underlying kt = some d) (hb : w.heap[b]? = some (.map ⟨mkEs kv 0 l⟩ l.length)) :
    (Instr.mapUpdate t (.map (some b)) (kv k) v).run P w = .ok () (w.putObj b (mobj kv (mput k v l))) := by
  have hf := run_findKey (w := w) hku (findNow_es hk k l 0 0)
  have hc := run_checkKey (w := w) hku (hk.key k) false 9999
  unfold Instr.mapUpdate
  simp only [Sem.run_bind, run_underlying hu, Result.andThen_ok, MapKept.run_getObj_map hb, hc, hf]
  cases hl : mget k l with
  | none =>
    simp only [Option.map_none]
    rw [MapKept.run_setObj_map _ hb]
    unfold mobj
    rw [upd_new k v l hl, es_append]
    simp only [World.putObj, List.length_append, List.length_singleton, Nat.zero_add]
    congr 4
    rw [← Array.toList_inj]; simp
  | some u =>
    obtain ⟨h1, h2, h3⟩ := upd_old (kv := kv) k v u l 0 hl
    simp only [Option.map_some, Nat.zero_add]
    have e : (((⟨mkEs kv 0 l⟩ : Array MapEntry)[place k l]?).map (·.key)).getD (kv k) = kv k := by
      have : (⟨mkEs kv 0 l⟩ : Array MapEntry)[place k l]? = (mkEs kv 0 l)[place k l]? := by simp
      rw [this, h3]; rfl
    have hkey : (Instr.keyThatStays (kv k) (kv k)).run P w = .ok (kv k) w := by
      unfold Instr.keyThatStays
      rw [if_pos (hk.bits k)]; rfl
    simp only [e, Sem.run_bind, hkey, Result.andThen_ok]
    rw [MapKept.run_setObj_map _ hb]
    unfold mobj
    simp only [World.putObj, h2]
    congr 4
    rw [← h1, ← Array.toList_inj]
    simp
/-- A key's value is laid. -/
theorem OthU.upd {t kt et : TypeId} {x i y : Operand} {b : Nat} {k : α} {l l' : List (α × Value)} {f : Obj → Hp} {v : Value} {K : Value → Hp → Prop} (hk : KeyK d kv) (hT : TOk c.P T) [ho : ObjAt b H (mobj kv l) f]
    (hx : evK fr x fun v => v = .map (some b)) (hi : evK fr i fun v => v = kv k) (hy : evK fr y fun u => u = v) (ht : (lookT T t).d = .map kt et) (hkt : (lookT T kt).d = d) (hd : d ≠ .invalid) (hl' : mput k v l = l')
    (kk : K undef (f (mobj kv l'))) : OthU c ⟨dst, .mapUpdate t x i y, ty, pos, after, gd⟩ fr H K := ⟨fun w hw => by
  rw [evK_eq] at hx hi hy
  have hu := (lookT_ok hT (t := t) (by rw [ht]; intro h; cases h)).1
  have hku := (lookT_ok hT (t := kt) (by rw [hkt]; exact hd)).1
  rw [ht] at hu
  rw [hkt] at hku
  have hb : w.heap[b]? = some (.map ⟨mkEs kv 0 l⟩ l.length) := ho.holds hw
  refine ⟨_, _, ?_, ho.put hw (o' := mobj kv l'), kk⟩
  have hr := run_mapUpd (k := k) (v := v) hk hu hku hb
  rw [hl'] at hr
  generalize (act fr).eval = ρ at *
  simp only [execOp, hx, hi, hy, Sem.run_bind, hr, Result.andThen_ok, Sem.run_pure]⟩
end
end Go.Proofs.YtflfajcaicackaaDoor.Vex
