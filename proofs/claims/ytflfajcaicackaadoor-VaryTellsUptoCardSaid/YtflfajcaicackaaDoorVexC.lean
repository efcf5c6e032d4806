/- A walk by reckoning, part three: what each operation asks, in words that reckon by themselves. No program in sight. -/
import Derived.Test.YtflfajcaicackaaDoorVexB
namespace Go.Proofs.YtflfajcaicackaaDoor.Vex
open Go Go.RowKit

/-! ## Frames -/
noncomputable def getK (l : List Value) : Nat → (Value → Prop) → Prop :=
  List.rec (motive := fun _ => Nat → (Value → Prop) → Prop) (fun _ K => K undef) (fun a _ ih n K => Nat.rec (motive := fun _ => Prop) (K a) (fun m _ => ih m K) n) l
noncomputable def setK (l : List Value) : Nat → Value → (List Value → Prop) → Prop :=
  List.rec (motive := fun _ => Nat → Value → (List Value → Prop) → Prop) (fun _ _ K => K []) (fun a l ih n v K => Nat.rec (motive := fun _ => Prop) (K (v :: l)) (fun m _ => ih m v fun l' => K (a :: l')) n) l
noncomputable def setO (fr : Fr) (o : Option Nat) (v : Value) (K : Fr → Prop) : Prop := match o with | some d => setK fr d v K | none => K fr
noncomputable def evK (fr : Fr) (x : Operand) (K : Value → Prop) : Prop := match x with
  | .tmp t => getK fr t K | .const v => K v | .global g => K (.pointer (some ⟨g, 0, none⟩)) | .func f => K (.func (.func f) #[] #[])
noncomputable def evLK (fr : Fr) (l : List Operand) : (List Value → Prop) → Prop :=
  List.rec (motive := fun _ => (List Value → Prop) → Prop) (fun K => K []) (fun o _ ih K => evK fr o fun v => ih fun l => K (v :: l)) l
noncomputable def evPK (fr : Fr) (l : List (Nat × Operand)) : (List (Nat × Value) → Prop) → Prop :=
  List.rec (motive := fun _ => (List (Nat × Value) → Prop) → Prop) (fun K => K []) (fun o _ ih K => evK fr o.2 fun v => ih fun l => K ((o.1, v) :: l)) l

def act (fr : Fr) : Act := ⟨⟨fr⟩, []⟩
/-- .. with deferred calls. -/
def actD (ds : List Deferred) (fr : Fr) : Act := ⟨⟨fr⟩, ds⟩
theorem getK_eq : ∀ (l : List Value) (n : Nat) (K : Value → Prop), getK l n K = K (l.getD n undef)
  | [], _, _ => rfl
  | _ :: _, 0, _ => rfl
  | _ :: l, n + 1, K => getK_eq l n K
theorem setK_eq : ∀ (l : List Value) (n : Nat) (v : Value) (K : List Value → Prop), setK l n v K = K (l.set n v)
  | [], _, _, _ => rfl
  | _ :: _, 0, _, _ => rfl
  | a :: l, n + 1, v, K => setK_eq l n v fun l' => K (a :: l')
theorem act_put (fr : Fr) (o : Option Nat) (v : Value) : (act fr).put o v = act (match o with | some d => fr.set d v | none => fr) := by
  cases o <;> simp [Act.put, act]
theorem setO_eq (fr : Fr) (o : Option Nat) (v : Value) (K : Fr → Prop) : setO fr o v K = K (match o with | some d => fr.set d v | none => fr) := by
  cases o with
  | none => rfl
  | some d => exact setK_eq fr d v K
theorem act_tmp (fr : Fr) (t : Nat) : (act fr).eval (.tmp t) = fr.getD t undef := by simp [Act.eval, act]
theorem evK_eq (fr : Fr) (x : Operand) (K : Value → Prop) : evK fr x K = K ((act fr).eval x) := by
  cases x with
  | tmp t => rw [act_tmp]; exact getK_eq fr t K
  | _ => rfl
theorem evLK_eq (fr : Fr) : ∀ (l : List Operand) (K : List Value → Prop), evLK fr l K = K (l.map (act fr).eval)
  | [], _ => rfl
  | o :: l, K => (evK_eq fr o _).trans (evLK_eq fr l fun l' => K ((act fr).eval o :: l'))
theorem evPK_eq (fr : Fr) : ∀ (l : List (Nat × Operand)) (K : List (Nat × Value) → Prop), evPK fr l K = K (l.map fun p => (p.1, (act fr).eval p.2))
  | [], _ => rfl
  | o :: l, K => (evK_eq fr o.2 _).trans (evPK_eq fr l fun l' => K ((o.1, (act fr).eval o.2) :: l'))

/-! ## Types -/
structure TI where
  d : TypeDesc
  zero : Value
  size : Nat
  bytes : Nat
  offs : List (Nat × Nat)
def TIok (P : Program) (t : TypeId) (i : TI) : Prop :=
  P.underlying t = some i.d ∧ (P.info? t).map (fun x => (x.zero, x.size, x.bytes)) = some (some i.zero, i.size, i.bytes) ∧
  (match i.d with | .struct fs => fs.toList.map (fun f => (f.offset, (P.info? f.type).map (·.size))) = i.offs.map (fun p => (p.1, some p.2)) | _ => True)
abbrev Ty := List (Nat × TI)
noncomputable def lookT (T : Ty) (t : Nat) : TI := List.rec (motive := fun _ => TI) ⟨.invalid, undef, 0, 0, []⟩ (fun p _ ih => match Nat.beq p.1 t with | true => p.2 | false => ih) T
def TOk (P : Program) (T : Ty) : Prop := ∀ p ∈ T, TIok P p.1 p.2
theorem TOk.nil (P : Program) : TOk P [] := fun _ h => by cases h
theorem TOk.cons {P : Program} {t : TypeId} {i : TI} {T : Ty} (h : TIok P t i) (r : TOk P T) : TOk P ((t, i) :: T) := fun p hp => by
  rcases List.mem_cons.1 hp with rfl | hp
  · exact h
  · exact r p hp
theorem lookT_ok {P : Program} {t : Nat} : ∀ {T : Ty}, TOk P T → (lookT T t).d ≠ .invalid → TIok P t (lookT T t)
  | [], _, hd => absurd rfl hd
  | (u, i) :: T, h, hd => by
    have e : lookT ((u, i) :: T) t = match Nat.beq u t with | true => i | false => lookT T t := rfl
    rw [e] at hd ⊢
    cases hb : Nat.beq u t with
    | true =>
      obtain rfl := Nat.eq_of_beq_eq_true hb
      exact h (u, i) (by simp)
    | false =>
      rw [hb] at hd
      exact lookT_ok (fun p hp => h p (List.mem_cons_of_mem _ hp)) hd
noncomputable def aggN (i : TI) : Option Nat := match i.d with | .struct _ => some i.size | .array _ _ => some i.size | _ => none

/-! ## Stops: what the walk leaves to the prover -/
structure Ar (k : IntKind) (z : Int) (K : Value → Prop) : Prop where ok : ∃ r, r = k.wrap z ∧ K (.int k r)
structure Cmp (p : Prop) (K : Value → Prop) : Prop where ok : ∀ c : Bool, (c = true ↔ p) → K (.bool c)
structure CatS (a b : List UInt8) (K : Value → Prop) : Prop where ok : a.length + b.length ≤ 9223372036854775807 ∧ K (str (a ++ b))
structure IdxS (l : List UInt8) (i : Int) (K : Value → Prop) : Prop where ok : 0 ≤ i ∧ ∃ x : UInt8, l[i.toNat]? = some x ∧ K (.int .u8 x.toNat)
structure SlcS (l : List UInt8) (lo hi : Int) (K : Value → Prop) : Prop where ok : 0 ≤ lo ∧ lo ≤ hi ∧ hi ≤ l.length ∧ K (str ((l.take hi.toNat).drop lo.toNat))
structure DivS (op : BinOp) (k : IntKind) (a b : Int) (K : Value → Prop) : Prop where ok : b ≠ 0 ∧ ((op = .quo ∧ ∃ r, r = k.wrap (a.tdiv b) ∧ K (.int k r)) ∨ (op = .rem ∧ ∃ r, r = a.tmod b ∧ K (.int k r)))
/-- The element's address: of a slice that lies at A. -/
abbrev at0 : Addr := ⟨0, 0, none⟩
structure IdxA (c : Ctx) (H : Hp) (A : Option Addr) (n : Nat) (i : Int) (sz : Nat) (K : Value → Prop) : Prop where ok : 0 ≤ i ∧ i < n ∧ (∀ w, St c H w → A.isSome = true) ∧ K (.pointer (some ((A.getD at0).add (i.toNat * sz))))
structure SlcV (c : Ctx) (H : Hp) (A : Option Addr) (n cp : Nat) (lo : Int) (hi : Option Int) (sz : Nat) (K : Value → Prop) : Prop where
  ok : 0 ≤ lo ∧ lo ≤ hi.getD n ∧ (∀ h, hi = some h → ∀ w, St c H w → h ≤ cp) ∧ K (.slice (if (cp : Int) = lo then A else A.map (·.add (lo.toNat * sz))) ((hi.getD n).toNat - lo.toNat) (cp - lo.toNat))
def Rd (w : World) (p : Addr) (n : Option Nat) (v : Value) : Prop := match n with
  | none => w.cell? p = some v
  | some n => ∃ vs, v = .agg ⟨vs⟩ ∧ vs.length = n ∧ ∀ j u, vs[j]? = some u → w.cell? (p.add j) = some u
structure Ld (c : Ctx) (H : Hp) (a : Value) (n : Option Nat) (K : Value → Prop) : Prop where ok : ∃ v p, a = .pointer (some p) ∧ (∀ w, St c H w → Rd w p n v) ∧ K v
structure Sto (c : Ctx) (H : Hp) (a v : Value) (sz : Nat) (K : Hp → Prop) : Prop where
  ok : ∃ p H', a = .pointer (some p) ∧ v.cells.size = sz ∧ K H' ∧ H'.filterMap Ent.blk = H.filterMap Ent.blk ∧
    ∀ w, St c H w → p.block ∈ H.filterMap Ent.blk ∧ ∃ w', (storeCells p v.cells.toList).run c.P w = .ok () w' ∧ St c H' w' ∧ w.heap.size ≤ w'.heap.size ∧ ∀ k, k ≠ p.block → w'.heap[k]? = w.heap[k]?
structure Alc (vs : List Value) (t : Nat) (H : Hp) (K : Value → Hp → Prop) : Prop where ok : ∀ b, K (.pointer (some ⟨b, 0, none⟩)) (.box b vs t :: H)
structure BSl (vs : List Value) (e sz n : Nat) (H : Hp) (K : Value → Hp → Prop) : Prop where ok : vs.length = n * sz ∧ n * sz ≤ 16777216 ∧ n ≤ 16777216 ∧ ∀ b, K (.slice (some ⟨b, 0, none⟩) n n) (.row (.slice (some ⟨b, 0, none⟩) n n) e sz n vs :: H)
def byteV (x : UInt8) : Value := .int .u8 x.toNat
structure S2B (l : List UInt8) (e : Nat) (H : Hp) (K : Value → Hp → Prop) : Prop where ok : l.length ≤ 9223372036854775807 ∧ ∀ b cp, K (.slice (some ⟨b, 0, none⟩) l.length cp) (.row (.slice (some ⟨b, 0, none⟩) l.length cp) e 1 l.length (l.map byteV) :: H)
structure B2S (c : Ctx) (H : Hp) (A : Option Addr) (n : Nat) (K : Value → Prop) : Prop where ok : ∃ l : List UInt8, l.length = n ∧ (∀ w, St c H w → ∀ (j : Nat) (x : UInt8), l[j]? = some x → ∃ a, A = some a ∧ w.cell? (a.add j) = some (byteV x)) ∧ K (str l)
/-- What is appended: its cells. -/
def SrcK (c : Ctx) (H : Hp) (x : Value) (m : Nat) (news : List Value) : Prop := match x with
  | .slice A n _ => n = m ∧ ∀ w, St c H w → ∀ (j : Nat) (u : Value), news[j]? = some u → ∃ a, A = some a ∧ w.cell? (a.add j) = some u
  | .string ⟨⟨l⟩⟩ => m = l.length ∧ news = l.map byteV
  | _ => False
def isStr : Value → Bool | .string _ => true | _ => false
structure AppS (c : Ctx) (v x : Value) (e sz bytes : Nat) (H : Hp) (K : Value → Hp → Prop) : Prop where
  ok : 0 < sz ∧ ∃ n xs m news H2, (∀ w, St c H w → St c (.row v e sz n xs :: H2) w) ∧ SrcK c H x m news ∧ news.length = m * sz ∧ (∀ u ∈ news, u.oneCell' = true) ∧ n + m ≤ 9223372036854775807 ∧ (n + m) * bytes ≤ 140737488355328 ∧
    ∀ A cp, K (.slice A (n + m) cp) (.row (.slice A (n + m) cp) e sz (n + m) (xs ++ news) :: H2)
/-- A function that is entered when it is called. -/
def Callable (P : Program) (f : FuncId) : Prop := ∃ fn, P.funcs[f]? = some fn ∧ (fn.name == "runtime.NumGoroutine") = false ∧ fn.body.isNone = false
/-- A call of a function; m: in the midst of a region that draws its order it may make new memory at most. -/
structure CallK (c : Ctx) (m : Bool) (f : Nat) (args : List Value) (H : Hp) (K : Value → Hp → Prop) : Prop where
  can : Callable c.P f
  ok : ∀ w, St c H w → Calls c.P f ⟨args⟩ w fun e w' => ∃ v H', e = .returned v ∧ St c H' w' ∧ K v H' ∧ (m = true → R w w')
/-- A call of yield: a round of the loop whose record is l. -/
structure YldK (c : Ctx) (l : Nat) (args : List Value) (H : Hp) (K : Value → Hp → Prop) : Prop where
  ok : ∀ w, St c H w → ∃ fn tmps as' body, (Instr.yield l ⟨args⟩).run c.P w = .ok (.round l fn tmps as' body) w ∧ RoundIn Fence.wide 0 c.P l fn tmps as' body w fun e w' => ∃ v H', e = .returned v ∧ St c H' w' ∧ K v H'
structure CallQ (c : Ctx) (f : Nat) (args : List Value) (H : Hp) (K : Value → Prop) : Prop where
  can : Callable c.P f
  ok : ∃ v, K v ∧ ∀ w, St c H w → Calls c.P f ⟨args⟩ w fun e w' => e = .returned v ∧ R w w'
/-- Any other operation that writes, or makes memory: by its own law. -/
structure Oth (c : Ctx) (m : Bool) (o : Oper) (fr : Fr) (H : Hp) (K : Value → Hp → Prop) : Prop where
  ok : ∀ w, St c H w → ∃ v w' H', (execOp (act fr).eval o).run c.P w = .ok (.value v) w' ∧ St c H' w' ∧ K v H' ∧ (m = true → R w w')
/-- .. that yields nothing. -/
structure OthU (c : Ctx) (o : Oper) (fr : Fr) (H : Hp) (K : Value → Hp → Prop) : Prop where
  ok : ∀ w, St c H w → ∃ w' H', (execOp (act fr).eval o).run c.P w = .ok .skip w' ∧ St c H' w' ∧ K undef H'
/-- .. that leaves the world alone. -/
structure OthP (c : Ctx) (o : Oper) (fr : Fr) (H : Hp) (K : Value → Prop) : Prop where
  ok : ∃ v, K v ∧ ∀ w, St c H w → (execOp (act fr).eval o).run c.P w = .ok (.value v) w

noncomputable def wcmp (op : BinOp) (a b : Int) (K : Value → Prop) (E : Prop) : Prop := match op with
  | .lss => Cmp (a < b) K | .leq => Cmp (a ≤ b) K | .gtr => Cmp (b < a) K | .geq => Cmp (b ≤ a) K
  | .eql => Cmp (a = b) K | .neq => Cmp (a ≠ b) K | _ => E
def nilB : Value → Option Bool
  | .pointer none => some true | .pointer (some _) => some false
  | .slice none _ _ => some true | .slice (some _) _ _ => some false
  | .nilFunc => some true | .func .. => some false
  | .map none => some true | .map (some _) => some false
  | _ => none
noncomputable def wbin (T : Ty) (op : BinOp) (t : TypeId) (x y : Value) (K : Value → Prop) (E : Prop) : Prop :=
  match x, y with
  | .int k a, .int k' b => (match decide (k = k') with
    | true => (match op with
      | .add => Ar k (a + b) K | .sub => Ar k (a - b) K | .mul => Ar k (a * b) K
      | .quo => DivS .quo k a b K | .rem => DivS .rem k a b K
      | op => wcmp op a b K E)
    | false => E)
  | .string ⟨⟨a⟩⟩, .string ⟨⟨b⟩⟩ => (match op with
    | .add => CatS a b K
    | .eql => Cmp (a = b) K | .neq => Cmp (a ≠ b) K
    | _ => E)
  | .bool a, .bool b => (match op, (lookT T t).d with
    | .eql, .bool => Cmp (a = b) K | .neq, .bool => Cmp (a ≠ b) K
    | _, _ => E)
  | _, _ => E

noncomputable def partK (cs : List Value) (off : Nat) (i : TI) (K : Value → Prop) : Prop := match aggN i with
  | some n => K (.agg ⟨(cs.drop off).take n⟩)
  | none => match cs[off]? with | some v => K v | none => False

def fillL (offs : List (Nat × Nat)) : List (Nat × Value) → List Value → Option (List Value)
  | [], z => some z
  | (i, v) :: r, z => match offs[i]? with
    | some (o, s) => match v.cells with
      | ⟨cs⟩ => match decide (cs.length = s ∧ o + s ≤ z.length) with
        | true => fillL offs r (z.take o ++ cs ++ z.drop (o + s))
        | false => none
    | none => none

inductive Md where | plain | quiet | act
def wr (op : Op) : Bool := match op with
  | .store .. | .entryStore .. | .mapUpdate .. | .mapEntry .. | .next .. | .insert .. => true
  | .call c => (match c.callee with | .builtin .len => false | .builtin .min => false | .builtin .max => false | .builtin .cap => false | .builtin _ => true | _ => false)
  | _ => false

/-- One operation. -/
noncomputable def wop (c : Ctx) (T : Ty) (m : Md) (o : Oper) (fr : Fr) (H : Hp) (K : Value → Hp → Prop) : Prop :=
  match o.op with
  | .move x => evK fr x fun v => K v H
  | .assign x => evK fr x fun v => K v H
  | .pick q a b => evK fr q fun q => (match q with | .bool b' => (match b' with | true => evK fr a fun v => K v H | false => evK fr b fun v => K v H) | _ => False)
  | .unOp op _ x => evK fr x fun x => (match op, x with | .not, .bool b => K (.bool (!b)) H | .neg, .int k a => Ar k (0 - a) fun v => K v H | _, _ => False)
  | .binOp op t x y _ => evK fr x fun x' => evK fr y fun y' => wbin T op t x' y' (fun v => K v H) (OthP c o fr H fun v => K v H)
  | .convert src dst x => evK fr x fun x' => (match (lookT T dst).d, x' with
      | .int k, .int _ n => (match (lookT T src).d with | .invalid => False | _ => Ar k n fun v => K v H)
      | .string, .string _ => (match (lookT T src).d with | .invalid => False | _ => K x' H)
      | .string, .slice A n _ => (match (lookT T src).d with
        | .slice e => (match (lookT T e).d with | .int .u8 => B2S c H A n fun v => K v H | _ => OthP c o fr H fun v => K v H)
        | _ => OthP c o fr H fun v => K v H)
      | .string, _ => OthP c o fr H fun v => K v H
      | .slice e, .string ⟨⟨l⟩⟩ => (match (lookT T src).d, (lookT T e).d with
        | .string, .int .u8 => (match m with | .quiet => False | _ => S2B l e H K)
        | _, _ => False)
      | _, _ => (match m with | .quiet => False | .plain => Oth c false o fr H K | .act => Oth c (!wr o.op) o fr H K))
  | .extract x i => evK fr x fun x => (match x with | .tuple ⟨vs⟩ => (match vs[i]? with | some v => K v H | none => False) | _ => False)
  | .fieldAddr s x f => evK fr x fun x => (match x with
      | .pointer (some a) => (match (lookT T s).d with
        | .struct _ => (match (lookT T s).offs[f]? with | some p => (match p.2 with | 0 => False | _ + 1 => K (.pointer (some (a.add p.1))) H) | none => False)
        | _ => False)
      | _ => False)
  | .field s x f => evK fr x fun x => (match x with
      | .agg ⟨cs⟩ => (match (lookT T s).d with
        | .struct fs => (match fs.toList[f]? with | some g => (match (lookT T g.type).d with | .invalid => False | _ => partK cs g.offset (lookT T g.type) fun v => K v H) | none => False)
        | _ => False)
      | _ => False)
  | .index t x i => evK fr x fun x' => evK fr i fun i' => (match x', i' with
      | .string ⟨⟨l⟩⟩, .int _ i => (match (lookT T t).d with | .string => IdxS l i fun v => K v H | _ => False)
      | _, _ => OthP c o fr H fun v => K v H)
  | .indexAddr t x i => evK fr x fun x => evK fr i fun i => (match x, i, (lookT T t).d with
      | .slice A n _, .int _ i, .slice e => (match lookT T e with | ⟨d, _, sz, _, _⟩ => (match d with | .invalid => False | _ => IdxA c H A n i sz fun v => K v H))
      | _, _, _ => False)
  | .slice t x lo hi mx => evK fr x fun x' => (match mx with
      | some _ => False
      | none => (match x', (lookT T t).d with
        | .string ⟨⟨l⟩⟩, .string => (match lo, hi with
          | none, none => K x' H
          | some a, none => evK fr a fun a => (match a with | .int _ a => SlcS l a l.length fun v => K v H | _ => False)
          | none, some b => evK fr b fun b => (match b with | .int _ b => SlcS l 0 b fun v => K v H | _ => False)
          | some a, some b => evK fr a fun a => evK fr b fun b => (match a, b with | .int _ a, .int _ b => SlcS l a b fun v => K v H | _, _ => False))
        | .slice A n cp, .slice e => (match lookT T e with | ⟨d, _, sz, _, _⟩ => (match d with
          | .invalid => False
          | _ => (match lo, hi with
            | none, none => SlcV c H A n cp 0 none sz fun v => K v H
            | some a, none => evK fr a fun a => (match a with | .int _ a => SlcV c H A n cp a none sz fun v => K v H | _ => False)
            | none, some b => evK fr b fun b => (match b with | .int _ b => SlcV c H A n cp 0 (some b) sz fun v => K v H | _ => False)
            | some a, some b => evK fr a fun a => evK fr b fun b => (match a, b with | .int _ a, .int _ b => SlcV c H A n cp a (some b) sz fun v => K v H | _, _ => False))))
        | _, _ => OthP c o fr H fun v => K v H))
  | .build t ps => evPK fr ps.toList fun ps => (match (lookT T t).d with
      | .struct _ => (match (lookT T t).zero with
        | .agg ⟨z⟩ => (match fillL (lookT T t).offs ps z with | some cs => K (.agg ⟨cs⟩) H | none => False)
        | _ => False)
      | _ => False)
  | .nilCheck x => evK fr x fun x => (match x with
      | .pointer (some _) => K x H
      | .func (.func _) _ _ => K x H
      | _ => False)
  | .load t a => evK fr a fun a => (match (lookT T t).d with | .invalid => False | _ => Ld c H a (aggN (lookT T t)) fun v => K v H)
  | .makeFunc fn first captured => evLK fr first.toList fun fs => evLK fr captured.toList fun cs => K (.func fn ⟨fs⟩ ⟨cs⟩) H
  | .store t a x => (match m with | .quiet => False | _ => evK fr a fun a => evK fr x fun x => (match lookT T t with | ⟨d, _, sz, _, _⟩ => (match d with | .invalid => False | _ => Sto c H a x sz fun H' => K undef H')))
  | .alloc t => (match m with | .quiet => False | _ => (match (lookT T t).d with | .invalid => False | _ => (match (lookT T t).zero.cells with | ⟨z⟩ => Alc z t H K)))
  | .box t x => (match m with | .quiet => False | _ => evK fr x fun x => (match x.cells with | ⟨z⟩ => Alc z t H K))
  | .call ca => (match ca.callee with
      | .value f => evK fr f fun f => evLK fr ca.args.toList fun ar => (match f with
        | .func (.func id) ⟨first⟩ ⟨cap⟩ => (match m with
          | .plain => CallK c false id (first ++ ar ++ cap) H K
          | .act => CallK c true id (first ++ ar ++ cap) H K
          | .quiet => CallQ c id (first ++ ar ++ cap) H fun v => K v H)
        | .func (.yield l) ⟨[]⟩ ⟨[]⟩ => (match m with | .plain => YldK c l ar H K | _ => False)
        | _ => False)
      | .invoke _ _ => False
      | .builtin .len => evLK fr ca.args.toList fun ar => (match ca.argTypes.toList with
        | t :: _ => (match ar, (lookT T t).d with
          | [.string ⟨⟨l⟩⟩], .string => K (.int .i64 l.length) H
          | [.slice _ n _], .slice _ => K (.int .i64 n) H
          | _, _ => OthP c o fr H fun v => K v H)
        | [] => False)
      | .builtin .append => (match m with
        | .quiet => False
        | _ => evLK fr ca.args.toList fun ar => (match ca.argTypes.toList, ar with
          | [t, tx], [v, x] => (match (lookT T t).d, (lookT T tx).d with
            | .slice e, .slice _ => (match lookT T e with | ⟨d, z, sz, by', _⟩ => (match d, decide (z.cells.size = sz) with | .invalid, _ => False | _, false => False | _, true => (match isStr x with | false => AppS c v x e sz by' H K | true => False)))
            | .slice e, .string => (match lookT T e with | ⟨d, z, sz, by', _⟩ => (match d, decide (z.cells.size = 1), decide (sz = 1) with | .int .u8, true, true => (match isStr x with | true => AppS c v x e 1 by' H K | false => False) | _, _, _ => False))
            | _, _ => False)
          | _, _ => False))
      | .builtin _ => (match wr o.op with
        | true => (match m with | .quiet => False | .plain => Oth c false o fr H K | .act => Oth c (!wr o.op) o fr H K)
        | false => OthP c o fr H fun v => K v H))
  | .buildSlice t n ps => (match m with
      | .quiet => False
      | _ => evPK fr ps.toList fun ps => (match (lookT T t).d with
        | .slice e => (match lookT T e with | ⟨d, z, sz, _, _⟩ => (match d, z.cells with
          | .invalid, _ => False
          | _, ⟨z⟩ => (match decide (z.length = sz) with
            | false => False
            | true => (match fillL ((List.range n).map fun i => (i * sz, sz)) ps (List.replicate n z).flatten with
              | some cs => BSl cs e sz n H K
              | none => False))))
        | _ => False))
  | .makeSlice .. => (match m with | .quiet => False | .plain => Oth c false o fr H K | .act => Oth c (!wr o.op) o fr H K)
  | .range .. => (match m with | .quiet => False | .plain => Oth c false o fr H K | .act => Oth c (!wr o.op) o fr H K)
  | .makeMap .. => (match m with | .quiet => False | .plain => Oth c false o fr H K | .act => Oth c (!wr o.op) o fr H K)
  | .mapUpdate .. => (match m with | .quiet => False | _ => OthU c o fr H K)
  | .mapEntry .. => (match m with | .quiet => False | .plain => Oth c false o fr H K | .act => Oth c (!wr o.op) o fr H K)
  | .entryStore .. => (match m with | .quiet => False | _ => OthU c o fr H K)
  | .insert .. => (match m with | .quiet => False | _ => OthU c o fr H K)
  | .next .. => (match m with | .quiet => False | .plain => Oth c false o fr H K | .act => Oth c (!wr o.op) o fr H K)
  | .lookup .. => OthP c o fr H fun v => K v H
  | .makeInterface .. => OthP c o fr H fun v => K v H
  | .typeAssert .. => OthP c o fr H fun v => K v H
  | _ => False
end Go.Proofs.YtflfajcaicackaaDoor.Vex
