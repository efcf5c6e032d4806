/- A walk by reckoning, part thirteen: stops that are met by looking through the heap's list by itself. No program in sight. -/
import Derived.Test.YtflfajcaicackaaDoorVexL
namespace Go.Proofs.YtflfajcaicackaaDoor.Vex
open Go Go.RowKit

/-- The box b stands in the heap H, with the cells vs; f lays others. -/
class BoxAt (b : Nat) (H : Hp) (vs : outParam (List Value)) (t : outParam TypeId) (f : outParam (List Value → Hp)) : Prop where
  ok : ∃ H1 H2, H = H1 ++ .box b vs t :: H2 ∧ ∀ vs', f vs' = H1 ++ .box b vs' t :: H2
instance BoxAt.skip {b : Nat} {x : Ent} {H : Hp} {vs : List Value} {t : TypeId} {f : List Value → Hp} [h : BoxAt b H vs t f] : BoxAt b (x :: H) vs t (fun vs' => x :: f vs') where
  ok := by
    obtain ⟨H1, H2, e, k⟩ := h.ok
    exact ⟨x :: H1, H2, by rw [e]; rfl, fun vs' => by rw [k]; rfl⟩
instance BoxAt.here {b : Nat} {H : Hp} {vs : List Value} {t : TypeId} : BoxAt b (.box b vs t :: H) vs t (fun vs' => .box b vs' t :: H) where
  ok := ⟨[], H, rfl, fun _ => rfl⟩
/-- The row at A. -/
class RowAt (A : Option Addr) (H : Hp) (cp e sz n n' : outParam Nat) (xs : outParam (List Value)) (f : outParam (List Value → Hp)) : Prop where
  ok : ∃ H1 H2, H = H1 ++ .row (.slice A n' cp) e sz n xs :: H2 ∧ ∀ xs', f xs' = H1 ++ .row (.slice A n' cp) e sz n xs' :: H2
instance RowAt.skip {A : Option Addr} {x : Ent} {H : Hp} {cp e sz n n' : Nat} {xs : List Value} {f : List Value → Hp} [h : RowAt A H cp e sz n n' xs f] : RowAt A (x :: H) cp e sz n n' xs (fun xs' => x :: f xs') where
  ok := by
    obtain ⟨H1, H2, e, k⟩ := h.ok
    exact ⟨x :: H1, H2, by rw [e]; rfl, fun vs' => by rw [k]; rfl⟩
instance RowAt.here {A : Option Addr} {H : Hp} {cp e sz n n' : Nat} {xs : List Value} : RowAt A (.row (.slice A n' cp) e sz n xs :: H) cp e sz n n' xs (fun xs' => .row (.slice A n' cp) e sz n xs' :: H) where
  ok := ⟨[], H, rfl, fun _ => rfl⟩
/-- An object that is no row: o. -/
class ObjAt (b : Nat) (H : Hp) (o : outParam Obj) (f : outParam (Obj → Hp)) : Prop where
  ok : ∃ H1 H2, H = H1 ++ .obj b o :: H2 ∧ ∀ o', f o' = H1 ++ .obj b o' :: H2
instance ObjAt.skip {b : Nat} {x : Ent} {H : Hp} {o : Obj} {f : Obj → Hp} [h : ObjAt b H o f] : ObjAt b (x :: H) o (fun o' => x :: f o') where
  ok := by
    obtain ⟨H1, H2, e, k⟩ := h.ok
    exact ⟨x :: H1, H2, by rw [e]; rfl, fun vs' => by rw [k]; rfl⟩
instance ObjAt.here {b : Nat} {H : Hp} {o : Obj} : ObjAt b (.obj b o :: H) o (fun o' => .obj b o' :: H) where
  ok := ⟨[], H, rfl, fun _ => rfl⟩
/-- The row v is taken out of the heap. -/
class TakeRow (v : Value) (H : Hp) (e sz n : outParam Nat) (xs : outParam (List Value)) (H2 : outParam Hp) : Prop where
  ok : Pick H (.row v e sz n xs) H2
instance TakeRow.skip {v : Value} {x : Ent} {H H2 : Hp} {e sz n : Nat} {xs : List Value} [h : TakeRow v H e sz n xs H2] : TakeRow v (x :: H) e sz n xs (x :: H2) where
  ok := h.ok.skip
instance TakeRow.here {v : Value} {H : Hp} {e sz n : Nat} {xs : List Value} : TakeRow v (.row v e sz n xs :: H) e sz n xs H where
  ok := .here
/-- What the slice at A reads. -/
class RdA (c : Ctx) (H : Hp) (A : Option Addr) (xs : outParam (List Value)) : Prop where
  ok : RdS c H A xs
instance RdA.skip {c : Ctx} {H : Hp} {A : Option Addr} {xs : List Value} {x : Ent} [h : RdA c H A xs] : RdA c (x :: H) A xs where
  ok := h.ok.skip
instance RdA.here {c : Ctx} {H : Hp} {A : Option Addr} {cp e size n n' : Nat} {xs : List Value} : RdA c (.row (.slice A n' cp) e size n xs :: H) A xs where
  ok := RdS.here
section
variable {c : Ctx} {H : Hp}
theorem Ld.skips {a : Value} {n : Option Nat} {K : Value → Prop} (h : Ld c H a n K) : ∀ H1 : Hp, Ld c (H1 ++ H) a n K
  | [] => h
  | _ :: H1 => (Ld.skips h H1).skip
theorem Sto.skips {a v : Value} {n : Nat} : ∀ (H1 : Hp) {K : Hp → Prop}, Sto c H a v n (fun H' => K (H1 ++ H')) → Sto c (H1 ++ H) a v n K
  | [], _, h => h
  | x :: H1, K, h => Sto.skip (Sto.skips H1 (K := fun H' => K (x :: H')) h)
/-- Some cells of a box. -/
theorem Ld.mid {b i n : Nat} {vs us : List Value} {t : TypeId} {K : Value → Prop} (hu : (vs.drop i).take n = us) (hn : us.length = n) (k : K (.agg ⟨us⟩)) : Ld c (.box b vs t :: H) (.pointer (some ⟨b, i, none⟩)) (some n) K :=
  ⟨_, _, rfl, fun w hw => ⟨us, rfl, hn, fun j u hj => by
    have hb : w.heap[b]? = some (.cells ⟨vs⟩ t (0, 0)) := (hw.own _ (List.mem_cons_self ..)).1
    rw [Addr.add_lit, cell_of_row w b (i + j) _ _ _ hb]
    have hj' : j < n := by
      rcases Nat.lt_or_ge j us.length with h | h
      · omega
      · rw [List.getElem?_eq_none h] at hj; cases hj
    rw [← hu, List.getElem?_take_of_lt hj', List.getElem?_drop] at hj
    simpa using hj⟩, k⟩
theorem Sto.mid {b i n : Nat} {vs xs : List Value} {t : TypeId} {K : Hp → Prop} (hn : xs.length = n) (hv : i + n ≤ vs.length) (h1 : ∀ x ∈ xs, x.oneCell' = true) (k : K (.box b (vs.take i ++ xs ++ vs.drop (i + n)) t :: H)) : Sto c (.box b vs t :: H) (.pointer (some ⟨b, i, none⟩)) (.agg ⟨xs⟩) n K := by
  refine ⟨_, _, rfl, hn, k, rfl, fun w hw => ⟨by simp [Ent.blk], _, ?_, hw.setRow, by rw [setRow_size]; exact Nat.le_refl _, fun k hk => setRow_other w b k _ hk⟩⟩
  have hb : w.heap[b]? = some (.cells ⟨vs⟩ t (0, 0)) := (hw.own _ (List.mem_cons_self ..)).1
  show (storeCells ⟨b, i, none⟩ xs).run c.P w = _
  rw [run_storeCells_at c.P b i t xs 0 ⟨vs⟩ w hb (by simp; omega) h1]
  congr 2
  rw [← Array.toList_inj]
  simp only [Nat.add_zero, hn]
/-- Loads and stores, wherever the box stands. -/
theorem Ld.tc {b i : Nat} {vs : List Value} {t : TypeId} {f : List Value → Hp} {v : Value} {K : Value → Prop} [h : BoxAt b H vs t f] (hv : vs[i]? = some v) (k : K v) : Ld c H (.pointer (some ⟨b, i, none⟩)) none K := by
  obtain ⟨H1, H2, rfl, _⟩ := h.ok
  exact (Ld.here hv k).skips H1
theorem Ld.tw {b i n : Nat} {vs us : List Value} {t : TypeId} {f : List Value → Hp} {K : Value → Prop} [h : BoxAt b H vs t f] (hu : (vs.drop i).take n = us) (hn : us.length = n) (k : K (.agg ⟨us⟩)) : Ld c H (.pointer (some ⟨b, i, none⟩)) (some n) K := by
  obtain ⟨H1, H2, rfl, _⟩ := h.ok
  exact (Ld.mid hu hn k).skips H1
theorem Ld.tv {b n : Nat} {vs : List Value} {t : TypeId} {f : List Value → Hp} {K : Value → Prop} [h : BoxAt b H vs t f] (hn : vs.length = n) (k : K (.agg ⟨vs⟩)) : Ld c H (.pointer (some ⟨b, 0, none⟩)) (some n) K := by
  obtain ⟨H1, H2, rfl, _⟩ := h.ok
  exact (Ld.whole hn k).skips H1
theorem Sto.tv {b n : Nat} {vs xs : List Value} {t : TypeId} {f : List Value → Hp} {K : Hp → Prop} [h : BoxAt b H vs t f] (hn : xs.length = n) (hv : vs.length = n) (h1 : ∀ x ∈ xs, x.oneCell' = true) (k : K (f xs)) : Sto c H (.pointer (some ⟨b, 0, none⟩)) (.agg ⟨xs⟩) n K := by
  obtain ⟨H1, H2, rfl, hf⟩ := h.ok
  refine Sto.skips H1 (Sto.whole hn hv h1 ?_)
  rw [← hf]; exact k
theorem Sto.tc {b i : Nat} {vs vs' : List Value} {t : TypeId} {f : List Value → Hp} {v : Value} {K : Hp → Prop} [h : BoxAt b H vs t f] (hv : vs.set i v = vs') (hi : i < vs.length) (h1 : v.oneCell' = true) (k : K (f vs')) : Sto c H (.pointer (some ⟨b, i, none⟩)) v 1 K := by
  obtain ⟨H1, H2, rfl, hf⟩ := h.ok
  refine Sto.skips H1 (Sto.here hi h1 ?_)
  rw [hv, ← hf]; exact k
theorem Sto.tw {b i n : Nat} {vs xs vs' : List Value} {t : TypeId} {f : List Value → Hp} {K : Hp → Prop} [h : BoxAt b H vs t f] (hv : vs.take i ++ xs ++ vs.drop (i + n) = vs') (hn : xs.length = n) (hi : i + n ≤ vs.length) (h1 : ∀ x ∈ xs, x.oneCell' = true) (k : K (f vs')) : Sto c H (.pointer (some ⟨b, i, none⟩)) (.agg ⟨xs⟩) n K := by
  obtain ⟨H1, H2, rfl, hf⟩ := h.ok
  refine Sto.skips H1 (Sto.mid hn hi h1 ?_)
  rw [hv, ← hf]; exact k
theorem Sto.tr {A : Option Addr} {cp e sz n j : Nat} {xs xs' : List Value} {f : List Value → Hp} {v : Value} {K : Hp → Prop} [h : RowAt A H cp e sz n n xs f] (hv : xs.set j v = xs') (hj : j < xs.length) (h1 : v.oneCell' = true) (k : K (f xs')) : Sto c H (.pointer (some ((A.getD at0).add j))) v 1 K := by
  obtain ⟨H1, H2, rfl, hf⟩ := h.ok
  refine Sto.skips H1 (Sto.row hj h1 ?_)
  rw [hv, ← hf]; exact k
/-- Places in slices that are read. -/
theorem IdxA.tc {A : Option Addr} {n sz : Nat} {i : Int} {K : Value → Prop} {xs : List Value} [h : RdA c H A xs] (hx : 0 < xs.length) (h0 : 0 ≤ i) (h1 : i < n) (k : K (.pointer (some ((A.getD at0).add (i.toNat * sz))))) : IdxA c H A n i sz K := IdxA.rd h.ok hx h0 h1 k
theorem Ld.ta {A : Option Addr} {j : Nat} {xs : List Value} {v : Value} {K : Value → Prop} [h : RdA c H A xs] (hj : xs[j]? = some v) (k : K v) : Ld c H (.pointer (some ((A.getD at0).add j))) none K := Ld.rd h.ok hj k
theorem Ld.taF {A : Option Addr} {j o : Nat} {xs : List Value} {v : Value} {K : Value → Prop} [h : RdA c H A xs] (hj : xs[j + o]? = some v) (k : K v) : Ld c H (.pointer (some (((A.getD at0).add j).add o))) none K := Ld.rdF h.ok hj k
theorem Ld.taN {A : Option Addr} {j n : Nat} {xs vs : List Value} {K : Value → Prop} [h : RdA c H A xs] (hv : (xs.drop j).take n = vs) (hn : vs.length = n) (k : K (.agg ⟨vs⟩)) : Ld c H (.pointer (some ((A.getD at0).add j))) (some n) K := Ld.rdN h.ok hv hn k
theorem B2S.tc {A : Option Addr} {n : Nat} {xs : List Value} {l : List UInt8} {K : Value → Prop} [h : RdA c H A xs] (hx : xs = l.map byteV) (hl : l.length = n) (k : K (str l)) : B2S c H A n K := by
  subst hx
  exact B2S.rd h.ok hl k
/-- Appends: to a row that stands in the heap. -/
theorem AppS.tc {v x : Value} {e sz bytes n m : Nat} {K : Value → Hp → Prop} {xs news zs : List Value} {H2 : Hp} [h : TakeRow v H e sz n xs H2] (hs : SrcK c H x m news) (hl : news.length = m * sz) (h1 : ∀ u ∈ news, u.oneCell' = true) (h0 : 0 < sz) (h63 : n + m ≤ 9223372036854775807) (hb : (n + m) * bytes ≤ 140737488355328) (hz : xs ++ news = zs)
    (k : ∀ A cp, K (.slice A (n + m) cp) (.row (.slice A (n + m) cp) e sz (n + m) zs :: H2)) : AppS c v x e sz bytes H K := by
  subst hz
  exact AppS.go h.ok hs hl h1 h0 h63 hb k
theorem AppS.t0 {x : Value} {e sz bytes m : Nat} {K : Value → Hp → Prop} {news : List Value} (hs : SrcK c H x m news) (hl : news.length = m * sz) (h1 : ∀ u ∈ news, u.oneCell' = true) (h0 : 0 < sz) (h63 : m ≤ 9223372036854775807) (hb : m * bytes ≤ 140737488355328)
    (k : ∀ A cp, K (.slice A m cp) (.row (.slice A m cp) e sz m news :: H)) : AppS c (.slice none 0 0) x e sz bytes H K :=
  AppS.nil hs hl h1 h0 h63 hb fun A cp => by rw [Nat.zero_add, List.nil_append]; exact k A cp
theorem SrcK.tc {A : Option Addr} {m cp : Nat} {news : List Value} [h : RdA c H A news] : SrcK c H (.slice A m cp) m news := SrcK.rd h.ok
/-- A byte of a text, that is named. -/
theorem IdxS.go {l : List UInt8} {i : Int} {K : Value → Prop} (h0 : 0 ≤ i) (h1 : i < l.length) (k : ∀ x : UInt8, l[i.toNat]? = some x → x.toNat < 256 → K (.int .u8 x.toNat)) : IdxS l i K :=
  IdxS.at (l[i.toNat]'(by omega)) (List.getElem?_eq_getElem _) h0 (k _ (List.getElem?_eq_getElem _) (UInt8.toNat_lt _))
/-- .. at a place that is a natural number. -/
theorem IdxS.nat {l : List UInt8} {i : Nat} {K : Value → Prop} (h1 : i < l.length) (k : K (.int .u8 (l[i]'h1).toNat)) : IdxS l (i : Int) K :=
  IdxS.at (l[i]'h1) (by rw [Int.toNat_natCast]; exact List.getElem?_eq_getElem _) (by omega) k
/-- A call that tells yes or no. -/
theorem CallK.fnB {m : Bool} {f : Nat} {args : List Value} {b : Bool} {K : Value → Hp → Prop} (h : Fn c.P c.g f args (.bool b)) (k1 : b = true → K (.bool true) H) (k0 : b = false → K (.bool false) H) : CallK c m f args H K :=
  CallK.fn h (by cases b; exact k0 rfl; exact k1 rfl)
theorem CallQ.fnB {f : Nat} {args : List Value} {b : Bool} {K : Value → Prop} (h : Fn c.P c.g f args (.bool b)) (k1 : b = true → K (.bool true)) (k0 : b = false → K (.bool false)) : CallQ c f args H K :=
  CallQ.fn h (by cases b; exact k0 rfl; exact k1 rfl)
/-- .. that gives back a slice of its own; its elements are told by a list. -/
theorem CallK.fnS' {m : Bool} {f : Nat} {args : List Value} {L : List (Option Addr × List Value)} {e sz n : Nat} {xs : List Value} {K : Value → Hp → Prop} (h : FnS c.P c.g f args L e sz n xs) (hp : RdsL c H L) (k : ∀ A cp, K (.slice A n cp) (.row (.slice A n cp) e sz n xs :: H)) : CallK c m f args H K := CallK.fnS h hp k
/-- Ahead of a loop: a nil slice gets a row; the heap's list is turned. -/
theorem LoopS.nilRow {T : Ty} {body : Code} {Q : Exit → Fr → Hp → Prop} {fr : Fr} (e sz : Nat) (h : LoopS c T body Q fr (.row (.slice none 0 0) e sz 0 [] :: H)) : LoopS c T body Q fr H := ⟨fun ds w hw => h.ok ds w (hw.nilRow e sz)⟩
theorem LoopS.perm {T : Ty} {body : Code} {Q : Exit → Fr → Hp → Prop} {fr : Fr} {H' : Hp} (hp : H.Perm H') (h : LoopS c T body Q fr H') : LoopS c T body Q fr H := ⟨fun ds w hw => h.ok ds w (hw.perm hp)⟩
/-- The context of a walk of the program P, with the variables g. -/
def Ours (P : Program) (g : GI) (c : Ctx) : Prop := c.P = P ∧ c.g = g
end
end Go.Proofs.YtflfajcaicackaaDoor.Vex
