/- A walk by reckoning, part eleven: rounds of a range over a function. No program in sight. -/
import Derived.Test.YtflfajcaicackaaDoorVexJ
import Derived.RangeFuncIn
import Derived.RangeFuncRecord
namespace Go.Proofs.YtflfajcaicackaaDoor.Vex
open Go Go.RowKit

section
variable {c : Ctx} {T : Ty} {H : Hp}
/-- An object that is no row is turned. -/
theorem St.putObj {w : World} {l : Nat} {o o' : Obj} (h : St c (.obj l o :: H) w) : St c (.obj l o' :: H) (w.putObj l o') := by
  have hl := (h.own _ (List.mem_cons_self ..))
  have hb := hl.2 l rfl
  have hz : (w.putObj l o').heap.size = w.heap.size := by simp [World.putObj]
  have hn : ∀ y ∈ H, y.blk ≠ some l := fun y hy he => by
    have := h.apart
    rw [List.filterMap_cons] at this
    exact (List.nodup_cons.1 this).1 (List.mem_filterMap.2 ⟨y, hy, he⟩)
  refine ⟨⟨h.mod.os, h.mod.tape, h.mod.output, by rw [hz]; exact h.mod.size, fun k hk hM => ?_⟩, fun y hy => ?_, h.apart⟩
  · rw [World.putObj_heap_other (fun e => by subst e; rcases hb.2 with h1 | h1; omega; exact hM h1)]
    exact h.mod.block k hk hM
  · rcases List.mem_cons.1 hy with rfl | hy'
    · exact ⟨World.putObj_heap_same hb.1, fun b he => by cases he; rw [hz]; exact hb⟩
    · have ho := h.own y (List.mem_cons_of_mem _ hy')
      exact ⟨Ent.holds_of_block ho.1 fun b' he => World.putObj_heap_other (fun e2 => hn y hy' (by rw [he, e2])), fun b he => by rw [hz]; exact ho.2 b he⟩
/-- How a round's body may be left: off its end. -/
def bodyQ (l : Nat) (r : Loop) (K : Value → Hp → Prop) (e : Exit) (_fr : Fr) (H : Hp) : Prop := match e with
  | .normal => ∃ H3 H4, Pick H (.obj l (.loop { r with state := .busy })) H3 ∧ H4.Sublist H3 ∧ K (.bool true) (.obj l (.loop { r with state := .ready, pending := none }) :: H4)
  | _ => False
def assignQ (c : Ctx) (T : Ty) (l : Nat) (r : Loop) (H2 : Hp) (K : Value → Hp → Prop) (e : Exit) (fr : Fr) (H : Hp) : Prop := match e with
  | .normal => H.Perm (.obj l (.loop r) :: H2) ∧ wc c T r.body (bodyQ l r K) fr (.obj l (.loop { r with state := .busy }) :: H2)
  | _ => False
/-- yield: one round, its left sides and its body run in the frame that the record keeps. -/
theorem YldK.go {l : Nat} {r : Loop} {args : List Value} {H2 : Hp} {fr0 : Fr} {K : Value → Hp → Prop} (hT : TOk c.P T) (hp : Pick H (.obj l (.loop r)) H2) (hr : r.state = .ready) (hz : args.length = r.params.size)
    (hf : (r.params.zip ⟨args⟩).foldl (fun tmps (t, a) => tmps.setIfInBounds t a) r.tmps = ⟨fr0⟩) (hA : strC r.assign = true) (hB : strC r.body = true)
    (h : wc c T r.assign (assignQ c T l r H2 K) fr0 H) : YldK c l args H K := ⟨fun w hw => by
  have hw1 := hw.perm hp.perm
  have hl : w.heap[l]? = some (.loop r) := (hw1.own _ (List.mem_cons_self ..)).1
  refine ⟨_, _, _, _, run_yield (args := ⟨args⟩) hl hz, roundIn_of_wpIn trivial ?_⟩
  rw [hf]
  refine wpIn_mono (wcR_ok hT (some l) [] r.assign hA _ fr0 H w h hw) fun e a w1 ⟨fr1, H1, ha, hs, hq⟩ => ?_
  cases e with
  | normal =>
    obtain ⟨hpm, hb⟩ := hq
    have hs1 := hs.perm hpm
    have hl1 : w1.heap[l]? = some (.loop r) := (hs1.own _ (List.mem_cons_self ..)).1
    refine ⟨_, run_beginRound hl1 hr, ?_⟩
    subst ha
    refine wpIn_mono (wcR_ok hT (some l) [] r.body hB _ fr1 _ _ hb hs1.putObj) fun e a w2 ⟨fr2, H3, _, hs2, hq⟩ => ?_
    cases e with
    | normal =>
      obtain ⟨H3', H4, hp4, hsub, hk⟩ := hq
      have hs3 := (hs2.perm hp4.perm).sub (hsub.cons_cons _)
      have hl3 : w2.heap[l]? = some (.loop { r with state := .busy }) := (hs3.own _ (List.mem_cons_self ..)).1
      exact ⟨_, _, run_endRound none hl3, _, _, rfl, hs3.putObj, hk⟩
    | _ => exact hq.elim
  | _ => exact hq.elim⟩
/-- What is yielded is laid into the record's frame. -/
noncomputable def zipK (ps : List Nat) : List Value → List Value → (List Value → Prop) → Prop :=
  List.rec (motive := fun _ => List Value → List Value → (List Value → Prop) → Prop) (fun fr _ K => K fr)
    (fun t _ ih fr as K => List.rec (motive := fun _ => Prop) (K fr) (fun a as _ => setK fr t a fun fr' => ih fr' as K) as) ps
theorem zipK_eq : ∀ (ps : List Nat) (fr as : List Value) (K : List Value → Prop), zipK ps fr as K = K ((ps.zip as).foldl (fun l p => l.set p.1 p.2) fr)
  | [], _, _, _ => rfl
  | _ :: _, _, [], _ => rfl
  | t :: ps, fr, a :: as, K => (setK_eq fr t a _).trans (zipK_eq ps (fr.set t a) as K)
theorem fold_set : ∀ (l : List (Nat × Value)) (fr : List Value), l.foldl (fun (tmps : Array Value) p => tmps.setIfInBounds p.1 p.2) ⟨fr⟩ = ⟨l.foldl (fun l p => l.set p.1 p.2) fr⟩
  | [], _ => rfl
  | p :: l, fr => by
    rw [List.foldl_cons, List.foldl_cons, ← fold_set l]
    congr 1
    rw [← Array.toList_inj]; simp
theorem YldK.run {l : Nat} {r : Loop} {args : List Value} {H2 : Hp} {K : Value → Hp → Prop} (hT : TOk c.P T) (hp : Pick H (.obj l (.loop r)) H2) (hr : r.state = .ready) (hz : args.length = r.params.size)
    (hA : strC r.assign = true) (hB : strC r.body = true)
    (h : zipK r.params.toList r.tmps.toList args fun fr0 => wc c T r.assign (assignQ c T l r H2 K) fr0 H) : YldK c l args H K := by
  rw [zipK_eq] at h
  refine YldK.go hT hp hr hz (fr0 := (r.params.toList.zip args).foldl (fun l p => l.set p.1 p.2) r.tmps.toList) ?_ hA hB h
  rw [← fold_set, ← Array.foldl_toList, Array.toList_zip]
end
end Go.Proofs.YtflfajcaicackaaDoor.Vex
