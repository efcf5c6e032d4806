/- A tree of pages, walked. -/
import Derived.Test.YtnaeeklnlddcaaaGreatDoorMRouteFills3
import Derived.Laws.Pointers
import Derived.Maps.RangeRun
import Derived.Shelf.Sort.Plain
import Derived.Shelf.Slices.In.SortNone
import Derived.Test.YtnaeeklnlddcaaaGreatDoorProg
import Derived.Sort.OwnSortedInts
namespace Go.Proofs.YtnaeeklnlddcaaaGreatDoor.Vex
open Go Go.RowKit
set_option maxRecDepth 100000
set_option linter.unusedSectionVars false
set_option linter.unusedSectionVars false
variable {gI : GI} [HasMax gI] [HasErr gI]

section
variable {c : Ctx} {T : Ty} {H : Hp} {fr : Fr} {d : Option Nat} {t u yt ty : TypeId} {x : Operand} {pos : String} {after : Array Edge} {gd : Option (Nat × Bool)}
/-- A pointer, held against nil. -/
theorem OthP.ptrEq {p : Option Addr} {K : Value → Prop} (hT : TOk c.P T) (ht : (lookT T t).d = .pointer u) (hx : evK fr x fun v => v = .pointer p) (k : K (.bool p.isNone)) : OthP c ⟨d, .binOp .eql t x (.const (.pointer none)) yt, ty, pos, after, gd⟩ fr H K := ⟨⟨_, k, fun w _ => by
  rw [evK_eq] at hx
  have hu := (lookT_ok hT (t := t) (by rw [ht]; intro h; cases h)).1
  rw [ht] at hu
  have hy : (act fr).eval (.const (.pointer none)) = .pointer none := rfl
  have hb := run_eql_pointer_nil (P := c.P) w t p (by unfold Program.pointee; rw [hu])
  generalize (act fr).eval = ρ at *
  have hg : (eqGuard .eql t x (.const (.pointer none)) (.pointer p) (.pointer none)).run c.P w = .ok () w := rfl
  simp only [execOp, hx, hy, Sem.run_bind, hg, Result.andThen_ok, hb]
  rfl⟩⟩
theorem OthP.ptrNe {p : Option Addr} {K : Value → Prop} (hT : TOk c.P T) (ht : (lookT T t).d = .pointer u) (hx : evK fr x fun v => v = .pointer p) (k : K (.bool (!p.isNone))) : OthP c ⟨d, .binOp .neq t x (.const (.pointer none)) yt, ty, pos, after, gd⟩ fr H K := ⟨⟨_, k, fun w _ => by
  rw [evK_eq] at hx
  have hu := (lookT_ok hT (t := t) (by rw [ht]; intro h; cases h)).1
  rw [ht] at hu
  have hy : (act fr).eval (.const (.pointer none)) = .pointer none := rfl
  have hb := run_neq_pointer_nil (P := c.P) w t p (by unfold Program.pointee; rw [hu])
  generalize (act fr).eval = ρ at *
  have hg : (eqGuard .neq t x (.const (.pointer none)) (.pointer p) (.pointer none)).run c.P w = .ok () w := rfl
  simp only [execOp, hx, hy, Sem.run_bind, hg, Result.andThen_ok, hb]
  rfl⟩⟩
end
theorem Ent.inE {E G : Hp} {x : Ent} (h : x ∈ G) : x ∈ E ++ G := List.mem_append_right _ h
section
variable {ns : List Nd} {pg : List Plk → List UInt8 → Option Int}
/-- What stands behind a node at a key. -/
theorem TreeI.look (h : TreeI ns pg) {n : Nd} (hn : n ∈ ns) (p : Plk) : (mget p n.next).getD (.pointer none) = match Vex.lead ns (n.c ++ [p]) with | some m => m.ptr | none => .pointer none := by
  rcases h.next n hn p with ⟨h1, h2⟩ | ⟨m, hm, h1, h2⟩
  · rw [h1]
    cases hl : Vex.lead ns (n.c ++ [p]) with
    | none => rfl
    | some m => exact absurd (lead_some hl).2 (h2 m (lead_some hl).1)
  · rw [h2, ← h1, h.lead hm]
    rfl
end
/-- A function that is called at a node: what comes of it. -/
structure DoK (c : Ctx) {σ : Type} (G : σ → Hp) (ns : List Nd) (f : Nat) (caps : List Value) (OK : σ → Nd → Prop) (Step : σ → Nd → σ → Bool → Prop) : Prop where
  call : ∀ (E : Hp) (s : σ) (n : Nd) (K : Value → Hp → Prop), n ∈ ns → OK s n → (∀ s' b, Step s n s' b → K (.bool b) (E ++ G s')) → CallK c false f (n.ptr :: caps) (E ++ G s) K
def preW (ns : List Nd) (c : List Plk) (x : List UInt8) (r : List (List UInt8)) : Nat → List Nd
  | 0 => []
  | 1 => ways ns (c ++ [(0, x)]) r
  | _ => ways ns (c ++ [(0, x)]) r ++ ways ns (c ++ [(1, [])]) r
set_option maxHeartbeats 4000000 in
theorem walk_k {P : Program} {g : GI} {w0 : World} {M : List Nat} {hM : ∀ b ∈ M, g.n ≤ b} {hG : g.G w0} (hP : P = Tryz.prog) {σ : Type} {G : σ → Hp} {ns : List Nd} {pg : List Plk → List UInt8 → Option Int} (ht : TreeI ns pg) (hmem : ∀ s, ∀ x ∈ nodesH ns, x ∈ G s) {f : Nat} {caps : List Value}
    {OK : σ → Nd → Prop} {Step : σ → Nd → σ → Bool → Prop} (hdo : DoK ⟨P, g, w0, M, hM, hG⟩ G ns f caps OK Step) :
    ∀ (ss : List (List UInt8)) (A : Option Addr) (cp : Nat) (n : Nd) (s : σ) (E : Hp) (K : Value → Hp → Prop), n ∈ ns → ss.length ≤ 1000000 → ss.length ≤ cp → (∀ s, RdS ⟨P, g, w0, M, hM, hG⟩ (G s) A (ss.map str)) → (∀ pre n' post s', ways ns n.c ss = pre ++ n' :: post → RunS Step pre s s' true → OK s' n') →
      (∀ s' b, RunS Step (ways ns n.c ss) s s' b → K (.bool b) (E ++ G s')) → CallK ⟨P, g, w0, M, hM, hG⟩ false 30 [n.ptr, .slice A ss.length cp, .func (.func f) ⟨[]⟩ ⟨caps⟩] (E ++ G s) K
  | [], A, cp, n, s, E, K, hn, hl, hcp, hrd, hok, k => by
    subst hP
    refine CallK.post ?_
    refine CallK.inl tys_ok Tryz.func30 rfl (by kernel_rfl) rfl rfl ?_
    (conv => whnf); repeat ((first | refine tk1 ?_ | refine tk2 ?_ | refine tk3 ?_ | refine tk12 (fun _ => ?_) | refine tk4 ?_ | refine tk5 ?_ | refine tk6 ?_ | refine tk7 ?_ | refine tk8 ?_ | refine tk9 ?_ | refine tk10 (fun _ _ => ?_) | refine tk11 (fun _ => ?_) | refine tk13 ?_ | refine tk14 ?_); (conv => whnf))
    refine hdo.call E s n _ hn (hok [] n [] s (by rw [ways_nil, ht.lead hn]; rfl) (.nil _)) (fun s' b hs => ?_)
    (conv => whnf); repeat ((first | refine tk1 ?_ | refine tk2 ?_ | refine tk3 ?_ | refine tk12 (fun _ => ?_) | refine tk4 ?_ | refine tk5 ?_ | refine tk6 ?_ | refine tk7 ?_ | refine tk8 ?_ | refine tk9 ?_ | refine tk10 (fun _ _ => ?_) | refine tk11 (fun _ => ?_) | refine tk13 ?_ | refine tk14 ?_); (conv => whnf))
    exact ⟨_, fun _ h => h, k s' b (by rw [ways_nil, ht.lead hn]; exact RunS.one hs)⟩
  | x :: r, A, cp, n, s, E, K, hn, hl, hcp, hrd, hok, k => by
    have ih := walk_k hP ht hmem hdo r
    subst hP
    have hR : ∀ s, RdA ⟨Tryz.prog, g, w0, M, hM, hG⟩ (G s) A ((x :: r).map str) := fun s => ⟨hrd s⟩
    have hb1 : ∀ s, Ent.box n.b [.map (some n.pm), .map (some n.nm)] 78 ∈ G s := fun s => hmem s _ (nodesH_mem hn _ (by simp [Nd.hd]))
    have hb3 : ∀ s, Ent.obj n.nm (mobj plkV n.next) ∈ G s := fun s => hmem s _ (nodesH_mem hn _ (by simp [Nd.hd]))
    simp only [List.length_cons] at hl
    refine CallK.post ?_
    refine CallK.inl tys_ok Tryz.func30 rfl (by kernel_rfl) rfl rfl ?_
    unfold Nd.ptr
    (conv => whnf); repeat ((first | refine tk1 ?_ | refine tk2 ?_ | refine tk3 ?_ | refine tk12 (fun _ => ?_) | refine tk4 ?_ | refine tk5 ?_ | refine tk6 ?_ | refine tk7 ?_ | refine tk8 ?_ | refine tk9 ?_ | refine tk10 (fun _ _ => ?_) | refine tk11 (fun _ => ?_) | refine tk13 ?_ | refine tk14 ?_); (conv => whnf))
    refine IdxA.tc (xs := (x :: r).map str) (by simp) (by omega) (by simp only [List.length_cons]; omega) ?_
    (conv => whnf); repeat ((first | refine tk1 ?_ | refine tk2 ?_ | refine tk3 ?_ | refine tk12 (fun _ => ?_) | refine tk4 ?_ | refine tk5 ?_ | refine tk6 ?_ | refine tk7 ?_ | refine tk8 ?_ | refine tk9 ?_ | refine tk10 (fun _ _ => ?_) | refine tk11 (fun _ => ?_) | refine tk13 ?_ | refine tk14 ?_); (conv => whnf))
    refine Ld.ta (xs := (x :: r).map str) (v := str x) rfl ?_
    (conv => whnf); repeat ((first | refine tk1 ?_ | refine tk2 ?_ | refine tk3 ?_ | refine tk12 (fun _ => ?_) | refine tk4 ?_ | refine tk5 ?_ | refine tk6 ?_ | refine tk7 ?_ | refine tk8 ?_ | refine tk9 ?_ | refine tk10 (fun _ _ => ?_) | refine tk11 (fun _ => ?_) | refine tk13 ?_ | refine tk14 ?_); (conv => whnf))
    rename_i b
    refine LoopS.lpT tys_ok (fun (z : Nat × σ) u => [.pointer (some ⟨n.b, 0, none⟩), .slice A (x :: r).length cp, .func (.func f) ⟨[]⟩ ⟨caps⟩, u 3, u 4, u 5, u 6, u 7, u 8, u 9, u 10, u 11, u 12, u 13, u 14, u 15, u 16, u 17, u 18, u 19, u 20, u 21, .slice (some ⟨b, 0, none⟩) 2 2, .int .i64 2, .int .i64 (z.1 : Nat), u 25, u 26, u 27, u 28, u 29, u 30, u 31, u 32, u 33, u 34, u 35, u 36, u 37, u 38, u 39, u 40, u 41, u 42, u 43, u 44, u 45, u 46, u 47, u 48, u 49, u 50, u 51, u 52, u 53, u 54, u 55])
      (fun z => .row (.slice (some ⟨b, 0, none⟩) 2 2) 118 2 2 [.int .i64 0, str x, .int .i64 1, str []] :: (E ++ G z.2)) (fun z => z.1 ≤ 2 ∧ RunS Step (preW ns n.c x r z.1) s z.2 true) (fun z => 2 - z.1) (0, s) ⟨Nat.zero_le _, .nil _⟩ rfl (fun _ h => h) ?_
    rintro ⟨i, s1⟩ u ⟨hi, hrun⟩
    dsimp only at hi hrun ⊢
    rcases (show i = 0 ∨ i = 1 ∨ i = 2 by omega) with rfl | rfl | rfl
    · as_aux_lemma =>
      have e := ht.look hn (0, x)
      (conv => whnf); repeat ((first | refine tk1 ?_ | refine tk2 ?_ | refine tk3 ?_ | refine tk12 (fun _ => ?_) | refine tk4 ?_ | refine tk5 ?_ | refine tk6 ?_ | refine tk7 ?_ | refine tk8 ?_ | refine tk9 ?_ | refine tk10 (fun _ _ => ?_) | refine tk11 (fun _ => ?_) | refine tk13 ?_ | refine tk14 ?_); (conv => whnf))
      refine IdxA.tc (xs := [.int .i64 0, str x, .int .i64 1, str []]) (by simp) (by omega) (by omega) ?_
      (conv => whnf); repeat ((first | refine tk1 ?_ | refine tk2 ?_ | refine tk3 ?_ | refine tk12 (fun _ => ?_) | refine tk4 ?_ | refine tk5 ?_ | refine tk6 ?_ | refine tk7 ?_ | refine tk8 ?_ | refine tk9 ?_ | refine tk10 (fun _ _ => ?_) | refine tk11 (fun _ => ?_) | refine tk13 ?_ | refine tk14 ?_); (conv => whnf))
      refine Ld.taN (xs := [.int .i64 0, str x, .int .i64 1, str []]) (vs := [.int .i64 0, str x]) rfl rfl ?_
      (conv => whnf); repeat ((first | refine tk1 ?_ | refine tk2 ?_ | refine tk3 ?_ | refine tk12 (fun _ => ?_) | refine tk4 ?_ | refine tk5 ?_ | refine tk6 ?_ | refine tk7 ?_ | refine tk8 ?_ | refine tk9 ?_ | refine tk10 (fun _ _ => ?_) | refine tk11 (fun _ => ?_) | refine tk13 ?_ | refine tk14 ?_); (conv => whnf))
      rename_i b8
      refine DrawS.go (qs 7) tys_ok mixed (by kernel_rfl) ?_
      (conv => whnf); repeat ((first | refine tk1 ?_ | refine tk2 ?_ | refine tk3 ?_ | refine tk12 (fun _ => ?_) | refine tk4 ?_ | refine tk5 ?_ | refine tk6 ?_ | refine tk7 ?_ | refine tk8 ?_ | refine tk9 ?_ | refine tk10 (fun _ _ => ?_) | refine tk11 (fun _ => ?_) | refine tk13 ?_ | refine tk14 ?_); (conv => whnf))
      refine Ld.mem (.tail _ (.tail _ (Ent.inE (hb1 s1)))) (v := .map (some n.nm)) rfl ?_
      (conv => whnf); repeat ((first | refine tk1 ?_ | refine tk2 ?_ | refine tk3 ?_ | refine tk12 (fun _ => ?_) | refine tk4 ?_ | refine tk5 ?_ | refine tk6 ?_ | refine tk7 ?_ | refine tk8 ?_ | refine tk9 ?_ | refine tk10 (fun _ _ => ?_) | refine tk11 (fun _ => ?_) | refine tk13 ?_ | refine tk14 ?_); (conv => whnf))
      cases hle : lead ns (n.c ++ [(0, x)]) with
      | none =>
        rw [hle] at e
        refine OthP.lookP (k := (0, x)) (l := n.next) rfl tys_ok (objAt_mem (.tail _ (.tail _ (Ent.inE (hb3 s1))))) rfl rfl rfl (fun h => by cases h) rfl e ?_
        (conv => whnf); repeat ((first | refine tk1 ?_ | refine tk2 ?_ | refine tk3 ?_ | refine tk12 (fun _ => ?_) | refine tk4 ?_ | refine tk5 ?_ | refine tk6 ?_ | refine tk7 ?_ | refine tk8 ?_ | refine tk9 ?_ | refine tk10 (fun _ _ => ?_) | refine tk11 (fun _ => ?_) | refine tk13 ?_ | refine tk14 ?_); (conv => whnf))
        refine OthP.ptrNe tys_ok rfl rfl ?_
        (conv => whnf); repeat ((first | refine tk1 ?_ | refine tk2 ?_ | refine tk3 ?_ | refine tk12 (fun _ => ?_) | refine tk4 ?_ | refine tk5 ?_ | refine tk6 ?_ | refine tk7 ?_ | refine tk8 ?_ | refine tk9 ?_ | refine tk10 (fun _ _ => ?_) | refine tk11 (fun _ => ?_) | refine tk13 ?_ | refine tk14 ?_); (conv => whnf))
        exact ⟨(1, s1), ⟨by dsimp only; omega, by show RunS Step (ways ns (n.c ++ [(0, x)]) r) s s1 true; rw [ways_none ht (lead_none hle)]; exact hrun⟩, rfl, Into.skip (fun _ h => h), by dsimp only; omega⟩
      | some m =>
        obtain ⟨hm, hmc⟩ := lead_some hle
        rw [hle] at e
        refine OthP.lookP (k := (0, x)) (l := n.next) rfl tys_ok (objAt_mem (.tail _ (.tail _ (Ent.inE (hb3 s1))))) rfl rfl rfl (fun h => by cases h) rfl e ?_
        unfold Nd.ptr
        (conv => whnf); repeat ((first | refine tk1 ?_ | refine tk2 ?_ | refine tk3 ?_ | refine tk12 (fun _ => ?_) | refine tk4 ?_ | refine tk5 ?_ | refine tk6 ?_ | refine tk7 ?_ | refine tk8 ?_ | refine tk9 ?_ | refine tk10 (fun _ _ => ?_) | refine tk11 (fun _ => ?_) | refine tk13 ?_ | refine tk14 ?_); (conv => whnf))
        refine OthP.ptrNe tys_ok rfl rfl ?_
        (conv => whnf); repeat ((first | refine tk1 ?_ | refine tk2 ?_ | refine tk3 ?_ | refine tk12 (fun _ => ?_) | refine tk4 ?_ | refine tk5 ?_ | refine tk6 ?_ | refine tk7 ?_ | refine tk8 ?_ | refine tk9 ?_ | refine tk10 (fun _ _ => ?_) | refine tk11 (fun _ => ?_) | refine tk13 ?_ | refine tk14 ?_); (conv => whnf))
        refine SlcV.from (lo := 1) (by decide) (by simp only [List.length_cons]; omega) ?_
        rw [show (x :: r).length - Int.toNat 1 = r.length from rfl]
        (conv => whnf); repeat ((first | refine tk1 ?_ | refine tk2 ?_ | refine tk3 ?_ | refine tk12 (fun _ => ?_) | refine tk4 ?_ | refine tk5 ?_ | refine tk6 ?_ | refine tk7 ?_ | refine tk8 ?_ | refine tk9 ?_ | refine tk10 (fun _ _ => ?_) | refine tk11 (fun _ => ?_) | refine tk13 ?_ | refine tk14 ?_); (conv => whnf))
        refine ih _ _ m s1 (_ :: _ :: E) _ hm (by omega) (by simp only [List.length_cons] at hcp; omega) (fun s => ?_) (fun pre n' post s' e hr => ?_) (fun s' b hs => ?_)
        · exact (hrd s).piece (cp := cp) (sz := 1) (lo := 1) (by decide) (fun e => by simp only [List.length_cons, List.length_map] at hcp ⊢; omega)
        · rw [hmc] at e
          exact hok pre n' (post ++ (ways ns (n.c ++ [(1, [])]) r ++ (lead ns (n.c ++ [(2, [])])).toList)) s' (by rw [ways_cons, e, List.append_assoc]; rfl) (RunS.app (a := []) hrun hr)
        rw [hmc] at hs
        cases b
        · (conv => whnf); repeat ((first | refine tk1 ?_ | refine tk2 ?_ | refine tk3 ?_ | refine tk12 (fun _ => ?_) | refine tk4 ?_ | refine tk5 ?_ | refine tk6 ?_ | refine tk7 ?_ | refine tk8 ?_ | refine tk9 ?_ | refine tk10 (fun _ _ => ?_) | refine tk11 (fun _ => ?_) | refine tk13 ?_ | refine tk14 ?_); (conv => whnf))
          refine ⟨E ++ G s', Into.skip (Into.skip (fun _ h => h)), k s' false ?_⟩
          rw [ways_cons]
          exact RunS.app (a := []) hrun (RunS.halt hs _)
        · (conv => whnf); repeat ((first | refine tk1 ?_ | refine tk2 ?_ | refine tk3 ?_ | refine tk12 (fun _ => ?_) | refine tk4 ?_ | refine tk5 ?_ | refine tk6 ?_ | refine tk7 ?_ | refine tk8 ?_ | refine tk9 ?_ | refine tk10 (fun _ _ => ?_) | refine tk11 (fun _ => ?_) | refine tk13 ?_ | refine tk14 ?_); (conv => whnf))
          exact ⟨(1, s'), ⟨by dsimp only; omega, RunS.app hrun hs⟩, rfl, Into.skip (fun _ h => h), by dsimp only; omega⟩
    · as_aux_lemma =>
      have e := ht.look hn (1, [])
      (conv => whnf); repeat ((first | refine tk1 ?_ | refine tk2 ?_ | refine tk3 ?_ | refine tk12 (fun _ => ?_) | refine tk4 ?_ | refine tk5 ?_ | refine tk6 ?_ | refine tk7 ?_ | refine tk8 ?_ | refine tk9 ?_ | refine tk10 (fun _ _ => ?_) | refine tk11 (fun _ => ?_) | refine tk13 ?_ | refine tk14 ?_); (conv => whnf))
      refine IdxA.tc (xs := [.int .i64 0, str x, .int .i64 1, str []]) (by simp) (by omega) (by omega) ?_
      (conv => whnf); repeat ((first | refine tk1 ?_ | refine tk2 ?_ | refine tk3 ?_ | refine tk12 (fun _ => ?_) | refine tk4 ?_ | refine tk5 ?_ | refine tk6 ?_ | refine tk7 ?_ | refine tk8 ?_ | refine tk9 ?_ | refine tk10 (fun _ _ => ?_) | refine tk11 (fun _ => ?_) | refine tk13 ?_ | refine tk14 ?_); (conv => whnf))
      refine Ld.taN (xs := [.int .i64 0, str x, .int .i64 1, str []]) (vs := [.int .i64 1, str []]) rfl rfl ?_
      (conv => whnf); repeat ((first | refine tk1 ?_ | refine tk2 ?_ | refine tk3 ?_ | refine tk12 (fun _ => ?_) | refine tk4 ?_ | refine tk5 ?_ | refine tk6 ?_ | refine tk7 ?_ | refine tk8 ?_ | refine tk9 ?_ | refine tk10 (fun _ _ => ?_) | refine tk11 (fun _ => ?_) | refine tk13 ?_ | refine tk14 ?_); (conv => whnf))
      rename_i b8
      refine DrawS.go (qs 7) tys_ok mixed (by kernel_rfl) ?_
      (conv => whnf); repeat ((first | refine tk1 ?_ | refine tk2 ?_ | refine tk3 ?_ | refine tk12 (fun _ => ?_) | refine tk4 ?_ | refine tk5 ?_ | refine tk6 ?_ | refine tk7 ?_ | refine tk8 ?_ | refine tk9 ?_ | refine tk10 (fun _ _ => ?_) | refine tk11 (fun _ => ?_) | refine tk13 ?_ | refine tk14 ?_); (conv => whnf))
      refine Ld.mem (.tail _ (.tail _ (Ent.inE (hb1 s1)))) (v := .map (some n.nm)) rfl ?_
      (conv => whnf); repeat ((first | refine tk1 ?_ | refine tk2 ?_ | refine tk3 ?_ | refine tk12 (fun _ => ?_) | refine tk4 ?_ | refine tk5 ?_ | refine tk6 ?_ | refine tk7 ?_ | refine tk8 ?_ | refine tk9 ?_ | refine tk10 (fun _ _ => ?_) | refine tk11 (fun _ => ?_) | refine tk13 ?_ | refine tk14 ?_); (conv => whnf))
      cases hle : lead ns (n.c ++ [(1, [])]) with
      | none =>
        rw [hle] at e
        refine OthP.lookP (k := (1, [])) (l := n.next) rfl tys_ok (objAt_mem (.tail _ (.tail _ (Ent.inE (hb3 s1))))) rfl rfl rfl (fun h => by cases h) rfl e ?_
        (conv => whnf); repeat ((first | refine tk1 ?_ | refine tk2 ?_ | refine tk3 ?_ | refine tk12 (fun _ => ?_) | refine tk4 ?_ | refine tk5 ?_ | refine tk6 ?_ | refine tk7 ?_ | refine tk8 ?_ | refine tk9 ?_ | refine tk10 (fun _ _ => ?_) | refine tk11 (fun _ => ?_) | refine tk13 ?_ | refine tk14 ?_); (conv => whnf))
        refine OthP.ptrNe tys_ok rfl rfl ?_
        (conv => whnf); repeat ((first | refine tk1 ?_ | refine tk2 ?_ | refine tk3 ?_ | refine tk12 (fun _ => ?_) | refine tk4 ?_ | refine tk5 ?_ | refine tk6 ?_ | refine tk7 ?_ | refine tk8 ?_ | refine tk9 ?_ | refine tk10 (fun _ _ => ?_) | refine tk11 (fun _ => ?_) | refine tk13 ?_ | refine tk14 ?_); (conv => whnf))
        exact ⟨(2, s1), ⟨by dsimp only; omega, by show RunS Step (ways ns (n.c ++ [(0, x)]) r ++ ways ns (n.c ++ [(1, [])]) r) s s1 true; rw [ways_none ht (lead_none hle), List.append_nil]; exact hrun⟩, rfl, Into.skip (fun _ h => h), by dsimp only; omega⟩
      | some m =>
        obtain ⟨hm, hmc⟩ := lead_some hle
        rw [hle] at e
        refine OthP.lookP (k := (1, [])) (l := n.next) rfl tys_ok (objAt_mem (.tail _ (.tail _ (Ent.inE (hb3 s1))))) rfl rfl rfl (fun h => by cases h) rfl e ?_
        unfold Nd.ptr
        (conv => whnf); repeat ((first | refine tk1 ?_ | refine tk2 ?_ | refine tk3 ?_ | refine tk12 (fun _ => ?_) | refine tk4 ?_ | refine tk5 ?_ | refine tk6 ?_ | refine tk7 ?_ | refine tk8 ?_ | refine tk9 ?_ | refine tk10 (fun _ _ => ?_) | refine tk11 (fun _ => ?_) | refine tk13 ?_ | refine tk14 ?_); (conv => whnf))
        refine OthP.ptrNe tys_ok rfl rfl ?_
        (conv => whnf); repeat ((first | refine tk1 ?_ | refine tk2 ?_ | refine tk3 ?_ | refine tk12 (fun _ => ?_) | refine tk4 ?_ | refine tk5 ?_ | refine tk6 ?_ | refine tk7 ?_ | refine tk8 ?_ | refine tk9 ?_ | refine tk10 (fun _ _ => ?_) | refine tk11 (fun _ => ?_) | refine tk13 ?_ | refine tk14 ?_); (conv => whnf))
        refine SlcV.from (lo := 1) (by decide) (by simp only [List.length_cons]; omega) ?_
        rw [show (x :: r).length - Int.toNat 1 = r.length from rfl]
        (conv => whnf); repeat ((first | refine tk1 ?_ | refine tk2 ?_ | refine tk3 ?_ | refine tk12 (fun _ => ?_) | refine tk4 ?_ | refine tk5 ?_ | refine tk6 ?_ | refine tk7 ?_ | refine tk8 ?_ | refine tk9 ?_ | refine tk10 (fun _ _ => ?_) | refine tk11 (fun _ => ?_) | refine tk13 ?_ | refine tk14 ?_); (conv => whnf))
        refine ih _ _ m s1 (_ :: _ :: E) _ hm (by omega) (by simp only [List.length_cons] at hcp; omega) (fun s => ?_) (fun pre n' post s' e hr => ?_) (fun s' b hs => ?_)
        · exact (hrd s).piece (cp := cp) (sz := 1) (lo := 1) (by decide) (fun e => by simp only [List.length_cons, List.length_map] at hcp ⊢; omega)
        · rw [hmc] at e
          exact hok (ways ns (n.c ++ [(0, x)]) r ++ pre) n' (post ++ (lead ns (n.c ++ [(2, [])])).toList) s' (by rw [ways_cons, e, List.append_assoc, List.append_assoc]; rfl) (RunS.app hrun hr)
        rw [hmc] at hs
        cases b
        · (conv => whnf); repeat ((first | refine tk1 ?_ | refine tk2 ?_ | refine tk3 ?_ | refine tk12 (fun _ => ?_) | refine tk4 ?_ | refine tk5 ?_ | refine tk6 ?_ | refine tk7 ?_ | refine tk8 ?_ | refine tk9 ?_ | refine tk10 (fun _ _ => ?_) | refine tk11 (fun _ => ?_) | refine tk13 ?_ | refine tk14 ?_); (conv => whnf))
          refine ⟨E ++ G s', Into.skip (Into.skip (fun _ h => h)), k s' false ?_⟩
          rw [ways_cons]
          exact RunS.app hrun (RunS.halt hs _)
        · (conv => whnf); repeat ((first | refine tk1 ?_ | refine tk2 ?_ | refine tk3 ?_ | refine tk12 (fun _ => ?_) | refine tk4 ?_ | refine tk5 ?_ | refine tk6 ?_ | refine tk7 ?_ | refine tk8 ?_ | refine tk9 ?_ | refine tk10 (fun _ _ => ?_) | refine tk11 (fun _ => ?_) | refine tk13 ?_ | refine tk14 ?_); (conv => whnf))
          exact ⟨(2, s'), ⟨by dsimp only; omega, RunS.app hrun hs⟩, rfl, Into.skip (fun _ h => h), by dsimp only; omega⟩
    · as_aux_lemma =>
      have e := ht.look hn (2, [])
      (conv => whnf); repeat ((first | refine tk1 ?_ | refine tk2 ?_ | refine tk3 ?_ | refine tk12 (fun _ => ?_) | refine tk4 ?_ | refine tk5 ?_ | refine tk6 ?_ | refine tk7 ?_ | refine tk8 ?_ | refine tk9 ?_ | refine tk10 (fun _ _ => ?_) | refine tk11 (fun _ => ?_) | refine tk13 ?_ | refine tk14 ?_); (conv => whnf))
      refine Ld.mem (.tail _ (Ent.inE (hb1 s1))) (v := .map (some n.nm)) rfl ?_
      (conv => whnf); repeat ((first | refine tk1 ?_ | refine tk2 ?_ | refine tk3 ?_ | refine tk12 (fun _ => ?_) | refine tk4 ?_ | refine tk5 ?_ | refine tk6 ?_ | refine tk7 ?_ | refine tk8 ?_ | refine tk9 ?_ | refine tk10 (fun _ _ => ?_) | refine tk11 (fun _ => ?_) | refine tk13 ?_ | refine tk14 ?_); (conv => whnf))
      cases hle : lead ns (n.c ++ [(2, [])]) with
      | none =>
        rw [hle] at e
        refine OthP.lookP (k := (2, [])) (l := n.next) rfl tys_ok (objAt_mem (.tail _ (Ent.inE (hb3 s1)))) rfl rfl rfl (fun h => by cases h) rfl e ?_
        (conv => whnf); repeat ((first | refine tk1 ?_ | refine tk2 ?_ | refine tk3 ?_ | refine tk12 (fun _ => ?_) | refine tk4 ?_ | refine tk5 ?_ | refine tk6 ?_ | refine tk7 ?_ | refine tk8 ?_ | refine tk9 ?_ | refine tk10 (fun _ _ => ?_) | refine tk11 (fun _ => ?_) | refine tk13 ?_ | refine tk14 ?_); (conv => whnf))
        refine OthP.ptrNe tys_ok rfl rfl ?_
        (conv => whnf); repeat ((first | refine tk1 ?_ | refine tk2 ?_ | refine tk3 ?_ | refine tk12 (fun _ => ?_) | refine tk4 ?_ | refine tk5 ?_ | refine tk6 ?_ | refine tk7 ?_ | refine tk8 ?_ | refine tk9 ?_ | refine tk10 (fun _ _ => ?_) | refine tk11 (fun _ => ?_) | refine tk13 ?_ | refine tk14 ?_); (conv => whnf))
        refine ⟨E ++ G s1, Into.skip (fun _ h => h), k s1 true ?_⟩
        rw [ways_cons, hle, Option.toList_none, List.append_nil]
        exact hrun
      | some m =>
        obtain ⟨hm, hmc⟩ := lead_some hle
        rw [hle] at e
        refine OthP.lookP (k := (2, [])) (l := n.next) rfl tys_ok (objAt_mem (.tail _ (Ent.inE (hb3 s1)))) rfl rfl rfl (fun h => by cases h) rfl e ?_
        unfold Nd.ptr
        (conv => whnf); repeat ((first | refine tk1 ?_ | refine tk2 ?_ | refine tk3 ?_ | refine tk12 (fun _ => ?_) | refine tk4 ?_ | refine tk5 ?_ | refine tk6 ?_ | refine tk7 ?_ | refine tk8 ?_ | refine tk9 ?_ | refine tk10 (fun _ _ => ?_) | refine tk11 (fun _ => ?_) | refine tk13 ?_ | refine tk14 ?_); (conv => whnf))
        refine OthP.ptrNe tys_ok rfl rfl ?_
        (conv => whnf); repeat ((first | refine tk1 ?_ | refine tk2 ?_ | refine tk3 ?_ | refine tk12 (fun _ => ?_) | refine tk4 ?_ | refine tk5 ?_ | refine tk6 ?_ | refine tk7 ?_ | refine tk8 ?_ | refine tk9 ?_ | refine tk10 (fun _ _ => ?_) | refine tk11 (fun _ => ?_) | refine tk13 ?_ | refine tk14 ?_); (conv => whnf))
        refine hdo.call (_ :: E) s1 m _ hm (hok _ m [] s1 (by rw [ways_cons, hle, Option.toList_some, ← List.append_assoc]; rfl) hrun) (fun s' b hs => ?_)
        (conv => whnf); repeat ((first | refine tk1 ?_ | refine tk2 ?_ | refine tk3 ?_ | refine tk12 (fun _ => ?_) | refine tk4 ?_ | refine tk5 ?_ | refine tk6 ?_ | refine tk7 ?_ | refine tk8 ?_ | refine tk9 ?_ | refine tk10 (fun _ _ => ?_) | refine tk11 (fun _ => ?_) | refine tk13 ?_ | refine tk14 ?_); (conv => whnf))
        refine ⟨E ++ G s', Into.skip (fun _ h => h), k s' b ?_⟩
        rw [ways_cons, hle, Option.toList_some, ← List.append_assoc]
        exact RunS.app hrun (RunS.one hs)
end Go.Proofs.YtnaeeklnlddcaaaGreatDoor.Vex
/- A page is hung on a tree of pages. -/
namespace Go.Proofs.YtnaeeklnlddcaaaGreatDoor.Vex
open Go Go.RowKit
set_option maxRecDepth 100000
set_option linter.unusedSectionVars false
set_option linter.unusedSectionVars false
variable {gI : GI} [HasMax gI] [HasErr gI]

theorem nodesH_app (a b : List Nd) : nodesH (a ++ b) = nodesH a ++ nodesH b := List.flatMap_append
theorem nodes_back {X : Hp} {us bs : List Nd} {n : Nd} : (n.hd ++ (X ++ nodesH (us ++ bs))).Perm (X ++ nodesH (us ++ n :: bs)) := by
  have e : nodesH (us ++ n :: bs) = nodesH us ++ (n.hd ++ nodesH bs) := by rw [nodesH_app]; rfl
  rw [e, nodesH_app, ← List.append_assoc X, ← List.append_assoc X]
  rw [← List.append_assoc n.hd, ← List.append_assoc (X ++ nodesH us)]
  exact List.Perm.append_right _ List.perm_append_comm
theorem nodes_focus {X : Hp} {ns : List Nd} {m : Nd} (h : m ∈ ns) : ∃ us bs, ns = us ++ m :: bs ∧ (X ++ nodesH ns).Perm (m.hd ++ (X ++ nodesH (us ++ bs))) := by
  obtain ⟨us, bs, rfl⟩ := List.append_of_mem h
  exact ⟨us, bs, rfl, nodes_back.symm⟩
theorem mem_repl {us bs : List Nd} {n n' q : Nd} (h : q ∈ us ++ n :: bs) (hc : n'.c = n.c) (hb : n'.b = n.b) : ∃ q' ∈ us ++ n' :: bs, q'.c = q.c ∧ q'.b = q.b := by
  rcases List.mem_append.1 h with h | h
  · exact ⟨q, List.mem_append_left _ h, rfl, rfl⟩
  · rcases List.mem_cons.1 h with rfl | h
    · exact ⟨n', List.mem_append_right _ (List.mem_cons_self ..), hc, hb⟩
    · exact ⟨q, List.mem_append_right _ (List.mem_cons_of_mem _ h), rfl, rfl⟩
theorem plcCells_at : ∀ (l : List Plc) (k : Nat) (h : k < l.length), ((plcCells l).drop (k * 2)).take 2 = [.int .i64 l[k].1, str l[k].2]
  | p :: r, 0, _ => rfl
  | p :: r, k + 1, h => by
    rw [show (k + 1) * 2 = k * 2 + 1 + 1 by omega]
    exact plcCells_at r k (by simpa using h)
/-- Where the hanging stands: how many places are behind, the node, the others. -/
structure HgS where
  j : Nat
  us : List Nd
  bs : List Nd
  n : Nd
def hgI (pg : List Plk → List UInt8 → Option Int) (l : List Plc) (b : Nat) (z : HgS) : Prop := z.j ≤ l.length ∧ TreeI (z.us ++ z.n :: z.bs) pg ∧ z.n.c = (l.map keyP).take z.j ∧ ∃ q ∈ z.us ++ z.n :: z.bs, q.c = [] ∧ q.b = b
set_option maxHeartbeats 4000000 in
theorem hang_k {P : Program} {g : GI} [HasMax g] [HasErr g] {w0 : World} {M : List Nat} {hM : ∀ b ∈ M, g.n ≤ b} {hG : g.G w0} (hP : P = Tryz.prog) {ns : List Nd} {pg : List Plk → List UInt8 → Option Int} (ht : TreeI ns pg) {r : Nd} (hr : r ∈ ns) (hrc : r.c = []) {page : Int} {m : List UInt8} {l : List Plc} {A : Option Addr} {cp : Nat} {X : Hp}
    {K : Value → Hp → Prop} (hl : l.length ≤ 1000000) (hA : RdS ⟨P, g, w0, M, hM, hG⟩ X A (plcCells l))
    (k : ∀ ns' r', TreeI ns' (hangP pg (l.map keyP) m page) → r' ∈ ns' → r'.c = [] → r'.b = r.b → K (.bool (pg (l.map keyP) m).isNone) (X ++ nodesH ns')) :
    CallK ⟨P, g, w0, M, hM, hG⟩ false 60 [r.ptr, .int .i64 page, str m, .slice A l.length cp] (X ++ nodesH ns) K := by
  obtain ⟨us0, bs0, rfl, hperm⟩ := nodes_focus (X := X) hr
  subst hP
  haveI : RdA ⟨Tryz.prog, g, w0, M, hM, hG⟩ X A (plcCells l) := ⟨hA⟩
  refine CallK.into (fun w hw => hw.perm hperm) (CallK.post ?_)
  refine CallK.inl tys_ok Tryz.func60 rfl (by kernel_rfl) rfl rfl ?_
  unfold Nd.ptr
  (conv => whnf); repeat ((first | refine tk1 ?_ | refine tk2 ?_ | refine tk3 ?_ | refine tk12 (fun _ => ?_) | refine tk4 ?_ | refine tk5 ?_ | refine tk6 ?_ | refine tk7 ?_ | refine tk8 ?_ | refine tk9 ?_ | refine tk10 (fun _ _ => ?_) | refine tk11 (fun _ => ?_) | refine tk13 ?_ | refine tk14 ?_); (conv => whnf))
  refine LoopS.lpT tys_ok (fun (z : HgS) u => [.pointer (some ⟨z.n.b, 0, none⟩), .int .i64 page, str m, u 3, u 4, u 5, u 6, u 7, u 8, u 9, u 10, u 11, u 12, .slice A l.length cp, .int .i64 l.length, .int .i64 (z.j : Nat), u 16, u 17, u 18, u 19, u 20, u 21, u 22, u 23, u 24, u 25, u 26, u 27, u 28, u 29, u 30, u 31, u 32, u 33, u 34, u 35, u 36, u 37, u 38, u 39, u 40, u 41, u 42, u 43, u 44, u 45, u 46, u 47, u 48, u 49, u 50, u 51, u 52, u 53, u 54, u 55, u 56, u 57, u 58])
    (fun z => .box z.n.b [.map (some z.n.pm), .map (some z.n.nm)] 78 :: .obj z.n.pm (mobj str z.n.pages) :: .obj z.n.nm (mobj plkV z.n.next) :: (X ++ nodesH (z.us ++ z.bs))) (hgI pg l r.b) (fun z => l.length - z.j) ⟨0, us0, bs0, r⟩
    ⟨Nat.zero_le _, ht, hrc, r, hr, hrc, rfl⟩ rfl (fun _ h => h) ?_
  rintro ⟨j, us, bs, n⟩ u ⟨hj, ht2, hc, q, hq, hqc, hqb⟩
  dsimp only at hj ht2 hc hq ⊢
  have hn : n ∈ us ++ n :: bs := List.mem_append_right _ (List.mem_cons_self ..)
  by_cases hlt : j < l.length
  rotate_left
  · as_aux_lemma =>
    obtain rfl : j = l.length := by omega
    rw [List.take_of_length_le (by rw [List.length_map]; exact Nat.le_refl _)] at hc
    have hpg := ht2.pages n hn m
    rw [hc] at hpg
    (conv => whnf); repeat ((first | refine tk1 ?_ | refine tk2 ?_ | refine tk3 ?_ | refine tk12 (fun _ => ?_) | refine tk4 ?_ | refine tk5 ?_ | refine tk6 ?_ | refine tk7 ?_ | refine tk8 ?_ | refine tk9 ?_ | refine tk10 (fun _ _ => ?_) | refine tk11 (fun _ => ?_) | refine tk13 ?_ | refine tk14 ?_); (conv => whnf))
    cases hp : pg (l.map keyP) m with
    | some i =>
      rw [hp] at hpg
      have e1 : (Value.tuple ⟨[(mget m n.pages).getD (.int .i64 0), .bool (mget m n.pages).isSome]⟩) = .tuple ⟨[.int .i64 i, .bool true]⟩ := by rw [hpg]; rfl
      refine OthP.look (k := m) (l := n.pages) strK tys_ok rfl rfl rfl rfl (fun h => by cases h) (fun h => by cases h) rfl e1 ?_
      (conv => whnf); repeat ((first | refine tk1 ?_ | refine tk2 ?_ | refine tk3 ?_ | refine tk12 (fun _ => ?_) | refine tk4 ?_ | refine tk5 ?_ | refine tk6 ?_ | refine tk7 ?_ | refine tk8 ?_ | refine tk9 ?_ | refine tk10 (fun _ _ => ?_) | refine tk11 (fun _ => ?_) | refine tk13 ?_ | refine tk14 ?_); (conv => whnf))
      have hh : hangP pg (l.map keyP) m page = pg := by
        funext d x
        unfold hangP
        rw [hp]
        rfl
      have k2 := k (us ++ n :: bs) q (by rw [hh]; exact ht2) hq hqc hqb
      rw [hp] at k2
      exact ⟨_, fun w hw => St.perm hw (nodes_back (n := n)), k2⟩
    | none =>
      rw [hp] at hpg
      have e1 : (Value.tuple ⟨[(mget m n.pages).getD (.int .i64 0), .bool (mget m n.pages).isSome]⟩) = .tuple ⟨[.int .i64 0, .bool false]⟩ := by rw [hpg]; rfl
      refine OthP.look (k := m) (l := n.pages) strK tys_ok rfl rfl rfl rfl (fun h => by cases h) (fun h => by cases h) rfl e1 ?_
      (conv => whnf); repeat ((first | refine tk1 ?_ | refine tk2 ?_ | refine tk3 ?_ | refine tk12 (fun _ => ?_) | refine tk4 ?_ | refine tk5 ?_ | refine tk6 ?_ | refine tk7 ?_ | refine tk8 ?_ | refine tk9 ?_ | refine tk10 (fun _ _ => ?_) | refine tk11 (fun _ => ?_) | refine tk13 ?_ | refine tk14 ?_); (conv => whnf))
      refine OthU.upd (k := m) (l := n.pages) (v := .int .i64 page) strK tys_ok rfl rfl rfl rfl rfl (fun h => by cases h) rfl ?_
      (conv => whnf); repeat ((first | refine tk1 ?_ | refine tk2 ?_ | refine tk3 ?_ | refine tk12 (fun _ => ?_) | refine tk4 ?_ | refine tk5 ?_ | refine tk6 ?_ | refine tk7 ?_ | refine tk8 ?_ | refine tk9 ?_ | refine tk10 (fun _ _ => ?_) | refine tk11 (fun _ => ?_) | refine tk13 ?_ | refine tk14 ?_); (conv => whnf))
      have ht3 := tree_page ht2 m page
      obtain ⟨q2, hq2, hq3, hq4⟩ := mem_repl (n' := { n with pages := mput m (.int .i64 page) n.pages }) hq rfl rfl
      have hh : (fun d x => if d = n.c ∧ x = m then some page else pg d x) = hangP pg (l.map keyP) m page := by
        funext d x
        unfold hangP
        rw [hp, hc]
        simp
      rw [hh] at ht3
      have k2 := k _ q2 ht3 hq2 (hq3.trans hqc) (hq4.trans hqb)
      rw [hp] at k2
      exact ⟨_, fun w hw => St.perm hw (nodes_back (n := { n with pages := mput m (.int .i64 page) n.pages })), k2⟩
  have hcell := plcCells_at l j hlt
  have htk : (l.map keyP).take j ++ [keyP l[j]] = (l.map keyP).take (j + 1) := by
    rw [List.take_add_one, List.getElem?_map, List.getElem?_eq_getElem hlt]
    rfl
  obtain ⟨⟨a, s⟩, hp⟩ : ∃ p, l[j] = p := ⟨_, rfl⟩
  rw [hp] at hcell htk
  by_cases ha : a = 0
  · as_aux_lemma =>
    subst ha
    rw [show keyP ((0 : Int), s) = (0, s) from rfl] at htk
    (conv => whnf); repeat ((first | refine tk1 ?_ | refine tk2 ?_ | refine tk3 ?_ | refine tk12 (fun _ => ?_) | refine tk4 ?_ | refine tk5 ?_ | refine tk6 ?_ | refine tk7 ?_ | refine tk8 ?_ | refine tk9 ?_ | refine tk10 (fun _ _ => ?_) | refine tk11 (fun _ => ?_) | refine tk13 ?_ | refine tk14 ?_); (conv => whnf))
    refine IdxA.tc (xs := plcCells l) (by rw [plcCells_length]; omega) (by omega) (by omega) ?_
    (conv => whnf); repeat ((first | refine tk1 ?_ | refine tk2 ?_ | refine tk3 ?_ | refine tk12 (fun _ => ?_) | refine tk4 ?_ | refine tk5 ?_ | refine tk6 ?_ | refine tk7 ?_ | refine tk8 ?_ | refine tk9 ?_ | refine tk10 (fun _ _ => ?_) | refine tk11 (fun _ => ?_) | refine tk13 ?_ | refine tk14 ?_); (conv => whnf))
    refine Ld.taN (xs := plcCells l) (vs := [.int .i64 0, str s]) (by rw [Int.toNat_natCast]; exact hcell) rfl ?_
    (conv => whnf); repeat ((first | refine tk1 ?_ | refine tk2 ?_ | refine tk3 ?_ | refine tk12 (fun _ => ?_) | refine tk4 ?_ | refine tk5 ?_ | refine tk6 ?_ | refine tk7 ?_ | refine tk8 ?_ | refine tk9 ?_ | refine tk10 (fun _ _ => ?_) | refine tk11 (fun _ => ?_) | refine tk13 ?_ | refine tk14 ?_); (conv => whnf))
    rename_i b8
    refine DrawS.go (qs 7) tys_ok mixed (by kernel_rfl) ?_
    (conv => whnf); repeat ((first | refine tk1 ?_ | refine tk2 ?_ | refine tk3 ?_ | refine tk12 (fun _ => ?_) | refine tk4 ?_ | refine tk5 ?_ | refine tk6 ?_ | refine tk7 ?_ | refine tk8 ?_ | refine tk9 ?_ | refine tk10 (fun _ _ => ?_) | refine tk11 (fun _ => ?_) | refine tk13 ?_ | refine tk14 ?_); (conv => whnf))
    rcases ht2.next n hn ((0 : Int), s) with ⟨h1, h2⟩ | ⟨m2, hm2, h1, h2⟩
    · have e1 : (mget ((0 : Int), s) n.next).getD (.pointer none) = .pointer none := by rw [h1]; rfl
      refine OthP.lookP (k := ((0 : Int), s)) (l := n.next) rfl tys_ok (objAt_mem (.tail _ (.tail _ (.tail _ (.head _))))) rfl rfl rfl (fun h => by cases h) rfl e1 ?_
      (conv => whnf); repeat ((first | refine tk1 ?_ | refine tk2 ?_ | refine tk3 ?_ | refine tk12 (fun _ => ?_) | refine tk4 ?_ | refine tk5 ?_ | refine tk6 ?_ | refine tk7 ?_ | refine tk8 ?_ | refine tk9 ?_ | refine tk10 (fun _ _ => ?_) | refine tk11 (fun _ => ?_) | refine tk13 ?_ | refine tk14 ?_); (conv => whnf))
      refine OthP.ptrEq tys_ok rfl rfl ?_
      (conv => whnf); repeat ((first | refine tk1 ?_ | refine tk2 ?_ | refine tk3 ?_ | refine tk12 (fun _ => ?_) | refine tk4 ?_ | refine tk5 ?_ | refine tk6 ?_ | refine tk7 ?_ | refine tk8 ?_ | refine tk9 ?_ | refine tk10 (fun _ _ => ?_) | refine tk11 (fun _ => ?_) | refine tk13 ?_ | refine tk14 ?_); (conv => whnf))
      refine DrawS.go [(0, true), (1, true), (2, true), (3, true), (4, true), (5, false), (6, false)] tys_ok mixed (by kernel_rfl) ?_
      (conv => whnf); repeat ((first | refine tk1 ?_ | refine tk2 ?_ | refine tk3 ?_ | refine tk12 (fun _ => ?_) | refine tk4 ?_ | refine tk5 ?_ | refine tk6 ?_ | refine tk7 ?_ | refine tk8 ?_ | refine tk9 ?_ | refine tk10 (fun _ _ => ?_) | refine tk11 (fun _ => ?_) | refine tk13 ?_ | refine tk14 ?_); (conv => whnf))
      refine CallK.fnT (rmade_f (gI := g) (n.c ++ [((0 : Int), s)])) (fun _ _ => trivial) ?_
      rintro ⟨zb, zp, zn⟩ _
      dsimp only [MkM.nd, Nd.hd, List.cons_append, List.nil_append]
      rw [List.append_nil]
      (conv => whnf); repeat ((first | refine tk1 ?_ | refine tk2 ?_ | refine tk3 ?_ | refine tk12 (fun _ => ?_) | refine tk4 ?_ | refine tk5 ?_ | refine tk6 ?_ | refine tk7 ?_ | refine tk8 ?_ | refine tk9 ?_ | refine tk10 (fun _ _ => ?_) | refine tk11 (fun _ => ?_) | refine tk13 ?_ | refine tk14 ?_); (conv => whnf))
      refine OthU.updP (k := ((0 : Int), s)) (l := n.next) (v := .pointer (some ⟨zb, 0, none⟩)) rfl tys_ok rfl rfl rfl rfl rfl ?_
      (conv => whnf); repeat ((first | refine tk1 ?_ | refine tk2 ?_ | refine tk3 ?_ | refine tk12 (fun _ => ?_) | refine tk4 ?_ | refine tk5 ?_ | refine tk6 ?_ | refine tk7 ?_ | refine tk8 ?_ | refine tk9 ?_ | refine tk10 (fun _ _ => ?_) | refine tk11 (fun _ => ?_) | refine tk13 ?_ | refine tk14 ?_); (conv => whnf))
      refine DrawS.go (qs 7) tys_ok mixed (by kernel_rfl) ?_
      (conv => whnf); repeat ((first | refine tk1 ?_ | refine tk2 ?_ | refine tk3 ?_ | refine tk12 (fun _ => ?_) | refine tk4 ?_ | refine tk5 ?_ | refine tk6 ?_ | refine tk7 ?_ | refine tk8 ?_ | refine tk9 ?_ | refine tk10 (fun _ _ => ?_) | refine tk11 (fun _ => ?_) | refine tk13 ?_ | refine tk14 ?_); (conv => whnf))
      have e2 : (mget ((0 : Int), s) (mput ((0 : Int), s) (.pointer (some ⟨zb, 0, none⟩)) n.next)).getD (.pointer none) = .pointer (some ⟨zb, 0, none⟩) := by rw [look_upd, if_pos rfl]; rfl
      refine OthP.lookP (k := ((0 : Int), s)) (l := mput ((0 : Int), s) (.pointer (some ⟨zb, 0, none⟩)) n.next) rfl tys_ok (objAt_mem (by simp)) rfl rfl rfl (fun h => by cases h) rfl e2 ?_
      (conv => whnf); repeat ((first | refine tk1 ?_ | refine tk2 ?_ | refine tk3 ?_ | refine tk12 (fun _ => ?_) | refine tk4 ?_ | refine tk5 ?_ | refine tk6 ?_ | refine tk7 ?_ | refine tk8 ?_ | refine tk9 ?_ | refine tk10 (fun _ _ => ?_) | refine tk11 (fun _ => ?_) | refine tk13 ?_ | refine tk14 ?_); (conv => whnf))
      have ht3 := tree_child ht2 ((0 : Int), s) h1 ⟨zb, zp, zn, n.c ++ [((0 : Int), s)], [], []⟩ rfl rfl rfl
      obtain ⟨q2, hq2, hq3, hq4⟩ := mem_repl (n' := { n with next := mput ((0 : Int), s) (.pointer (some ⟨zb, 0, none⟩)) n.next }) hq rfl rfl
      refine ⟨⟨j + 1, us ++ { n with next := mput ((0 : Int), s) (.pointer (some ⟨zb, 0, none⟩)) n.next } :: bs, [], ⟨zb, zp, zn, n.c ++ [((0 : Int), s)], [], []⟩⟩, ⟨by dsimp only; omega, ?_, ?_, q2, ?_, hq3.trans hqc, hq4.trans hqb⟩, rfl, fun w hw => ?_, by dsimp only; omega⟩
      · have e : us ++ { n with next := mput ((0 : Int), s) (.pointer (some ⟨zb, 0, none⟩)) n.next } :: (bs ++ [(⟨zb, zp, zn, n.c ++ [((0 : Int), s)], [], []⟩ : Nd)]) = (us ++ { n with next := mput ((0 : Int), s) (.pointer (some ⟨zb, 0, none⟩)) n.next } :: bs) ++ [⟨zb, zp, zn, n.c ++ [((0 : Int), s)], [], []⟩] := by simp
        dsimp only
        rw [← e]
        exact ht3
      · dsimp only
        rw [hc, htk]
      · dsimp only
        exact List.mem_append_left _ hq2
      · dsimp only
        rw [List.append_nil]
        have h1 : St _ ([.box zb [.map (some zp), .map (some zn)] 78, .obj zp (mobj str []), .obj zn (mobj plkV [])] ++ (({ n with next := mput ((0 : Int), s) (.pointer (some ⟨zb, 0, none⟩)) n.next } : Nd).hd ++ (X ++ nodesH (us ++ bs)))) w := hw.sub (by
          refine .cons_cons _ (.cons_cons _ (.cons_cons _ (.cons _ (List.Sublist.refl _))))
        )
        exact h1.perm (List.Perm.append_left _ nodes_back)
    · have e1 : (mget ((0 : Int), s) n.next).getD (.pointer none) = .pointer (some ⟨m2.b, 0, none⟩) := by rw [h2]; rfl
      refine OthP.lookP (k := ((0 : Int), s)) (l := n.next) rfl tys_ok (objAt_mem (.tail _ (.tail _ (.tail _ (.head _))))) rfl rfl rfl (fun h => by cases h) rfl e1 ?_
      (conv => whnf); repeat ((first | refine tk1 ?_ | refine tk2 ?_ | refine tk3 ?_ | refine tk12 (fun _ => ?_) | refine tk4 ?_ | refine tk5 ?_ | refine tk6 ?_ | refine tk7 ?_ | refine tk8 ?_ | refine tk9 ?_ | refine tk10 (fun _ _ => ?_) | refine tk11 (fun _ => ?_) | refine tk13 ?_ | refine tk14 ?_); (conv => whnf))
      refine OthP.ptrEq tys_ok rfl rfl ?_
      (conv => whnf); repeat ((first | refine tk1 ?_ | refine tk2 ?_ | refine tk3 ?_ | refine tk12 (fun _ => ?_) | refine tk4 ?_ | refine tk5 ?_ | refine tk6 ?_ | refine tk7 ?_ | refine tk8 ?_ | refine tk9 ?_ | refine tk10 (fun _ _ => ?_) | refine tk11 (fun _ => ?_) | refine tk13 ?_ | refine tk14 ?_); (conv => whnf))
      refine DrawS.go (qs 7) tys_ok mixed (by kernel_rfl) ?_
      (conv => whnf); repeat ((first | refine tk1 ?_ | refine tk2 ?_ | refine tk3 ?_ | refine tk12 (fun _ => ?_) | refine tk4 ?_ | refine tk5 ?_ | refine tk6 ?_ | refine tk7 ?_ | refine tk8 ?_ | refine tk9 ?_ | refine tk10 (fun _ _ => ?_) | refine tk11 (fun _ => ?_) | refine tk13 ?_ | refine tk14 ?_); (conv => whnf))
      refine OthP.lookP (k := ((0 : Int), s)) (l := n.next) rfl tys_ok (objAt_mem (.tail _ (.tail _ (.tail _ (.head _))))) rfl rfl rfl (fun h => by cases h) rfl e1 ?_
      (conv => whnf); repeat ((first | refine tk1 ?_ | refine tk2 ?_ | refine tk3 ?_ | refine tk12 (fun _ => ?_) | refine tk4 ?_ | refine tk5 ?_ | refine tk6 ?_ | refine tk7 ?_ | refine tk8 ?_ | refine tk9 ?_ | refine tk10 (fun _ _ => ?_) | refine tk11 (fun _ => ?_) | refine tk13 ?_ | refine tk14 ?_); (conv => whnf))
      obtain ⟨us2, bs2, e2, hp2⟩ := nodes_focus (X := X) hm2
      refine ⟨⟨j + 1, us2, bs2, m2⟩, ⟨by dsimp only; omega, by dsimp only; rw [← e2]; exact ht2, ?_, q, by dsimp only; rw [← e2]; exact hq, hqc, hqb⟩, rfl, fun w hw => ?_, by dsimp only; omega⟩
      · dsimp only
        rw [h1, hc, htk]
      · have h3 : St _ (n.hd ++ (X ++ nodesH (us ++ bs))) w := hw.sub (List.sublist_cons_self _ _)
        exact (h3.perm nodes_back).perm hp2
  · as_aux_lemma =>
    rw [show keyP (a, s) = (a, []) from if_neg ha] at htk
    (conv => whnf); repeat ((first | refine tk1 ?_ | refine tk2 ?_ | refine tk3 ?_ | refine tk12 (fun _ => ?_) | refine tk4 ?_ | refine tk5 ?_ | refine tk6 ?_ | refine tk7 ?_ | refine tk8 ?_ | refine tk9 ?_ | refine tk10 (fun _ _ => ?_) | refine tk11 (fun _ => ?_) | refine tk13 ?_ | refine tk14 ?_); (conv => whnf))
    refine IdxA.tc (xs := plcCells l) (by rw [plcCells_length]; omega) (by omega) (by omega) ?_
    (conv => whnf); repeat ((first | refine tk1 ?_ | refine tk2 ?_ | refine tk3 ?_ | refine tk12 (fun _ => ?_) | refine tk4 ?_ | refine tk5 ?_ | refine tk6 ?_ | refine tk7 ?_ | refine tk8 ?_ | refine tk9 ?_ | refine tk10 (fun _ _ => ?_) | refine tk11 (fun _ => ?_) | refine tk13 ?_ | refine tk14 ?_); (conv => whnf))
    refine Ld.taN (xs := plcCells l) (vs := [.int .i64 a, str s]) (by rw [Int.toNat_natCast]; exact hcell) rfl ?_
    (conv => whnf); repeat ((first | refine tk1 ?_ | refine tk2 ?_ | refine tk3 ?_ | refine tk12 (fun _ => ?_) | refine tk4 ?_ | refine tk5 ?_ | refine tk6 ?_ | refine tk7 ?_ | refine tk8 ?_ | refine tk9 ?_ | refine tk10 (fun _ _ => ?_) | refine tk11 (fun _ => ?_) | refine tk13 ?_ | refine tk14 ?_); (conv => whnf))
    rename_i b8
    refine DrawS.go (qs 7) tys_ok mixed (by kernel_rfl) ?_
    (conv => whnf); repeat ((first | refine tk1 ?_ | refine tk2 ?_ | refine tk3 ?_ | refine tk12 (fun _ => ?_) | refine tk4 ?_ | refine tk5 ?_ | refine tk6 ?_ | refine tk7 ?_ | refine tk8 ?_ | refine tk9 ?_ | refine tk10 (fun _ _ => ?_) | refine tk11 (fun _ => ?_) | refine tk13 ?_ | refine tk14 ?_); (conv => whnf))
    rcases ht2.next n hn (a, ([] : List UInt8)) with ⟨h1, h2⟩ | ⟨m2, hm2, h1, h2⟩
    · have e1 : (mget (a, ([] : List UInt8)) n.next).getD (.pointer none) = .pointer none := by rw [h1]; rfl
      refine OthP.lookP (k := (a, ([] : List UInt8))) (l := n.next) rfl tys_ok (objAt_mem (.tail _ (.tail _ (.tail _ (.head _))))) rfl rfl rfl (fun h => by cases h) rfl e1 ?_
      (conv => whnf); repeat ((first | refine tk1 ?_ | refine tk2 ?_ | refine tk3 ?_ | refine tk12 (fun _ => ?_) | refine tk4 ?_ | refine tk5 ?_ | refine tk6 ?_ | refine tk7 ?_ | refine tk8 ?_ | refine tk9 ?_ | refine tk10 (fun _ _ => ?_) | refine tk11 (fun _ => ?_) | refine tk13 ?_ | refine tk14 ?_); (conv => whnf))
      refine OthP.ptrEq tys_ok rfl rfl ?_
      (conv => whnf); repeat ((first | refine tk1 ?_ | refine tk2 ?_ | refine tk3 ?_ | refine tk12 (fun _ => ?_) | refine tk4 ?_ | refine tk5 ?_ | refine tk6 ?_ | refine tk7 ?_ | refine tk8 ?_ | refine tk9 ?_ | refine tk10 (fun _ _ => ?_) | refine tk11 (fun _ => ?_) | refine tk13 ?_ | refine tk14 ?_); (conv => whnf))
      refine DrawS.go [(0, true), (1, true), (2, true), (3, true), (4, true), (5, false), (6, false)] tys_ok mixed (by kernel_rfl) ?_
      (conv => whnf); repeat ((first | refine tk1 ?_ | refine tk2 ?_ | refine tk3 ?_ | refine tk12 (fun _ => ?_) | refine tk4 ?_ | refine tk5 ?_ | refine tk6 ?_ | refine tk7 ?_ | refine tk8 ?_ | refine tk9 ?_ | refine tk10 (fun _ _ => ?_) | refine tk11 (fun _ => ?_) | refine tk13 ?_ | refine tk14 ?_); (conv => whnf))
      refine CallK.fnT (rmade_f (gI := g) (n.c ++ [(a, ([] : List UInt8))])) (fun _ _ => trivial) ?_
      rintro ⟨zb, zp, zn⟩ _
      dsimp only [MkM.nd, Nd.hd, List.cons_append, List.nil_append]
      rw [List.append_nil]
      (conv => whnf); repeat ((first | refine tk1 ?_ | refine tk2 ?_ | refine tk3 ?_ | refine tk12 (fun _ => ?_) | refine tk4 ?_ | refine tk5 ?_ | refine tk6 ?_ | refine tk7 ?_ | refine tk8 ?_ | refine tk9 ?_ | refine tk10 (fun _ _ => ?_) | refine tk11 (fun _ => ?_) | refine tk13 ?_ | refine tk14 ?_); (conv => whnf))
      refine OthU.updP (k := (a, ([] : List UInt8))) (l := n.next) (v := .pointer (some ⟨zb, 0, none⟩)) rfl tys_ok rfl rfl rfl rfl rfl ?_
      (conv => whnf); repeat ((first | refine tk1 ?_ | refine tk2 ?_ | refine tk3 ?_ | refine tk12 (fun _ => ?_) | refine tk4 ?_ | refine tk5 ?_ | refine tk6 ?_ | refine tk7 ?_ | refine tk8 ?_ | refine tk9 ?_ | refine tk10 (fun _ _ => ?_) | refine tk11 (fun _ => ?_) | refine tk13 ?_ | refine tk14 ?_); (conv => whnf))
      refine DrawS.go (qs 7) tys_ok mixed (by kernel_rfl) ?_
      (conv => whnf); repeat ((first | refine tk1 ?_ | refine tk2 ?_ | refine tk3 ?_ | refine tk12 (fun _ => ?_) | refine tk4 ?_ | refine tk5 ?_ | refine tk6 ?_ | refine tk7 ?_ | refine tk8 ?_ | refine tk9 ?_ | refine tk10 (fun _ _ => ?_) | refine tk11 (fun _ => ?_) | refine tk13 ?_ | refine tk14 ?_); (conv => whnf))
      have e2 : (mget (a, ([] : List UInt8)) (mput (a, ([] : List UInt8)) (.pointer (some ⟨zb, 0, none⟩)) n.next)).getD (.pointer none) = .pointer (some ⟨zb, 0, none⟩) := by rw [look_upd, if_pos rfl]; rfl
      refine OthP.lookP (k := (a, ([] : List UInt8))) (l := mput (a, ([] : List UInt8)) (.pointer (some ⟨zb, 0, none⟩)) n.next) rfl tys_ok (objAt_mem (by simp)) rfl rfl rfl (fun h => by cases h) rfl e2 ?_
      (conv => whnf); repeat ((first | refine tk1 ?_ | refine tk2 ?_ | refine tk3 ?_ | refine tk12 (fun _ => ?_) | refine tk4 ?_ | refine tk5 ?_ | refine tk6 ?_ | refine tk7 ?_ | refine tk8 ?_ | refine tk9 ?_ | refine tk10 (fun _ _ => ?_) | refine tk11 (fun _ => ?_) | refine tk13 ?_ | refine tk14 ?_); (conv => whnf))
      have ht3 := tree_child ht2 (a, ([] : List UInt8)) h1 ⟨zb, zp, zn, n.c ++ [(a, ([] : List UInt8))], [], []⟩ rfl rfl rfl
      obtain ⟨q2, hq2, hq3, hq4⟩ := mem_repl (n' := { n with next := mput (a, ([] : List UInt8)) (.pointer (some ⟨zb, 0, none⟩)) n.next }) hq rfl rfl
      refine ⟨⟨j + 1, us ++ { n with next := mput (a, ([] : List UInt8)) (.pointer (some ⟨zb, 0, none⟩)) n.next } :: bs, [], ⟨zb, zp, zn, n.c ++ [(a, ([] : List UInt8))], [], []⟩⟩, ⟨by dsimp only; omega, ?_, ?_, q2, ?_, hq3.trans hqc, hq4.trans hqb⟩, rfl, fun w hw => ?_, by dsimp only; omega⟩
      · have e : us ++ { n with next := mput (a, ([] : List UInt8)) (.pointer (some ⟨zb, 0, none⟩)) n.next } :: (bs ++ [(⟨zb, zp, zn, n.c ++ [(a, ([] : List UInt8))], [], []⟩ : Nd)]) = (us ++ { n with next := mput (a, ([] : List UInt8)) (.pointer (some ⟨zb, 0, none⟩)) n.next } :: bs) ++ [⟨zb, zp, zn, n.c ++ [(a, ([] : List UInt8))], [], []⟩] := by simp
        dsimp only
        rw [← e]
        exact ht3
      · dsimp only
        rw [hc, htk]
      · dsimp only
        exact List.mem_append_left _ hq2
      · dsimp only
        rw [List.append_nil]
        have h1 : St _ ([.box zb [.map (some zp), .map (some zn)] 78, .obj zp (mobj str []), .obj zn (mobj plkV [])] ++ (({ n with next := mput (a, ([] : List UInt8)) (.pointer (some ⟨zb, 0, none⟩)) n.next } : Nd).hd ++ (X ++ nodesH (us ++ bs)))) w := hw.sub (by
          refine .cons_cons _ (.cons_cons _ (.cons_cons _ (.cons _ (List.Sublist.refl _))))
        )
        exact h1.perm (List.Perm.append_left _ nodes_back)
    · have e1 : (mget (a, ([] : List UInt8)) n.next).getD (.pointer none) = .pointer (some ⟨m2.b, 0, none⟩) := by rw [h2]; rfl
      refine OthP.lookP (k := (a, ([] : List UInt8))) (l := n.next) rfl tys_ok (objAt_mem (.tail _ (.tail _ (.tail _ (.head _))))) rfl rfl rfl (fun h => by cases h) rfl e1 ?_
      (conv => whnf); repeat ((first | refine tk1 ?_ | refine tk2 ?_ | refine tk3 ?_ | refine tk12 (fun _ => ?_) | refine tk4 ?_ | refine tk5 ?_ | refine tk6 ?_ | refine tk7 ?_ | refine tk8 ?_ | refine tk9 ?_ | refine tk10 (fun _ _ => ?_) | refine tk11 (fun _ => ?_) | refine tk13 ?_ | refine tk14 ?_); (conv => whnf))
      refine OthP.ptrEq tys_ok rfl rfl ?_
      (conv => whnf); repeat ((first | refine tk1 ?_ | refine tk2 ?_ | refine tk3 ?_ | refine tk12 (fun _ => ?_) | refine tk4 ?_ | refine tk5 ?_ | refine tk6 ?_ | refine tk7 ?_ | refine tk8 ?_ | refine tk9 ?_ | refine tk10 (fun _ _ => ?_) | refine tk11 (fun _ => ?_) | refine tk13 ?_ | refine tk14 ?_); (conv => whnf))
      refine DrawS.go (qs 7) tys_ok mixed (by kernel_rfl) ?_
      (conv => whnf); repeat ((first | refine tk1 ?_ | refine tk2 ?_ | refine tk3 ?_ | refine tk12 (fun _ => ?_) | refine tk4 ?_ | refine tk5 ?_ | refine tk6 ?_ | refine tk7 ?_ | refine tk8 ?_ | refine tk9 ?_ | refine tk10 (fun _ _ => ?_) | refine tk11 (fun _ => ?_) | refine tk13 ?_ | refine tk14 ?_); (conv => whnf))
      refine OthP.lookP (k := (a, ([] : List UInt8))) (l := n.next) rfl tys_ok (objAt_mem (.tail _ (.tail _ (.tail _ (.head _))))) rfl rfl rfl (fun h => by cases h) rfl e1 ?_
      (conv => whnf); repeat ((first | refine tk1 ?_ | refine tk2 ?_ | refine tk3 ?_ | refine tk12 (fun _ => ?_) | refine tk4 ?_ | refine tk5 ?_ | refine tk6 ?_ | refine tk7 ?_ | refine tk8 ?_ | refine tk9 ?_ | refine tk10 (fun _ _ => ?_) | refine tk11 (fun _ => ?_) | refine tk13 ?_ | refine tk14 ?_); (conv => whnf))
      obtain ⟨us2, bs2, e2, hp2⟩ := nodes_focus (X := X) hm2
      refine ⟨⟨j + 1, us2, bs2, m2⟩, ⟨by dsimp only; omega, by dsimp only; rw [← e2]; exact ht2, ?_, q, by dsimp only; rw [← e2]; exact hq, hqc, hqb⟩, rfl, fun w hw => ?_, by dsimp only; omega⟩
      · dsimp only
        rw [h1, hc, htk]
      · have h3 : St _ (n.hd ++ (X ++ nodesH (us ++ bs))) w := hw.sub (List.sublist_cons_self _ _)
        exact (h3.perm nodes_back).perm hp2
end Go.Proofs.YtnaeeklnlddcaaaGreatDoor.Vex
/- Pages and what they answer, as plain functions. No program in sight. -/
namespace Go.Proofs.YtnaeeklnlddcaaaGreatDoor.Vex

/-- A piece: its kind, its text, how many times, and whether it has a flush. -/
structure Pce where
  k : UInt8
  t : List UInt8
  m : Int
  f : Bool
def clN : List UInt8 := [99, 111, 110, 116, 101, 110, 116, 45, 108, 101, 110, 103, 116, 104]
def teN : List UInt8 := [116, 114, 97, 110, 115, 102, 101, 114, 45, 101, 110, 99, 111, 100, 105, 110, 103]
def coN : List UInt8 := [99, 111, 110, 110, 101, 99, 116, 105, 111, 110]
def ceN : List UInt8 := [99, 111, 110, 116, 101, 110, 116, 45, 101, 110, 99, 111, 100, 105, 110, 103]
def etN : List UInt8 := [101, 116, 97, 103]
def ownL : List (List UInt8) := [clN, teN, coN, ceN, etN]
def pieceOK (x : Pce) : Bool :=
  if x.k.toNat = 1 then decide (x.t.length ≤ 1000) && (decide (0 ≤ x.m) && decide (x.m ≤ 100))
  else if x.k.toNat = 2 then decide (x.t.length ≤ 1000) && decide (x.m = 0)
  else (decide (x.k.toNat = 3) || decide (x.k.toNat = 4)) && (decide (x.t = []) && decide (x.m = 0))
def fldOK (f : Fld) : Bool := fieldOK f.1 f.2 && !ownL.contains f.1
/-- The status, the number of pieces, the tag. -/
def statOK (st : Int) (n : Nat) : Bool := decide (200 ≤ st) && (decide (st ≤ 599) && (!decide (st = 304) && (decide (n ≤ 16) && (!decide (st = 204) || decide (n = 0)))))
def tagOK (tag : List UInt8) : Bool := decide (tag = []) || mayB tag
def pageOK (st : Int) (tag : List UInt8) (fs : List Fld) (ps : List Pce) : Bool := statOK st ps.length && (fs.all fldOK && (tagOK tag && ps.all pieceOK))
def pageE (st : Int) (tag : List UInt8) (fs : List Fld) (ps : List Pce) : Int := if pageOK st tag fs ps then 0 else 8
/-- n times a text. -/
def times : Nat → List UInt8 → List UInt8
  | 0, _ => []
  | n + 1, s => times n s ++ s
theorem times_length (s : List UInt8) : ∀ n, (times n s).length = n * s.length
  | 0 => by simp [times]
  | n + 1 => by rw [times, List.length_append, times_length s n, Nat.succ_mul]
def valueAt (s : List UInt8) : List Fld → List UInt8
  | [] => []
  | p :: r => if p.1 = s then p.2 else valueAt s r
/-- What a piece tells. -/
def tells (x : Pce) (body query : List UInt8) (pm : List Fld) : List UInt8 :=
  if x.k.toNat = 1 then times x.m.toNat x.t else if x.k.toNat = 2 then valueAt x.t pm else if x.k.toNat = 3 then body else query
abbrev Prs := List (List UInt8 × Bool)
/-- A part behind the others, if it has bytes. -/
def close1 (o : List UInt8) (f : Bool) (d : Prs) : Prs := if o = [] then d else d ++ [(o, f)]
/-- A piece more: the open part, and those ahead of it. -/
def stepG (q : List UInt8 × Prs) (x : List UInt8 × Bool) : List UInt8 × Prs := if x.2 then ([], close1 (q.1 ++ x.1) true q.2) else (q.1 ++ x.1, q.2)
def stG (l : Prs) : List UInt8 × Prs := l.foldl stepG ([], [])
def partsG (l : Prs) : Prs := close1 (stG l).1 false (stG l).2
def total : Prs → Nat
  | [] => 0
  | p :: r => p.1.length + total r
def bodyOf (l : Prs) : List UInt8 := l.flatMap (·.1)
theorem stG_snoc (l : Prs) (x : List UInt8 × Bool) : stG (l ++ [x]) = stepG (stG l) x := by unfold stG; rw [List.foldl_append]; rfl
theorem total_append : ∀ a b : Prs, total (a ++ b) = total a + total b
  | [], b => by simp [total]
  | p :: a, b => by rw [List.cons_append, total, total, total_append a b, Nat.add_assoc]
theorem total_snoc (a : Prs) (x : List UInt8 × Bool) : total (a ++ [x]) = total a + x.1.length := by rw [total_append]; simp [total]
theorem total_take (l : Prs) (k : Nat) : total (l.take k) ≤ total l := by
  have h := total_append (l.take k) (l.drop k)
  rw [List.take_append_drop] at h
  omega
theorem total_bodyOf : ∀ l : Prs, (bodyOf l).length = total l
  | [] => rfl
  | p :: r => by unfold bodyOf; rw [List.flatMap_cons, List.length_append, total]; exact congrArg _ (total_bodyOf r)
theorem bodyOf_snoc (l : Prs) (x : List UInt8 × Bool) : bodyOf (l ++ [x]) = bodyOf l ++ x.1 := by unfold bodyOf; rw [List.flatMap_append]; simp
theorem bodyOf_close (o : List UInt8) (f : Bool) (d : Prs) : bodyOf (close1 o f d) = bodyOf d ++ o := by
  unfold close1
  by_cases h : o = []
  · rw [if_pos h, h, List.append_nil]
  · rw [if_neg h, bodyOf_snoc]
theorem snoc_ind {α : Type} {p : List α → Prop} (h0 : p []) (h1 : ∀ l x, p l → p (l ++ [x])) (l : List α) : p l := by
  have key : ∀ r : List α, p r.reverse := fun r => by
    induction r with
    | nil => exact h0
    | cons x r ih => rw [List.reverse_cons]; exact h1 _ _ ih
  have := key l.reverse
  rwa [List.reverse_reverse] at this
theorem bodyOf_stG (l : Prs) : bodyOf (stG l).2 ++ (stG l).1 = bodyOf l := by
  refine snoc_ind (p := fun l => bodyOf (stG l).2 ++ (stG l).1 = bodyOf l) rfl (fun l x ih => ?_) l
  rw [stG_snoc, bodyOf_snoc, ← ih]
  unfold stepG
  split
  · rw [bodyOf_close, List.append_nil, List.append_assoc]
  · rw [List.append_assoc]
/-- The body is what all pieces tell. -/
theorem bodyOf_parts (l : Prs) : bodyOf (partsG l) = bodyOf l := by
  unfold partsG
  rw [bodyOf_close]
  exact bodyOf_stG l
theorem total_stG (l : Prs) : total (stG l).2 + (stG l).1.length = total l := by
  rw [← total_bodyOf, ← total_bodyOf, ← bodyOf_stG l, List.length_append]
/-- Parts that are closed have a flush, and bytes. -/
theorem whole_stG (l : Prs) : ∀ p ∈ (stG l).2, p.1 ≠ [] ∧ p.2 = true := by
  refine snoc_ind (p := fun l => ∀ p ∈ (stG l).2, p.1 ≠ [] ∧ p.2 = true) (fun p h => by cases h) (fun l x ih => ?_) l
  rw [stG_snoc]
  unfold stepG close1
  split
  · dsimp only
    split
    · exact ih
    · rename_i h
      intro p hp
      rcases List.mem_append.1 hp with hp | hp
      · exact ih p hp
      · rw [List.mem_singleton.1 hp]; exact ⟨h, rfl⟩
  · exact ih
theorem length_le_total : ∀ (d : Prs), (∀ p ∈ d, p.1 ≠ []) → d.length ≤ total d
  | [], _ => Nat.le_refl _
  | p :: r, h => by
    have h1 := List.length_pos_iff.2 (h p (by simp))
    have ih := length_le_total r fun q hq => h q (by simp [hq])
    rw [total, List.length_cons]
    omega
theorem stG_length (l : Prs) : (stG l).2.length ≤ l.length := by
  refine snoc_ind (p := fun l => (stG l).2.length ≤ l.length) (Nat.le_refl _) (fun l x ih => ?_) l
  rw [stG_snoc, List.length_append]
  unfold stepG close1
  split
  · dsimp only
    split
    · exact Nat.le_trans ih (by simp)
    · simp; exact ih
  · exact Nat.le_trans ih (by simp)
/-- The most that pieces tell. -/
theorem tells_le (x : Pce) (body query : List UInt8) (pm : List Fld) (h : pieceOK x = true) (n : Nat) (hb : body.length ≤ n) (hq : query.length ≤ n) (hp : ∀ p ∈ pm, p.2.length ≤ n) (hn : 100000 ≤ n) : (tells x body query pm).length ≤ n := by
  unfold tells
  unfold pieceOK at h
  split
  · rename_i h1
    rw [if_pos h1] at h
    simp only [Bool.and_eq_true, decide_eq_true_eq] at h
    rw [times_length]
    have h2 : x.m.toNat ≤ 100 := by omega
    exact Nat.le_trans (Nat.mul_le_mul h2 h.1) hn
  · split
    · have key : ∀ l : List Fld, (∀ p ∈ l, p.2.length ≤ n) → (valueAt x.t l).length ≤ n := fun l => by
        induction l with
        | nil => intro _; simp [valueAt]
        | cons p r ih =>
          intro hl
          unfold valueAt
          split
          · exact hl p (by simp)
          · exact ih fun q hq => hl q (by simp [hq])
      exact key pm hp
    · split
      · exact hb
      · exact hq
/-- What pieces tell, each with its flush. -/
def told (body query : List UInt8) (pm : List Fld) (ps : List Pce) : Prs := ps.map fun x => (tells x body query pm, x.f)
/-- An answer. -/
structure Ans where
  st : Int
  fs : List Fld
  ps : Prs
  tag : List UInt8
  press : Bool
def ans0 : Ans := ⟨0, [], [], [], false⟩
def ansF (tag : List UInt8) (fs : List Fld) : List Fld := if tag = [] then fs else fs ++ [(etN, [34] ++ tag ++ [34])]
/-- What a page answers that may be, and is not too long. -/
def ansOf (st : Int) (fs : List Fld) (tag : List UInt8) (press : Bool) (tl : Prs) : Ans := ⟨st, ansF tag fs, partsG tl, tag, press && !decide (st = 204)⟩
def answerOf (st : Int) (fs : List Fld) (tag : List UInt8) (press : Bool) (ps : List Pce) (body query : List UInt8) (pm : List Fld) : Ans × Int :=
  if pageOK st tag fs ps then
    if total (told body query pm ps) ≤ 131072 then (ansOf st fs tag press (told body query pm ps), 0) else (ans0, 9)
  else (ans0, 8)
end Go.Proofs.YtnaeeklnlddcaaaGreatDoor.Vex
/- Arguments that are pages. -/
namespace Go.Proofs.YtnaeeklnlddcaaaGreatDoor.Vex
open Go Go.RowKit Go.ChangeShapes Go.WideShapes Go.Deep
set_option maxRecDepth 100000

/-- The cells of a list of pieces. -/
def pccells : List Pce → List Value
  | [] => []
  | p :: r => .int .u8 p.k.toNat :: str p.t :: .int .i64 p.m :: .bool p.f :: pccells r
theorem pccells_length : ∀ l : List Pce, (pccells l).length = l.length * 4
  | [] => rfl
  | _ :: r => by simp only [pccells, List.length_cons, pccells_length r]; omega
theorem pccells_at : ∀ (l : List Pce) (k : Nat) (h : k < l.length), ((pccells l).drop (k * 4)).take 4 = [.int .u8 l[k].k.toNat, str l[k].t, .int .i64 l[k].m, .bool l[k].f] ∧
    (pccells l)[k * 4 + 0]? = some (.int .u8 l[k].k.toNat) ∧ (pccells l)[k * 4 + 1]? = some (str l[k].t) ∧ (pccells l)[k * 4 + 2]? = some (.int .i64 l[k].m) ∧ (pccells l)[k * 4 + 3]? = some (.bool l[k].f)
  | p :: r, 0, _ => ⟨rfl, rfl, rfl, rfl, rfl⟩
  | p :: r, k + 1, h => by
    have ih := pccells_at r k (by simpa using h)
    rw [show (k + 1) * 4 = k * 4 + 1 + 1 + 1 + 1 by omega]
    simp only [pccells, List.drop_succ_cons, List.getElem_cons_succ]
    refine ⟨ih.1, ?_, ?_, ?_, ?_⟩
    · exact ih.2.1
    · exact ih.2.2.1
    · exact ih.2.2.2.1
    · exact ih.2.2.2.2
theorem flat_pieces (l : List Pce) : l.flatMap (fun p => [byteV p.k, str p.t, .int .i64 p.m, .bool p.f]) = pccells l := by
  induction l with
  | nil => rfl
  | cons a r ih => rw [List.flatMap_cons, ih]; rfl
abbrev pceShape : Shape := ⟨Pce, 4, fun p => [byteV p.k, str p.t, .int .i64 p.m, .bool p.f], fun _ p => p.t.length ≤ 9223372036854775807 ∧ -9223372036854775808 ≤ p.m ∧ p.m ≤ 9223372036854775807, fun p => p.t.length + 4⟩
theorem opens_piece : Opens Tryz.prog 279 pceShape := by
  have h := opens_struct Tryz.underlying279 (by kernel_rfl) (opensL_cons rfl opens_u8 (opensL_cons rfl opens_string (opensL_cons rfl opens_i64 (opensL_cons rfl opens_tf (opensL_nil _)))))
  exact opens_map h (fun x => Pce.mk x.1 x.2.1 x.2.2.1 x.2.2.2.1) rfl (fun _ _ _ => rfl) (fun _ _ h => ⟨h.2.1, h.2.2.1⟩) (fun _ _ _ => by dsimp only; omega)
abbrev piecesShape : Shape := sliceShape pceShape
theorem opens_pieces : Opens Tryz.prog 31 piecesShape := opens_slice Tryz.underlying31 (by kernel_rfl) opens_piece
/-- A page that came in. -/
structure Pg where
  m : List UInt8
  p : List UInt8
  st : Int
  F : Sl Fld
  tag : List UInt8
  press : Bool
  Ps : Sl Pce
def Pg.cells (x : Pg) : List Value := [str x.m, str x.p, .int .i64 x.st, .slice x.F.A x.F.l.length x.F.cp, str x.tag, .bool x.press, .slice x.Ps.A x.Ps.l.length x.Ps.cp]
abbrev pageShape : Shape := ⟨Pg, 7, Pg.cells, fun w x => (-9223372036854775808 ≤ x.st ∧ x.st ≤ 9223372036854775807) ∧ fieldsShape.ok w x.F ∧ piecesShape.ok w x.Ps ∧ x.m.length ≤ 9223372036854775807 ∧ x.p.length ≤ 9223372036854775807 ∧ x.tag.length ≤ 9223372036854775807,
  fun x => x.m.length + x.p.length + x.tag.length + fieldsShape.wt x.F + piecesShape.wt x.Ps⟩
theorem opens_page : Opens Tryz.prog 33 pageShape := by
  have h := opens_struct Tryz.underlying33 (by kernel_rfl) (opensL_cons rfl opens_string (opensL_cons rfl opens_string (opensL_cons rfl opens_i64 (opensL_cons rfl opens_fields (opensL_cons rfl opens_string (opensL_cons rfl opens_tf (opensL_cons rfl opens_pieces (opensL_nil _))))))))
  exact opens_map h (fun x => Pg.mk x.1 x.2.1 x.2.2.1 x.2.2.2.1 x.2.2.2.2.1 x.2.2.2.2.2.1 x.2.2.2.2.2.2.1) rfl (fun _ _ _ => rfl) (fun _ _ h => ⟨h.2.2.1, h.2.2.2.1, h.2.2.2.2.2.2.1, h.1, h.2.1, h.2.2.2.2.1⟩) (fun _ _ _ => by dsimp only; omega)
theorem rd_pieces {W : World} {x : Sl Pce} (h : piecesShape.ok W x) : Rdw W x.A (pccells x.l) := flat_pieces x.l ▸ h.2.1
/-- What a bound on the whole gives. -/
theorem sum_mem {α : Type} (f : α → Nat) : ∀ (l : List α) (x : α), x ∈ l → f x ≤ (l.map f).sum
  | y :: r, x, h => by
    simp only [List.map_cons, List.sum_cons]
    rcases List.mem_cons.1 h with rfl | h
    · omega
    · have := sum_mem f r x h; omega
theorem sum_len {α : Type} (f : α → Nat) (h1 : ∀ x, 1 ≤ f x) : ∀ (l : List α), l.length ≤ (l.map f).sum
  | [] => Nat.le_refl _
  | y :: r => by
    simp only [List.map_cons, List.sum_cons, List.length_cons]
    have := sum_len f h1 r
    have := h1 y
    omega
/-- A page, a request and parameters that are not beyond every machine. -/
structure Fit (x : Pg) (r : Req) (pm : Sl Fld) : Prop where
  st : -9223372036854775808 ≤ x.st ∧ x.st ≤ 9223372036854775807
  tag : x.tag.length ≤ 1048576
  fs : fsum x.F.l ≤ 1048576
  np : x.Ps.l.length ≤ 1048576
  pt : ∀ p ∈ x.Ps.l, p.t.length ≤ 1048576 ∧ -9223372036854775808 ≤ p.m ∧ p.m ≤ 9223372036854775807
  body : r.B.l.length ≤ 1048576
  query : r.q.length ≤ 1048576
  pm : fsum pm.l ≤ 1048576
theorem fit_of {W : World} {x : Pg} {r : Req} {pm : Sl Fld} {n : Nat} (hx : pageShape.ok W x) (hr : reqShape.ok W r) (_hp : fieldsShape.ok W pm) (hn : pageShape.wt x + (reqShape.wt r + (fieldsShape.wt pm + n)) ≤ 1048576) : Fit x r pm := by
  have h1 : fsum x.F.l ≤ fieldsShape.wt x.F := Nat.le_succ _
  have h2 : fsum pm.l ≤ fieldsShape.wt pm := Nat.le_succ _
  have h3 : pageShape.wt x = x.m.length + x.p.length + x.tag.length + fieldsShape.wt x.F + piecesShape.wt x.Ps := rfl
  have h4 : reqShape.wt r = r.m.length + r.p.length + r.q.length + fieldsShape.wt r.F + bytesShape.wt r.B := rfl
  have h5 : bytesShape.wt r.B = (r.B.l.map fun _ => 1).sum + 1 := rfl
  have h6 : piecesShape.wt x.Ps = (x.Ps.l.map fun p => p.t.length + 4).sum + 1 := rfl
  have h7 := sum_len (fun _ : UInt8 => 1) (fun _ => Nat.le_refl _) r.B.l
  have h8 := sum_len (fun p : Pce => p.t.length + 4) (fun _ => by omega) x.Ps.l
  refine ⟨hx.1, by omega, by omega, by omega, fun p hp => ?_, by omega, by omega, by omega⟩
  have h9 := sum_mem (fun p : Pce => p.t.length + 4) x.Ps.l p hp
  exact ⟨by omega, (hx.2.2.1.2.2 p hp).2⟩
end Go.Proofs.YtnaeeklnlddcaaaGreatDoor.Vex
/- The tree of pages, grown. -/
namespace Go.Proofs.YtnaeeklnlddcaaaGreatDoor.Vex
open Go Go.RowKit
set_option maxRecDepth 100000
set_option linter.unusedSectionVars false
set_option linter.unusedSectionVars false
variable {gI : GI} [HasMax gI] [HasErr gI]

def pgCells (l : List Pg) : List Value := l.flatMap Pg.cells
abbrev pgV (x : Pg) : List Value := [str x.m, str x.p, .int .i64 x.st, .slice x.F.A x.F.l.length x.F.cp, str x.tag, .bool x.press, .slice x.Ps.A x.Ps.l.length x.Ps.cp]
theorem pgCells_length : ∀ l : List Pg, (pgCells l).length = l.length * 7
  | [] => rfl
  | x :: r => by
    have ih := pgCells_length r
    unfold pgCells at *
    rw [List.flatMap_cons, List.length_append, ih, List.length_cons, show x.cells.length = 7 from rfl]
    omega
theorem pgCells_at : ∀ (l : List Pg) (k : Nat) (h : k < l.length), ((pgCells l).drop (k * 7)).take 7 = pgV l[k] ∧ (pgCells l)[k * 7]? = some (str l[k].m) ∧ (pgCells l)[k * 7 + 1]? = some (str l[k].p)
  | x :: r, 0, _ => ⟨rfl, rfl, rfl⟩
  | x :: r, k + 1, h => by
    rw [show (k + 1) * 7 = k * 7 + 7 by omega]
    exact pgCells_at r k (by simpa using h)
theorem pgCells_app (a b : List Pg) : pgCells (a ++ b) = pgCells a ++ pgCells b := List.flatMap_append
def rp (l : List Pg) : List Rpg := l.map fun x => ⟨x.m, x.p⟩
theorem rp_length (l : List Pg) : (rp l).length = l.length := List.length_map _
theorem rp_at (l : List Pg) (k : Nat) (h : k < l.length) : (rp l)[k]? = some ⟨l[k].m, l[k].p⟩ := by
  unfold rp
  rw [List.getElem?_map, List.getElem?_eq_getElem h]
  rfl
theorem grown_many {l : List Rpg} (h : 32 < l.length) : grownE l = 4 := if_pos h
theorem grown_text {l : List Rpg} (h : l.length ≤ 32) {g : Rpg} (hg : g ∈ l) (hb : pgOK g = false) : grownE l = 3 := by
  unfold grownE
  rw [if_neg (by omega), if_neg]
  intro h2
  rw [List.all_eq_true.1 h2 g hg] at hb
  cases hb
theorem grown_two {l : List Rpg} (h : l.length ≤ 32) (ha : ∀ g ∈ l, pgOK g = true) : (¬ (l.map slotOf).Nodup → grownE l = 8) ∧ ((l.map slotOf).Nodup → grownE l = 0) := by
  unfold grownE
  rw [if_neg (by omega), if_pos (List.all_eq_true.2 ha)]
  exact ⟨fun hn => if_neg fun e => hn ((slotsOK_nodup l).1 e), fun hn => if_pos ((slotsOK_nodup l).2 hn)⟩
/-- Places of one page, in memory. -/
structure PlR where
  A : Option Addr
  cp : Nat
  l : List Plc
def PlR.row (q : PlR) : Ent := .row (.slice q.A q.l.length q.cp) 118 2 q.l.length (plcCells q.l)
def PlR.val (q : PlR) : Value := .slice q.A q.l.length q.cp
theorem PlR.rd {c : Ctx} {qs : List PlR} {q : PlR} (h : q ∈ qs) : RdS c (qs.map PlR.row) q.A (plcCells q.l) :=
  RdS.sub (H := [q.row]) RdS.here (List.singleton_sublist.2 (List.mem_map_of_mem h))
structure GrM where
  ns : List Nd
  r : Nd
def GrM.none : GrM := ⟨[], ⟨0, 0, 0, [], [], []⟩⟩
def GrV (e : Int) (x : GrM) : Value := .tuple #[if e = 0 then x.r.ptr else .pointer Option.none, .int .i64 e]
def GrQ (l : List Rpg) (x : GrM) : Prop := grownE l = 0 → TreeI x.ns (pgOf l) ∧ x.r ∈ x.ns ∧ x.r.c = []
structure G1S where
  j : Nat
  qs : List PlR
  A : Option Addr
  cp : Nat
def g1I (l : List Pg) (z : G1S) : Prop := z.j ≤ l.length ∧ z.qs.length = z.j ∧ ∀ (i : Nat) (q : PlR), z.qs[i]? = some q → ∃ x : Pg, l[i]? = some x ∧ placesOf x.p = some q.l ∧ methodsR.contains x.m = true
structure G2S where
  j : Nat
  ns : List Nd
  r : Nd
def g2I (l : List Rpg) (b : Nat) (z : G2S) : Prop := z.j ≤ l.length ∧ TreeI z.ns (pgOf (l.take z.j)) ∧ z.r ∈ z.ns ∧ z.r.c = [] ∧ z.r.b = b ∧ ((l.take z.j).map slotOf).Nodup
set_option maxHeartbeats 4000000 in
theorem grown_f (PA : Option Addr) (Pc : Nat) (l : List Pg) (hl : l.length ≤ 1000000) (hp : ∀ x ∈ l, x.p.length ≤ 1000000) :
    FnT Tryz.prog gI 29 [.slice PA l.length Pc] (fun w => Rdw w PA (pgCells l)) (GrV (grownE (rp l))) (GrQ (rp l)) (fun _ => []) (fun x => nodesH x.ns) := by
  refine FnE.of tys_ok Tryz.func29 rfl (by kernel_rfl) rfl rfl ?_; intro w hG hP
  have hR : ∀ H, RdA (mkC Tryz.prog gI w hG) H PA (pgCells l) := fun H => ⟨hP.now⟩
  clear hP
  have hfail : ∀ (e : Int) (H : Hp), grownE (rp l) = e → e ≠ 0 → ∀ w', St (mkC Tryz.prog gI w hG) H w' → ∃ x : GrM, Value.tuple #[.pointer none, .int .i64 e] = GrV (grownE (rp l)) x ∧ GrQ (rp l) x ∧ newH w w' ([] ++ nodesH x.ns) := fun e H he h0 w' hw' => by
    refine ⟨GrM.none, ?_, fun h => absurd (he.symm.trans h) h0, newH.into hw' Into.nil⟩
    unfold GrV
    rw [he, if_neg h0]
  by_cases h32 : 32 < l.length
  · (conv => whnf); repeat ((first | refine tk1 ?_ | refine tk2 ?_ | refine tk3 ?_ | refine tk12 (fun _ => ?_) | refine tk4 ?_ | refine tk5 ?_ | refine tk6 ?_ | refine tk7 ?_ | refine tk8 ?_ | refine tk9 ?_ | refine tk10 (fun _ _ => ?_) | refine tk11 (fun _ => ?_) | refine tk13 ?_ | refine tk14 ?_); (conv => whnf))
    exact hfail 4 _ (grown_many (by rw [rp_length]; exact h32)) (by decide)
  (conv => whnf); repeat ((first | refine tk1 ?_ | refine tk2 ?_ | refine tk3 ?_ | refine tk12 (fun _ => ?_) | refine tk4 ?_ | refine tk5 ?_ | refine tk6 ?_ | refine tk7 ?_ | refine tk8 ?_ | refine tk9 ?_ | refine tk10 (fun _ _ => ?_) | refine tk11 (fun _ => ?_) | refine tk13 ?_ | refine tk14 ?_); (conv => whnf))
  rename_i mb
  refine LoopS.lpT tys_ok (fun (z : G1S) u => [.slice PA l.length Pc, u 1, u 2, u 3, .slice (some ⟨mb, 0, none⟩) 5 5, .slice z.A z.qs.length z.cp, u 6, u 7, u 8, u 9, u 10, u 11, u 12, u 13, u 14, u 15, u 16, .slice PA l.length Pc, .int .i64 l.length, .int .i64 (z.j : Nat), u 20, u 21, u 22, u 23, u 24, u 25, u 26, u 27, u 28, u 29, u 30, u 31, u 32, u 33, u 34, u 35, u 36, u 37, u 38, u 39, u 40, u 41, u 42, u 43, u 44, u 45, u 46, u 47, u 48, u 49, u 50, u 51, u 52, u 53, u 54, u 55, u 56, u 57, u 58, u 59, u 60, u 61, u 62])
    (fun z => .row (.slice z.A z.qs.length z.cp) 83 1 z.qs.length (z.qs.map PlR.val) :: .row (.slice (some ⟨mb, 0, none⟩) 5 5) 9 1 5 (methodsR.map str) :: z.qs.map PlR.row) (g1I l) (fun z => l.length - z.j) ⟨0, [], none, 0⟩
    ⟨Nat.zero_le _, rfl, fun i q h => by simp at h⟩ rfl (Into.nilRow (e := 83) (sz := 1) (fun _ h => h)) ?_
  rintro ⟨j, qs, A, cp⟩ u ⟨hj, hqs, hI⟩
  dsimp only at hj hqs hI ⊢
  by_cases hlt : j < l.length
  · as_aux_lemma =>
    obtain ⟨c1, c2, c3⟩ := pgCells_at l j hlt
    have hrj := rp_at l j hlt
    have hmem := List.mem_of_getElem? hrj
    have hpl := hp l[j] (List.getElem_mem hlt)
    have hxj : l[j]? = some l[j] := List.getElem?_eq_getElem hlt
    generalize l[j] = x at *
    have hpf := places_f (gI := gI) x.p (by omega)
    (conv => whnf); repeat ((first | refine tk1 ?_ | refine tk2 ?_ | refine tk3 ?_ | refine tk12 (fun _ => ?_) | refine tk4 ?_ | refine tk5 ?_ | refine tk6 ?_ | refine tk7 ?_ | refine tk8 ?_ | refine tk9 ?_ | refine tk10 (fun _ _ => ?_) | refine tk11 (fun _ => ?_) | refine tk13 ?_ | refine tk14 ?_); (conv => whnf))
    refine IdxA.tc (xs := pgCells l) (by rw [pgCells_length]; omega) (by omega) (by omega) ?_
    (conv => whnf); repeat ((first | refine tk1 ?_ | refine tk2 ?_ | refine tk3 ?_ | refine tk12 (fun _ => ?_) | refine tk4 ?_ | refine tk5 ?_ | refine tk6 ?_ | refine tk7 ?_ | refine tk8 ?_ | refine tk9 ?_ | refine tk10 (fun _ _ => ?_) | refine tk11 (fun _ => ?_) | refine tk13 ?_ | refine tk14 ?_); (conv => whnf))
    refine Ld.taN (xs := pgCells l) (vs := pgV x) (by rw [Int.toNat_natCast]; exact c1) rfl ?_
    (conv => whnf); repeat ((first | refine tk1 ?_ | refine tk2 ?_ | refine tk3 ?_ | refine tk12 (fun _ => ?_) | refine tk4 ?_ | refine tk5 ?_ | refine tk6 ?_ | refine tk7 ?_ | refine tk8 ?_ | refine tk9 ?_ | refine tk10 (fun _ _ => ?_) | refine tk11 (fun _ => ?_) | refine tk13 ?_ | refine tk14 ?_); (conv => whnf))
    refine CallK.fnT hpf (fun _ _ => trivial) ?_
    rintro ⟨qA, qc⟩ _
    dsimp only [PlV, PlH, List.cons_append, List.nil_append]
    rw [List.append_nil]
    cases hpo : placesOf x.p with
    | none =>
      (conv => whnf); repeat ((first | refine tk1 ?_ | refine tk2 ?_ | refine tk3 ?_ | refine tk12 (fun _ => ?_) | refine tk4 ?_ | refine tk5 ?_ | refine tk6 ?_ | refine tk7 ?_ | refine tk8 ?_ | refine tk9 ?_ | refine tk10 (fun _ _ => ?_) | refine tk11 (fun _ => ?_) | refine tk13 ?_ | refine tk14 ?_); (conv => whnf))
      exact hfail 3 _ (grown_text (by rw [rp_length]; omega) hmem (by unfold pgOK; rw [hpo]; rfl)) (by decide)
    | some q =>
      (conv => whnf); repeat ((first | refine tk1 ?_ | refine tk2 ?_ | refine tk3 ?_ | refine tk12 (fun _ => ?_) | refine tk4 ?_ | refine tk5 ?_ | refine tk6 ?_ | refine tk7 ?_ | refine tk8 ?_ | refine tk9 ?_ | refine tk10 (fun _ _ => ?_) | refine tk11 (fun _ => ?_) | refine tk13 ?_ | refine tk14 ?_); (conv => whnf))
      refine CallK.fnR (Contains_f (some ⟨mb, 0, none⟩) 5 methodsR x.m (by decide)) ⟨RdA.ok, trivial⟩ ?_
      cases hmc : methodsR.contains x.m
      · (conv => whnf); repeat ((first | refine tk1 ?_ | refine tk2 ?_ | refine tk3 ?_ | refine tk12 (fun _ => ?_) | refine tk4 ?_ | refine tk5 ?_ | refine tk6 ?_ | refine tk7 ?_ | refine tk8 ?_ | refine tk9 ?_ | refine tk10 (fun _ _ => ?_) | refine tk11 (fun _ => ?_) | refine tk13 ?_ | refine tk14 ?_); (conv => whnf))
        exact hfail 3 _ (grown_text (by rw [rp_length]; omega) hmem (by unfold pgOK; rw [hmc, Bool.and_false])) (by decide)
      · (conv => whnf); repeat ((first | refine tk1 ?_ | refine tk2 ?_ | refine tk3 ?_ | refine tk12 (fun _ => ?_) | refine tk4 ?_ | refine tk5 ?_ | refine tk6 ?_ | refine tk7 ?_ | refine tk8 ?_ | refine tk9 ?_ | refine tk10 (fun _ _ => ?_) | refine tk11 (fun _ => ?_) | refine tk13 ?_ | refine tk14 ?_); (conv => whnf))
        refine AppS.tc (m := 1) (news := [.slice qA q.length qc]) SrcK.tc rfl (by simp [Value.oneCell']) (by decide) (by omega) (by omega) (zs := (qs ++ [(⟨qA, qc, q⟩ : PlR)]).map PlR.val) (by rw [List.map_append]; rfl) (fun A' cp' => ?_)
        rw [show qs.length + 1 = (qs ++ [(⟨qA, qc, q⟩ : PlR)]).length by simp]
        (conv => whnf); repeat ((first | refine tk1 ?_ | refine tk2 ?_ | refine tk3 ?_ | refine tk12 (fun _ => ?_) | refine tk4 ?_ | refine tk5 ?_ | refine tk6 ?_ | refine tk7 ?_ | refine tk8 ?_ | refine tk9 ?_ | refine tk10 (fun _ _ => ?_) | refine tk11 (fun _ => ?_) | refine tk13 ?_ | refine tk14 ?_); (conv => whnf))
        refine ⟨⟨j + 1, qs ++ [⟨qA, qc, q⟩], A', cp'⟩, ⟨by dsimp only; omega, by dsimp only; rw [List.length_append, hqs]; rfl, fun i y hy => ?_⟩, rfl, ?_, by dsimp only; omega⟩
        · dsimp only at hy
          rcases Nat.lt_or_ge i qs.length with h | h
          · rw [List.getElem?_append_left h] at hy
            exact hI i y hy
          · rw [List.getElem?_append_right h] at hy
            have hi : i = j := by
              have := (List.getElem?_eq_some_iff.1 hy).1
              simp at this
              omega
            subst hi
            rw [hqs, Nat.sub_self] at hy
            cases hy
            exact ⟨x, hxj, hpo, hmc⟩
        · dsimp only
          refine Cv.into (Cv.trans (K := .row (.slice A' (qs ++ [(⟨qA, qc, q⟩ : PlR)]).length cp') 83 1 (qs ++ [(⟨qA, qc, q⟩ : PlR)]).length ((qs ++ [(⟨qA, qc, q⟩ : PlR)]).map PlR.val) :: .row (.slice (some ⟨mb, 0, none⟩) 5 5) 9 1 5 (methodsR.map str) :: (qs ++ [(⟨qA, qc, q⟩ : PlR)]).map PlR.row) (G := .row (.slice A' (qs ++ [(⟨qA, qc, q⟩ : PlR)]).length cp') 83 1 (qs ++ [(⟨qA, qc, q⟩ : PlR)]).length ((qs ++ [(⟨qA, qc, q⟩ : PlR)]).map PlR.val) :: .row (.slice (some ⟨mb, 0, none⟩) 5 5) 9 1 5 (methodsR.map str) :: .row (.slice qA q.length qc) 118 2 q.length (plcCells q) :: qs.map PlR.row) (by (try dsimp only); repeat' (first | with_reducible exact Cv.refl | with_reducible exact Cv.left | with_reducible exact Cv.right | with_reducible exact Cv.nil | (with_reducible apply Cv.cons; focus ((repeat (first | with_reducible exact Pick.here | with_reducible apply Pick.skip)); done)) | (apply Cv.cons; focus ((repeat (first | exact Pick.here | apply Pick.skip)); done)) | exact Cv.nil | exact Cv.refl | exact Cv.left | exact Cv.right | refine Cv.skip ?_)) (.of ?_))
          rw [List.map_append (f := PlR.row)]
          exact List.Perm.cons _ (List.Perm.cons _ (List.perm_append_comm (l₁ := [PlR.row ⟨qA, qc, q⟩])))
  obtain rfl : j = l.length := by omega
  have hall : ∀ g ∈ rp l, pgOK g = true := fun g hg => by
    obtain ⟨i, hi⟩ := List.getElem?_of_mem hg
    have hil : i < l.length := by
      have := (List.getElem?_eq_some_iff.1 hi).1
      rw [rp_length] at this
      exact this
    obtain ⟨x, hx, hx2, hx3⟩ := hI i qs[i] (List.getElem?_eq_getElem (by omega))
    rw [List.getElem?_eq_getElem hil] at hx
    rw [rp_at l i hil] at hi
    cases hi
    cases hx
    unfold pgOK
    rw [hx2, hx3]
    rfl
  obtain ⟨hg8, hg0⟩ := grown_two (by rw [rp_length]; omega) hall
  (conv => whnf); repeat ((first | refine tk1 ?_ | refine tk2 ?_ | refine tk3 ?_ | refine tk12 (fun _ => ?_) | refine tk4 ?_ | refine tk5 ?_ | refine tk6 ?_ | refine tk7 ?_ | refine tk8 ?_ | refine tk9 ?_ | refine tk10 (fun _ _ => ?_) | refine tk11 (fun _ => ?_) | refine tk13 ?_ | refine tk14 ?_); (conv => whnf))
  refine CallK.fnT (rmade_f []) (fun _ _ => trivial) ?_
  rintro ⟨zb, zp, zn⟩ _
  dsimp only [MkM.nd, Nd.hd, List.cons_append, List.nil_append]
  rw [List.append_nil]
  (conv => whnf); repeat ((first | refine tk1 ?_ | refine tk2 ?_ | refine tk3 ?_ | refine tk12 (fun _ => ?_) | refine tk4 ?_ | refine tk5 ?_ | refine tk6 ?_ | refine tk7 ?_ | refine tk8 ?_ | refine tk9 ?_ | refine tk10 (fun _ _ => ?_) | refine tk11 (fun _ => ?_) | refine tk13 ?_ | refine tk14 ?_); (conv => whnf))
  refine LoopS.lpT tys_ok (fun (z : G2S) u => [u 0, u 1, u 2, u 3, u 4, .slice A qs.length cp, u 6, u 7, u 8, u 9, .pointer (some ⟨zb, 0, none⟩), u 11, u 12, u 13, u 14, u 15, u 16, u 17, u 18, u 19, u 20, u 21, u 22, u 23, u 24, u 25, u 26, u 27, u 28, u 29, u 30, u 31, u 32, u 33, u 34, u 35, u 36, u 37, u 38, u 39, u 40, u 41, u 42, u 43, .slice PA l.length Pc, .int .i64 l.length, .int .i64 (z.j : Nat), u 47, u 48, u 49, u 50, u 51, u 52, u 53, u 54, u 55, u 56, u 57, u 58, u 59, u 60, u 61, u 62])
    (fun z => .row (.slice A qs.length cp) 83 1 qs.length (qs.map PlR.val) :: (qs.map PlR.row ++ nodesH z.ns)) (g2I (rp l) zb) (fun z => l.length - z.j) ⟨0, [⟨zb, zp, zn, [], [], []⟩], ⟨zb, zp, zn, [], [], []⟩⟩
    ⟨Nat.zero_le _, tree_root _ rfl rfl rfl, List.mem_singleton.2 rfl, rfl, rfl, List.nodup_nil⟩ rfl (Cv.into ?_) ?_
  · refine Cv.trans (G := .row (.slice A qs.length cp) 83 1 qs.length (qs.map PlR.val) :: .box zb [.map (some zp), .map (some zn)] 78 :: .obj zp (mobj str []) :: .obj zn (mobj plkV []) :: qs.map PlR.row) (by (try dsimp only); repeat' (first | with_reducible exact Cv.refl | with_reducible exact Cv.left | with_reducible exact Cv.right | with_reducible exact Cv.nil | (with_reducible apply Cv.cons; focus ((repeat (first | with_reducible exact Pick.here | with_reducible apply Pick.skip)); done)) | (apply Cv.cons; focus ((repeat (first | exact Pick.here | apply Pick.skip)); done)) | exact Cv.nil | exact Cv.refl | exact Cv.left | exact Cv.right | refine Cv.skip ?_)) (.of ?_)
    exact List.Perm.cons _ (List.perm_append_comm (l₁ := nodesH [⟨zb, zp, zn, [], [], []⟩]))
  rintro ⟨k, ns, r⟩ u2 ⟨hk, htr, hr, hrc, hrb, hnd⟩
  dsimp only at hk htr hr hrc hrb hnd ⊢
  rw [rp_length] at hk
  by_cases hlt2 : k < l.length
  · as_aux_lemma =>
    obtain ⟨c1, c2, c3⟩ := pgCells_at l k hlt2
    have hrj := rp_at l k hlt2
    have hqk : k < qs.length := by omega
    obtain ⟨x, hxk, hpo, hmc⟩ := hI k qs[k] (List.getElem?_eq_getElem hqk)
    rw [List.getElem?_eq_getElem hlt2] at hxk
    rw [Option.some.inj hxk] at c1 c2 c3 hrj
    have hqm : qs[k] ∈ qs := List.getElem_mem hqk
    have hqv : (qs.map PlR.val)[((k : Nat) : Int).toNat * 1]? = some (PlR.val qs[k]) := by rw [Int.toNat_natCast, Nat.mul_one, List.getElem?_map, List.getElem?_eq_getElem hqk]; rfl
    have hql : (qs[k]).l.length ≤ 1000000 := by
      have h1 := placesG_len _ _ _ (show placesG (splitB 47 (x.p.drop 1)) (segs x.p) = some (qs[k]).l by
        unfold placesOf at hpo
        split at hpo
        · exact hpo
        · cases hpo)
      have h2 := splitB_length 47 (x.p.drop 1)
      have h3 := hp x (List.mem_of_getElem? ((List.getElem?_eq_getElem hlt2).trans hxk))
      rw [List.length_drop] at h2
      omega
    generalize qs[k] = q at *
    have hsh : q.l.map keyP = shapeOf ⟨x.m, x.p⟩ := by
      unfold shapeOf
      rw [hpo]
      rfl
    have htk : (rp l).take (k + 1) = (rp l).take k ++ [⟨x.m, x.p⟩] := by rw [List.take_add_one, hrj]; rfl
    (conv => whnf); repeat ((first | refine tk1 ?_ | refine tk2 ?_ | refine tk3 ?_ | refine tk12 (fun _ => ?_) | refine tk4 ?_ | refine tk5 ?_ | refine tk6 ?_ | refine tk7 ?_ | refine tk8 ?_ | refine tk9 ?_ | refine tk10 (fun _ _ => ?_) | refine tk11 (fun _ => ?_) | refine tk13 ?_ | refine tk14 ?_); (conv => whnf))
    refine IdxA.tc (xs := pgCells l) (by rw [pgCells_length]; omega) (by omega) (by omega) ?_
    (conv => whnf); repeat ((first | refine tk1 ?_ | refine tk2 ?_ | refine tk3 ?_ | refine tk12 (fun _ => ?_) | refine tk4 ?_ | refine tk5 ?_ | refine tk6 ?_ | refine tk7 ?_ | refine tk8 ?_ | refine tk9 ?_ | refine tk10 (fun _ _ => ?_) | refine tk11 (fun _ => ?_) | refine tk13 ?_ | refine tk14 ?_); (conv => whnf))
    refine Ld.taN (xs := pgCells l) (vs := pgV x) (by rw [Int.toNat_natCast]; exact c1) rfl ?_
    (conv => whnf); repeat ((first | refine tk1 ?_ | refine tk2 ?_ | refine tk3 ?_ | refine tk12 (fun _ => ?_) | refine tk4 ?_ | refine tk5 ?_ | refine tk6 ?_ | refine tk7 ?_ | refine tk8 ?_ | refine tk9 ?_ | refine tk10 (fun _ _ => ?_) | refine tk11 (fun _ => ?_) | refine tk13 ?_ | refine tk14 ?_); (conv => whnf))
    rename_i b12
    refine DrawS.goW [8] [(0, true), (1, true), (2, true), (3, true), (4, true), (5, true), (6, true), (7, true), (8, false), (9, true)] tys_ok mixed (by kernel_rfl) ?_
    (conv => whnf); repeat ((first | refine tk1 ?_ | refine tk2 ?_ | refine tk3 ?_ | refine tk12 (fun _ => ?_) | refine tk4 ?_ | refine tk5 ?_ | refine tk6 ?_ | refine tk7 ?_ | refine tk8 ?_ | refine tk9 ?_ | refine tk10 (fun _ _ => ?_) | refine tk11 (fun _ => ?_) | refine tk13 ?_ | refine tk14 ?_); (conv => whnf))
    refine IdxA.tc (xs := qs.map PlR.val) (by rw [List.length_map]; omega) (by omega) (by omega) ?_
    (conv => whnf); repeat ((first | refine tk1 ?_ | refine tk2 ?_ | refine tk3 ?_ | refine tk12 (fun _ => ?_) | refine tk4 ?_ | refine tk5 ?_ | refine tk6 ?_ | refine tk7 ?_ | refine tk8 ?_ | refine tk9 ?_ | refine tk10 (fun _ _ => ?_) | refine tk11 (fun _ => ?_) | refine tk13 ?_ | refine tk14 ?_); (conv => whnf))
    refine Ld.ta (xs := qs.map PlR.val) hqv ?_
    unfold PlR.val
    (conv => whnf); repeat ((first | refine tk1 ?_ | refine tk2 ?_ | refine tk3 ?_ | refine tk12 (fun _ => ?_) | refine tk4 ?_ | refine tk5 ?_ | refine tk6 ?_ | refine tk7 ?_ | refine tk8 ?_ | refine tk9 ?_ | refine tk10 (fun _ _ => ?_) | refine tk11 (fun _ => ?_) | refine tk13 ?_ | refine tk14 ?_); (conv => whnf))
    rw [← hrb]
    refine hang_k (r := r) (X := .box b12 (pgV x) 33 :: .row (.slice A qs.length cp) 83 1 qs.length (qs.map PlR.val) :: qs.map PlR.row) rfl htr hr hrc hql (RdS.skip (RdS.skip (PlR.rd hqm))) (fun ns' r' ht' hr' hrc' hrb' => ?_)
    rw [hsh] at ht' ⊢
    cases hpg : pgOf ((rp l).take k) (shapeOf ⟨x.m, x.p⟩) x.m with
    | none =>
      (conv => whnf); repeat ((first | refine tk1 ?_ | refine tk2 ?_ | refine tk3 ?_ | refine tk12 (fun _ => ?_) | refine tk4 ?_ | refine tk5 ?_ | refine tk6 ?_ | refine tk7 ?_ | refine tk8 ?_ | refine tk9 ?_ | refine tk10 (fun _ _ => ?_) | refine tk11 (fun _ => ?_) | refine tk13 ?_ | refine tk14 ?_); (conv => whnf))
      refine ⟨⟨k + 1, ns', r'⟩, ⟨by dsimp only; rw [rp_length]; omega, ?_, hr', hrc', hrb', ?_⟩, rfl, Into.skip (fun _ h => h), by dsimp only; omega⟩
      · dsimp only
        rw [htk, pgOf_snoc hpg, List.length_take, rp_length, Nat.min_eq_left (by omega)]
        exact ht'
      · dsimp only
        rw [htk]
        exact slots_snoc hnd hpg
    | some i =>
      (conv => whnf); repeat ((first | refine tk1 ?_ | refine tk2 ?_ | refine tk3 ?_ | refine tk12 (fun _ => ?_) | refine tk4 ?_ | refine tk5 ?_ | refine tk6 ?_ | refine tk7 ?_ | refine tk8 ?_ | refine tk9 ?_ | refine tk10 (fun _ _ => ?_) | refine tk11 (fun _ => ?_) | refine tk13 ?_ | refine tk14 ?_); (conv => whnf))
      refine hfail 8 _ (hg8 fun hn => ?_) (by decide)
      refine slots_dup (l := (rp l).take k) (g := ⟨x.m, x.p⟩) (r := (rp l).drop (k + 1)) (by rw [hpg]; simp) ?_
      have e : (rp l).take k ++ ⟨x.m, x.p⟩ :: (rp l).drop (k + 1) = rp l := by
        have h1 : (rp l).drop k = ⟨x.m, x.p⟩ :: (rp l).drop (k + 1) := by
          have h2 : k < (rp l).length := by rw [rp_length]; exact hlt2
          rw [List.drop_eq_getElem_cons h2]
          rw [List.getElem?_eq_getElem h2] at hrj
          rw [Option.some.inj hrj]
        rw [← h1, List.take_append_drop]
      rw [e]
      exact hn
  obtain rfl : k = l.length := by omega
  rw [List.take_of_length_le (by rw [rp_length]; exact Nat.le_refl _)] at htr hnd
  have h0 := hg0 hnd
  (conv => whnf); repeat ((first | refine tk1 ?_ | refine tk2 ?_ | refine tk3 ?_ | refine tk12 (fun _ => ?_) | refine tk4 ?_ | refine tk5 ?_ | refine tk6 ?_ | refine tk7 ?_ | refine tk8 ?_ | refine tk9 ?_ | refine tk10 (fun _ _ => ?_) | refine tk11 (fun _ => ?_) | refine tk13 ?_ | refine tk14 ?_); (conv => whnf))
  refine fun w' hw' => ⟨⟨ns, r⟩, ?_, fun _ => ⟨htr, hr, hrc⟩, newH.into hw' (Into.skip Into.right)⟩
  unfold GrV Nd.ptr
  rw [h0, if_pos rfl, hrb]
end Go.Proofs.YtnaeeklnlddcaaaGreatDoor.Vex
/- The law of parameters that are put in their places, over lists. No program in sight. -/
namespace Go.Proofs.YtnaeeklnlddcaaaGreatDoor.Vex

/-- A rest, quoted but for its slashes. -/
def fillRest : List UInt8 → List UInt8 → List UInt8
  | part, [] => quoteOf part
  | part, x :: r => if x = 47 then quoteOf part ++ 47 :: fillRest [] r else fillRest (part ++ [x]) r
def fillV (v : List UInt8) (rest : Bool) : List UInt8 := if rest then fillRest [] v else quoteOf v
theorem fillRest_made : ∀ v part : List UInt8, madeOf pathL (fillRest part v) = true
  | [], part => made_quote part
  | x :: r, part => by
    unfold fillRest
    split
    · rw [made_app _ path_37 _ _ _ (Nat.le_refl _) (made_quote part), made_cons pathL 47 _ (by decide), fillRest_made r []]
      decide
    · exact fillRest_made r _
theorem quoteB_len (x : UInt8) : (quoteB x).length ≤ 3 := by unfold quoteB; split <;> simp
theorem quote_len : ∀ s : List UInt8, (quoteOf s).length ≤ 3 * s.length
  | [] => by simp [quoteOf]
  | x :: r => by
    have h1 := quote_len r
    have h2 := quoteB_len x
    unfold quoteOf at *
    rw [List.flatMap_cons, List.length_append, List.length_cons]
    omega
theorem fillRest_len : ∀ v part : List UInt8, (fillRest part v).length ≤ 3 * part.length + 3 * v.length
  | [], part => by have := quote_len part; simp only [fillRest, List.length_nil]; omega
  | x :: r, part => by
    unfold fillRest
    split
    · have h1 := quote_len part
      have h2 := fillRest_len r []
      rw [List.length_append, List.length_cons, List.length_cons]
      simp only [List.length_nil] at h2
      omega
    · have h2 := fillRest_len r (part ++ [x])
      rw [List.length_append] at h2
      simp only [List.length_cons, List.length_nil] at h2 ⊢
      omega
theorem fillV_len (v : List UInt8) (r : Bool) : (fillV v r).length ≤ 3 * v.length := by
  unfold fillV
  have h1 := quote_len v
  have h2 := fillRest_len v []
  simp only [List.length_nil] at h2
  split <;> omega
theorem fillV_made (v : List UInt8) (r : Bool) : madeOf pathL (fillV v r) = true := by
  unfold fillV
  split
  · exact fillRest_made v []
  · exact made_quote v
abbrev noSl (y : UInt8) : Bool := decide (y ≠ 47)
/-- A pattern's text with parameters in their places. -/
def fillG (b : Bool) (q : List UInt8) (ps : List Fld) : Option (List UInt8 × List Fld) :=
  match q with
  | [] => some ([], ps)
  | x :: r => if b = true ∧ (x = 58 ∨ x = 42) then (match ps with
      | [] => none
      | f :: ps' => if f.1 = r.takeWhile noSl then (fillG false (r.dropWhile noSl) ps').map fun o => (fillV f.2 (decide (x = 42)) ++ o.1, o.2) else none)
    else (fillG (decide (x = 47)) r ps).map fun o => (x :: o.1, o.2)
termination_by q.length
decreasing_by
  · have h : (r.dropWhile noSl).length ≤ r.length := (List.dropWhile_sublist _).length_le
    simp only [List.length_cons]
    exact Nat.lt_succ_of_le h
  · simp
theorem fillG_nil (b : Bool) (ps : List Fld) : fillG b [] ps = some ([], ps) := by rw [fillG]
theorem fillG_cons {b : Bool} {x : UInt8} {r : List UInt8} {ps : List Fld} (h : ¬ (b = true ∧ (x = 58 ∨ x = 42))) : fillG b (x :: r) ps = (fillG (decide (x = 47)) r ps).map fun o => (x :: o.1, o.2) := by
  rw [fillG.eq_def]
  dsimp only
  rw [if_neg h]
theorem fillG_par {x : UInt8} {r : List UInt8} {f : Fld} {ps : List Fld} (h : x = 58 ∨ x = 42) (e : f.1 = r.takeWhile noSl) : fillG true (x :: r) (f :: ps) = (fillG false (r.dropWhile noSl) ps).map fun o => (fillV f.2 (decide (x = 42)) ++ o.1, o.2) := by
  rw [fillG.eq_def]
  dsimp only
  rw [if_pos ⟨rfl, h⟩, if_pos e]
theorem fillG_some {b : Bool} {x : UInt8} {r : List UInt8} {ps : List Fld} {o : List UInt8 × List Fld} (hb : b = true ∧ (x = 58 ∨ x = 42)) (h : fillG b (x :: r) ps = some o) :
    ∃ f ps' o', ps = f :: ps' ∧ f.1 = r.takeWhile noSl ∧ fillG false (r.dropWhile noSl) ps' = some o' ∧ o = (fillV f.2 (decide (x = 42)) ++ o'.1, o'.2) := by
  rw [fillG.eq_def] at h
  dsimp only at h
  rw [if_pos hb] at h
  cases ps with
  | nil => cases h
  | cons f ps' =>
    dsimp only at h
    split at h
    · rename_i e
      obtain ⟨o', h1, h2⟩ := Option.map_eq_some_iff.1 h
      exact ⟨f, ps', o', rfl, e, h1, h2.symm⟩
    · cases h
def atEnd (q : List UInt8) : Prop := q = [] ∨ ∃ t, q = 47 :: t
theorem fill_end {q : List UInt8} (hq : atEnd q) (b : Bool) (ps : List Fld) : fillG b q ps = fillG false q ps := by
  rcases hq with rfl | ⟨t, rfl⟩
  · rw [fillG_nil, fillG_nil]
  · rw [fillG_cons (by decide +revert), fillG_cons (by decide)]
theorem fill_lit : ∀ (s q : List UInt8) (ps : List Fld) (b : Bool), 47 ∉ s → atEnd q → (b = true → s.head? ≠ some 58 ∧ s.head? ≠ some 42) → fillG b (s ++ q) ps = (fillG false q ps).map fun o => (s ++ o.1, o.2)
  | [], q, ps, b, _, hq, _ => by
    rw [List.nil_append, fill_end hq]
    cases fillG false q ps <;> rfl
  | x :: s, q, ps, b, hs, hq, hb => by
    have hx : x ≠ 47 := fun e => hs (by rw [e]; exact List.mem_cons_self ..)
    rw [List.cons_append, fillG_cons (fun h => by
      have := hb h.1
      rcases h.2 with rfl | rfl
      · exact this.1 rfl
      · exact this.2 rfl), decide_eq_false hx, fill_lit s q ps false (fun h => hs (List.mem_cons_of_mem _ h)) hq (fun h => by cases h), Option.map_map]
    rfl
theorem take_noSl {nm q : List UInt8} (hn : 47 ∉ nm) (hq : atEnd q) : (nm ++ q).takeWhile noSl = nm ∧ (nm ++ q).dropWhile noSl = q := by
  induction nm with
  | nil =>
    rcases hq with rfl | ⟨t, rfl⟩
    · exact ⟨rfl, rfl⟩
    · exact ⟨rfl, rfl⟩
  | cons x r ih =>
    have hx : noSl x = true := decide_eq_true fun e => hn (by rw [e]; exact List.mem_cons_self ..)
    obtain ⟨h1, h2⟩ := ih fun h => hn (List.mem_cons_of_mem _ h)
    rw [List.cons_append, List.takeWhile_cons_of_pos hx, List.dropWhile_cons_of_pos hx, h1, h2]
    exact ⟨rfl, rfl⟩
/-! ## Shapes that segments meet -/
theorem cands_nil {ss : List (List UInt8)} (h : [] ∈ cands ss) : ss = [] := by
  cases ss with
  | nil => rfl
  | cons s r => simp [cands] at h
theorem cands_cons {p : Plc} {d : List Plc} {ss : List (List UInt8)} (h : p :: d ∈ cands ss) : ∃ x xs, ss = x :: xs ∧ ((p = (0, x) ∧ d ∈ cands xs) ∨ (p = (1, []) ∧ d ∈ cands xs) ∨ (p = (2, []) ∧ d = [])) := by
  cases ss with
  | nil => simp [cands] at h
  | cons x xs =>
    refine ⟨x, xs, rfl, ?_⟩
    unfold cands at h
    rcases List.mem_append.1 h with h | h
    · obtain ⟨y, hy, e⟩ := List.mem_map.1 h
      obtain ⟨rfl, rfl⟩ := List.cons.inj e
      exact .inl ⟨rfl, hy⟩
    · rcases List.mem_append.1 h with h | h
      · obtain ⟨y, hy, e⟩ := List.mem_map.1 h
        obtain ⟨rfl, rfl⟩ := List.cons.inj e
        exact .inr (.inl ⟨rfl, hy⟩)
      · have e := List.mem_singleton.1 h
        obtain ⟨rfl, rfl⟩ := List.cons.inj e
        exact .inr (.inr ⟨rfl, rfl⟩)
theorem placeOf_cases {s : List UInt8} {b : Bool} {t : List UInt8} {p : Plc} (h : placeOf s b t = some p) :
    (∃ nm, s = 42 :: nm ∧ b = true ∧ p = (2, nm)) ∨ (∃ nm, s = 58 :: nm ∧ p = (1, nm)) ∨ (s.head? ≠ some 42 ∧ s.head? ≠ some 58 ∧ p = (0, t)) := by
  have hd : ∀ c : UInt8, s.head? = some c → s = c :: s.drop 1 := fun c hc => by
    cases s with
    | nil => cases hc
    | cons x r => simp at hc; rw [hc]; rfl
  unfold placeOf at h
  split at h
  · rename_i hh
    exact .inl ⟨_, hd _ hh.1, hh.2.2, (Option.some.inj h).symm⟩
  · split at h
    · rename_i hh
      exact .inr (.inl ⟨_, hd _ hh.1, (Option.some.inj h).symm⟩)
    · split at h
      · cases h
      · rename_i hh
        exact .inr (.inr ⟨fun e => hh (.inl e), fun e => hh (.inr e), (Option.some.inj h).symm⟩)
abbrev slashed (R : List (List UInt8)) : List UInt8 := R.flatMap fun s => 47 :: s
theorem slashed_end (R : List (List UInt8)) : atEnd (slashed R) := by
  cases R with
  | nil => exact .inl rfl
  | cons s r => exact .inr ⟨_, by rw [slashed, List.flatMap_cons, List.cons_append]⟩
theorem fill_main : ∀ (R : List (List UInt8)) (ls : List Plc) (ss : List (List UInt8)), placesG R (R.map unq) = some ls → (∀ s ∈ R, 47 ∉ s ∧ madeOf pathL s = true) → ls.map keyP ∈ cands ss →
    ∃ O, fillG false (slashed R) (paramsG ls ss) = some (slashed O, []) ∧ (∀ o ∈ O, madeOf pathL o = true) ∧ O.length = R.length ∧ ((∀ p ∈ ls, p.1 ≠ 2) → (∀ o ∈ O, 47 ∉ o) ∧ O.map unq = ss)
  | [], ls, ss, hp, _, hc => by
    obtain rfl : ls = [] := (Option.some.inj hp).symm
    obtain rfl := cands_nil hc
    exact ⟨[], fillG_nil _ _, fun o h => absurd h (by simp), rfl, fun _ => ⟨fun o h => absurd h (by simp), rfl⟩⟩
  | s :: r, ls, ss, hp, hR, hc => by
    have hs := hR s (List.mem_cons_self ..)
    have hr : ∀ x ∈ r, 47 ∉ x ∧ madeOf pathL x = true := fun x hx => hR x (List.mem_cons_of_mem _ hx)
    rw [List.map_cons, placesG] at hp
    simp only [List.headD_cons, List.tail_cons] at hp
    split at hp
    · cases hp
    rename_i p hpl
    obtain ⟨lr, hlr, rfl⟩ := Option.map_eq_some_iff.1 hp
    rw [List.map_cons] at hc
    obtain ⟨x, xs, rfl, hcc⟩ := cands_cons hc
    have hend := slashed_end r
    have hsl : slashed (s :: r) = 47 :: (s ++ slashed r) := rfl
    rw [hsl, fillG_cons (by decide), show decide ((47 : UInt8) = 47) = true from rfl]
    rcases placeOf_cases hpl with ⟨nm, rfl, hb, rfl⟩ | ⟨nm, rfl, rfl⟩ | ⟨h42, h58, rfl⟩
    · have hb : r = [] := of_decide_eq_true hb
      subst hb
      obtain rfl : lr = [] := (Option.some.inj hlr).symm
      have hnm : 47 ∉ nm := fun h => hs.1 (List.mem_cons_of_mem _ h)
      obtain ⟨ht, hd⟩ := take_noSl hnm (q := slashed []) hend
      refine ⟨[fillV (Lib.join (x :: xs) [47]) true], ?_, fun o ho => ?_, rfl, fun h => absurd rfl (h _ (List.mem_cons_self ..))⟩
      · rw [paramsG, if_neg (show ¬ ((2 : Int) = 1) by decide), if_pos rfl, paramsG, List.append_nil, List.cons_append, fillG_par (.inr rfl) (by rw [ht]), hd]
        rw [show slashed [] = [] from rfl, fillG_nil]
        simp [slashed]
      · rw [List.mem_singleton.1 ho]
        exact fillV_made _ _
    · have hk : (1, []) :: lr.map keyP ∈ cands (x :: xs) := hc
      have hxs : lr.map keyP ∈ cands xs := by
        rcases hcc with ⟨e, _⟩ | ⟨_, h⟩ | ⟨e, _⟩
        · cases (Prod.mk.inj e).1
        · exact h
        · cases (Prod.mk.inj e).1
      obtain ⟨O, h1, h2, h3, h4⟩ := fill_main r lr xs hlr hr hxs
      have hnm : 47 ∉ nm := fun h => hs.1 (List.mem_cons_of_mem _ h)
      obtain ⟨ht, hd⟩ := take_noSl hnm hend
      refine ⟨quoteOf x :: O, ?_, fun o ho => ?_, by rw [List.length_cons, h3]; rfl, fun h => ?_⟩
      · rw [paramsG, if_pos rfl, List.headD_cons, List.tail_cons, List.singleton_append, List.cons_append, fillG_par (.inl rfl) (by rw [ht]), hd, h1]
        simp [slashed, fillV]
      · rcases List.mem_cons.1 ho with rfl | ho
        · exact made_quote x
        · exact h2 o ho
      · obtain ⟨h5, h6⟩ := h4 fun q hq => h q (List.mem_cons_of_mem _ hq)
        refine ⟨fun o ho => ?_, by rw [List.map_cons, unq_quote, h6]⟩
        rcases List.mem_cons.1 ho with rfl | ho
        · exact quote_slash x
        · exact h5 o ho
    · have hxs : unq s = x ∧ lr.map keyP ∈ cands xs := by
        rcases hcc with ⟨e, h⟩ | ⟨e, _⟩ | ⟨e, _⟩
        · exact ⟨(Prod.mk.inj e).2, h⟩
        · cases (Prod.mk.inj e).1
        · cases (Prod.mk.inj e).1
      obtain ⟨rfl, hxs⟩ := hxs
      obtain ⟨O, h1, h2, h3, h4⟩ := fill_main r lr xs hlr hr hxs
      refine ⟨s :: O, ?_, fun o ho => ?_, by rw [List.length_cons, h3]; rfl, fun h => ?_⟩
      · rw [paramsG, if_neg (show ¬ ((0 : Int) = 1) by decide), if_neg (show ¬ ((0 : Int) = 2) by decide), List.nil_append, List.tail_cons, fill_lit s _ _ true hs.1 hend (fun _ => ⟨h58, h42⟩), h1]
        rfl
      · rcases List.mem_cons.1 ho with rfl | ho
        · exact hs.2
        · exact h2 o ho
      · obtain ⟨h5, h6⟩ := h4 fun q hq => h q (List.mem_cons_of_mem _ hq)
        refine ⟨fun o ho => ?_, by rw [List.map_cons, h6]⟩
        rcases List.mem_cons.1 ho with rfl | ho
        · exact hs.1
        · exact h5 o ho
theorem split_slashed : ∀ l : List UInt8, slashed (splitB 47 l) = 47 :: l
  | [] => rfl
  | x :: r => by
    have ih := split_slashed r
    unfold splitB
    by_cases hx : x = 47
    · rw [if_pos hx, slashed, List.flatMap_cons]
      show 47 :: slashed (splitB 47 r) = _
      rw [ih, hx]
    · rw [if_neg hx]
      cases hs : splitB 47 r with
      | nil => exact absurd hs (splitB_ne 47 r)
      | cons p q =>
        rw [hs] at ih
        have e : 47 :: (p ++ slashed q) = 47 :: r := ih
        rw [List.cons.injEq] at e
        show 47 :: x :: (p ++ slashed q) = _
        rw [e.2]
theorem slashed_split : ∀ (o : List UInt8) (O : List (List UInt8)), (∀ x ∈ o :: O, 47 ∉ x) → splitB 47 ((slashed (o :: O)).drop 1) = o :: O
  | o, [], h => by
    show splitB 47 (o ++ []) = _
    rw [List.append_nil]
    exact splitB_none 47 o (h o (List.mem_cons_self ..))
  | o, p :: O, h => by
    have ih := slashed_split p O fun x hx => h x (List.mem_cons_of_mem _ hx)
    have e : (slashed (o :: p :: O)).drop 1 = o ++ 47 :: (slashed (p :: O)).drop 1 := rfl
    rw [e, splitB_app 47 _ _ (h o (List.mem_cons_self ..)), ih]
theorem made_parts : ∀ (n : Nat) (l : List UInt8), l.length ≤ n → madeOf pathL l = true → ∀ s ∈ splitB 47 l, madeOf pathL s = true
  | _, [], _, _, s, hs => by
    rw [List.mem_singleton.1 hs]
    rfl
  | 0, x :: r, hl, _, _, _ => by simp at hl
  | n + 1, x :: r, hl, h, s, hs => by
    rcases made_x pathL path_37 x r h with ⟨hx, h3, h4⟩ | ⟨p, q, t, rfl, rfl, h3, h4, h5⟩
    · have ih := made_parts n r (by simpa using hl) h4
      unfold splitB at hs
      by_cases e : x = 47
      · rw [if_pos e] at hs
        rcases List.mem_cons.1 hs with rfl | hs
        · rfl
        · exact ih s hs
      · rw [if_neg e] at hs
        cases hsp : splitB 47 r with
        | nil => exact absurd hsp (splitB_ne 47 r)
        | cons u v =>
          rw [hsp] at hs ih
          rcases List.mem_cons.1 hs with rfl | hs
          · rw [made_cons pathL x u hx, h3, ih u (List.mem_cons_self ..)]
            rfl
          · exact ih s (List.mem_cons_of_mem _ hs)
    · have ih := made_parts n t (by simp at hl; omega) h5
      have hp := hex_not_slash p h3
      have hq := hex_not_slash q h4
      cases hsp : splitB 47 t with
      | nil => exact absurd hsp (splitB_ne 47 t)
      | cons u v =>
        have e : splitB 47 (37 :: p :: q :: t) = (37 :: p :: q :: u) :: v := by
          rw [splitB, if_neg (by decide), splitB, if_neg hp, splitB, if_neg hq, hsp]
        rw [e] at hs
        rw [hsp] at ih
        rcases List.mem_cons.1 hs with rfl | hs
        · rw [made_37 pathL path_37]
          dsimp only
          rw [h3, h4, ih u (List.mem_cons_self ..)]
          rfl
        · exact ih s (List.mem_cons_of_mem _ hs)
theorem made_slashed : ∀ O : List (List UInt8), (∀ o ∈ O, madeOf pathL o = true) → madeOf pathL (slashed O) = true
  | [], _ => rfl
  | o :: O, h => by
    show madeOf pathL (47 :: (o ++ slashed O)) = true
    rw [made_cons pathL 47 _ (by decide), made_app _ path_37 _ _ _ (Nat.le_refl _) (h o (List.mem_cons_self ..)), made_slashed O fun x hx => h x (List.mem_cons_of_mem _ hx)]
    decide
/-- Is there a sign of a rest? -/
def restG : Bool → List UInt8 → Bool
  | _, [] => false
  | b, x :: r => (b && decide (x = 42)) || restG (decide (x = 47)) r
theorem rest_split : ∀ (b : Bool) (q : List UInt8), restG b q = false → ∃ h t, splitB 47 q = h :: t ∧ (b = true → h.head? ≠ some 42) ∧ ∀ s ∈ t, s.head? ≠ some 42
  | b, [], _ => ⟨[], [], rfl, fun _ => by simp, fun s h => by cases h⟩
  | b, x :: r, h => by
    unfold restG at h
    rw [Bool.or_eq_false_iff] at h
    obtain ⟨h1, h2⟩ := h
    obtain ⟨u, t, e, h3, h4⟩ := rest_split _ r h2
    unfold splitB
    by_cases hx : x = 47
    · rw [if_pos hx, e]
      rw [decide_eq_true hx] at h3
      refine ⟨[], u :: t, rfl, fun _ => by simp, fun s hs => ?_⟩
      rcases List.mem_cons.1 hs with rfl | hs
      · exact h3 rfl
      · exact h4 s hs
    · rw [if_neg hx, e]
      refine ⟨x :: u, t, rfl, fun hb => ?_, h4⟩
      subst hb
      simpa using h1
theorem rest_places : ∀ (R T : List (List UInt8)) (ls : List Plc), placesG R T = some ls → (∀ s ∈ R, s.head? ≠ some 42) → ∀ p ∈ ls, p.1 ≠ 2
  | [], _, ls, h, _, p, hp => by
    obtain rfl : ls = [] := (Option.some.inj h).symm
    cases hp
  | s :: r, T, ls, h, hR, p, hp => by
    rw [placesG] at h
    split at h
    · cases h
    rename_i q hq
    obtain ⟨lr, hlr, rfl⟩ := Option.map_eq_some_iff.1 h
    rcases List.mem_cons.1 hp with rfl | hp
    · rcases placeOf_cases hq with ⟨nm, rfl, _⟩ | ⟨nm, _, rfl⟩ | ⟨_, _, rfl⟩
      · exact absurd rfl (hR _ (List.mem_cons_self ..))
      · show ¬ ((1 : Int) = 2)
        decide
      · show ¬ ((0 : Int) = 2)
        decide
    · exact rest_places r _ lr hlr (fun x hx => hR x (List.mem_cons_of_mem _ hx)) p hp
/-- Parameters in their places make the path's segments. -/
theorem fills_law {p : List UInt8} {ls : List Plc} {ss : List (List UInt8)} (hp : pathOf p = true) (hl : placesOf p = some ls) (hc : ls.map keyP ∈ cands ss) :
    ∃ out, fillG false p (paramsG ls ss) = some (out, []) ∧ pathOf out = true ∧ (restG false p = false → segs out = ss) := by
  obtain ⟨l, rfl⟩ := path_head hp
  unfold placesOf at hl
  split at hl
  rotate_left
  · cases hl
  have hs : segs (47 :: l) = (splitB 47 l).map unq := rfl
  rw [hs, List.drop_succ_cons, List.drop_zero] at hl
  have hmade : madeOf pathL l = true := by
    unfold pathOf at hp
    rw [Bool.and_eq_true] at hp
    have := hp.2
    rw [made_cons pathL 47 l (by decide), Bool.and_eq_true] at this
    exact this.2
  obtain ⟨O, h1, h2, h3, h4⟩ := fill_main (splitB 47 l) ls ss hl (fun s hs => ⟨(splitB_mem 47 l s hs).1, made_parts l.length l (Nat.le_refl _) hmade s hs⟩) hc
  rw [split_slashed] at h1
  cases O with
  | nil =>
    exact absurd (List.eq_nil_of_length_eq_zero h3.symm) (splitB_ne 47 l)
  | cons o O =>
    refine ⟨_, h1, ?_, fun hr => ?_⟩
    · unfold pathOf
      rw [made_slashed _ h2]
      rfl
    · have hr2 : restG true l = false := hr
      obtain ⟨u, t, e, h5, h6⟩ := rest_split true l hr2
      obtain ⟨h7, h8⟩ := h4 (rest_places _ _ _ hl fun s hs => by
        rw [e] at hs
        rcases List.mem_cons.1 hs with rfl | hs
        · exact h5 rfl
        · exact h6 s hs)
      unfold segs
      rw [slashed_split o O h7, h8]
end Go.Proofs.YtnaeeklnlddcaaaGreatDoor.Vex
/- The parameters of a path at a page's places, reckoned. -/
namespace Go.Proofs.YtnaeeklnlddcaaaGreatDoor.Vex
open Go Go.RowKit
set_option maxRecDepth 100000
set_option linter.unusedSectionVars false
set_option linter.unusedSectionVars false
variable {gI : GI} [HasMax gI] [HasErr gI]

theorem CallQ.fnV {c : Ctx} {H : Hp} {f : Nat} {args : List Value} {pre : World → Prop} {v : Value} {K : Value → Prop} (h : FnE c.P c.g f args pre fun _ u _ => u = v) (hp : ∀ w, St c H w → pre w) (k : K v) : CallQ c f args H K :=
  ⟨h.can, v, k, fun w hw => (h.ok w hw.glob (hp w hw)).mono fun _ w' ⟨v', he, hv, hR⟩ => ⟨by rw [he, hv], hR⟩⟩
theorem SlcV.strs {c : Ctx} {H : Hp} {A : Option Addr} {n cp : Nat} {lo : Int} {l : List (List UInt8)} {K : Value → Prop} (hR : ∀ H, RdA c H A (l.map str)) (hn : l.length = n) (hc : n ≤ cp) (h0 : 0 ≤ lo) (h1 : lo ≤ n)
    (k : ∀ A2 c2 r, r = l.drop lo.toNat → (∀ H, RdA c H A2 (r.map str)) → r.length ≤ c2 → K (.slice A2 r.length c2)) : SlcV c H A n cp lo none 1 K := by
  refine SlcV.from h0 h1 ?_
  have hl : (l.drop lo.toNat).length = n - lo.toNat := by rw [List.length_drop]; omega
  have := k (if (cp : Int) = lo then A else A.map (·.add (lo.toNat * 1))) (cp - lo.toNat) _ rfl (fun H => ⟨by
    have hp := RdS.piece (cp := cp) (sz := 1) (lo := lo) (hR H).ok h0 (fun e => by rw [List.length_map]; omega)
    rw [Nat.mul_one, ← List.map_drop] at hp
    rw [Nat.mul_one]
    exact hp⟩) (by rw [hl]; omega)
  rw [hl] at this
  exact this
/-- How much segments hold, with their slashes. -/
def totS (l : List (List UInt8)) : Nat := (l.map fun s => s.length + 1).sum
theorem totS_cons (s : List UInt8) (l : List (List UInt8)) : totS (s :: l) = s.length + 1 + totS l := by simp [totS]
theorem totS_drop : ∀ (l : List (List UInt8)) (k : Nat), totS (l.drop k) ≤ totS l
  | [], k => by simp
  | s :: l, 0 => Nat.le_refl _
  | s :: l, k + 1 => by
    have := totS_drop l k
    rw [List.drop_succ_cons, totS_cons]
    omega
theorem totS_len : ∀ l : List (List UInt8), l.length ≤ totS l
  | [] => Nat.le_refl _
  | s :: l => by have := totS_len l; rw [totS_cons, List.length_cons]; omega
theorem tot_tail : ∀ r : List (List UInt8), (Lib.joinTail [47] r).length = totS r
  | [] => rfl
  | s :: r => by
    have ih := tot_tail r
    unfold Lib.joinTail at *
    rw [List.map_cons, List.flatten_cons, List.length_append, ih, totS_cons, List.length_append, List.length_singleton]
    omega
theorem join_tot (l : List (List UInt8)) : (Lib.join l [47]).length ≤ totS l := by
  cases l with
  | nil => simp [Lib.join_nil]
  | cons s r => rw [Lib.join_cons, List.length_append, tot_tail, totS_cons]; omega
theorem unq_len : ∀ (n : Nat) (s : List UInt8), s.length ≤ n → (unq s).length ≤ s.length
  | _, [], _ => Nat.le_refl _
  | 0, _ :: _, h => by simp at h
  | n + 1, x :: r, h => by
    simp only [List.length_cons] at h
    unfold unq
    split
    · simp
    · rename_i a b t e
      obtain ⟨rfl, rfl⟩ := List.cons.inj e
      simp only [List.length_cons] at h ⊢
      have h1 := unq_len n t (by omega)
      have h2 := unq_len n (a :: b :: t) (by simp only [List.length_cons]; omega)
      simp only [List.length_cons] at h2
      split
      · simp only [List.length_cons]; omega
      · simp only [List.length_cons]; omega
    · rename_i y t _ e
      obtain ⟨rfl, rfl⟩ := List.cons.inj e
      have h1 := unq_len n r (by omega)
      simp only [List.length_cons]
      omega
theorem tot_split : ∀ l : List UInt8, totS ((splitB 47 l).map unq) ≤ l.length + 1 ∧ totS (splitB 47 l) = l.length + 1
  | l => by
    have e2 : totS (splitB 47 l) = l.length + 1 := by
      have h := congrArg List.length (split_slashed l)
      have h2 : ∀ R : List (List UInt8), (slashed R).length = totS R := fun R => by
        induction R with
        | nil => rfl
        | cons s R ih =>
          rw [slashed, List.flatMap_cons, List.length_append, totS_cons, List.length_cons]
          have ih : (List.flatMap (fun s => (47 : UInt8) :: s) R).length = totS R := ih
          rw [ih]
      rw [h2] at h
      exact h
    refine ⟨?_, e2⟩
    rw [← e2]
    generalize splitB 47 l = R
    induction R with
    | nil => exact Nat.le_refl _
    | cons s R ih =>
      rw [List.map_cons, totS_cons, totS_cons]
      have := unq_len s.length s (Nat.le_refl _)
      omega
theorem tot_segs {p : List UInt8} (hp : pathOf p = true) : totS (segs p) ≤ p.length := by
  obtain ⟨l, rfl⟩ := path_head hp
  exact (tot_split l).1
/-- How much values hold. -/
def totV (l : List Fld) : Nat := (l.map fun f => f.2.length).sum
theorem totV_app (a b : List Fld) : totV (a ++ b) = totV a + totV b := by simp [totV]
theorem params_tot : ∀ (ls : List Plc) (ss : List (List UInt8)), ls.map keyP ∈ cands ss → totV (paramsG ls ss) ≤ totS ss
  | [], ss, _ => Nat.zero_le _
  | p :: r, ss, h => by
    obtain ⟨x, xs, rfl, hc⟩ := cands_cons (by rw [List.map_cons] at h; exact h)
    rw [paramsG, totV_app, totS_cons]
    simp only [List.headD_cons, List.tail_cons]
    have hj := join_tot (x :: xs)
    rw [totS_cons] at hj
    rcases hc with ⟨e, hr⟩ | ⟨e, hr⟩ | ⟨e, hr⟩
    · have ih := params_tot r xs hr
      have hp : p.1 = 0 := by unfold keyP at e; split at e <;> simp_all
      rw [if_neg (by rw [hp]; decide), if_neg (by rw [hp]; decide)]
      simp only [totV, List.map_nil, List.sum_nil] at ih ⊢
      omega
    · have ih := params_tot r xs hr
      have hp : p.1 = 1 := by unfold keyP at e; split at e <;> simp_all
      rw [if_pos hp]
      simp only [totV, List.map_cons, List.map_nil, List.sum_cons, List.sum_nil] at ih ⊢
      omega
    · obtain rfl : r = [] := List.map_eq_nil_iff.1 hr
      have hp : p.1 = 2 := by unfold keyP at e; split at e <;> simp_all
      rw [if_neg (by rw [hp]; decide), if_pos hp]
      simp only [paramsG, totV, List.map_cons, List.map_nil, List.sum_cons, List.sum_nil]
      omega
theorem key_kind (p : Plc) : (keyP p).1 = p.1 := by unfold keyP; split <;> rfl
structure PrS where
  i : Nat
  o : List Fld
  A : Option Addr
  cp : Nat
structure RwM where
  A : Option Addr
  cp : Nat
set_option maxHeartbeats 4000000 in
theorem params_f (LA : Option Addr) (Lc : Nat) (ls : List Plc) (SA : Option Addr) (Sc : Nat) (ss : List (List UInt8)) (hm : ls.map keyP ∈ cands ss) (ht : totS ss ≤ 1000000) (hl : ls.length ≤ 2000000) :
    FnT Tryz.prog gI 36 [.slice LA ls.length Lc, .slice SA ss.length Sc] (fun w => Rdw w LA (plcCells ls) ∧ Rdw w SA (ss.map str) ∧ ss.length ≤ Sc) (fun x : RwM => .slice x.A (paramsG ls ss).length x.cp) (fun _ => True)
      (fun x => [.row (.slice x.A (paramsG ls ss).length x.cp) 41 2 (paramsG ls ss).length (fcells (paramsG ls ss))]) (fun _ => []) := by
  refine FnE.of tys_ok Tryz.func36 rfl (by kernel_rfl) rfl rfl ?_; intro w hG hP
  have hL : ∀ H, RdA (mkC Tryz.prog gI w hG) H LA (plcCells ls) := fun H => ⟨hP.1.now⟩
  have hS : ∀ H, RdA (mkC Tryz.prog gI w hG) H SA (ss.map str) := fun H => ⟨hP.2.1.now⟩
  have hSc := hP.2.2
  clear hP
  have hsl := totS_len ss
  generalize hpg : paramsG ls ss = Pm
  (conv => whnf); repeat ((first | refine tk1 ?_ | refine tk2 ?_ | refine tk3 ?_ | refine tk12 (fun _ => ?_) | refine tk4 ?_ | refine tk5 ?_ | refine tk6 ?_ | refine tk7 ?_ | refine tk8 ?_ | refine tk9 ?_ | refine tk10 (fun _ _ => ?_) | refine tk11 (fun _ => ?_) | refine tk13 ?_ | refine tk14 ?_); (conv => whnf))
  refine LoopS.lpT tys_ok (fun (z : PrS) u => [u 0, .slice SA ss.length Sc, u 2, u 3, .slice z.A z.o.length z.cp, u 5, u 6, .slice LA ls.length Lc, .int .i64 ls.length, .int .i64 (z.i : Nat), u 10, u 11, u 12, u 13, u 14, u 15, u 16, u 17, u 18, u 19, u 20, u 21, u 22, u 23, u 24, u 25, u 26, u 27, u 28, u 29, u 30, u 31, u 32, u 33, u 34, u 35, u 36, u 37, u 38, u 39, u 40, u 41]) (fun z => [.row (.slice z.A z.o.length z.cp) 41 2 z.o.length (fcells z.o)])
    (fun z => z.i ≤ ls.length ∧ z.o.length ≤ z.i ∧ z.o ++ paramsG (ls.drop z.i) (ss.drop z.i) = Pm ∧ (ls.drop z.i = [] ∨ (ls.drop z.i).map keyP ∈ cands (ss.drop z.i))) (fun z => ls.length - z.i) ⟨0, [], none, 0⟩ ⟨Nat.zero_le _, Nat.le_refl _, hpg, .inr hm⟩ rfl (Into.nilRow (e := 41) (sz := 2) (fun _ h => h)) ?_
  rintro ⟨i, o, A, cp⟩ u ⟨hi, ho, hI, hc⟩
  dsimp only at hi ho hI hc ⊢
  by_cases hlt : i < ls.length
  rotate_left
  · rw [List.drop_eq_nil_of_le (by omega), paramsG, List.append_nil] at hI
    subst hI
    (conv => whnf); repeat ((first | refine tk1 ?_ | refine tk2 ?_ | refine tk3 ?_ | refine tk12 (fun _ => ?_) | refine tk4 ?_ | refine tk5 ?_ | refine tk6 ?_ | refine tk7 ?_ | refine tk8 ?_ | refine tk9 ?_ | refine tk10 (fun _ _ => ?_) | refine tk11 (fun _ => ?_) | refine tk13 ?_ | refine tk14 ?_); (conv => whnf))
    exact fun w' hw' => ⟨⟨A, cp⟩, rfl, trivial, newH.into hw' (Cv.into (by (try dsimp only); repeat' (first | with_reducible exact Cv.refl | with_reducible exact Cv.left | with_reducible exact Cv.right | with_reducible exact Cv.nil | (with_reducible apply Cv.cons; focus ((repeat (first | with_reducible exact Pick.here | with_reducible apply Pick.skip)); done)) | (apply Cv.cons; focus ((repeat (first | exact Pick.here | apply Pick.skip)); done)) | exact Cv.nil | exact Cv.refl | exact Cv.left | exact Cv.right | refine Cv.skip ?_)))⟩
  have hcell := plcCells_at ls i hlt
  have hd : ls.drop i = ls[i] :: ls.drop (i + 1) := List.drop_eq_getElem_cons hlt
  rw [hd] at hI hc
  obtain ⟨⟨a, s⟩, hp⟩ : ∃ p, ls[i] = p := ⟨_, rfl⟩
  rw [hp] at hcell hI hc
  have hc := hc.resolve_left (by simp)
  rw [List.map_cons] at hc
  obtain ⟨x, xs, hx, hcc⟩ := cands_cons hc
  have hss : i < ss.length := by
    have := congrArg List.length hx
    rw [List.length_drop, List.length_cons] at this
    omega
  have hxi : ss[i] = x := by
    rw [List.drop_eq_getElem_cons hss] at hx
    exact (List.cons.inj hx).1
  have hxs : ss.drop (i + 1) = xs := by
    rw [List.drop_eq_getElem_cons hss] at hx
    exact (List.cons.inj hx).2
  have hsx : (ss.map str)[((i : Nat) : Int).toNat * 1]? = some (str x) := by rw [Int.toNat_natCast, Nat.mul_one, List.getElem?_map, List.getElem?_eq_getElem hss, hxi]; rfl
  have hk : ∀ (k : Int) (t : List UInt8), (k, t) = keyP (a, s) → a = k := fun k t e => by
    have h1 := congrArg Prod.fst e
    rw [key_kind] at h1
    exact h1.symm
  rw [paramsG, hx, List.tail_cons, List.headD_cons] at hI
  have hjt := join_tot (ss.drop i)
  have htd := totS_drop ss i
  rcases hcc with ⟨e, hr⟩ | ⟨e, hr⟩ | ⟨e, hr⟩
  · as_aux_lemma =>
    obtain rfl : a = 0 := hk 0 x e.symm
    rw [if_neg (show ¬ ((0 : Int) = 1) by decide), if_neg (show ¬ ((0 : Int) = 2) by decide), List.nil_append] at hI
    (conv => whnf); repeat ((first | refine tk1 ?_ | refine tk2 ?_ | refine tk3 ?_ | refine tk12 (fun _ => ?_) | refine tk4 ?_ | refine tk5 ?_ | refine tk6 ?_ | refine tk7 ?_ | refine tk8 ?_ | refine tk9 ?_ | refine tk10 (fun _ _ => ?_) | refine tk11 (fun _ => ?_) | refine tk13 ?_ | refine tk14 ?_); (conv => whnf))
    refine IdxA.tc (xs := plcCells ls) (by rw [plcCells_length]; omega) (by omega) (by omega) ?_
    (conv => whnf); repeat ((first | refine tk1 ?_ | refine tk2 ?_ | refine tk3 ?_ | refine tk12 (fun _ => ?_) | refine tk4 ?_ | refine tk5 ?_ | refine tk6 ?_ | refine tk7 ?_ | refine tk8 ?_ | refine tk9 ?_ | refine tk10 (fun _ _ => ?_) | refine tk11 (fun _ => ?_) | refine tk13 ?_ | refine tk14 ?_); (conv => whnf))
    refine Ld.taN (xs := plcCells ls) (vs := [.int .i64 0, str s]) (by rw [Int.toNat_natCast]; exact hcell) rfl ?_
    (conv => whnf); repeat ((first | refine tk1 ?_ | refine tk2 ?_ | refine tk3 ?_ | refine tk12 (fun _ => ?_) | refine tk4 ?_ | refine tk5 ?_ | refine tk6 ?_ | refine tk7 ?_ | refine tk8 ?_ | refine tk9 ?_ | refine tk10 (fun _ _ => ?_) | refine tk11 (fun _ => ?_) | refine tk13 ?_ | refine tk14 ?_); (conv => whnf))
    exact ⟨⟨i + 1, o, A, cp⟩, ⟨by dsimp only; omega, by dsimp only; omega, by dsimp only; rw [hxs]; exact hI, .inr (by dsimp only; rw [hxs]; exact hr)⟩, rfl, Cv.into (by (try dsimp only); repeat' (first | with_reducible exact Cv.refl | with_reducible exact Cv.left | with_reducible exact Cv.right | with_reducible exact Cv.nil | (with_reducible apply Cv.cons; focus ((repeat (first | with_reducible exact Pick.here | with_reducible apply Pick.skip)); done)) | (apply Cv.cons; focus ((repeat (first | exact Pick.here | apply Pick.skip)); done)) | exact Cv.nil | exact Cv.refl | exact Cv.left | exact Cv.right | refine Cv.skip ?_)), by dsimp only; omega⟩
  · as_aux_lemma =>
    obtain rfl : a = 1 := hk 1 [] e.symm
    rw [if_pos rfl] at hI
    (conv => whnf); repeat ((first | refine tk1 ?_ | refine tk2 ?_ | refine tk3 ?_ | refine tk12 (fun _ => ?_) | refine tk4 ?_ | refine tk5 ?_ | refine tk6 ?_ | refine tk7 ?_ | refine tk8 ?_ | refine tk9 ?_ | refine tk10 (fun _ _ => ?_) | refine tk11 (fun _ => ?_) | refine tk13 ?_ | refine tk14 ?_); (conv => whnf))
    refine IdxA.tc (xs := plcCells ls) (by rw [plcCells_length]; omega) (by omega) (by omega) ?_
    (conv => whnf); repeat ((first | refine tk1 ?_ | refine tk2 ?_ | refine tk3 ?_ | refine tk12 (fun _ => ?_) | refine tk4 ?_ | refine tk5 ?_ | refine tk6 ?_ | refine tk7 ?_ | refine tk8 ?_ | refine tk9 ?_ | refine tk10 (fun _ _ => ?_) | refine tk11 (fun _ => ?_) | refine tk13 ?_ | refine tk14 ?_); (conv => whnf))
    refine Ld.taN (xs := plcCells ls) (vs := [.int .i64 1, str s]) (by rw [Int.toNat_natCast]; exact hcell) rfl ?_
    (conv => whnf); repeat ((first | refine tk1 ?_ | refine tk2 ?_ | refine tk3 ?_ | refine tk12 (fun _ => ?_) | refine tk4 ?_ | refine tk5 ?_ | refine tk6 ?_ | refine tk7 ?_ | refine tk8 ?_ | refine tk9 ?_ | refine tk10 (fun _ _ => ?_) | refine tk11 (fun _ => ?_) | refine tk13 ?_ | refine tk14 ?_); (conv => whnf))
    refine DrawS.go [(0, true), (1, true), (2, true), (3, true), (4, true), (5, true), (6, true), (7, true), (8, false), (9, false), (10, true)] tys_ok mixed (by kernel_rfl) ?_
    (conv => whnf); repeat ((first | refine tk1 ?_ | refine tk2 ?_ | refine tk3 ?_ | refine tk12 (fun _ => ?_) | refine tk4 ?_ | refine tk5 ?_ | refine tk6 ?_ | refine tk7 ?_ | refine tk8 ?_ | refine tk9 ?_ | refine tk10 (fun _ _ => ?_) | refine tk11 (fun _ => ?_) | refine tk13 ?_ | refine tk14 ?_); (conv => whnf))
    refine IdxA.tc (xs := ss.map str) (by rw [List.length_map]; omega) (by omega) (by omega) ?_
    (conv => whnf); repeat ((first | refine tk1 ?_ | refine tk2 ?_ | refine tk3 ?_ | refine tk12 (fun _ => ?_) | refine tk4 ?_ | refine tk5 ?_ | refine tk6 ?_ | refine tk7 ?_ | refine tk8 ?_ | refine tk9 ?_ | refine tk10 (fun _ _ => ?_) | refine tk11 (fun _ => ?_) | refine tk13 ?_ | refine tk14 ?_); (conv => whnf))
    refine Ld.ta (xs := ss.map str) hsx ?_
    (conv => whnf); repeat ((first | refine tk1 ?_ | refine tk2 ?_ | refine tk3 ?_ | refine tk12 (fun _ => ?_) | refine tk4 ?_ | refine tk5 ?_ | refine tk6 ?_ | refine tk7 ?_ | refine tk8 ?_ | refine tk9 ?_ | refine tk10 (fun _ _ => ?_) | refine tk11 (fun _ => ?_) | refine tk13 ?_ | refine tk14 ?_); (conv => whnf))
    refine AppS.tc (m := 1) (news := [str s, str x]) SrcK.tc rfl (by simp [Value.oneCell']) (by decide) (by omega) (by omega) (zs := fcells (o ++ [(s, x)])) (by rw [fcells_app]; rfl) (fun A' cp' => ?_)
    rw [show o.length + 1 = (o ++ [((s, x) : Fld)]).length by simp]
    (conv => whnf); repeat ((first | refine tk1 ?_ | refine tk2 ?_ | refine tk3 ?_ | refine tk12 (fun _ => ?_) | refine tk4 ?_ | refine tk5 ?_ | refine tk6 ?_ | refine tk7 ?_ | refine tk8 ?_ | refine tk9 ?_ | refine tk10 (fun _ _ => ?_) | refine tk11 (fun _ => ?_) | refine tk13 ?_ | refine tk14 ?_); (conv => whnf))
    exact ⟨⟨i + 1, o ++ [(s, x)], A', cp'⟩, ⟨by dsimp only; omega, by dsimp only; rw [List.length_append, List.length_singleton]; omega, by dsimp only; rw [hxs, List.append_assoc]; exact hI, .inr (by dsimp only; rw [hxs]; exact hr)⟩, rfl, Cv.into (by (try dsimp only); repeat' (first | with_reducible exact Cv.refl | with_reducible exact Cv.left | with_reducible exact Cv.right | with_reducible exact Cv.nil | (with_reducible apply Cv.cons; focus ((repeat (first | with_reducible exact Pick.here | with_reducible apply Pick.skip)); done)) | (apply Cv.cons; focus ((repeat (first | exact Pick.here | apply Pick.skip)); done)) | exact Cv.nil | exact Cv.refl | exact Cv.left | exact Cv.right | refine Cv.skip ?_)), by dsimp only; omega⟩
  · as_aux_lemma =>
    obtain rfl : a = 2 := hk 2 [] e.symm
    have hr0 : ls.drop (i + 1) = [] := List.map_eq_nil_iff.1 hr
    rw [if_neg (show ¬ ((2 : Int) = 1) by decide), if_pos rfl, hr0, paramsG, List.append_nil, ← hx] at hI
    (conv => whnf); repeat ((first | refine tk1 ?_ | refine tk2 ?_ | refine tk3 ?_ | refine tk12 (fun _ => ?_) | refine tk4 ?_ | refine tk5 ?_ | refine tk6 ?_ | refine tk7 ?_ | refine tk8 ?_ | refine tk9 ?_ | refine tk10 (fun _ _ => ?_) | refine tk11 (fun _ => ?_) | refine tk13 ?_ | refine tk14 ?_); (conv => whnf))
    refine IdxA.tc (xs := plcCells ls) (by rw [plcCells_length]; omega) (by omega) (by omega) ?_
    (conv => whnf); repeat ((first | refine tk1 ?_ | refine tk2 ?_ | refine tk3 ?_ | refine tk12 (fun _ => ?_) | refine tk4 ?_ | refine tk5 ?_ | refine tk6 ?_ | refine tk7 ?_ | refine tk8 ?_ | refine tk9 ?_ | refine tk10 (fun _ _ => ?_) | refine tk11 (fun _ => ?_) | refine tk13 ?_ | refine tk14 ?_); (conv => whnf))
    refine Ld.taN (xs := plcCells ls) (vs := [.int .i64 2, str s]) (by rw [Int.toNat_natCast]; exact hcell) rfl ?_
    (conv => whnf); repeat ((first | refine tk1 ?_ | refine tk2 ?_ | refine tk3 ?_ | refine tk12 (fun _ => ?_) | refine tk4 ?_ | refine tk5 ?_ | refine tk6 ?_ | refine tk7 ?_ | refine tk8 ?_ | refine tk9 ?_ | refine tk10 (fun _ _ => ?_) | refine tk11 (fun _ => ?_) | refine tk13 ?_ | refine tk14 ?_); (conv => whnf))
    refine DrawS.go [(0, true), (1, true), (2, true), (3, true), (4, true), (5, true), (6, true), (7, true), (8, false), (9, false), (10, true)] tys_ok mixed (by kernel_rfl) ?_
    (conv => whnf); repeat ((first | refine tk1 ?_ | refine tk2 ?_ | refine tk3 ?_ | refine tk12 (fun _ => ?_) | refine tk4 ?_ | refine tk5 ?_ | refine tk6 ?_ | refine tk7 ?_ | refine tk8 ?_ | refine tk9 ?_ | refine tk10 (fun _ _ => ?_) | refine tk11 (fun _ => ?_) | refine tk13 ?_ | refine tk14 ?_); (conv => whnf))
    refine SlcV.strs hS rfl hSc (by omega) (by omega) (fun A2 c2 r hr2 hR2 hc2 => ?_)
    rw [Int.toNat_natCast] at hr2
    subst hr2
    (conv => whnf); repeat ((first | refine tk1 ?_ | refine tk2 ?_ | refine tk3 ?_ | refine tk12 (fun _ => ?_) | refine tk4 ?_ | refine tk5 ?_ | refine tk6 ?_ | refine tk7 ?_ | refine tk8 ?_ | refine tk9 ?_ | refine tk10 (fun _ _ => ?_) | refine tk11 (fun _ => ?_) | refine tk13 ?_ | refine tk14 ?_); (conv => whnf))
    refine CallQ.fnV (Join_f A2 c2 (ss.drop i) [47] (by rw [List.length_drop]; omega) (by omega)) (fun w1 hw1 => ⟨(hR2 _).ok w1 hw1, hc2⟩) ?_
    generalize Lib.join (ss.drop i) [47] = jn at *
    (conv => whnf); repeat ((first | refine tk1 ?_ | refine tk2 ?_ | refine tk3 ?_ | refine tk12 (fun _ => ?_) | refine tk4 ?_ | refine tk5 ?_ | refine tk6 ?_ | refine tk7 ?_ | refine tk8 ?_ | refine tk9 ?_ | refine tk10 (fun _ _ => ?_) | refine tk11 (fun _ => ?_) | refine tk13 ?_ | refine tk14 ?_); (conv => whnf))
    refine AppS.tc (m := 1) (news := [str s, str jn]) SrcK.tc rfl (by simp [Value.oneCell']) (by decide) (by omega) (by omega) (zs := fcells (o ++ [(s, jn)])) (by rw [fcells_app]; rfl) (fun A' cp' => ?_)
    rw [show o.length + 1 = (o ++ [((s, jn) : Fld)]).length by simp]
    (conv => whnf); repeat ((first | refine tk1 ?_ | refine tk2 ?_ | refine tk3 ?_ | refine tk12 (fun _ => ?_) | refine tk4 ?_ | refine tk5 ?_ | refine tk6 ?_ | refine tk7 ?_ | refine tk8 ?_ | refine tk9 ?_ | refine tk10 (fun _ _ => ?_) | refine tk11 (fun _ => ?_) | refine tk13 ?_ | refine tk14 ?_); (conv => whnf))
    exact ⟨⟨i + 1, o ++ [(s, jn)], A', cp'⟩, ⟨by dsimp only; omega, by dsimp only; rw [List.length_append, List.length_singleton]; omega, by dsimp only; rw [hr0, paramsG, List.append_nil]; exact hI, .inl hr0⟩, rfl, Cv.into (by (try dsimp only); repeat' (first | with_reducible exact Cv.refl | with_reducible exact Cv.left | with_reducible exact Cv.right | with_reducible exact Cv.nil | (with_reducible apply Cv.cons; focus ((repeat (first | with_reducible exact Pick.here | with_reducible apply Pick.skip)); done)) | (apply Cv.cons; focus ((repeat (first | exact Pick.here | apply Pick.skip)); done)) | exact Cv.nil | exact Cv.refl | exact Cv.left | exact Cv.right | refine Cv.skip ?_)), by dsimp only; omega⟩
end Go.Proofs.YtnaeeklnlddcaaaGreatDoor.Vex
/- Find, reckoned. -/
namespace Go.Proofs.YtnaeeklnlddcaaaGreatDoor.Vex
open Go Go.RowKit
set_option maxRecDepth 100000
set_option linter.unusedSectionVars false
set_option linter.unusedSectionVars false
variable {gI : GI} [HasMax gI] [HasErr gI]

/-- How many keys a map has. -/
theorem OthP.lenMap {c : Ctx} {T : Ty} {H : Hp} {fr : Fr} {d : Option Nat} {t u v ty : TypeId} {x : Operand} {pos : String} {after : Array Edge} {gd : Option (Nat × Bool)} {α : Type} {kv : α → Value} {b : Nat} {l : List (α × Value)} {K : Value → Prop} (hT : TOk c.P T) (hb : ∀ w, St c H w → w.heap[b]? = some (mobj kv l))
    (ht : (lookT T t).d = .map u v) (hx : evK fr x fun v => v = .map (some b)) (k : K (.int .i64 l.length)) : OthP c ⟨d, .call ⟨.builtin .len, #[x], #[t]⟩, ty, pos, after, gd⟩ fr H K := ⟨⟨_, k, fun w hw => by
  rw [evK_eq] at hx
  have hu := (lookT_ok hT (t := t) (by rw [ht]; intro h; cases h)).1
  rw [ht] at hu
  have hbw : w.heap[b]? = some (.map ⟨mkEs kv 0 l⟩ l.length) := hb w hw
  generalize (act fr).eval = ρ at *
  have hl : (Builtin.len_ #[t] ty #[.map (some b)]).run c.P w = .ok (.int .i64 l.length) w := by
    unfold Builtin.len_
    simp only [List.getElem?_toArray, List.getElem?_cons_zero, Sem.run_bind, run_underlying hu, Result.andThen_ok, MapKept.run_getObj_map hbw, Sem.run_pure, goInt]
    simp [length_es]
  simp only [execOp, resolve, Sem.run_bind, Sem.run_pure, Result.andThen_ok, invoke, builtin]
  rw [show (#[x] : Array Operand).map ρ = #[.map (some b)] by simp [hx], hl]
  rfl⟩⟩
theorem front3 {E L R : Hp} : (E ++ (L ++ R)).Perm (L ++ (E ++ R)) := by
  rw [← List.append_assoc, ← List.append_assoc]
  exact List.Perm.append_right _ List.perm_append_comm
set_option maxHeartbeats 4000000 in
theorem find1_k {P : Program} {g : GI} {w0 : World} {M : List Nat} {hM : ∀ b ∈ M, g.n ≤ b} {hG : g.G w0} (hP : P = Tryz.prog) {ns : List Nd} {pg : List Plk → List UInt8 → Option Int} (ht : TreeI ns pg) {b8 b6 b4 : Nat} {m : List UInt8} {R : Hp} :
    DoK ⟨P, g, w0, M, hM, hG⟩ (fun s : Int × Int => .box b8 [.int .i64 s.2] 3 :: .box b6 [.int .i64 s.1] 3 :: .box b4 [str m] 9 :: (R ++ nodesH ns)) ns 34 [.pointer (some ⟨b8, 0, none⟩), .pointer (some ⟨b4, 0, none⟩), .pointer (some ⟨b6, 0, none⟩)] (fun _ _ => True) (FindS pg m) := ⟨by
  rintro E ⟨page, st⟩ n K hn _ k
  subst hP
  have hb1 : Ent.box n.b [.map (some n.pm), .map (some n.nm)] 78 ∈ E ++ (R ++ nodesH ns) := Ent.inE (Ent.inE (nodesH_mem hn _ (by simp [Nd.hd])))
  have hb2 : Ent.obj n.pm (mobj str n.pages) ∈ E ++ (R ++ nodesH ns) := Ent.inE (Ent.inE (nodesH_mem hn _ (by simp [Nd.hd])))
  have hpg := ht.pages n hn m
  have hst : stAt n st = if n.pages.length = 0 then st else 405 := by
    unfold stAt
    simp [List.length_eq_zero_iff]
  refine CallK.into (fun w hw => hw.perm (front3 (L := [.box b8 [.int .i64 st] 3, .box b6 [.int .i64 page] 3, .box b4 [str m] 9]))) (CallK.post ?_)
  have hback : ∀ (page st : Int) (w : World), St ⟨Tryz.prog, g, w0, M, hM, hG⟩ (.box b8 [.int .i64 st] 3 :: .box b6 [.int .i64 page] 3 :: .box b4 [str m] 9 :: (E ++ (R ++ nodesH ns))) w → St ⟨Tryz.prog, g, w0, M, hM, hG⟩ (E ++ (.box b8 [.int .i64 st] 3 :: .box b6 [.int .i64 page] 3 :: .box b4 [str m] 9 :: (R ++ nodesH ns))) w :=
    fun page st w hw => hw.perm (front3 (L := [.box b8 [.int .i64 st] 3, .box b6 [.int .i64 page] 3, .box b4 [str m] 9])).symm
  dsimp only [List.cons_append, List.nil_append]
  refine CallK.inl tys_ok Tryz.func34 rfl (by kernel_rfl) rfl rfl ?_
  unfold Nd.ptr
  (conv => whnf); repeat ((first | refine tk1 ?_ | refine tk2 ?_ | refine tk3 ?_ | refine tk12 (fun _ => ?_) | refine tk4 ?_ | refine tk5 ?_ | refine tk6 ?_ | refine tk7 ?_ | refine tk8 ?_ | refine tk9 ?_ | refine tk10 (fun _ _ => ?_) | refine tk11 (fun _ => ?_) | refine tk13 ?_ | refine tk14 ?_); (conv => whnf))
  refine Ld.mem (.tail _ (.tail _ (.tail _ hb1))) (v := .map (some n.pm)) rfl ?_
  (conv => whnf); repeat ((first | refine tk1 ?_ | refine tk2 ?_ | refine tk3 ?_ | refine tk12 (fun _ => ?_) | refine tk4 ?_ | refine tk5 ?_ | refine tk6 ?_ | refine tk7 ?_ | refine tk8 ?_ | refine tk9 ?_ | refine tk10 (fun _ _ => ?_) | refine tk11 (fun _ => ?_) | refine tk13 ?_ | refine tk14 ?_); (conv => whnf))
  refine OthP.lenMap tys_ok (objAt_mem (.tail _ (.tail _ (.tail _ hb2)))) rfl rfl ?_
  unfold FindS at k
  rw [hst] at k
  by_cases hz : n.pages.length = 0
  · rw [if_pos hz] at k
    have hnil : n.pages = [] := List.eq_nil_of_length_eq_zero hz
    have hpn : pg n.c m = none := by
      rw [hnil] at hpg
      cases hp : pg n.c m with
      | none => rfl
      | some i => rw [hp] at hpg; cases hpg
    have k2 := k (page, st) true (by rw [hpn]; exact ⟨rfl, rfl⟩)
    have e1 : (Value.tuple ⟨[(mget m n.pages).getD (.int .i64 0), .bool (mget m n.pages).isSome]⟩) = .tuple ⟨[.int .i64 0, .bool false]⟩ := by rw [hnil]; rfl
    (conv => whnf); repeat ((first | refine tk1 ?_ | refine tk2 ?_ | refine tk3 ?_ | refine tk12 (fun _ => ?_) | refine tk4 ?_ | refine tk5 ?_ | refine tk6 ?_ | refine tk7 ?_ | refine tk8 ?_ | refine tk9 ?_ | refine tk10 (fun _ _ => ?_) | refine tk11 (fun _ => ?_) | refine tk13 ?_ | refine tk14 ?_); (conv => whnf))
    refine DrawS.go (qs 11) tys_ok mixed (by kernel_rfl) ?_
    (conv => whnf); repeat ((first | refine tk1 ?_ | refine tk2 ?_ | refine tk3 ?_ | refine tk12 (fun _ => ?_) | refine tk4 ?_ | refine tk5 ?_ | refine tk6 ?_ | refine tk7 ?_ | refine tk8 ?_ | refine tk9 ?_ | refine tk10 (fun _ _ => ?_) | refine tk11 (fun _ => ?_) | refine tk13 ?_ | refine tk14 ?_); (conv => whnf))
    refine Ld.mem (.tail _ (.tail _ (.tail _ hb1))) (v := .map (some n.pm)) rfl ?_
    (conv => whnf); repeat ((first | refine tk1 ?_ | refine tk2 ?_ | refine tk3 ?_ | refine tk12 (fun _ => ?_) | refine tk4 ?_ | refine tk5 ?_ | refine tk6 ?_ | refine tk7 ?_ | refine tk8 ?_ | refine tk9 ?_ | refine tk10 (fun _ _ => ?_) | refine tk11 (fun _ => ?_) | refine tk13 ?_ | refine tk14 ?_); (conv => whnf))
    refine OthP.lookA (k := m) (l := n.pages) strK tys_ok (objAt_mem (.tail _ (.tail _ (.tail _ hb2)))) rfl rfl rfl rfl (fun h => by cases h) (fun h => by cases h) rfl e1 ?_
    (conv => whnf); repeat ((first | refine tk1 ?_ | refine tk2 ?_ | refine tk3 ?_ | refine tk12 (fun _ => ?_) | refine tk4 ?_ | refine tk5 ?_ | refine tk6 ?_ | refine tk7 ?_ | refine tk8 ?_ | refine tk9 ?_ | refine tk10 (fun _ _ => ?_) | refine tk11 (fun _ => ?_) | refine tk13 ?_ | refine tk14 ?_); (conv => whnf))
    exact ⟨_, hback page st, k2⟩
  · rw [if_neg hz] at k
    cases hp : pg n.c m with
    | none =>
      have k2 := k (page, 405) true (by rw [hp]; exact ⟨rfl, rfl⟩)
      rw [hp] at hpg
      have e1 : (Value.tuple ⟨[(mget m n.pages).getD (.int .i64 0), .bool (mget m n.pages).isSome]⟩) = .tuple ⟨[.int .i64 0, .bool false]⟩ := by rw [hpg]; rfl
      (conv => whnf); repeat ((first | refine tk1 ?_ | refine tk2 ?_ | refine tk3 ?_ | refine tk12 (fun _ => ?_) | refine tk4 ?_ | refine tk5 ?_ | refine tk6 ?_ | refine tk7 ?_ | refine tk8 ?_ | refine tk9 ?_ | refine tk10 (fun _ _ => ?_) | refine tk11 (fun _ => ?_) | refine tk13 ?_ | refine tk14 ?_); (conv => whnf))
      refine DrawS.go (qs 11) tys_ok mixed (by kernel_rfl) ?_
      (conv => whnf); repeat ((first | refine tk1 ?_ | refine tk2 ?_ | refine tk3 ?_ | refine tk12 (fun _ => ?_) | refine tk4 ?_ | refine tk5 ?_ | refine tk6 ?_ | refine tk7 ?_ | refine tk8 ?_ | refine tk9 ?_ | refine tk10 (fun _ _ => ?_) | refine tk11 (fun _ => ?_) | refine tk13 ?_ | refine tk14 ?_); (conv => whnf))
      refine Ld.mem (.tail _ (.tail _ (.tail _ hb1))) (v := .map (some n.pm)) rfl ?_
      (conv => whnf); repeat ((first | refine tk1 ?_ | refine tk2 ?_ | refine tk3 ?_ | refine tk12 (fun _ => ?_) | refine tk4 ?_ | refine tk5 ?_ | refine tk6 ?_ | refine tk7 ?_ | refine tk8 ?_ | refine tk9 ?_ | refine tk10 (fun _ _ => ?_) | refine tk11 (fun _ => ?_) | refine tk13 ?_ | refine tk14 ?_); (conv => whnf))
      refine OthP.lookA (k := m) (l := n.pages) strK tys_ok (objAt_mem (.tail _ (.tail _ (.tail _ hb2)))) rfl rfl rfl rfl (fun h => by cases h) (fun h => by cases h) rfl e1 ?_
      (conv => whnf); repeat ((first | refine tk1 ?_ | refine tk2 ?_ | refine tk3 ?_ | refine tk12 (fun _ => ?_) | refine tk4 ?_ | refine tk5 ?_ | refine tk6 ?_ | refine tk7 ?_ | refine tk8 ?_ | refine tk9 ?_ | refine tk10 (fun _ _ => ?_) | refine tk11 (fun _ => ?_) | refine tk13 ?_ | refine tk14 ?_); (conv => whnf))
      exact ⟨_, hback page 405, k2⟩
    | some i =>
      have k2 := k (i, 405) false (by rw [hp]; exact ⟨rfl, rfl⟩)
      rw [hp] at hpg
      have e1 : (Value.tuple ⟨[(mget m n.pages).getD (.int .i64 0), .bool (mget m n.pages).isSome]⟩) = .tuple ⟨[.int .i64 i, .bool true]⟩ := by rw [hpg]; rfl
      (conv => whnf); repeat ((first | refine tk1 ?_ | refine tk2 ?_ | refine tk3 ?_ | refine tk12 (fun _ => ?_) | refine tk4 ?_ | refine tk5 ?_ | refine tk6 ?_ | refine tk7 ?_ | refine tk8 ?_ | refine tk9 ?_ | refine tk10 (fun _ _ => ?_) | refine tk11 (fun _ => ?_) | refine tk13 ?_ | refine tk14 ?_); (conv => whnf))
      refine DrawS.go (qs 11) tys_ok mixed (by kernel_rfl) ?_
      (conv => whnf); repeat ((first | refine tk1 ?_ | refine tk2 ?_ | refine tk3 ?_ | refine tk12 (fun _ => ?_) | refine tk4 ?_ | refine tk5 ?_ | refine tk6 ?_ | refine tk7 ?_ | refine tk8 ?_ | refine tk9 ?_ | refine tk10 (fun _ _ => ?_) | refine tk11 (fun _ => ?_) | refine tk13 ?_ | refine tk14 ?_); (conv => whnf))
      refine Ld.mem (.tail _ (.tail _ (.tail _ hb1))) (v := .map (some n.pm)) rfl ?_
      (conv => whnf); repeat ((first | refine tk1 ?_ | refine tk2 ?_ | refine tk3 ?_ | refine tk12 (fun _ => ?_) | refine tk4 ?_ | refine tk5 ?_ | refine tk6 ?_ | refine tk7 ?_ | refine tk8 ?_ | refine tk9 ?_ | refine tk10 (fun _ _ => ?_) | refine tk11 (fun _ => ?_) | refine tk13 ?_ | refine tk14 ?_); (conv => whnf))
      refine OthP.lookA (k := m) (l := n.pages) strK tys_ok (objAt_mem (.tail _ (.tail _ (.tail _ hb2)))) rfl rfl rfl rfl (fun h => by cases h) (fun h => by cases h) rfl e1 ?_
      (conv => whnf); repeat ((first | refine tk1 ?_ | refine tk2 ?_ | refine tk3 ?_ | refine tk12 (fun _ => ?_) | refine tk4 ?_ | refine tk5 ?_ | refine tk6 ?_ | refine tk7 ?_ | refine tk8 ?_ | refine tk9 ?_ | refine tk10 (fun _ _ => ?_) | refine tk11 (fun _ => ?_) | refine tk13 ?_ | refine tk14 ?_); (conv => whnf))
      exact ⟨_, hback i 405, k2⟩⟩
theorem places_len {p : List UInt8} {q : List Plc} (h : placesOf p = some q) : q.length ≤ p.length + 1 := by
  have h1 := placesG_len _ _ _ (show placesG (splitB 47 (p.drop 1)) (segs p) = some q by
    unfold placesOf at h
    split at h
    · exact h
    · cases h)
  have h2 := splitB_length 47 (p.drop 1)
  rw [List.length_drop] at h2
  omega
def FndV (o : Fnd) (x : RwM) : Value := .tuple #[.int .i64 o.n, .slice x.A o.ps.length x.cp, .int .i64 o.st, .int .i64 o.e]
def FndH (o : Fnd) (x : RwM) : Hp := [.row (.slice x.A o.ps.length x.cp) 41 2 o.ps.length (fcells o.ps)]
set_option maxHeartbeats 4000000 in
theorem Find_f (PA : Option Addr) (Pc : Nat) (l : List Pg) (hl : l.length ≤ 1000000) (hp : ∀ x ∈ l, x.p.length ≤ 1000000) (m path : List UInt8) (hpa : path.length ≤ 1000000) :
    FnT Tryz.prog gI 11 [.slice PA l.length Pc, str m, str path] (fun w => Rdw w PA (pgCells l)) (FndV (findO (rp l) m path)) (fun _ => True) (FndH (findO (rp l) m path)) (fun _ => []) := by
  have hgr := grown_f (gI := gI) PA Pc l hl hp
  have hseg := Segments_f (gI := gI) path (by omega)
  refine FnE.of tys_ok Tryz.func11 rfl (by kernel_rfl) rfl rfl ?_; intro w hG hP
  have hR : ∀ H, RdA (mkC Tryz.prog gI w hG) H PA (pgCells l) := fun H => ⟨hP.now⟩
  clear hP
  have hnone : ∀ (n st e : Int) (H : Hp), findO (rp l) m path = ⟨n, [], st, e⟩ → ∀ w', St (mkC Tryz.prog gI w hG) H w' → ∃ x : RwM, Value.tuple #[.int .i64 n, .slice none 0 0, .int .i64 st, .int .i64 e] = FndV (findO (rp l) m path) x ∧ True ∧ newH w w' (FndH (findO (rp l) m path) x ++ []) := fun n st e H hO w' hw' => by
    rw [hO]
    exact ⟨⟨none, 0⟩, rfl, trivial, newH.into hw' (Into.nilRow Into.nil)⟩
  have hO0 : grownE (rp l) ≠ 0 → findO (rp l) m path = ⟨0, [], 0, grownE (rp l)⟩ := fun h => by unfold findO; rw [if_pos h]
  (conv => whnf); repeat ((first | refine tk1 ?_ | refine tk2 ?_ | refine tk3 ?_ | refine tk12 (fun _ => ?_) | refine tk4 ?_ | refine tk5 ?_ | refine tk6 ?_ | refine tk7 ?_ | refine tk8 ?_ | refine tk9 ?_ | refine tk10 (fun _ _ => ?_) | refine tk11 (fun _ => ?_) | refine tk13 ?_ | refine tk14 ?_); (conv => whnf))
  rename_i b4 b6 b8
  refine CallK.fnT hgr (fun w1 hw1 => (hR _).ok w1 hw1) ?_
  rintro ⟨ns, r⟩ hQ
  dsimp only [GrV, List.cons_append, List.nil_append]
  by_cases hg : grownE (rp l) = 0
  rotate_left
  · as_aux_lemma =>
    rw [if_neg hg]
    have hO := hO0 hg
    generalize grownE (rp l) = e at *
    (conv => whnf); repeat ((first | refine tk1 ?_ | refine tk2 ?_ | refine tk3 ?_ | refine tk12 (fun _ => ?_) | refine tk4 ?_ | refine tk5 ?_ | refine tk6 ?_ | refine tk7 ?_ | refine tk8 ?_ | refine tk9 ?_ | refine tk10 (fun _ _ => ?_) | refine tk11 (fun _ => ?_) | refine tk13 ?_ | refine tk14 ?_); (conv => whnf))
    exact fun w' hw' => hnone 0 0 e _ hO w' hw'
  rw [if_pos hg, hg]
  have hO1 : pathOf path = false → findO (rp l) m path = ⟨-1, [], 404, 0⟩ := fun h => by unfold findO; rw [if_neg (not_not_intro hg), if_pos h]
  have hO2 : pathOf path = true → findO (rp l) m path = if (findC (rp l) (methodG m) (cands (segs path)) 404).1 < 0 then ⟨-1, [], (findC (rp l) (methodG m) (cands (segs path)) 404).2, 0⟩ else ⟨(findC (rp l) (methodG m) (cands (segs path)) 404).1, paramsG (placesAt (rp l) (findC (rp l) (methodG m) (cands (segs path)) 404).1) (segs path), 200, 0⟩ := fun h => by unfold findO; rw [if_neg (not_not_intro hg), if_neg (by rw [h]; decide)]
  unfold Nd.ptr
  (conv => whnf); repeat ((first | refine tk1 ?_ | refine tk2 ?_ | refine tk3 ?_ | refine tk12 (fun _ => ?_) | refine tk4 ?_ | refine tk5 ?_ | refine tk6 ?_ | refine tk7 ?_ | refine tk8 ?_ | refine tk9 ?_ | refine tk10 (fun _ _ => ?_) | refine tk11 (fun _ => ?_) | refine tk13 ?_ | refine tk14 ?_); (conv => whnf))
  by_cases hm : m = [72, 69, 65, 68]
  · have hmg : methodG m = [71, 69, 84] := by rw [hm]; rfl
    refine Cmp.t hm ?_
    (conv => whnf); repeat ((first | refine tk1 ?_ | refine tk2 ?_ | refine tk3 ?_ | refine tk12 (fun _ => ?_) | refine tk4 ?_ | refine tk5 ?_ | refine tk6 ?_ | refine tk7 ?_ | refine tk8 ?_ | refine tk9 ?_ | refine tk10 (fun _ _ => ?_) | refine tk11 (fun _ => ?_) | refine tk13 ?_ | refine tk14 ?_); (conv => whnf))
    refine CallK.fnG (G := fun u => .tuple #[u, .int .i64 (segE path)]) hseg (fun _ _ => trivial) (fun SA Sc hSc => ?_)
    cases hp2 : pathOf path
    · as_aux_lemma =>
      have hO := hO1 hp2
      rw [show segE path = 3 by unfold segE; rw [hp2]; rfl]
      (conv => whnf); repeat ((first | refine tk1 ?_ | refine tk2 ?_ | refine tk3 ?_ | refine tk12 (fun _ => ?_) | refine tk4 ?_ | refine tk5 ?_ | refine tk6 ?_ | refine tk7 ?_ | refine tk8 ?_ | refine tk9 ?_ | refine tk10 (fun _ _ => ?_) | refine tk11 (fun _ => ?_) | refine tk13 ?_ | refine tk14 ?_); (conv => whnf))
      refine DrawS.fork [] (.q 0 (.ch 1 (.a 2 (.q 3 (.a 4 (.q 5 (.nil))))) (.ch 2 (.q 1 (.q 3 (.a 4 (.q 5 (.nil))))) (.stop)))) tys_ok mixed (by kernel_rfl) ?_
      (repeat' ((conv => whnf); first | (first | refine tk1 ?_ | refine tk2 ?_ | refine tk3 ?_ | refine tk12 (fun _ => ?_) | refine tk4 ?_ | refine tk5 ?_ | refine tk6 ?_ | refine tk7 ?_ | refine tk8 ?_ | refine tk9 ?_ | refine tk10 (fun _ _ => ?_) | refine tk11 (fun _ => ?_) | refine tk13 ?_ | refine tk14 ?_) | refine And.intro ?_ ?_ | exact trivial | exact fun w' hw' => hnone (-1) 404 0 _ hO w' hw'))
    rw [show segO path = segs path by unfold segO; rw [hp2]; rfl] at hSc
    rw [show segE path = 0 by unfold segE; rw [hp2]; rfl, show segO path = segs path by unfold segO; rw [hp2]; rfl]
    have hO := hO2 hp2
    rw [hmg] at hO
    obtain ⟨htr, hr, hrc⟩ := hQ hg
    have hfw := find_ways htr [71, 69, 84] (cands (segs path)) 404
    have htot := tot_segs hp2
    have hfc := findC_cases (rp l) [71, 69, 84] (cands (segs path)) 404
    obtain ⟨ss, hss⟩ : ∃ ss, segs path = ss := ⟨_, rfl⟩
    rw [hss] at hO hfw htot hfc hSc ⊢
    (conv => whnf); repeat ((first | refine tk1 ?_ | refine tk2 ?_ | refine tk3 ?_ | refine tk12 (fun _ => ?_) | refine tk4 ?_ | refine tk5 ?_ | refine tk6 ?_ | refine tk7 ?_ | refine tk8 ?_ | refine tk9 ?_ | refine tk10 (fun _ _ => ?_) | refine tk11 (fun _ => ?_) | refine tk13 ?_ | refine tk14 ?_); (conv => whnf))
    refine CallK.into (G := [] ++ (.box b8 [.int .i64 404] 3 :: .box b6 [.int .i64 (-1)] 3 :: .box b4 [str [71, 69, 84]] 9 :: ([.row (.slice SA ss.length Sc) 9 1 ss.length (ss.map str)] ++ nodesH ns))) (Cv.into (by (try dsimp only); repeat' (first | with_reducible exact Cv.refl | with_reducible exact Cv.left | with_reducible exact Cv.right | with_reducible exact Cv.nil | (with_reducible apply Cv.cons; focus ((repeat (first | with_reducible exact Pick.here | with_reducible apply Pick.skip)); done)) | (apply Cv.cons; focus ((repeat (first | exact Pick.here | apply Pick.skip)); done)) | exact Cv.nil | exact Cv.refl | exact Cv.left | exact Cv.right | refine Cv.skip ?_))) ?_
    refine walk_k (G := fun s : Int × Int => .box b8 [.int .i64 s.2] 3 :: .box b6 [.int .i64 s.1] 3 :: .box b4 [str [71, 69, 84]] 9 :: ([.row (.slice SA ss.length Sc) 9 1 ss.length (ss.map str)] ++ nodesH ns)) rfl htr (fun s x hx => .tail _ (.tail _ (.tail _ (.tail _ hx)))) (find1_k rfl htr) ss SA Sc r (-1, 404) [] _ hr (by have := totS_len ss; omega) ?_ (fun s => RdS.skip (RdS.skip (RdS.skip RdS.here))) (fun _ _ _ _ _ _ => trivial) (fun s' b hs => ?_)
    · exact hSc
    rw [hrc] at hs
    have hs' := hfw s' b hs
    clear hfw hs
    obtain ⟨⟨fn, fst⟩, hfcc⟩ : ∃ y, findC (rp l) [71, 69, 84] (cands ss) 404 = y := ⟨_, rfl⟩
    rw [hfcc] at hO hfc hs'
    subst hs'
    dsimp only at hO hfc ⊢
    rcases hfc with rfl | ⟨i, gg, rfl, h2, h3, _⟩
    · as_aux_lemma =>
      rw [if_pos (by decide)] at hO
      dsimp only [List.cons_append, List.nil_append]
      (conv => whnf); repeat ((first | refine tk1 ?_ | refine tk2 ?_ | refine tk3 ?_ | refine tk12 (fun _ => ?_) | refine tk4 ?_ | refine tk5 ?_ | refine tk6 ?_ | refine tk7 ?_ | refine tk8 ?_ | refine tk9 ?_ | refine tk10 (fun _ _ => ?_) | refine tk11 (fun _ => ?_) | refine tk13 ?_ | refine tk14 ?_); (conv => whnf))
      refine DrawS.fork [] (.q 0 (.ch 1 (.a 2 (.q 3 (.a 4 (.q 5 (.nil))))) (.ch 2 (.q 1 (.q 3 (.a 4 (.q 5 (.nil))))) (.stop)))) tys_ok mixed (by kernel_rfl) ?_
      (repeat' ((conv => whnf); first | (first | refine tk1 ?_ | refine tk2 ?_ | refine tk3 ?_ | refine tk12 (fun _ => ?_) | refine tk4 ?_ | refine tk5 ?_ | refine tk6 ?_ | refine tk7 ?_ | refine tk8 ?_ | refine tk9 ?_ | refine tk10 (fun _ _ => ?_) | refine tk11 (fun _ => ?_) | refine tk13 ?_ | refine tk14 ?_) | refine And.intro ?_ ?_ | exact trivial | exact fun w' hw' => hnone (-1) fst 0 _ hO w' hw'))
    rw [if_neg (by omega)] at hO
    have hil : i < l.length := by
      have := (List.getElem?_eq_some_iff.1 h2).1
      rw [rp_length] at this
      exact this
    obtain ⟨c1, c2, c3⟩ := pgCells_at l i hil
    have hxl := hp l[i] (List.getElem_mem hil)
    have hri := rp_at l i hil
    rw [h2] at hri
    have hgg := Option.some.inj hri
    clear hri
    generalize l[i] = x at *
    subst hgg
    obtain ⟨⟨q, hq⟩, _⟩ := pgOK_is ((grown_zero hg).2.1 _ (List.mem_of_getElem? h2))
    have hq : placesOf x.p = some q := hq
    have hpf := places_f (gI := gI) x.p (by omega)
    rw [hq] at hpf
    have hpq : placesAt (rp l) (i : Int) = q := by
      unfold placesAt
      rw [Int.toNat_natCast, h2]
      show (placesOf x.p).getD [] = q
      rw [hq]
      rfl
    rw [hpq] at hO
    have hsq : q.map keyP ∈ cands ss := by
      unfold shapeOf at h3
      rw [hq] at h3
      exact h3
    have hql : q.length ≤ 2000000 := by
      have h5 := places_len hq
      omega
    dsimp only [List.cons_append, List.nil_append]
    (conv => whnf); repeat ((first | refine tk1 ?_ | refine tk2 ?_ | refine tk3 ?_ | refine tk12 (fun _ => ?_) | refine tk4 ?_ | refine tk5 ?_ | refine tk6 ?_ | refine tk7 ?_ | refine tk8 ?_ | refine tk9 ?_ | refine tk10 (fun _ _ => ?_) | refine tk11 (fun _ => ?_) | refine tk13 ?_ | refine tk14 ?_); (conv => whnf))
    refine IdxA.tc (xs := pgCells l) (by rw [pgCells_length]; omega) (by omega) (by omega) ?_
    (conv => whnf); repeat ((first | refine tk1 ?_ | refine tk2 ?_ | refine tk3 ?_ | refine tk12 (fun _ => ?_) | refine tk4 ?_ | refine tk5 ?_ | refine tk6 ?_ | refine tk7 ?_ | refine tk8 ?_ | refine tk9 ?_ | refine tk10 (fun _ _ => ?_) | refine tk11 (fun _ => ?_) | refine tk13 ?_ | refine tk14 ?_); (conv => whnf))
    refine Ld.taF (xs := pgCells l) (v := str x.p) (by rw [Int.toNat_natCast]; exact c3) ?_
    (conv => whnf); repeat ((first | refine tk1 ?_ | refine tk2 ?_ | refine tk3 ?_ | refine tk12 (fun _ => ?_) | refine tk4 ?_ | refine tk5 ?_ | refine tk6 ?_ | refine tk7 ?_ | refine tk8 ?_ | refine tk9 ?_ | refine tk10 (fun _ _ => ?_) | refine tk11 (fun _ => ?_) | refine tk13 ?_ | refine tk14 ?_); (conv => whnf))
    refine CallK.fnT hpf (fun _ _ => trivial) ?_
    rintro ⟨qA, qc⟩ _
    dsimp only [PlV, PlH, Option.getD_some, List.cons_append, List.nil_append]
    (conv => whnf); repeat ((first | refine tk1 ?_ | refine tk2 ?_ | refine tk3 ?_ | refine tk12 (fun _ => ?_) | refine tk4 ?_ | refine tk5 ?_ | refine tk6 ?_ | refine tk7 ?_ | refine tk8 ?_ | refine tk9 ?_ | refine tk10 (fun _ _ => ?_) | refine tk11 (fun _ => ?_) | refine tk13 ?_ | refine tk14 ?_); (conv => whnf))
    refine DrawS.go [(0, true), (1, true), (2, true), (3, false), (4, false), (5, true), (6, false), (7, true)] tys_ok mixed (by kernel_rfl) ?_
    (conv => whnf); repeat ((first | refine tk1 ?_ | refine tk2 ?_ | refine tk3 ?_ | refine tk12 (fun _ => ?_) | refine tk4 ?_ | refine tk5 ?_ | refine tk6 ?_ | refine tk7 ?_ | refine tk8 ?_ | refine tk9 ?_ | refine tk10 (fun _ _ => ?_) | refine tk11 (fun _ => ?_) | refine tk13 ?_ | refine tk14 ?_); (conv => whnf))
    refine CallK.fnT (params_f (gI := gI) qA qc q SA Sc ss hsq (by omega) hql) (fun w1 hw1 => ⟨RdA.ok (xs := plcCells q) w1 hw1, RdA.ok (xs := ss.map str) w1 hw1, hSc⟩) ?_
    rintro ⟨fA, fc⟩ _
    dsimp only [List.cons_append, List.nil_append]
    (conv => whnf); repeat ((first | refine tk1 ?_ | refine tk2 ?_ | refine tk3 ?_ | refine tk12 (fun _ => ?_) | refine tk4 ?_ | refine tk5 ?_ | refine tk6 ?_ | refine tk7 ?_ | refine tk8 ?_ | refine tk9 ?_ | refine tk10 (fun _ _ => ?_) | refine tk11 (fun _ => ?_) | refine tk13 ?_ | refine tk14 ?_); (conv => whnf))
    refine fun w' hw' => ⟨⟨fA, fc⟩, ?_, trivial, ?_⟩
    · rw [hO]
      rfl
    · rw [hO]
      exact newH.into hw' (Cv.into (by (try dsimp only); repeat' (first | with_reducible exact Cv.refl | with_reducible exact Cv.left | with_reducible exact Cv.right | with_reducible exact Cv.nil | (with_reducible apply Cv.cons; focus ((repeat (first | with_reducible exact Pick.here | with_reducible apply Pick.skip)); done)) | (apply Cv.cons; focus ((repeat (first | exact Pick.here | apply Pick.skip)); done)) | exact Cv.nil | exact Cv.refl | exact Cv.left | exact Cv.right | refine Cv.skip ?_)))
  · have hmg : methodG m = m := if_neg hm
    refine Cmp.f hm ?_
    (conv => whnf); repeat ((first | refine tk1 ?_ | refine tk2 ?_ | refine tk3 ?_ | refine tk12 (fun _ => ?_) | refine tk4 ?_ | refine tk5 ?_ | refine tk6 ?_ | refine tk7 ?_ | refine tk8 ?_ | refine tk9 ?_ | refine tk10 (fun _ _ => ?_) | refine tk11 (fun _ => ?_) | refine tk13 ?_ | refine tk14 ?_); (conv => whnf))
    refine CallK.fnG (G := fun u => .tuple #[u, .int .i64 (segE path)]) hseg (fun _ _ => trivial) (fun SA Sc hSc => ?_)
    cases hp2 : pathOf path
    · as_aux_lemma =>
      have hO := hO1 hp2
      rw [show segE path = 3 by unfold segE; rw [hp2]; rfl]
      (conv => whnf); repeat ((first | refine tk1 ?_ | refine tk2 ?_ | refine tk3 ?_ | refine tk12 (fun _ => ?_) | refine tk4 ?_ | refine tk5 ?_ | refine tk6 ?_ | refine tk7 ?_ | refine tk8 ?_ | refine tk9 ?_ | refine tk10 (fun _ _ => ?_) | refine tk11 (fun _ => ?_) | refine tk13 ?_ | refine tk14 ?_); (conv => whnf))
      refine DrawS.fork [] (.q 0 (.ch 1 (.a 2 (.q 3 (.a 4 (.q 5 (.nil))))) (.ch 2 (.q 1 (.q 3 (.a 4 (.q 5 (.nil))))) (.stop)))) tys_ok mixed (by kernel_rfl) ?_
      (repeat' ((conv => whnf); first | (first | refine tk1 ?_ | refine tk2 ?_ | refine tk3 ?_ | refine tk12 (fun _ => ?_) | refine tk4 ?_ | refine tk5 ?_ | refine tk6 ?_ | refine tk7 ?_ | refine tk8 ?_ | refine tk9 ?_ | refine tk10 (fun _ _ => ?_) | refine tk11 (fun _ => ?_) | refine tk13 ?_ | refine tk14 ?_) | refine And.intro ?_ ?_ | exact trivial | exact fun w' hw' => hnone (-1) 404 0 _ hO w' hw'))
    rw [show segO path = segs path by unfold segO; rw [hp2]; rfl] at hSc
    rw [show segE path = 0 by unfold segE; rw [hp2]; rfl, show segO path = segs path by unfold segO; rw [hp2]; rfl]
    have hO := hO2 hp2
    rw [hmg] at hO
    obtain ⟨htr, hr, hrc⟩ := hQ hg
    have hfw := find_ways htr m (cands (segs path)) 404
    have htot := tot_segs hp2
    have hfc := findC_cases (rp l) m (cands (segs path)) 404
    obtain ⟨ss, hss⟩ : ∃ ss, segs path = ss := ⟨_, rfl⟩
    rw [hss] at hO hfw htot hfc hSc ⊢
    (conv => whnf); repeat ((first | refine tk1 ?_ | refine tk2 ?_ | refine tk3 ?_ | refine tk12 (fun _ => ?_) | refine tk4 ?_ | refine tk5 ?_ | refine tk6 ?_ | refine tk7 ?_ | refine tk8 ?_ | refine tk9 ?_ | refine tk10 (fun _ _ => ?_) | refine tk11 (fun _ => ?_) | refine tk13 ?_ | refine tk14 ?_); (conv => whnf))
    refine CallK.into (G := [] ++ (.box b8 [.int .i64 404] 3 :: .box b6 [.int .i64 (-1)] 3 :: .box b4 [str m] 9 :: ([.row (.slice SA ss.length Sc) 9 1 ss.length (ss.map str)] ++ nodesH ns))) (Cv.into (by (try dsimp only); repeat' (first | with_reducible exact Cv.refl | with_reducible exact Cv.left | with_reducible exact Cv.right | with_reducible exact Cv.nil | (with_reducible apply Cv.cons; focus ((repeat (first | with_reducible exact Pick.here | with_reducible apply Pick.skip)); done)) | (apply Cv.cons; focus ((repeat (first | exact Pick.here | apply Pick.skip)); done)) | exact Cv.nil | exact Cv.refl | exact Cv.left | exact Cv.right | refine Cv.skip ?_))) ?_
    refine walk_k (G := fun s : Int × Int => .box b8 [.int .i64 s.2] 3 :: .box b6 [.int .i64 s.1] 3 :: .box b4 [str m] 9 :: ([.row (.slice SA ss.length Sc) 9 1 ss.length (ss.map str)] ++ nodesH ns)) rfl htr (fun s x hx => .tail _ (.tail _ (.tail _ (.tail _ hx)))) (find1_k rfl htr) ss SA Sc r (-1, 404) [] _ hr (by have := totS_len ss; omega) ?_ (fun s => RdS.skip (RdS.skip (RdS.skip RdS.here))) (fun _ _ _ _ _ _ => trivial) (fun s' b hs => ?_)
    · exact hSc
    rw [hrc] at hs
    have hs' := hfw s' b hs
    clear hfw hs
    obtain ⟨⟨fn, fst⟩, hfcc⟩ : ∃ y, findC (rp l) m (cands ss) 404 = y := ⟨_, rfl⟩
    rw [hfcc] at hO hfc hs'
    subst hs'
    dsimp only at hO hfc ⊢
    rcases hfc with rfl | ⟨i, gg, rfl, h2, h3, _⟩
    · as_aux_lemma =>
      rw [if_pos (by decide)] at hO
      dsimp only [List.cons_append, List.nil_append]
      (conv => whnf); repeat ((first | refine tk1 ?_ | refine tk2 ?_ | refine tk3 ?_ | refine tk12 (fun _ => ?_) | refine tk4 ?_ | refine tk5 ?_ | refine tk6 ?_ | refine tk7 ?_ | refine tk8 ?_ | refine tk9 ?_ | refine tk10 (fun _ _ => ?_) | refine tk11 (fun _ => ?_) | refine tk13 ?_ | refine tk14 ?_); (conv => whnf))
      refine DrawS.fork [] (.q 0 (.ch 1 (.a 2 (.q 3 (.a 4 (.q 5 (.nil))))) (.ch 2 (.q 1 (.q 3 (.a 4 (.q 5 (.nil))))) (.stop)))) tys_ok mixed (by kernel_rfl) ?_
      (repeat' ((conv => whnf); first | (first | refine tk1 ?_ | refine tk2 ?_ | refine tk3 ?_ | refine tk12 (fun _ => ?_) | refine tk4 ?_ | refine tk5 ?_ | refine tk6 ?_ | refine tk7 ?_ | refine tk8 ?_ | refine tk9 ?_ | refine tk10 (fun _ _ => ?_) | refine tk11 (fun _ => ?_) | refine tk13 ?_ | refine tk14 ?_) | refine And.intro ?_ ?_ | exact trivial | exact fun w' hw' => hnone (-1) fst 0 _ hO w' hw'))
    rw [if_neg (by omega)] at hO
    have hil : i < l.length := by
      have := (List.getElem?_eq_some_iff.1 h2).1
      rw [rp_length] at this
      exact this
    obtain ⟨c1, c2, c3⟩ := pgCells_at l i hil
    have hxl := hp l[i] (List.getElem_mem hil)
    have hri := rp_at l i hil
    rw [h2] at hri
    have hgg := Option.some.inj hri
    clear hri
    generalize l[i] = x at *
    subst hgg
    obtain ⟨⟨q, hq⟩, _⟩ := pgOK_is ((grown_zero hg).2.1 _ (List.mem_of_getElem? h2))
    have hq : placesOf x.p = some q := hq
    have hpf := places_f (gI := gI) x.p (by omega)
    rw [hq] at hpf
    have hpq : placesAt (rp l) (i : Int) = q := by
      unfold placesAt
      rw [Int.toNat_natCast, h2]
      show (placesOf x.p).getD [] = q
      rw [hq]
      rfl
    rw [hpq] at hO
    have hsq : q.map keyP ∈ cands ss := by
      unfold shapeOf at h3
      rw [hq] at h3
      exact h3
    have hql : q.length ≤ 2000000 := by
      have h5 := places_len hq
      omega
    dsimp only [List.cons_append, List.nil_append]
    (conv => whnf); repeat ((first | refine tk1 ?_ | refine tk2 ?_ | refine tk3 ?_ | refine tk12 (fun _ => ?_) | refine tk4 ?_ | refine tk5 ?_ | refine tk6 ?_ | refine tk7 ?_ | refine tk8 ?_ | refine tk9 ?_ | refine tk10 (fun _ _ => ?_) | refine tk11 (fun _ => ?_) | refine tk13 ?_ | refine tk14 ?_); (conv => whnf))
    refine IdxA.tc (xs := pgCells l) (by rw [pgCells_length]; omega) (by omega) (by omega) ?_
    (conv => whnf); repeat ((first | refine tk1 ?_ | refine tk2 ?_ | refine tk3 ?_ | refine tk12 (fun _ => ?_) | refine tk4 ?_ | refine tk5 ?_ | refine tk6 ?_ | refine tk7 ?_ | refine tk8 ?_ | refine tk9 ?_ | refine tk10 (fun _ _ => ?_) | refine tk11 (fun _ => ?_) | refine tk13 ?_ | refine tk14 ?_); (conv => whnf))
    refine Ld.taF (xs := pgCells l) (v := str x.p) (by rw [Int.toNat_natCast]; exact c3) ?_
    (conv => whnf); repeat ((first | refine tk1 ?_ | refine tk2 ?_ | refine tk3 ?_ | refine tk12 (fun _ => ?_) | refine tk4 ?_ | refine tk5 ?_ | refine tk6 ?_ | refine tk7 ?_ | refine tk8 ?_ | refine tk9 ?_ | refine tk10 (fun _ _ => ?_) | refine tk11 (fun _ => ?_) | refine tk13 ?_ | refine tk14 ?_); (conv => whnf))
    refine CallK.fnT hpf (fun _ _ => trivial) ?_
    rintro ⟨qA, qc⟩ _
    dsimp only [PlV, PlH, Option.getD_some, List.cons_append, List.nil_append]
    (conv => whnf); repeat ((first | refine tk1 ?_ | refine tk2 ?_ | refine tk3 ?_ | refine tk12 (fun _ => ?_) | refine tk4 ?_ | refine tk5 ?_ | refine tk6 ?_ | refine tk7 ?_ | refine tk8 ?_ | refine tk9 ?_ | refine tk10 (fun _ _ => ?_) | refine tk11 (fun _ => ?_) | refine tk13 ?_ | refine tk14 ?_); (conv => whnf))
    refine DrawS.go [(0, true), (1, true), (2, true), (3, false), (4, false), (5, true), (6, false), (7, true)] tys_ok mixed (by kernel_rfl) ?_
    (conv => whnf); repeat ((first | refine tk1 ?_ | refine tk2 ?_ | refine tk3 ?_ | refine tk12 (fun _ => ?_) | refine tk4 ?_ | refine tk5 ?_ | refine tk6 ?_ | refine tk7 ?_ | refine tk8 ?_ | refine tk9 ?_ | refine tk10 (fun _ _ => ?_) | refine tk11 (fun _ => ?_) | refine tk13 ?_ | refine tk14 ?_); (conv => whnf))
    refine CallK.fnT (params_f (gI := gI) qA qc q SA Sc ss hsq (by omega) hql) (fun w1 hw1 => ⟨RdA.ok (xs := plcCells q) w1 hw1, RdA.ok (xs := ss.map str) w1 hw1, hSc⟩) ?_
    rintro ⟨fA, fc⟩ _
    dsimp only [List.cons_append, List.nil_append]
    (conv => whnf); repeat ((first | refine tk1 ?_ | refine tk2 ?_ | refine tk3 ?_ | refine tk12 (fun _ => ?_) | refine tk4 ?_ | refine tk5 ?_ | refine tk6 ?_ | refine tk7 ?_ | refine tk8 ?_ | refine tk9 ?_ | refine tk10 (fun _ _ => ?_) | refine tk11 (fun _ => ?_) | refine tk13 ?_ | refine tk14 ?_); (conv => whnf))
    refine fun w' hw' => ⟨⟨fA, fc⟩, ?_, trivial, ?_⟩
    · rw [hO]
      rfl
    · rw [hO]
      exact newH.into hw' (Cv.into (by (try dsimp only); repeat' (first | with_reducible exact Cv.refl | with_reducible exact Cv.left | with_reducible exact Cv.right | with_reducible exact Cv.nil | (with_reducible apply Cv.cons; focus ((repeat (first | with_reducible exact Pick.here | with_reducible apply Pick.skip)); done)) | (apply Cv.cons; focus ((repeat (first | exact Pick.here | apply Pick.skip)); done)) | exact Cv.nil | exact Cv.refl | exact Cv.left | exact Cv.right | refine Cv.skip ?_)))
end Go.Proofs.YtnaeeklnlddcaaaGreatDoor.Vex
/- Lists of fields: whether two are the same; whether one is great; reckoned. -/
namespace Go.Proofs.YtnaeeklnlddcaaaGreatDoor.Vex
open Go Go.RowKit
set_option maxRecDepth 100000
set_option linter.unusedSectionVars false
variable {gI : GI} [HasMax gI]

theorem SameFields_r (A B : Option Addr) (cp cq : Nat) (a b : List Fld) (ha : a.length ≤ 1000000000) (hb : b.length ≤ 1000000000) :
    FnR Tryz.prog gI 28 [.slice A a.length cp, .slice B b.length cq] [(A, fcells a), (B, fcells b)] (.bool (decide (a = b))) := by
  refine FnE.of tys_ok Tryz.func28 rfl (by kernel_rfl) rfl rfl ?_; intro w hG hP
  have hA : ∀ H, RdA (mkC Tryz.prog gI w hG) H A (fcells a) := fun H => ⟨hP.1.now⟩
  have hB : ∀ H, RdA (mkC Tryz.prog gI w hG) H B (fcells b) := fun H => ⟨hP.2.1.now⟩
  (conv => whnf); repeat ((first | refine tk1 ?_ | refine tk2 ?_ | refine tk3 ?_ | refine tk12 (fun _ => ?_) | refine tk4 ?_ | refine tk5 ?_ | refine tk6 ?_ | refine tk7 ?_ | refine tk8 ?_ | refine tk9 ?_ | refine tk10 (fun _ _ => ?_) | refine tk11 (fun _ => ?_) | refine tk13 ?_ | refine tk14 ?_); (conv => whnf))
  refine Cmp.cases (fun hz => ?_) (fun hz => ?_)
  · (conv => whnf); repeat ((first | refine tk1 ?_ | refine tk2 ?_ | refine tk3 ?_ | refine tk12 (fun _ => ?_) | refine tk4 ?_ | refine tk5 ?_ | refine tk6 ?_ | refine tk7 ?_ | refine tk8 ?_ | refine tk9 ?_ | refine tk10 (fun _ _ => ?_) | refine tk11 (fun _ => ?_) | refine tk13 ?_ | refine tk14 ?_); (conv => whnf))
    intro w' _
    rw [decide_eq_false (fun h => hz (by rw [h]))]
  have hz' : a.length = b.length := by omega
  (conv => whnf); repeat ((first | refine tk1 ?_ | refine tk2 ?_ | refine tk3 ?_ | refine tk12 (fun _ => ?_) | refine tk4 ?_ | refine tk5 ?_ | refine tk6 ?_ | refine tk7 ?_ | refine tk8 ?_ | refine tk9 ?_ | refine tk10 (fun _ _ => ?_) | refine tk11 (fun _ => ?_) | refine tk13 ?_ | refine tk14 ?_); (conv => whnf))
  refine LoopS.lp tys_ok (fun (k : Nat) u => [.slice A a.length cp, .slice B b.length cq, u 2, u 3, u 4, .int .i64 (k : Nat), u 6, u 7, u 8, u 9, u 10, u 11, u 12, u 13, u 14, u 15, u 16, u 17, u 18, u 19, u 20, u 21, u 22, u 23, u 24, u 25]) (fun _ => [])
    (fun k => k ≤ a.length ∧ a.take k = b.take k) (fun k => a.length - k) 0 ⟨Nat.zero_le _, rfl⟩ rfl (by repeat' (first | exact List.Sublist.refl _ | exact List.nil_sublist _ | apply List.Sublist.cons_cons | apply List.Sublist.cons)) ?_
  intro k u ⟨hk, hI⟩
  (conv => whnf); repeat ((first | refine tk1 ?_ | refine tk2 ?_ | refine tk3 ?_ | refine tk12 (fun _ => ?_) | refine tk4 ?_ | refine tk5 ?_ | refine tk6 ?_ | refine tk7 ?_ | refine tk8 ?_ | refine tk9 ?_ | refine tk10 (fun _ _ => ?_) | refine tk11 (fun _ => ?_) | refine tk13 ?_ | refine tk14 ?_); (conv => whnf))
  refine Cmp.cases (fun hlt => ?_) (fun hlt => ?_)
  · have hka : k < a.length := by omega
    have hkb : k < b.length := by omega
    (conv => whnf); repeat ((first | refine tk1 ?_ | refine tk2 ?_ | refine tk3 ?_ | refine tk12 (fun _ => ?_) | refine tk4 ?_ | refine tk5 ?_ | refine tk6 ?_ | refine tk7 ?_ | refine tk8 ?_ | refine tk9 ?_ | refine tk10 (fun _ _ => ?_) | refine tk11 (fun _ => ?_) | refine tk13 ?_ | refine tk14 ?_); (conv => whnf))
    refine DrawS.go (qs 9) tys_ok mixed (by kernel_rfl) ?_
    (conv => whnf); repeat ((first | refine tk1 ?_ | refine tk2 ?_ | refine tk3 ?_ | refine tk12 (fun _ => ?_) | refine tk4 ?_ | refine tk5 ?_ | refine tk6 ?_ | refine tk7 ?_ | refine tk8 ?_ | refine tk9 ?_ | refine tk10 (fun _ _ => ?_) | refine tk11 (fun _ => ?_) | refine tk13 ?_ | refine tk14 ?_); (conv => whnf))
    refine IdxA.tc (by rw [fcells_length]; omega) (by omega) (by omega) ?_
    (conv => whnf); repeat ((first | refine tk1 ?_ | refine tk2 ?_ | refine tk3 ?_ | refine tk12 (fun _ => ?_) | refine tk4 ?_ | refine tk5 ?_ | refine tk6 ?_ | refine tk7 ?_ | refine tk8 ?_ | refine tk9 ?_ | refine tk10 (fun _ _ => ?_) | refine tk11 (fun _ => ?_) | refine tk13 ?_ | refine tk14 ?_); (conv => whnf))
    refine Ld.taN (fcells_two a k hka) rfl ?_
    (conv => whnf); repeat ((first | refine tk1 ?_ | refine tk2 ?_ | refine tk3 ?_ | refine tk12 (fun _ => ?_) | refine tk4 ?_ | refine tk5 ?_ | refine tk6 ?_ | refine tk7 ?_ | refine tk8 ?_ | refine tk9 ?_ | refine tk10 (fun _ _ => ?_) | refine tk11 (fun _ => ?_) | refine tk13 ?_ | refine tk14 ?_); (conv => whnf))
    refine IdxA.tc (by rw [fcells_length]; omega) (by omega) (by omega) ?_
    (conv => whnf); repeat ((first | refine tk1 ?_ | refine tk2 ?_ | refine tk3 ?_ | refine tk12 (fun _ => ?_) | refine tk4 ?_ | refine tk5 ?_ | refine tk6 ?_ | refine tk7 ?_ | refine tk8 ?_ | refine tk9 ?_ | refine tk10 (fun _ _ => ?_) | refine tk11 (fun _ => ?_) | refine tk13 ?_ | refine tk14 ?_); (conv => whnf))
    refine Ld.taN (fcells_two b k hkb) rfl ?_
    (conv => whnf); repeat ((first | refine tk1 ?_ | refine tk2 ?_ | refine tk3 ?_ | refine tk12 (fun _ => ?_) | refine tk4 ?_ | refine tk5 ?_ | refine tk6 ?_ | refine tk7 ?_ | refine tk8 ?_ | refine tk9 ?_ | refine tk10 (fun _ _ => ?_) | refine tk11 (fun _ => ?_) | refine tk13 ?_ | refine tk14 ?_); (conv => whnf))
    refine OthP.neF rfl rfl rfl ?_
    cases hq : (a[k].1 == b[k].1 && a[k].2 == b[k].2)
    · (conv => whnf); repeat ((first | refine tk1 ?_ | refine tk2 ?_ | refine tk3 ?_ | refine tk12 (fun _ => ?_) | refine tk4 ?_ | refine tk5 ?_ | refine tk6 ?_ | refine tk7 ?_ | refine tk8 ?_ | refine tk9 ?_ | refine tk10 (fun _ _ => ?_) | refine tk11 (fun _ => ?_) | refine tk13 ?_ | refine tk14 ?_); (conv => whnf))
      intro w' _
      rw [decide_eq_false (fun h => by subst h; simp at hq)]
    · have hq' : a[k] = b[k] := by simp at hq; exact Prod.ext hq.1 hq.2
      (conv => whnf); repeat ((first | refine tk1 ?_ | refine tk2 ?_ | refine tk3 ?_ | refine tk12 (fun _ => ?_) | refine tk4 ?_ | refine tk5 ?_ | refine tk6 ?_ | refine tk7 ?_ | refine tk8 ?_ | refine tk9 ?_ | refine tk10 (fun _ _ => ?_) | refine tk11 (fun _ => ?_) | refine tk13 ?_ | refine tk14 ?_); (conv => whnf))
      exact ⟨k + 1, ⟨by omega, by rw [List.take_succ_eq_append_getElem hka, List.take_succ_eq_append_getElem hkb, hI, hq']⟩, rfl, (by repeat' (first | exact List.Sublist.refl _ | exact List.nil_sublist _ | apply List.Sublist.cons_cons | apply List.Sublist.cons)), by dsimp only; omega⟩
  · (conv => whnf); repeat ((first | refine tk1 ?_ | refine tk2 ?_ | refine tk3 ?_ | refine tk12 (fun _ => ?_) | refine tk4 ?_ | refine tk5 ?_ | refine tk6 ?_ | refine tk7 ?_ | refine tk8 ?_ | refine tk9 ?_ | refine tk10 (fun _ _ => ?_) | refine tk11 (fun _ => ?_) | refine tk13 ?_ | refine tk14 ?_); (conv => whnf))
    intro w' _
    have : a = b := by rw [List.take_of_length_le (by omega), List.take_of_length_le (by omega)] at hI; exact hI
    rw [decide_eq_true this]
theorem Great18_b (A : Option Addr) (cp : Nat) (l : List Fld) : FnE Tryz.prog gI 41 [.slice A l.length cp] (fun w => Rdw w A (fcells l)) fun _ v _ => ∃ b, v = .bool b :=
  ⟨(Great_r (gI := gI) A cp l).can, fun w hG hp => ((Great_r A cp l).ok w hG ⟨hp, trivial⟩).mono fun _ _ ⟨v, he, hv, hr⟩ => ⟨v, he, ⟨_, hv⟩, hr⟩⟩
end Go.Proofs.YtnaeeklnlddcaaaGreatDoor.Vex
/- The statements on routes: what they call; RouteLiteral, reckoned. -/
namespace Go.Proofs.YtnaeeklnlddcaaaGreatDoor.Vex
open Go Go.RowKit
set_option maxRecDepth 100000
set_option linter.unusedSectionVars false
set_option linter.unusedSectionVars false
variable {gI : GI} [HasMax gI] [HasErr gI]

def grtN (l : List Pg) : Nat := (l.map fun x => 1 + min x.p.length 100000).sum
/-- Are pages great? -/
def grtP (l : List Pg) : Bool := decide (40 < l.length) || decide (6000 < grtN (l.take 1000))
theorem grtN_snoc (l : List Pg) (x : Pg) : grtN (l ++ [x]) = grtN l + (1 + min x.p.length 100000) := by simp [grtN]
theorem grtN_mem : ∀ (l : List Pg) (x : Pg), x ∈ l → 1 + min x.p.length 100000 ≤ grtN l
  | y :: r, x, h => by
    have e : grtN (y :: r) = (1 + min y.p.length 100000) + grtN r := by simp [grtN]
    rw [e]
    rcases List.mem_cons.1 h with rfl | h
    · omega
    · have := grtN_mem r x h
      omega
theorem grtP_false {l : List Pg} (h : grtP l = false) : l.length ≤ 40 ∧ ∀ x ∈ l, x.p.length ≤ 6000 := by
  unfold grtP at h
  rw [Bool.or_eq_false_iff, decide_eq_false_iff_not, decide_eq_false_iff_not] at h
  refine ⟨by omega, fun x hx => ?_⟩
  rw [List.take_of_length_le (by omega)] at h
  have := grtN_mem l x hx
  omega
theorem Great26_r (PA : Option Addr) (Pc : Nat) (l : List Pg) : FnR Tryz.prog gI 14 [.slice PA l.length Pc] [(PA, pgCells l)] (.bool (grtP l)) := by
  refine FnE.of tys_ok Tryz.func14 rfl (by kernel_rfl) rfl rfl ?_; intro w hG hP
  have hR : ∀ H, RdA (mkC Tryz.prog gI w hG) H PA (pgCells l) := fun H => ⟨hP.1.now⟩
  clear hP
  have hend : ∀ n : Nat, n = grtN (l.take 1000) → ∀ b : Bool, b = (decide (40 < l.length) || decide (6000 < n)) → b = grtP l := fun n hn b hb => by rw [hb, hn]; rfl
  (conv => whnf); repeat ((first | refine tk1 ?_ | refine tk2 ?_ | refine tk3 ?_ | refine tk12 (fun _ => ?_) | refine tk4 ?_ | refine tk5 ?_ | refine tk6 ?_ | refine tk7 ?_ | refine tk8 ?_ | refine tk9 ?_ | refine tk10 (fun _ _ => ?_) | refine tk11 (fun _ => ?_) | refine tk13 ?_ | refine tk14 ?_); (conv => whnf))
  refine LoopS.lp tys_ok (fun (z : Nat × Nat) u => [.slice PA l.length Pc, u 1, u 2, .int .i64 (z.2 : Nat), .int .i64 (z.1 : Nat), u 5, u 6, u 7, u 8, u 9, u 10, u 11, u 12, u 13, u 14, u 15, u 16, u 17, u 18, u 19, u 20, u 21, u 22, u 23, u 24, u 25, u 26, u 27, u 28, u 29, u 30, u 31]) (fun _ => [])
    (fun z => z.1 ≤ l.length ∧ z.1 ≤ 1000 ∧ z.2 = grtN (l.take z.1) ∧ z.2 ≤ z.1 * 100001) (fun z => l.length - z.1) (0, 0) ⟨Nat.zero_le _, by decide, rfl, by decide⟩ rfl (by repeat' (first | exact List.Sublist.refl _ | exact List.nil_sublist _ | apply List.Sublist.cons_cons | apply List.Sublist.cons)) ?_
  rintro ⟨i, n⟩ u ⟨h1, h2, h3, h4⟩
  dsimp only at h1 h2 h3 h4 ⊢
  by_cases hlt : i < l.length ∧ i < 1000
  · obtain ⟨hlt, hlt2⟩ := hlt
    obtain ⟨c1, c2, c3⟩ := pgCells_at l i hlt
    have htk : l.take (i + 1) = l.take i ++ [l[i]] := by rw [List.take_add_one, List.getElem?_eq_getElem hlt]; rfl
    generalize l[i] = x at *
    have hmin : min (x.p.length : Int) 100000 = (min x.p.length 100000 : Nat) := by omega
    (conv => whnf); repeat ((first | refine tk1 ?_ | refine tk2 ?_ | refine tk3 ?_ | refine tk12 (fun _ => ?_) | refine tk4 ?_ | refine tk5 ?_ | refine tk6 ?_ | refine tk7 ?_ | refine tk8 ?_ | refine tk9 ?_ | refine tk10 (fun _ _ => ?_) | refine tk11 (fun _ => ?_) | refine tk13 ?_ | refine tk14 ?_); (conv => whnf))
    refine IdxA.tc (xs := pgCells l) (by rw [pgCells_length]; omega) (by omega) (by omega) ?_
    (conv => whnf); repeat ((first | refine tk1 ?_ | refine tk2 ?_ | refine tk3 ?_ | refine tk12 (fun _ => ?_) | refine tk4 ?_ | refine tk5 ?_ | refine tk6 ?_ | refine tk7 ?_ | refine tk8 ?_ | refine tk9 ?_ | refine tk10 (fun _ _ => ?_) | refine tk11 (fun _ => ?_) | refine tk13 ?_ | refine tk14 ?_); (conv => whnf))
    refine Ld.taF (xs := pgCells l) (v := str x.p) (by rw [Int.toNat_natCast]; exact c3) ?_
    (conv => whnf); repeat ((first | refine tk1 ?_ | refine tk2 ?_ | refine tk3 ?_ | refine tk12 (fun _ => ?_) | refine tk4 ?_ | refine tk5 ?_ | refine tk6 ?_ | refine tk7 ?_ | refine tk8 ?_ | refine tk9 ?_ | refine tk10 (fun _ _ => ?_) | refine tk11 (fun _ => ?_) | refine tk13 ?_ | refine tk14 ?_); (conv => whnf))
    refine OthP.min2 ((min x.p.length 100000 : Nat) : Int) rfl rfl hmin ?_
    have hm2 : min x.p.length 100000 ≤ 100000 := Nat.min_le_right _ _
    generalize hmv : min x.p.length 100000 = mv at *
    (conv => whnf); repeat ((first | refine tk1 ?_ | refine tk2 ?_ | refine tk3 ?_ | refine tk12 (fun _ => ?_) | refine tk4 ?_ | refine tk5 ?_ | refine tk6 ?_ | refine tk7 ?_ | refine tk8 ?_ | refine tk9 ?_ | refine tk10 (fun _ _ => ?_) | refine tk11 (fun _ => ?_) | refine tk13 ?_ | refine tk14 ?_); (conv => whnf))
    refine ⟨(i + 1, n + 1 + mv), ⟨by dsimp only; omega, by dsimp only; omega, ?_, by dsimp only; omega⟩, ?_, (by repeat' (first | exact List.Sublist.refl _ | exact List.nil_sublist _ | apply List.Sublist.cons_cons | apply List.Sublist.cons)), by dsimp only; omega⟩
    · dsimp only
      rw [htk, grtN_snoc, ← h3, hmv]
      omega
    · dsimp only
      rw [show ((n + 1 + mv : Nat) : Int) = (n : Int) + 1 + (mv : Int) by omega]
      rfl
  · have hn : n = grtN (l.take 1000) := by
      rw [h3]
      rcases Nat.lt_or_ge i l.length with h | h
      · rw [show i = 1000 by omega]
      · rw [List.take_of_length_le h, List.take_of_length_le (by omega)]
    by_cases hl1 : i < l.length
    · by_cases h40 : 40 < l.length
      · (conv => whnf); repeat ((first | refine tk1 ?_ | refine tk2 ?_ | refine tk3 ?_ | refine tk12 (fun _ => ?_) | refine tk4 ?_ | refine tk5 ?_ | refine tk6 ?_ | refine tk7 ?_ | refine tk8 ?_ | refine tk9 ?_ | refine tk10 (fun _ _ => ?_) | refine tk11 (fun _ => ?_) | refine tk13 ?_ | refine tk14 ?_); (conv => whnf))
        intro w' _
        exact congrArg Value.bool (hend n hn true (by rw [decide_eq_true h40]; rfl))
      · omega
    · by_cases h40 : 40 < l.length
      · (conv => whnf); repeat ((first | refine tk1 ?_ | refine tk2 ?_ | refine tk3 ?_ | refine tk12 (fun _ => ?_) | refine tk4 ?_ | refine tk5 ?_ | refine tk6 ?_ | refine tk7 ?_ | refine tk8 ?_ | refine tk9 ?_ | refine tk10 (fun _ _ => ?_) | refine tk11 (fun _ => ?_) | refine tk13 ?_ | refine tk14 ?_); (conv => whnf))
        intro w' _
        exact congrArg Value.bool (hend n hn true (by rw [decide_eq_true h40]; rfl))
      · by_cases h6 : 6000 < n
        · (conv => whnf); repeat ((first | refine tk1 ?_ | refine tk2 ?_ | refine tk3 ?_ | refine tk12 (fun _ => ?_) | refine tk4 ?_ | refine tk5 ?_ | refine tk6 ?_ | refine tk7 ?_ | refine tk8 ?_ | refine tk9 ?_ | refine tk10 (fun _ _ => ?_) | refine tk11 (fun _ => ?_) | refine tk13 ?_ | refine tk14 ?_); (conv => whnf))
          intro w' _
          exact congrArg Value.bool (hend n hn true (by rw [decide_eq_true h6, Bool.or_true]))
        · (conv => whnf); repeat ((first | refine tk1 ?_ | refine tk2 ?_ | refine tk3 ?_ | refine tk12 (fun _ => ?_) | refine tk4 ?_ | refine tk5 ?_ | refine tk6 ?_ | refine tk7 ?_ | refine tk8 ?_ | refine tk9 ?_ | refine tk10 (fun _ _ => ?_) | refine tk11 (fun _ => ?_) | refine tk13 ?_ | refine tk14 ?_); (conv => whnf))
          intro w' _
          exact congrArg Value.bool (hend n hn false (by rw [decide_eq_false h6, decide_eq_false h40]; rfl))
theorem Check26_f (PA : Option Addr) (Pc : Nat) (l : List Pg) (hl : l.length ≤ 1000000) (hp : ∀ x ∈ l, x.p.length ≤ 1000000) : FnR Tryz.prog gI 10 [.slice PA l.length Pc] [(PA, pgCells l)] (.int .i64 (grownE (rp l))) := by
  have hgr := grown_f (gI := gI) PA Pc l hl hp
  refine FnE.of tys_ok Tryz.func10 rfl (by kernel_rfl) rfl rfl ?_; intro w hG hP
  have hR : ∀ H, RdA (mkC Tryz.prog gI w hG) H PA (pgCells l) := fun H => ⟨hP.1.now⟩
  clear hP
  (conv => whnf); repeat ((first | refine tk1 ?_ | refine tk2 ?_ | refine tk3 ?_ | refine tk12 (fun _ => ?_) | refine tk4 ?_ | refine tk5 ?_ | refine tk6 ?_ | refine tk7 ?_ | refine tk8 ?_ | refine tk9 ?_ | refine tk10 (fun _ _ => ?_) | refine tk11 (fun _ => ?_) | refine tk13 ?_ | refine tk14 ?_); (conv => whnf))
  refine CallK.fnT hgr (fun w1 hw1 => (hR _).ok w1 hw1) ?_
  rintro x _
  unfold GrV
  (conv => whnf); repeat ((first | refine tk1 ?_ | refine tk2 ?_ | refine tk3 ?_ | refine tk12 (fun _ => ?_) | refine tk4 ?_ | refine tk5 ?_ | refine tk6 ?_ | refine tk7 ?_ | refine tk8 ?_ | refine tk9 ?_ | refine tk10 (fun _ _ => ?_) | refine tk11 (fun _ => ?_) | refine tk13 ?_ | refine tk14 ?_); (conv => whnf))
  exact fun w' _ => rfl
abbrev mkPg (m p : List UInt8) : Pg := ⟨m, p, 0, ⟨none, 0, []⟩, [], false, ⟨none, 0, []⟩⟩
def fourP : List Pg := [mkPg [71, 69, 84] [47, 97, 47, 58, 120], mkPg [71, 69, 84] [47, 97, 47, 98], mkPg [80, 79, 83, 84] [47, 97, 47, 58, 121], mkPg [71, 69, 84] [47, 42, 114]]
theorem four_f : FnT Tryz.prog gI 9 [] (fun _ => True) (fun q : Nat => .slice (some ⟨q, 0, none⟩) 4 4) (fun _ => True) (fun q => [.row (.slice (some ⟨q, 0, none⟩) 4 4) 33 7 4 (pgCells fourP)]) (fun _ => []) := by
  refine FnE.of tys_ok Tryz.func9 rfl (by kernel_rfl) rfl rfl ?_; intro w hG hP
  (conv => whnf); repeat ((first | refine tk1 ?_ | refine tk2 ?_ | refine tk3 ?_ | refine tk12 (fun _ => ?_) | refine tk4 ?_ | refine tk5 ?_ | refine tk6 ?_ | refine tk7 ?_ | refine tk8 ?_ | refine tk9 ?_ | refine tk10 (fun _ _ => ?_) | refine tk11 (fun _ => ?_) | refine tk13 ?_ | refine tk14 ?_); (conv => whnf))
  rename_i q
  exact fun w' hw' => ⟨q, rfl, trivial, newH.into hw' (fun _ h => h)⟩
def findsB (m path : List UInt8) (n st : Int) (nm v : List UInt8) : Bool := decide ((findO (rp fourP) m path).e = 0) && decide ((findO (rp fourP) m path).n = n) && decide ((findO (rp fourP) m path).st = st) && decide ((findO (rp fourP) m path).ps = if nm = [] then [] else [(nm, v)])
theorem find_ps {l : List Rpg} {N : Nat} (h : ∀ g ∈ l, g.p.length ≤ N) (m path : List UInt8) : (findO l m path).ps.length ≤ N + 1 := by
  have h1 : ∀ (ls : List Plc) (ss : List (List UInt8)), (paramsG ls ss).length ≤ ls.length := fun ls => by
    induction ls with
    | nil => exact fun _ => Nat.le_refl _
    | cons p r ih =>
      intro ss
      have := ih ss.tail
      rw [paramsG, List.length_append, List.length_cons]
      split
      · simp only [List.length_singleton]; omega
      · split
        · simp only [List.length_singleton]; omega
        · simp only [List.length_nil]; omega
  have h2 : ∀ n : Int, (placesAt l n).length ≤ N + 1 := fun n => by
    unfold placesAt
    cases hg : l[n.toNat]? with
    | none => exact Nat.zero_le _
    | some g =>
      show ((placesOf g.p).getD []).length ≤ N + 1
      cases hq : placesOf g.p with
      | none => exact Nat.zero_le _
      | some q =>
        have := places_len hq
        have := h g (List.mem_of_getElem? hg)
        show q.length ≤ N + 1
        omega
  unfold findO
  split
  · exact Nat.zero_le _
  split
  · exact Nat.zero_le _
  split
  · exact Nat.zero_le _
  · exact Nat.le_trans (h1 _ _) (h2 _)
theorem finds_f (m path : List UInt8) (n st : Int) (nm v : List UInt8) (hpa : path.length ≤ 1000000) : Fn Tryz.prog gI 7 [str m, str path, .int .i64 n, .int .i64 st, str nm, str v] (.bool (findsB m path n st nm v)) := by
  have hf := fun q => Find_f (gI := gI) (some ⟨q, 0, none⟩) 4 fourP (by decide) (by decide) m path hpa
  have hps := find_ps (l := rp fourP) (N := 10) (by decide) m path
  unfold findsB
  generalize findO (rp fourP) m path = o at *
  obtain ⟨on, ops, ost, oe⟩ := o
  dsimp only at hps ⊢
  refine Fn.of tys_ok Tryz.func7 rfl (by kernel_rfl) rfl rfl ?_; intro w hG
  (conv => whnf); repeat ((first | refine tk1 ?_ | refine tk2 ?_ | refine tk3 ?_ | refine tk12 (fun _ => ?_) | refine tk4 ?_ | refine tk5 ?_ | refine tk6 ?_ | refine tk7 ?_ | refine tk8 ?_ | refine tk9 ?_ | refine tk10 (fun _ _ => ?_) | refine tk11 (fun _ => ?_) | refine tk13 ?_ | refine tk14 ?_); (conv => whnf))
  refine CallK.fnT four_f (fun _ _ => trivial) ?_
  rintro q _
  dsimp only [List.cons_append, List.nil_append, List.append_nil]
  (conv => whnf); repeat ((first | refine tk1 ?_ | refine tk2 ?_ | refine tk3 ?_ | refine tk12 (fun _ => ?_) | refine tk4 ?_ | refine tk5 ?_ | refine tk6 ?_ | refine tk7 ?_ | refine tk8 ?_ | refine tk9 ?_ | refine tk10 (fun _ _ => ?_) | refine tk11 (fun _ => ?_) | refine tk13 ?_ | refine tk14 ?_); (conv => whnf))
  refine CallK.fnT (hf q) (fun w1 hw1 => RdA.ok (xs := pgCells fourP) w1 hw1) ?_
  rintro ⟨fA, fc⟩ _
  dsimp only [FndV, FndH, List.cons_append, List.nil_append, List.append_nil]
  by_cases he : oe = 0
  rotate_left
  · rw [decide_eq_false he]
    by_cases hnm : nm = []
    · subst hnm
      (conv => whnf); repeat ((first | refine tk1 ?_ | refine tk2 ?_ | refine tk3 ?_ | refine tk12 (fun _ => ?_) | refine tk4 ?_ | refine tk5 ?_ | refine tk6 ?_ | refine tk7 ?_ | refine tk8 ?_ | refine tk9 ?_ | refine tk10 (fun _ _ => ?_) | refine tk11 (fun _ => ?_) | refine tk13 ?_ | refine tk14 ?_); (conv => whnf))
      rfl
    · (conv => whnf); repeat ((first | refine tk1 ?_ | refine tk2 ?_ | refine tk3 ?_ | refine tk12 (fun _ => ?_) | refine tk4 ?_ | refine tk5 ?_ | refine tk6 ?_ | refine tk7 ?_ | refine tk8 ?_ | refine tk9 ?_ | refine tk10 (fun _ _ => ?_) | refine tk11 (fun _ => ?_) | refine tk13 ?_ | refine tk14 ?_); (conv => whnf))
      refine AppS.t0 (m := 1) (news := fcells [(nm, v)]) SrcK.tc (by simp [fcells]) (by simp [fcells, Value.oneCell']) (by decide) (by omega) (by omega) (fun _ _ => ?_)
      (conv => whnf); repeat ((first | refine tk1 ?_ | refine tk2 ?_ | refine tk3 ?_ | refine tk12 (fun _ => ?_) | refine tk4 ?_ | refine tk5 ?_ | refine tk6 ?_ | refine tk7 ?_ | refine tk8 ?_ | refine tk9 ?_ | refine tk10 (fun _ _ => ?_) | refine tk11 (fun _ => ?_) | refine tk13 ?_ | refine tk14 ?_); (conv => whnf))
      rfl
  rw [decide_eq_true he, Bool.true_and]
  by_cases hn : on = n
  rotate_left
  · rw [decide_eq_false hn]
    by_cases hnm : nm = []
    · subst hnm
      (conv => whnf); repeat ((first | refine tk1 ?_ | refine tk2 ?_ | refine tk3 ?_ | refine tk12 (fun _ => ?_) | refine tk4 ?_ | refine tk5 ?_ | refine tk6 ?_ | refine tk7 ?_ | refine tk8 ?_ | refine tk9 ?_ | refine tk10 (fun _ _ => ?_) | refine tk11 (fun _ => ?_) | refine tk13 ?_ | refine tk14 ?_); (conv => whnf))
      rfl
    · (conv => whnf); repeat ((first | refine tk1 ?_ | refine tk2 ?_ | refine tk3 ?_ | refine tk12 (fun _ => ?_) | refine tk4 ?_ | refine tk5 ?_ | refine tk6 ?_ | refine tk7 ?_ | refine tk8 ?_ | refine tk9 ?_ | refine tk10 (fun _ _ => ?_) | refine tk11 (fun _ => ?_) | refine tk13 ?_ | refine tk14 ?_); (conv => whnf))
      refine AppS.t0 (m := 1) (news := fcells [(nm, v)]) SrcK.tc (by simp [fcells]) (by simp [fcells, Value.oneCell']) (by decide) (by omega) (by omega) (fun _ _ => ?_)
      (conv => whnf); repeat ((first | refine tk1 ?_ | refine tk2 ?_ | refine tk3 ?_ | refine tk12 (fun _ => ?_) | refine tk4 ?_ | refine tk5 ?_ | refine tk6 ?_ | refine tk7 ?_ | refine tk8 ?_ | refine tk9 ?_ | refine tk10 (fun _ _ => ?_) | refine tk11 (fun _ => ?_) | refine tk13 ?_ | refine tk14 ?_); (conv => whnf))
      rfl
  rw [decide_eq_true hn, Bool.true_and]
  by_cases hs : ost = st
  rotate_left
  · rw [decide_eq_false hs]
    by_cases hnm : nm = []
    · subst hnm
      (conv => whnf); repeat ((first | refine tk1 ?_ | refine tk2 ?_ | refine tk3 ?_ | refine tk12 (fun _ => ?_) | refine tk4 ?_ | refine tk5 ?_ | refine tk6 ?_ | refine tk7 ?_ | refine tk8 ?_ | refine tk9 ?_ | refine tk10 (fun _ _ => ?_) | refine tk11 (fun _ => ?_) | refine tk13 ?_ | refine tk14 ?_); (conv => whnf))
      rfl
    · (conv => whnf); repeat ((first | refine tk1 ?_ | refine tk2 ?_ | refine tk3 ?_ | refine tk12 (fun _ => ?_) | refine tk4 ?_ | refine tk5 ?_ | refine tk6 ?_ | refine tk7 ?_ | refine tk8 ?_ | refine tk9 ?_ | refine tk10 (fun _ _ => ?_) | refine tk11 (fun _ => ?_) | refine tk13 ?_ | refine tk14 ?_); (conv => whnf))
      refine AppS.t0 (m := 1) (news := fcells [(nm, v)]) SrcK.tc (by simp [fcells]) (by simp [fcells, Value.oneCell']) (by decide) (by omega) (by omega) (fun _ _ => ?_)
      (conv => whnf); repeat ((first | refine tk1 ?_ | refine tk2 ?_ | refine tk3 ?_ | refine tk12 (fun _ => ?_) | refine tk4 ?_ | refine tk5 ?_ | refine tk6 ?_ | refine tk7 ?_ | refine tk8 ?_ | refine tk9 ?_ | refine tk10 (fun _ _ => ?_) | refine tk11 (fun _ => ?_) | refine tk13 ?_ | refine tk14 ?_); (conv => whnf))
      rfl
  rw [decide_eq_true hs, Bool.true_and]
  by_cases hnm : nm = []
  · subst hnm
    rw [if_pos rfl]
    (conv => whnf); repeat ((first | refine tk1 ?_ | refine tk2 ?_ | refine tk3 ?_ | refine tk12 (fun _ => ?_) | refine tk4 ?_ | refine tk5 ?_ | refine tk6 ?_ | refine tk7 ?_ | refine tk8 ?_ | refine tk9 ?_ | refine tk10 (fun _ _ => ?_) | refine tk11 (fun _ => ?_) | refine tk13 ?_ | refine tk14 ?_); (conv => whnf))
    refine CallK.fnR (SameFields_r fA none fc 0 ops [] (by omega) (by decide)) ⟨RdA.ok, RdS.nil, trivial⟩ ?_
    (conv => whnf); repeat ((first | refine tk1 ?_ | refine tk2 ?_ | refine tk3 ?_ | refine tk12 (fun _ => ?_) | refine tk4 ?_ | refine tk5 ?_ | refine tk6 ?_ | refine tk7 ?_ | refine tk8 ?_ | refine tk9 ?_ | refine tk10 (fun _ _ => ?_) | refine tk11 (fun _ => ?_) | refine tk13 ?_ | refine tk14 ?_); (conv => whnf))
  · rw [if_neg hnm]
    (conv => whnf); repeat ((first | refine tk1 ?_ | refine tk2 ?_ | refine tk3 ?_ | refine tk12 (fun _ => ?_) | refine tk4 ?_ | refine tk5 ?_ | refine tk6 ?_ | refine tk7 ?_ | refine tk8 ?_ | refine tk9 ?_ | refine tk10 (fun _ _ => ?_) | refine tk11 (fun _ => ?_) | refine tk13 ?_ | refine tk14 ?_); (conv => whnf))
    refine AppS.t0 (m := 1) (news := fcells [(nm, v)]) SrcK.tc (by simp [fcells]) (by simp [fcells, Value.oneCell']) (by decide) (by omega) (by omega) (fun gA gc => ?_)
    (conv => whnf); repeat ((first | refine tk1 ?_ | refine tk2 ?_ | refine tk3 ?_ | refine tk12 (fun _ => ?_) | refine tk4 ?_ | refine tk5 ?_ | refine tk6 ?_ | refine tk7 ?_ | refine tk8 ?_ | refine tk9 ?_ | refine tk10 (fun _ _ => ?_) | refine tk11 (fun _ => ?_) | refine tk13 ?_ | refine tk14 ?_); (conv => whnf))
    refine CallK.fnR (SameFields_r fA gA fc gc ops [(nm, v)] (by omega) (by simp)) ⟨RdA.ok, RdA.ok, trivial⟩ ?_
    (conv => whnf); repeat ((first | refine tk1 ?_ | refine tk2 ?_ | refine tk3 ?_ | refine tk12 (fun _ => ?_) | refine tk4 ?_ | refine tk5 ?_ | refine tk6 ?_ | refine tk7 ?_ | refine tk8 ?_ | refine tk9 ?_ | refine tk10 (fun _ _ => ?_) | refine tk11 (fun _ => ?_) | refine tk13 ?_ | refine tk14 ?_); (conv => whnf))
theorem alive26_f : Fn Tryz.prog gI 12 [] (.bool true) := by
  have h1 := finds_f (gI := gI) [71, 69, 84] [47, 97, 47, 98] 1 200 [] [] (by decide)
  have h2 := finds_f (gI := gI) [72, 69, 65, 68] [47, 97, 47, 37, 54, 51] 0 200 [120] [99] (by decide)
  have h3 := finds_f (gI := gI) [80, 79, 83, 84] [47, 97, 47, 98] 2 200 [121] [98] (by decide)
  rw [show findsB [71, 69, 84] [47, 97, 47, 98] 1 200 [] [] = true by decide +kernel] at h1
  rw [show findsB [72, 69, 65, 68] [47, 97, 47, 37, 54, 51] 0 200 [120] [99] = true by decide +kernel] at h2
  rw [show findsB [80, 79, 83, 84] [47, 97, 47, 98] 2 200 [121] [98] = true by decide +kernel] at h3
  refine Fn.of tys_ok Tryz.func12 rfl (by kernel_rfl) rfl rfl ?_; intro w hG
  (conv => whnf); repeat ((first | refine tk1 ?_ | refine tk2 ?_ | refine tk3 ?_ | refine tk12 (fun _ => ?_) | refine tk4 ?_ | refine tk5 ?_ | refine tk6 ?_ | refine tk7 ?_ | refine tk8 ?_ | refine tk9 ?_ | refine tk10 (fun _ _ => ?_) | refine tk11 (fun _ => ?_) | refine tk13 ?_ | refine tk14 ?_); (conv => whnf))
  refine CallK.fn h1 ?_
  (conv => whnf); repeat ((first | refine tk1 ?_ | refine tk2 ?_ | refine tk3 ?_ | refine tk12 (fun _ => ?_) | refine tk4 ?_ | refine tk5 ?_ | refine tk6 ?_ | refine tk7 ?_ | refine tk8 ?_ | refine tk9 ?_ | refine tk10 (fun _ _ => ?_) | refine tk11 (fun _ => ?_) | refine tk13 ?_ | refine tk14 ?_); (conv => whnf))
  refine CallK.fn h2 ?_
  (conv => whnf); repeat ((first | refine tk1 ?_ | refine tk2 ?_ | refine tk3 ?_ | refine tk12 (fun _ => ?_) | refine tk4 ?_ | refine tk5 ?_ | refine tk6 ?_ | refine tk7 ?_ | refine tk8 ?_ | refine tk9 ?_ | refine tk10 (fun _ _ => ?_) | refine tk11 (fun _ => ?_) | refine tk13 ?_ | refine tk14 ?_); (conv => whnf))
  refine CallK.fn h3 ?_
  (conv => whnf); repeat ((first | refine tk1 ?_ | refine tk2 ?_ | refine tk3 ?_ | refine tk12 (fun _ => ?_) | refine tk4 ?_ | refine tk5 ?_ | refine tk6 ?_ | refine tk7 ?_ | refine tk8 ?_ | refine tk9 ?_ | refine tk10 (fun _ _ => ?_) | refine tk11 (fun _ => ?_) | refine tk13 ?_ | refine tk14 ?_); (conv => whnf))
end Go.Proofs.YtnaeeklnlddcaaaGreatDoor.Vex
/- The statements RouteLiteral and RouteOrder, reckoned. -/
namespace Go.Proofs.YtnaeeklnlddcaaaGreatDoor.Vex
open Go Go.RowKit
set_option maxRecDepth 100000
set_option linter.unusedSectionVars false
set_option linter.unusedSectionVars false
variable {gI : GI} [HasMax gI] [HasErr gI]

def prevS (p : List UInt8) : Nat → Bool
  | 0 => false
  | j + 1 => decide (p[j]? = some 47)
theorem litG_step {b : Bool} {x : UInt8} {r : List UInt8} (h : b = false ∨ (x ≠ 42 ∧ x ≠ 58)) : litG b (x :: r) = litG (decide (x = 47)) r := by
  rw [litG]
  rcases h with rfl | ⟨h1, h2⟩
  · simp
  · simp [h1, h2]
end Go.Proofs.YtnaeeklnlddcaaaGreatDoor.Vex
/- How long a filled pattern is; a step of the filling. No program in sight. -/
namespace Go.Proofs.YtnaeeklnlddcaaaGreatDoor.Vex
open Go Go.RowKit

theorem totV_cons (f : Fld) (r : List Fld) : totV (f :: r) = f.2.length + totV r := by simp [totV]
theorem fillG_len : ∀ (n : Nat) (q : List UInt8) (b : Bool) (ps : List Fld) (o : List UInt8 × List Fld), q.length ≤ n → fillG b q ps = some o → o.1.length ≤ q.length + 3 * totV ps
  | _, [], b, ps, o, _, h => by
    rw [fillG_nil] at h
    rw [← Option.some.inj h]
    exact Nat.zero_le _
  | 0, x :: r, _, _, _, h, _ => by simp at h
  | n + 1, x :: r, b, ps, o, hn, h => by
    simp only [List.length_cons] at hn
    by_cases hb : b = true ∧ (x = 58 ∨ x = 42)
    · obtain ⟨f, ps', o', rfl, _, h2, rfl⟩ := fillG_some hb h
      have hd : (r.dropWhile noSl).length ≤ r.length := (List.dropWhile_sublist _).length_le
      have ih := fillG_len n _ _ _ _ (by omega) h2
      have := fillV_len f.2 (decide (x = 42))
      rw [totV_cons]
      simp only [List.length_append, List.length_cons]
      omega
    · rw [fillG_cons hb] at h
      obtain ⟨o', h2, rfl⟩ := Option.map_eq_some_iff.1 h
      have ih := fillG_len n _ _ _ _ (by omega) h2
      simp only [List.length_cons]
      omega
theorem cut_at {l : List UInt8} {i : Nat} {x : UInt8} (h : l[i]? = some x) : (l.take (i + 1)).drop i = [x] := by
  have hi := (List.getElem?_eq_some_iff.1 h).1
  rw [List.take_add_one, h]
  exact List.drop_left' (by rw [List.length_take]; omega)
theorem SlcS.one {l : List UInt8} {i : Nat} {x : UInt8} {K : Value → Prop} (h : l[i]? = some x) (k : K (str [x])) : SlcS l (i : Int) ((i : Int) + 1) K := by
  have hi := (List.getElem?_eq_some_iff.1 h).1
  refine SlcS.at (by omega) (by omega) (by omega) ?_
  rw [show ((i : Int) + 1).toNat = i + 1 by omega, Int.toNat_natCast, cut_at h]
  exact k
theorem SlcS.cut {l out : List UInt8} {a e : Nat} {lo hi : Int} {K : Value → Prop} (h : (l.take e).drop a = out) (hlo : lo = a) (hhi : hi = e) (ha : a ≤ e) (he : e ≤ l.length) (k : K (str out)) : SlcS l lo hi K := by
  subst hlo hhi h
  refine SlcS.at (by omega) (by omega) (by omega) ?_
  rw [Int.toNat_natCast, Int.toNat_natCast]
  exact k
theorem drop_at {l : List UInt8} {i : Nat} {x : UInt8} (h : l[i]? = some x) : l.drop i = x :: l.drop (i + 1) := by
  obtain ⟨hi, e⟩ := List.getElem?_eq_some_iff.1 h
  rw [List.drop_eq_getElem_cons hi, e]
theorem prevS_next {p : List UInt8} {i : Nat} {x : UInt8} (h : p[i]? = some x) : prevS p (i + 1) = decide (x = 47) := by
  show decide (p[i]? = some 47) = _
  rw [h]
  simp
/-- Where a filling stands: so many bytes of the pattern are done, so many parameters used; what is filled. -/
structure FlS where
  i : Nat
  k : Nat
  o : List UInt8
def flI (p : List UInt8) (ps : List Fld) (full : List UInt8) (z : FlS) : Prop := z.i ≤ p.length ∧ z.k ≤ ps.length ∧ ∃ t, fillG (prevS p z.i) (p.drop z.i) (ps.drop z.k) = some (t, []) ∧ full = z.o ++ t
theorem fl_plain {p : List UInt8} {ps : List Fld} {full : List UInt8} {i k : Nat} {o : List UInt8} {x : UInt8} (hx : p[i]? = some x) (hb : ¬ (prevS p i = true ∧ (x = 58 ∨ x = 42))) (h : flI p ps full ⟨i, k, o⟩) : flI p ps full ⟨i + 1, k, o ++ [x]⟩ := by
  obtain ⟨h1, h2, t, h3, h4⟩ := h
  dsimp only at h1 h2 h3 h4
  have hi := (List.getElem?_eq_some_iff.1 hx).1
  rw [drop_at hx, fillG_cons hb] at h3
  obtain ⟨o', h5, h6⟩ := Option.map_eq_some_iff.1 h3
  refine ⟨by dsimp only; omega, h2, o'.1, ?_, ?_⟩
  · dsimp only
    rw [prevS_next hx, h5, ← (Prod.mk.inj h6).2]
  · dsimp only
    rw [h4, ← (Prod.mk.inj h6).1, List.append_assoc]
    rfl
theorem atEnd_drop (r : List UInt8) : atEnd (r.dropWhile noSl) := by
  induction r with
  | nil => exact .inl rfl
  | cons x r ih =>
    by_cases hx : x = 47
    · rw [List.dropWhile_cons_of_neg (by simp [noSl, hx]), hx]
      exact .inr ⟨r, rfl⟩
    · rw [List.dropWhile_cons_of_pos (by simp [noSl, hx])]
      exact ih
theorem fl_par {p : List UInt8} {ps : List Fld} {full : List UInt8} {i k : Nat} {o : List UInt8} {x : UInt8} (hx : p[i]? = some x) (hb : prevS p i = true ∧ (x = 58 ∨ x = 42)) (h : flI p ps full ⟨i, k, o⟩) :
    ∃ f, ps[k]? = some f ∧ f.1 = (p.drop (i + 1)).takeWhile noSl ∧ ∀ e, e ≤ p.length → p.drop e = (p.drop (i + 1)).dropWhile noSl → flI p ps full ⟨e, k + 1, o ++ fillV f.2 (decide (x = 42))⟩ := by
  obtain ⟨h1, h2, t, h3, h4⟩ := h
  dsimp only at h1 h2 h3 h4
  rw [drop_at hx] at h3
  obtain ⟨f, ps', o', h5, h6, h7, h8⟩ := fillG_some hb h3
  have hk : k < ps.length := by
    refine Nat.lt_of_not_le fun hle => ?_
    rw [List.drop_eq_nil_of_le hle] at h5
    cases h5
  rw [List.drop_eq_getElem_cons hk] at h5
  obtain ⟨h9, h10⟩ := List.cons.inj h5
  refine ⟨f, by rw [List.getElem?_eq_getElem hk, h9], h6, fun e he hd => ⟨he, by dsimp only; omega, o'.1, ?_, ?_⟩⟩
  · dsimp only
    rw [hd, fill_end (atEnd_drop _), h10, h7, (Prod.mk.inj h8).2]
  · dsimp only
    rw [h4, (Prod.mk.inj h8).1, List.append_assoc]
theorem fl_end {p : List UInt8} {ps : List Fld} {full : List UInt8} {k : Nat} {o : List UInt8} (h : flI p ps full ⟨p.length, k, o⟩) : k = ps.length ∧ o = full := by
  obtain ⟨_, h2, t, h3, h4⟩ := h
  dsimp only at h2 h3 h4
  rw [List.drop_eq_nil_of_le (Nat.le_refl _), fillG_nil] at h3
  obtain ⟨h5, h6⟩ := Prod.mk.inj (Option.some.inj h3)
  have := List.drop_eq_nil_iff.1 h6
  rw [← h5, List.append_nil] at h4
  exact ⟨by omega, h4.symm⟩
/-- Where a name ends. -/
def enI (p : List UInt8) (a : Nat) (e : Nat) : Prop := a ≤ e ∧ e ≤ p.length ∧ (p.drop a).takeWhile noSl = (p.take e).drop a ++ (p.drop e).takeWhile noSl ∧ (p.drop a).dropWhile noSl = (p.drop e).dropWhile noSl
theorem en_start {p : List UInt8} {a : Nat} (h : a ≤ p.length) : enI p a a := by
  have hd : (p.take a).drop a = [] := List.drop_eq_nil_of_le (by rw [List.length_take]; omega)
  exact ⟨Nat.le_refl _, h, by rw [hd, List.nil_append], rfl⟩
theorem en_next {p : List UInt8} {a e : Nat} {x : UInt8} (h : enI p a e) (hx : p[e]? = some x) (hn : x ≠ 47) : enI p a (e + 1) := by
  obtain ⟨h1, h2, h3, h4⟩ := h
  have hi := (List.getElem?_eq_some_iff.1 hx).1
  have hp : noSl x = true := decide_eq_true hn
  rw [drop_at hx, List.takeWhile_cons_of_pos hp] at h3
  rw [drop_at hx, List.dropWhile_cons_of_pos hp] at h4
  refine ⟨by omega, by omega, ?_, h4⟩
  rw [h3, List.take_add_one, hx]
  show _ = (p.take e ++ [x]).drop a ++ _
  rw [List.drop_append_of_le_length (by rw [List.length_take]; omega), List.append_assoc]
  rfl
theorem en_end {p : List UInt8} {a e : Nat} (h : enI p a e) (hx : p[e]? = none ∨ p[e]? = some 47) : (p.drop a).takeWhile noSl = (p.take e).drop a ∧ p.drop e = (p.drop a).dropWhile noSl := by
  obtain ⟨h1, h2, h3, h4⟩ := h
  rcases hx with hx | hx
  · have hd : p.drop e = [] := List.drop_eq_nil_of_le (List.getElem?_eq_none_iff.1 hx)
    rw [hd] at h3 h4 ⊢
    exact ⟨by rw [h3]; simp, by rw [h4]; rfl⟩
  · rw [drop_at hx] at h3 h4 ⊢
    rw [List.takeWhile_cons_of_neg (by simp [noSl])] at h3
    rw [List.dropWhile_cons_of_neg (by simp [noSl])] at h4
    exact ⟨by rw [h3, List.append_nil], h4.symm⟩
theorem restG_step {p : List UInt8} {i : Nat} {x : UInt8} (h : p[i]? = some x) (b : Bool) : restG b (p.drop i) = ((b && decide (x = 42)) || restG (prevS p (i + 1)) (p.drop (i + 1))) := by
  rw [drop_at h, restG, prevS_next h]
end Go.Proofs.YtnaeeklnlddcaaaGreatDoor.Vex
/- A walk by reckoning, part twenty-one: ranges over maps of one's own, in whatever order is drawn. No program in sight. -/
namespace Go.Proofs.YtnaeeklnlddcaaaGreatDoor.Vex
open Go Go.RowKit Go.MapKept

section
variable {α : Type} {kv : α → Value}
theorem es_at : ∀ (l : List (α × Value)) (i j : Nat) (p : α × Value), l[j]? = some p → (⟨kv p.1, p.2, i + j⟩ : MapEntry) ∈ mkEs kv i l
  | [], _, _, _, h => by simp at h
  | q :: r, i, 0, p, h => by
    have h : q = p := by simpa using h
    rw [h]
    exact List.mem_cons_self ..
  | q :: r, i, j + 1, p, h => by
    have := es_at r (i + 1) j p (by simpa using h)
    rw [show i + 1 + j = i + (j + 1) by omega] at this
    exact List.mem_cons_of_mem _ this
theorem es_mem : ∀ (l : List (α × Value)) (i : Nat) (x : MapEntry), x ∈ mkEs kv i l → ∃ (j : Nat) (p : α × Value), l[j]? = some p ∧ x = ⟨kv p.1, p.2, i + j⟩
  | [], _, _, h => by cases h
  | q :: r, i, x, h => by
    rcases List.mem_cons.1 h with rfl | h
    · exact ⟨0, q, rfl, rfl⟩
    · obtain ⟨j, p, h1, h2⟩ := es_mem r (i + 1) x h
      exact ⟨j + 1, p, by simpa using h1, by rw [h2, show i + 1 + j = i + (j + 1) by omega]⟩
theorem es_born : ∀ (l : List (α × Value)) (i : Nat), ((mkEs kv i l).map (·.born)) = List.range' i l.length
  | [], _ => rfl
  | q :: r, i => by
    rw [mkEs, List.map_cons, es_born r (i + 1), List.length_cons, List.range'_succ]
end
/-- How many entries are still to come. -/
def leftN {α : Type} (kv : α → Value) (l : List (α × Value)) (js : List Nat) : Nat := (leftOf ⟨mkEs kv 0 l⟩ ⟨js⟩).size
theorem leftN_lt {α : Type} {kv : α → Value} {l : List (α × Value)} {js : List Nat} {i : Nat} {p : α × Value} (h : l[i]? = some p) (hn : i ∉ js) : leftN kv l (js ++ [i]) < leftN kv l js := by
  have h1 := es_at (kv := kv) l 0 i p h
  rw [Nat.zero_add] at h1
  have hm : (⟨kv p.1, p.2, i⟩ : MapEntry) ∈ (leftOf ⟨mkEs kv 0 l⟩ ⟨js⟩).toList := by
    unfold leftOf
    rw [Array.mem_toList_iff, Array.mem_filter]
    exact ⟨by simpa using h1, by simpa using hn⟩
  have h2 := left_shrinks _ _ _ hm
  unfold leftN
  have e : (⟨js⟩ : Array Nat).push i = ⟨js ++ [i]⟩ := by rw [← Array.toList_inj]; simp
  rw [e] at h2
  exact h2
section
variable {c : Ctx} {T : Ty} {H : Hp} {fr : Fr} {dst : Option Nat} {ty : TypeId} {pos : String} {after : Array Edge} {gd : Option (Nat × Bool)} {α : Type} {kv : α → Value} {l : List (α × Value)} {b r : Nat}
theorem Oth.rangeM {m : Bool} {t u v : TypeId} {x : Operand} {K : Value → Hp → Prop} (hT : TOk c.P T) (hb : ∀ w, St c H w → w.heap[b]? = some (mobj kv l)) (ht : (lookT T t).d = .map u v) (hx : evK fr x fun v => v = .map (some b))
    (k : ∀ r, K (.pointer (some ⟨r, 0, none⟩)) (.obj r (.mapIter (some b) l.length ⟨[]⟩ l.length) :: H)) : Oth c m ⟨dst, .range t x, ty, pos, after, gd⟩ fr H K := ⟨fun w hw => by
  rw [evK_eq] at hx
  have hu := (lookT_ok hT (t := t) (by rw [ht]; intro h; cases h)).1
  rw [ht] at hu
  refine ⟨_, w.alloc (.mapIter (some b) l.length ⟨[]⟩ l.length), _, ?_, hw.allocObj _, k _, fun _ => (Below.refl _ _).alloc (Nat.le_refl _) _⟩
  have hr := run_range_map (P := c.P) w t u v b ⟨mkEs kv 0 l⟩ l.length hu (hb w hw)
  generalize (act fr).eval = ρ at *
  simp only [execOp, hx, Sem.run_bind, hr, Result.andThen_ok, Sem.run_pure]⟩
theorem Oth.nextM {it : Operand} {js : List Nat} {f : Obj → Hp} {K : Value → Hp → Prop} [ho : ObjAt r H (.mapIter (some b) l.length ⟨js⟩ l.length) f] (hb : ∀ w, St c H w → w.heap[b]? = some (mobj kv l)) (hx : evK fr it fun v => v = .pointer (some ⟨r, 0, none⟩))
    (k0 : (∀ i, i < l.length → i ∈ js) → K (.tuple #[.bool false]) H) (k1 : ∀ (i : Nat) (p : α × Value), l[i]? = some p → i ∉ js → K (.tuple #[.bool true, kv p.1, p.2]) (f (.mapIter (some b) l.length ⟨js ++ [i]⟩ l.length))) : Oth c false ⟨dst, .next it false, ty, pos, after, gd⟩ fr H K := ⟨fun w hw => by
  rw [evK_eq] at hx
  have hr : w.heap[r]? = some (.mapIter (some b) l.length ⟨js⟩ l.length) := ho.holds hw
  have hbw : w.heap[b]? = some (.map ⟨mkEs kv 0 l⟩ l.length) := hb w hw
  rcases run_next_at (P := c.P) w ty r b l.length l.length ⟨js⟩ ⟨mkEs kv 0 l⟩ l.length hr hbw (fun x hx => by
    obtain ⟨j, p, hj, rfl⟩ := es_mem l 0 x hx
    have := (List.getElem?_eq_some_iff.1 hj).1
    show 0 + j < l.length
    omega) (Nat.le_refl _) with ⟨h0, hrun⟩ | ⟨e, he, w1, hal, hrun⟩
  · refine ⟨_, _, _, ?_, hw, k0 fun i hi => ?_, fun h => by cases h⟩
    · generalize (act fr).eval = ρ at *
      simp only [execOp, hx, Sem.run_bind, hrun, Result.andThen_ok, Sem.run_pure]
    · refine Classical.byContradiction fun hn => ?_
      have := leftN_lt (kv := kv) (List.getElem?_eq_getElem hi) hn
      unfold leftN at this
      omega
  · obtain ⟨hem, hes⟩ := mem_left he
    obtain ⟨j, p, hj, rfl⟩ := es_mem l 0 e hem
    dsimp only at hes hrun
    rw [Nat.zero_add] at hes hrun
    have hnj : j ∉ js := by simpa using hes
    have hw1 : St c H w1 := by
      rcases hal with rfl | rfl
      · exact hw
      · exact hw.below (R.drew w)
    have e1 : (⟨js⟩ : Array Nat).push j = ⟨js ++ [j]⟩ := by rw [← Array.toList_inj]; simp
    rw [e1] at hrun
    refine ⟨_, _, _, ?_, ho.put hw1 (o' := .mapIter (some b) l.length ⟨js ++ [j]⟩ l.length), k1 j p hj hnj, fun h => by cases h⟩
    generalize (act fr).eval = ρ at *
    simp only [execOp, hx, Sem.run_bind, hrun, Result.andThen_ok, Sem.run_pure]
    rfl⟩
theorem OthP.entryM {it : Operand} {js : List Nat} {i : Nat} {p : α × Value} {f : Obj → Hp} {K : Value → Prop} [ho : ObjAt r H (.mapIter (some b) l.length ⟨js ++ [i]⟩ l.length) f] (hb : ∀ w, St c H w → w.heap[b]? = some (mobj kv l)) (hi : l[i]? = some p)
    (hx : evK fr it fun v => v = .pointer (some ⟨r, 0, none⟩)) (k : K (.tuple #[kv p.1, p.2])) : OthP c ⟨dst, .entry it, ty, pos, after, gd⟩ fr H K := ⟨⟨_, k, fun w hw => by
  rw [evK_eq] at hx
  have hr : w.heap[r]? = some (.mapIter (some b) l.length ⟨js ++ [i]⟩ l.length) := ho.holds hw
  have hbw : w.heap[b]? = some (.map ⟨mkEs kv 0 l⟩ l.length) := hb w hw
  have e1 : (⟨js ++ [i]⟩ : Array Nat) = (⟨js⟩ : Array Nat).push i := by rw [← Array.toList_inj]; simp
  rw [e1] at hr
  have hm := es_at (kv := kv) l 0 i p hi
  rw [Nat.zero_add] at hm
  have hrun := run_entry_at (P := c.P) w r b l.length ⟨js⟩ ⟨mkEs kv 0 l⟩ l.length ⟨kv p.1, p.2, i⟩ hr hbw hm (by
    show ((mkEs kv 0 l).map (·.born)).Nodup
    rw [es_born]
    exact List.nodup_range')
  generalize (act fr).eval = ρ at *
  simp only [execOp, hx, Sem.run_bind, hrun, Result.andThen_ok, Sem.run_pure]⟩⟩
end
end Go.Proofs.YtnaeeklnlddcaaaGreatDoor.Vex
/- The law of a path's methods, over lists: which pages a path's segments meet, sorted; their methods, each once. -/
namespace Go.Proofs.YtnaeeklnlddcaaaGreatDoor.Vex
open Go Go.RowKit

theorem perm_mem {α : Type} [DecidableEq α] : ∀ (a b : List α), a.Nodup → b.Nodup → (∀ x, x ∈ a ↔ x ∈ b) → a.Perm b
  | [], b, _, _, h => by
    cases b with
    | nil => exact List.Perm.refl _
    | cons y r => exact absurd ((h y).2 (List.mem_cons_self ..)) (by simp)
  | x :: a, b, ha, hb, h => by
    obtain ⟨b1, b2, rfl⟩ := List.append_of_mem ((h x).1 (List.mem_cons_self ..))
    rw [List.nodup_cons] at ha
    have hp : (b1 ++ x :: b2).Perm (x :: (b1 ++ b2)) := List.perm_middle
    have hb2 := hp.nodup_iff.1 hb
    rw [List.nodup_cons] at hb2
    refine (List.Perm.cons x (perm_mem a (b1 ++ b2) ha.2 hb2.2 fun y => ?_)).trans hp.symm
    have hy := h y
    rw [hp.mem_iff, List.mem_cons, List.mem_cons] at hy
    refine ⟨fun hm => ?_, fun hm => ?_⟩
    · rcases hy.1 (.inr hm) with rfl | h1
      · exact absurd hm ha.1
      · exact h1
    · rcases hy.2 (.inr hm) with rfl | h1
      · exact absurd hm hb2.1
      · exact h1
theorem sorted_eq : ∀ (a b : List Int), a.Perm b → a.Pairwise (· ≤ ·) → b.Pairwise (· ≤ ·) → a = b
  | [], b, h, _, _ => h.nil_eq
  | x :: a, [], h, _, _ => absurd h.length_eq (by simp)
  | x :: a, y :: b, h, ha, hb => by
    rw [List.pairwise_cons] at ha hb
    have e : x = y := by
      have h1 : x ∈ y :: b := h.mem_iff.1 (List.mem_cons_self ..)
      have h2 : y ∈ x :: a := h.mem_iff.2 (List.mem_cons_self ..)
      rcases List.mem_cons.1 h1 with e | h1
      · exact e
      · rcases List.mem_cons.1 h2 with e | h2
        · exact e.symm
        · have := ha.1 y h2
          have := hb.1 x h1
          omega
    subst e
    rw [sorted_eq a b ((List.perm_cons x).1 h) ha.2 hb.2]
def insI (x : Int) : List Int → List Int
  | [] => [x]
  | y :: r => if x ≤ y then x :: y :: r else y :: insI x r
def isort : List Int → List Int
  | [] => []
  | x :: r => insI x (isort r)
theorem insI_perm (x : Int) : ∀ l : List Int, (insI x l).Perm (x :: l)
  | [] => List.Perm.refl _
  | y :: r => by
    unfold insI
    split
    · exact List.Perm.refl _
    · exact (List.Perm.cons y (insI_perm x r)).trans (List.Perm.swap x y r)
theorem isort_perm : ∀ l : List Int, (isort l).Perm l
  | [] => List.Perm.refl _
  | x :: r => (insI_perm x (isort r)).trans (List.Perm.cons x (isort_perm r))
theorem insI_sorted (x : Int) : ∀ l : List Int, l.Pairwise (· ≤ ·) → (insI x l).Pairwise (· ≤ ·)
  | [], _ => by simp [insI]
  | y :: r, h => by
    unfold insI
    split
    · rename_i hx
      refine List.pairwise_cons.2 ⟨fun z hz => ?_, h⟩
      rcases List.mem_cons.1 hz with rfl | hz
      · exact hx
      · have := (List.pairwise_cons.1 h).1 z hz
        omega
    · rename_i hx
      rw [List.pairwise_cons] at h
      refine List.pairwise_cons.2 ⟨fun z hz => ?_, insI_sorted x r h.2⟩
      rcases List.mem_cons.1 ((insI_perm x r).mem_iff.1 hz) with rfl | hz
      · omega
      · exact h.1 z hz
theorem isort_sorted : ∀ l : List Int, (isort l).Pairwise (· ≤ ·)
  | [] => List.Pairwise.nil
  | x :: r => insI_sorted x (isort r) (isort_sorted r)
theorem isort_congr {a b : List Int} (h : a.Perm b) : isort a = isort b := sorted_eq _ _ (((isort_perm a).trans h).trans (isort_perm b).symm) (isort_sorted a) (isort_sorted b)
theorem merge_isort (l : List Int) : (l.mergeSort fun x y => decide (x ≤ y)) = isort l := by
  refine sorted_eq _ _ ((List.mergeSort_perm l _).trans (isort_perm l).symm) ?_ (isort_sorted l)
  have h := List.pairwise_mergeSort (le := fun x y : Int => decide (x ≤ y)) (fun a b c h1 h2 => by simp only [decide_eq_true_eq] at *; omega) (fun a b => by simp only [Bool.or_eq_true, decide_eq_true_eq]; omega) l
  exact h.imp fun h => of_decide_eq_true h
/-! ## Which pages -/
/-- The places of the pages of a shape. -/
def idsAt (l : List Rpg) (c : List Plc) : List Int := ((List.range l.length).filter fun i => decide (l[i]?.map shapeOf = some c)).map Int.ofNat
def idsC (l : List Rpg) (cs : List (List Plc)) : List Int := cs.flatMap (idsAt l)
def valI : Value → Int
  | .int _ i => i
  | _ => 0
def idsN (n : Nd) : List Int := n.pages.map fun e => valI e.2
theorem idsAt_mem {l : List Rpg} {c : List Plc} {x : Int} : x ∈ idsAt l c ↔ ∃ (i : Nat) (g : Rpg), x = i ∧ l[i]? = some g ∧ shapeOf g = c := by
  unfold idsAt
  rw [List.mem_map]
  constructor
  · rintro ⟨i, hi, rfl⟩
    rw [List.mem_filter] at hi
    have h2 := of_decide_eq_true hi.2
    obtain ⟨g, hg, h3⟩ := Option.map_eq_some_iff.1 h2
    exact ⟨i, g, rfl, hg, h3⟩
  · rintro ⟨i, g, rfl, hg, h3⟩
    refine ⟨i, ?_, rfl⟩
    rw [List.mem_filter, List.mem_range]
    exact ⟨(List.getElem?_eq_some_iff.1 hg).1, decide_eq_true (by rw [hg, Option.map_some, h3])⟩
theorem idsAt_nodup (l : List Rpg) (c : List Plc) : (idsAt l c).Nodup := by
  unfold idsAt
  exact List.pairwise_map.2 ((List.nodup_range.filter _).imp fun h e => h (Int.ofNat.inj e))
theorem mget_mem {α : Type} [DecidableEq α] {k : α} {v : Value} : ∀ {l : List (α × Value)}, mget k l = some v → (k, v) ∈ l
  | p :: r, h => by
    unfold mget at h
    split at h
    · rename_i e
      rw [e, ← Option.some.inj h]
      exact List.mem_cons_self ..
    · exact List.mem_cons_of_mem _ (mget_mem h)
theorem mem_mget {α : Type} [DecidableEq α] {k : α} {v : Value} : ∀ {l : List (α × Value)}, (l.map Prod.fst).Nodup → (k, v) ∈ l → mget k l = some v
  | p :: r, hn, h => by
    rw [List.map_cons, List.nodup_cons] at hn
    unfold mget
    rcases List.mem_cons.1 h with rfl | h
    · rw [if_pos rfl]
    · rw [if_neg (fun e => hn.1 (by rw [← e]; exact List.mem_map_of_mem (f := Prod.fst) h)), mem_mget hn.2 h]
theorem pgOf_some {l : List Rpg} {c : List Plc} {m : List UInt8} {x : Int} (h : pgOf l c m = some x) : ∃ (i : Nat) (g : Rpg), x = i ∧ l[i]? = some g ∧ shapeOf g = c ∧ g.m = m := by
  unfold pgOf at h
  obtain ⟨i, hi, rfl⟩ := Option.map_eq_some_iff.1 h
  obtain ⟨g, h1, h2, h3⟩ := pageAt_some hi
  exact ⟨i, g, rfl, h1, h2, h3⟩
section
variable {ns : List Nd} {l : List Rpg}
theorem node_val (h : TreeI ns (pgOf l)) {n : Nd} (hn : n ∈ ns) {e : List UInt8 × Value} (he : e ∈ n.pages) : ∃ (i : Nat) (g : Rpg), e.2 = .int .i64 i ∧ l[i]? = some g ∧ shapeOf g = n.c ∧ g.m = e.1 := by
  have h1 := mem_mget (h.keys n hn) (show (e.1, e.2) ∈ n.pages from he)
  rw [h.pages n hn e.1] at h1
  obtain ⟨x, hx, h2⟩ := Option.map_eq_some_iff.1 h1
  obtain ⟨i, g, rfl, h3, h4, h5⟩ := pgOf_some hx
  exact ⟨i, g, h2.symm, h3, h4, h5⟩
theorem ids_node (hs : (l.map slotOf).Nodup) (h : TreeI ns (pgOf l)) {n : Nd} (hn : n ∈ ns) : (idsN n).Perm (idsAt l n.c) := by
  refine perm_mem _ _ ?_ (idsAt_nodup l n.c) fun x => ?_
  · unfold idsN
    have hk := h.keys n hn
    have hv : ∀ e ∈ n.pages, ∃ (i : Nat) (g : Rpg), e.2 = .int .i64 i ∧ l[i]? = some g ∧ shapeOf g = n.c ∧ g.m = e.1 := fun e he => node_val h hn he
    generalize n.pages = P at hk hv
    induction P with
    | nil => exact List.nodup_nil
    | cons e r ih =>
      rw [List.map_cons, List.nodup_cons] at hk ⊢
      refine ⟨fun hm => ?_, ih hk.2 fun e he => hv e (List.mem_cons_of_mem _ he)⟩
      obtain ⟨e2, he2, e3⟩ := List.mem_map.1 hm
      obtain ⟨i, g, h1, h2, _, h4⟩ := hv e (List.mem_cons_self ..)
      obtain ⟨j, g2, k1, k2, _, k4⟩ := hv e2 (List.mem_cons_of_mem _ he2)
      rw [h1, k1] at e3
      have e3 : (j : Int) = (i : Int) := e3
      obtain rfl : j = i := by omega
      rw [h2] at k2
      obtain rfl := Option.some.inj k2
      exact hk.1 (by rw [← h4, k4]; exact List.mem_map_of_mem he2)
  · rw [idsAt_mem]
    unfold idsN
    rw [List.mem_map]
    constructor
    · rintro ⟨e, he, rfl⟩
      obtain ⟨i, g, h1, h2, h3, _⟩ := node_val h hn he
      exact ⟨i, g, by rw [h1]; rfl, h2, h3⟩
    · rintro ⟨i, g, rfl, h2, h3⟩
      have h4 := pageAt_mem hs h2
      have h5 := h.pages n hn g.m
      unfold pgOf at h5
      rw [← h3, h4] at h5
      exact ⟨_, mget_mem h5, rfl⟩
/-- What Methods does at a node. -/
def GatS (s : List Int) (n : Nd) (s' : List Int) (b : Bool) : Prop := b = true ∧ ∃ ids : List Int, ids.Perm (idsN n) ∧ s' = s ++ ids
theorem gat_ways {σ : Type} (out : σ → List Int) (hs : (l.map slotOf).Nodup) (h : TreeI ns (pgOf l)) : ∀ (cs : List (List Plc)) (s s' : σ) (b : Bool), RunS (fun a n a' b => GatS (out a) n (out a') b) (cs.filterMap fun d => lead ns ([] ++ d)) s s' b →
    ∃ ids : List Int, ids.Perm (idsC l cs) ∧ out s' = out s ++ ids
  | [], s, s', b, hr => by
    cases hr
    exact ⟨[], List.Perm.refl _, by rw [List.append_nil]⟩
  | c :: r, s, s', b, hr => by
    rw [List.filterMap_cons, List.nil_append] at hr
    unfold idsC
    rw [List.flatMap_cons]
    cases hl : lead ns c with
    | none =>
      rw [hl] at hr
      obtain ⟨h1, _⟩ := any_none h (lead_none hl)
      have h2 : idsAt l c = [] := by
        rw [List.eq_nil_iff_forall_not_mem]
        intro x hx
        obtain ⟨i, g, rfl, hg, hc⟩ := idsAt_mem.1 hx
        unfold anyAt at h1
        rw [List.any_eq_false] at h1
        exact h1 g (List.mem_of_getElem? hg) (decide_eq_true hc)
      rw [h2, List.nil_append]
      exact gat_ways out hs h r s s' b hr
    | some n =>
      rw [hl] at hr
      obtain ⟨hn, hc⟩ := lead_some hl
      cases hr with
      | stop hst => cases hst.1
      | go hst hr2 =>
        obtain ⟨_, ids, hp, he⟩ := hst
        obtain ⟨ids2, hp2, he2⟩ := gat_ways out hs h r _ s' b hr2
        refine ⟨ids ++ ids2, ?_, by rw [he2, he, List.append_assoc]⟩
        have := hp.trans (ids_node hs h hn)
        rw [hc] at this
        exact this.append hp2
end
/-! ## Methods, each once -/
def getM : List UInt8 := [71, 69, 84]
def headM : List UInt8 := [72, 69, 65, 68]
def dedM (out : List (List UInt8)) : List (List UInt8) → List (List UInt8)
  | [] => out
  | m :: r => dedM (if out.contains m then out else if m = getM then out ++ [m, headM] else out ++ [m]) r
def metAt (l : List Rpg) (x : Int) : List UInt8 := (l[x.toNat]?.map (·.m)).getD []
/-- What Methods answers. -/
def methO (l : List Rpg) (path : List UInt8) : List (List UInt8) := if grownE l ≠ 0 then [] else if pathOf path = false then [] else dedM [] ((isort (idsC l (cands (segs path)))).map (metAt l))
theorem dedM_keep : ∀ (ms out : List (List UInt8)) (x : List UInt8), x ∈ out → x ∈ dedM out ms
  | [], _, _, h => h
  | m :: r, out, x, h => by
    unfold dedM
    refine dedM_keep r _ x ?_
    split
    · exact h
    · split <;> exact List.mem_append_left _ h
theorem dedM_mem : ∀ (ms out : List (List UInt8)) (x : List UInt8), x ∈ ms → x ∈ dedM out ms
  | m :: r, out, x, h => by
    unfold dedM
    rcases List.mem_cons.1 h with rfl | h
    · refine dedM_keep r _ x ?_
      split
      · rename_i hc
        exact List.contains_iff_mem.1 hc
      · split
        · exact List.mem_append_right _ (List.mem_cons_self ..)
        · exact List.mem_append_right _ (List.mem_cons_self ..)
    · exact dedM_mem r _ x h
theorem dedM_head : ∀ (ms out : List (List UInt8)), (getM ∈ out → headM ∈ out) → getM ∈ ms → headM ∈ dedM out ms
  | m :: r, out, ho, h => by
    unfold dedM
    have hstep : getM ∈ (if out.contains m then out else if m = getM then out ++ [m, headM] else out ++ [m]) → headM ∈ (if out.contains m then out else if m = getM then out ++ [m, headM] else out ++ [m]) := by
      split
      · exact ho
      · split
        · exact fun _ => List.mem_append_right _ (by simp)
        · rename_i hne
          intro hm
          rcases List.mem_append.1 hm with hm | hm
          · exact List.mem_append_left _ (ho hm)
          · exact absurd (List.mem_singleton.1 hm).symm hne
    rcases List.mem_cons.1 h with e | h
    · refine dedM_keep r _ _ (hstep ?_)
      rw [← e]
      split
      · rename_i hc
        exact List.contains_iff_mem.1 hc
      · rw [if_pos rfl]
        exact List.mem_append_right _ (List.mem_cons_self ..)
    · exact dedM_head r _ hstep h
theorem dedM_nil {ms : List (List UInt8)} : dedM [] ms = [] ↔ ms = [] := by
  constructor
  · intro h
    cases ms with
    | nil => rfl
    | cons m r =>
      have := dedM_mem (m :: r) [] m (List.mem_cons_self ..)
      rw [h] at this
      cases this
  · rintro rfl
    rfl
theorem dedM_len : ∀ (ms out : List (List UInt8)), (dedM out ms).length ≤ out.length + 2 * ms.length
  | [], _ => Nat.le_refl _
  | m :: r, out => by
    unfold dedM
    have := dedM_len r (if out.contains m then out else if m = getM then out ++ [m, headM] else out ++ [m])
    rw [List.length_cons]
    have h2 : (if out.contains m then out else if m = getM then out ++ [m, headM] else out ++ [m]).length ≤ out.length + 2 := by
      split
      · omega
      · split <;> simp
    omega
/-! ## What is found, and the methods -/
theorem findC_none (l : List Rpg) (m : List UInt8) : ∀ (cs : List (List Plc)) (st : Int), (findC l m cs st).1 = -1 → (findC l m cs st).2 = if idsC l cs = [] then st else 405
  | [], st, _ => rfl
  | c :: r, st, h => by
    unfold findC at h ⊢
    have ha : anyAt l c = !decide (idsAt l c = []) := by
      rw [Bool.eq_iff_iff]
      unfold anyAt
      rw [List.any_eq_true, Bool.not_eq_true', decide_eq_false_iff_not, List.eq_nil_iff_forall_not_mem]
      constructor
      · rintro ⟨g, hg, hc⟩ hn
        obtain ⟨i, hi⟩ := List.getElem?_of_mem hg
        exact hn i (idsAt_mem.2 ⟨i, g, rfl, hi, of_decide_eq_true hc⟩)
      · intro hn
        refine Classical.byContradiction fun hc => hn fun x hx => hc ?_
        obtain ⟨i, g, _, hg, hs⟩ := idsAt_mem.1 hx
        exact ⟨g, List.mem_of_getElem? hg, decide_eq_true hs⟩
    cases hp : pageAt l c m with
    | some i =>
      rw [hp] at h
      exact absurd h (by show ¬ ((i : Int) = -1); omega)
    | none =>
      rw [hp] at h
      have ih := findC_none l m r _ h
      dsimp only
      rw [ih, ha]
      unfold idsC
      rw [List.flatMap_cons]
      by_cases h1 : idsAt l c = []
      · rw [h1]; simp
      · simp [h1]
theorem findC_ids (l : List Rpg) (m : List UInt8) : ∀ (cs : List (List Plc)) (st : Int) (i : Nat), (findC l m cs st).1 = i → (i : Int) ∈ idsC l cs
  | [], st, i, h => absurd h (by show ¬ ((-1 : Int) = i); omega)
  | c :: r, st, i, h => by
    unfold findC at h
    unfold idsC
    rw [List.flatMap_cons, List.mem_append]
    cases hp : pageAt l c m with
    | some j =>
      rw [hp] at h
      have h : (j : Int) = i := h
      obtain rfl : j = i := by omega
      obtain ⟨g, h1, h2, _⟩ := pageAt_some hp
      exact .inl (idsAt_mem.2 ⟨j, g, rfl, h1, h2⟩)
    | none =>
      rw [hp] at h
      exact .inr (findC_ids l m r _ i h)
/-- Where something is found its method is among the path's; where nothing is, the status tells whether there are methods. -/
theorem meth_law {l : List Rpg} (hg : grownE l = 0) (m path : List UInt8) : ((findO l m path).st = 200 → m ∈ methO l path ∧ pathOf path = true ∧ ∃ (i : Nat) (g : Rpg) (ls : List Plc), (findO l m path).n = i ∧ l[i]? = some g ∧ placesOf g.p = some ls ∧ (findO l m path).ps = paramsG ls (segs path) ∧ ls.map keyP ∈ cands (segs path)) ∧
    ((findO l m path).st ≠ 200 → (findO l m path).n = -1 ∧ (findO l m path).ps = [] ∧ ((findO l m path).st = 404 ↔ methO l path = [])) := by
  have hO : findO l m path = if pathOf path = false then ⟨-1, [], 404, 0⟩ else if (findC l (methodG m) (cands (segs path)) 404).1 < 0 then ⟨-1, [], (findC l (methodG m) (cands (segs path)) 404).2, 0⟩ else ⟨(findC l (methodG m) (cands (segs path)) 404).1, paramsG (placesAt l (findC l (methodG m) (cands (segs path)) 404).1) (segs path), 200, 0⟩ := by
    unfold findO
    rw [if_neg (not_not_intro hg)]
  have hM : methO l path = if pathOf path = false then [] else dedM [] ((isort (idsC l (cands (segs path)))).map (metAt l)) := by
    unfold methO
    rw [if_neg (not_not_intro hg)]
  rw [hO, hM]
  by_cases hp : pathOf path = false
  · rw [if_pos hp, if_pos hp]
    exact ⟨fun h => absurd h (by decide), fun _ => ⟨rfl, rfl, ⟨fun _ => rfl, fun _ => rfl⟩⟩⟩
  rw [if_neg hp, if_neg hp]
  have hpt : pathOf path = true := by
    cases h : pathOf path
    · exact absurd h hp
    · rfl
  have hn := findC_none l (methodG m) (cands (segs path)) 404
  have hi := findC_ids l (methodG m) (cands (segs path)) 404
  rcases findC_cases l (methodG m) (cands (segs path)) 404 with h1 | ⟨i, g, h1, h2, h3, h4⟩
  · rw [if_pos (by rw [h1]; decide)]
    have hn := hn h1
    refine ⟨fun h => ?_, fun _ => ⟨rfl, rfl, ?_⟩⟩
    · exfalso
      dsimp only at h
      rw [hn] at h
      split at h <;> cases h
    · dsimp only
      rw [hn, dedM_nil, List.map_eq_nil_iff]
      have hs : isort (idsC l (cands (segs path))) = [] ↔ idsC l (cands (segs path)) = [] := by
        rw [← List.length_eq_zero_iff, ← List.length_eq_zero_iff, (isort_perm _).length_eq]
      rw [hs]
      by_cases he : idsC l (cands (segs path)) = []
      · rw [if_pos he]; exact ⟨fun _ => he, fun _ => rfl⟩
      · rw [if_neg he]; exact ⟨fun h => absurd h (by decide), fun h => absurd h he⟩
  · rw [if_neg (by rw [h1]; omega)]
    refine ⟨fun _ => ?_, fun h => absurd rfl h⟩
    have hmem : g.m ∈ (isort (idsC l (cands (segs path)))).map (metAt l) := by
      refine List.mem_map.2 ⟨i, (isort_perm _).mem_iff.2 (hi i h1), ?_⟩
      unfold metAt
      rw [Int.toNat_natCast, h2]
      rfl
    obtain ⟨⟨ls, hls⟩, _⟩ := pgOK_is ((grown_zero hg).2.1 g (List.mem_of_getElem? h2))
    refine ⟨?_, hpt, i, g, ls, h1, h2, hls, ?_, ?_⟩
    · unfold methodG at h4
      split at h4
      · rename_i hm
        rw [hm]
        exact dedM_head _ _ (fun h => by cases h) (by rw [h4] at hmem; exact hmem)
      · rw [← h4]
        exact dedM_mem _ _ _ hmem
    · dsimp only
      rw [h1]
      unfold placesAt
      rw [Int.toNat_natCast, h2]
      show paramsG ((placesOf g.p).getD []) _ = _
      rw [hls]
      rfl
    · unfold shapeOf at h3
      rw [hls] at h3
      exact h3
end Go.Proofs.YtnaeeklnlddcaaaGreatDoor.Vex
/- Contracts of the library, laid at this seat's dump by the kit's tools lay-shelf and lay-plain. -/
/-
  DERIVED: THE SHELF's CONTRACTS AT THIS DUMP, IN PLAIN WORDS (tools/lay-plain.mjs out of 'TryzShelf.lean', which tools/lay-shelf.mjs wrote): THE SAME DECLARATIONS UNDER THE SAME NAMES: 'import', 'namespace', 'open', 'def', 'theorem' AND NOTHING ELSE: no command of the shelf's: FOR A HAND-IN. Each laying: the table of numbers ('.._ren') and one theorem, a field a fact of the dump's own or the kernel's comparison; each contract: ONE APPLICATION.
-/
namespace Go.Proofs
open Go.Shelf
def Tryz.lays189_ren : Go.Shelf.Ren := ⟨fun | 189 => 32 | 125 => 62 | 257 => 61 | 128 => 103 | 129 => 104 | 294 => 94 | 295 => 95 | 296 => 96 | 297 => 97 | 298 => 98 | 299 => 99 | 216 => 100 | 300 => 101 | 301 => 102 | 328 => 135 | 329 => 136 | 330 => 137 | 331 => 138 | 332 => 139 | 215 => 140 | 343 => 176 | n => n, fun | 28 => 73 | 3 => 3 | 46 => 121 | 0 => 0 | 51 => 167 | 53 => 169 | 4 => 4 | 183 => 160 | 182 => 159 | 131 => 82 | 5 => 5 | 9 => 9 | 218 => 198 | 222 => 202 | 228 => 226 | 229 => 227 | n => n, fun | n => n⟩
theorem Tryz.lays189 : Go.Proofs.Lays.n189 Tryz.prog Tryz.lays189_ren := {
  mixed := by kernel_rfl
  f125 := Tryz.func62.trans (congrArg some (by kernel_rfl))
  f128 := Tryz.func103.trans (congrArg some (by kernel_rfl))
  f129 := Tryz.func104.trans (congrArg some (by kernel_rfl))
  f189 := Tryz.func32.trans (congrArg some (by kernel_rfl))
  f215 := Tryz.func140.trans (congrArg some (by kernel_rfl))
  f216 := Tryz.func100.trans (congrArg some (by kernel_rfl))
  f257 := Tryz.func61.trans (congrArg some (by kernel_rfl))
  f294 := Tryz.func94.trans (congrArg some (by kernel_rfl))
  f295 := Tryz.func95.trans (congrArg some (by kernel_rfl))
  f296 := Tryz.func96.trans (congrArg some (by kernel_rfl))
  f297 := Tryz.func97.trans (congrArg some (by kernel_rfl))
  f298 := Tryz.func98.trans (congrArg some (by kernel_rfl))
  f299 := Tryz.func99.trans (congrArg some (by kernel_rfl))
  f300 := Tryz.func101.trans (congrArg some (by kernel_rfl))
  f301 := Tryz.func102.trans (congrArg some (by kernel_rfl))
  f328 := Tryz.func135.trans (congrArg some (by kernel_rfl))
  f329 := Tryz.func136.trans (congrArg some (by kernel_rfl))
  f330 := Tryz.func137.trans (congrArg some (by kernel_rfl))
  f331 := Tryz.func138.trans (congrArg some (by kernel_rfl))
  f332 := Tryz.func139.trans (congrArg some (by kernel_rfl))
  f343 := Tryz.func176.trans (congrArg some (by kernel_rfl))
  t0 := Tryz.underlying0
  a0 := Tryz.isAgg0
  z0 := Tryz.sizeOf0
  v0 := Tryz.zeroValue0
  t3 := Tryz.underlying3
  a3 := Tryz.isAgg3
  z3 := Tryz.sizeOf3
  v3 := Tryz.zeroValue3
  t4 := Tryz.underlying4
  a4 := Tryz.isAgg4
  z4 := Tryz.sizeOf4
  v4 := Tryz.zeroValue4
  t5 := Tryz.underlying5
  a5 := Tryz.isAgg5
  z5 := Tryz.sizeOf5
  v5 := Tryz.zeroValue5
  t9 := Tryz.underlying9
  a9 := Tryz.isAgg9
  z9 := Tryz.sizeOf9
  v9 := Tryz.zeroValue9
  t28 := Tryz.underlying73
  a28 := Tryz.isAgg73
  z28 := Tryz.sizeOf73
  v28 := Tryz.zeroValue73
  t46 := Tryz.underlying121
  a46 := Tryz.isAgg121
  z46 := Tryz.sizeOf121
  v46 := Tryz.zeroValue121
  t51 := Tryz.underlying167
  a51 := Tryz.isAgg167
  z51 := Tryz.sizeOf167
  v51 := Tryz.zeroValue167
  t53 := Tryz.underlying169
  a53 := Tryz.isAgg169
  z53 := Tryz.sizeOf169
  v53 := Tryz.zeroValue169
  t131 := Tryz.underlying82
  a131 := Tryz.isAgg82
  z131 := Tryz.sizeOf82
  v131 := Tryz.zeroValue82
  t182 := Tryz.underlying159
  a182 := Tryz.isAgg159
  z182 := Tryz.sizeOf159
  v182 := Tryz.zeroValue159
  t183 := Tryz.underlying160
  a183 := Tryz.isAgg160
  z183 := Tryz.sizeOf160
  v183 := Tryz.zeroValue160
  t218 := Tryz.underlying198
  a218 := Tryz.isAgg198
  z218 := Tryz.sizeOf198
  v218 := Tryz.zeroValue198
  t222 := Tryz.underlying202
  a222 := Tryz.isAgg202
  z222 := Tryz.sizeOf202
  v222 := Tryz.zeroValue202
  t228 := Tryz.underlying226
  a228 := Tryz.isAgg226
  z228 := Tryz.sizeOf226
  v228 := Tryz.zeroValue226
  t229 := Tryz.underlying227
  a229 := Tryz.isAgg227
  z229 := Tryz.sizeOf227
  v229 := Tryz.zeroValue227 }
open Go.Sort Go.RowKit in
theorem Tryz.slices_Sort_int (blk off cap : Nat) (zs : List Int) (w : World) (hH : Holds (Value.int .i64) w blk off zs.toArray) (hblk : blk < w.heap.size) (hsz : zs.length < 4611686018427387904) :
    Calls Tryz.prog 32 #[.slice (some ⟨blk, off, none⟩) zs.length cap] w fun e w' =>
      e = .returned (.tuple #[]) ∧ ∃ n os, w' = grow (putRow (Value.int .i64) (Sort.ahead w n) blk off (zs.mergeSort fun x y => decide (x ≤ y)).toArray) os := Any.slices_Sort_int Tryz.lays189 blk off cap zs w hH hblk hsz
open Go.RowKit Go.Sort in
/-- .. and plain. (LAID: no walk: one application.) -/
theorem Tryz.slices_Sort_int_none (p : Option Addr) (cap : Nat) (w : World) :
    Calls Tryz.prog 32 #[.slice p 0 cap] w fun e w' => e = .returned (.tuple #[]) ∧ w' = w := Any.slices_Sort_int_none Tryz.lays189 p cap w
end Go.Proofs
/- Methods, reckoned: the pages that a path's segments meet are gathered, sorted; their methods, each once. -/
namespace Go.Proofs.YtnaeeklnlddcaaaGreatDoor.Vex
open Go Go.RowKit
set_option maxRecDepth 100000
set_option linter.unusedSectionVars false
set_option linter.unusedSectionVars false
variable {gI : GI} [HasMax gI] [HasErr gI]

abbrev intV (n : Int) : Value := .int .i64 n
/-- A slice of integers of one's own is sorted. -/
theorem sort_k {c : Ctx} (hP : c.P = Tryz.prog) {m : Bool} (hm : m = false) {A : Option Addr} {cp : Nat} {l : List Int} {H : Hp} {K : Value → Hp → Prop} (hl : l.length ≤ 1000000)
    (k : K (.tuple #[]) (.row (.slice A l.length cp) 3 1 l.length ((isort l).map intV) :: H)) : CallK c m 32 [.slice A l.length cp] (.row (.slice A l.length cp) 3 1 l.length (l.map intV) :: H) K := by
  refine .of (by rw [hP]; exact callable Tryz.func32 rfl (by kernel_rfl)) fun w hw => ?_
  rw [hP]
  have hr : RowH w (.slice A l.length cp) 3 1 l.length (l.map intV) := (hw.own _ (List.mem_cons_self ..)).1
  have hk := (hw.own _ (List.mem_cons_self ..)).2
  have hiz : (isort l).length = l.length := (isort_perm l).length_eq
  rcases hr.2 with ⟨he, h0⟩ | ⟨g, cap, cur, fz, he, hg, hnc, hcm, hcs, htake, hfz⟩
  · obtain rfl : l = [] := List.eq_nil_of_length_eq_zero h0
    refine (Tryz.slices_Sort_int_none A cp w).mono fun e w' ⟨he, hw'⟩ => ⟨_, _, he, ?_, k, fun h => by rw [hm] at h; cases h⟩
    rw [hw']
    exact hw
  · cases he
    have hgl := (hk g rfl).1
    have hcell : ∀ j, j < l.length → w.cell? ⟨g, j, none⟩ = some (intV l[j]!) := fun j hj => by
      have hg' : w.heap[g]? = some (.cells ⟨cur.toList⟩ 3 fz) := by simpa using hg
      rw [cell_of_row w g j ⟨cur.toList⟩ _ fz hg']
      have h1 : (cur.toList.take (l.length * 1))[j]? = (l.map intV)[j]? := by rw [htake]
      rw [Nat.mul_one, List.getElem?_take_of_lt hj, List.getElem?_map, List.getElem?_eq_getElem hj] at h1
      simpa [hj] using h1
    have hfro : ∀ j, j < l.length → w.frozen? ⟨g, j, none⟩ = false := fun j hj => by
      simp only [World.frozen?, hg]
      simp; omega
    have hH : Go.Sort.Holds intV w g 0 l.toArray := fun j hj => by
      have hj' : j < l.length := by simpa using hj
      rw [Nat.zero_add]
      refine ⟨?_, hfro j hj'⟩
      rw [hcell j hj']
      simp [hj']
    refine (Tryz.slices_Sort_int g 0 cp l w hH hgl (by omega)).mono fun e w' ⟨he, n, os, hw'⟩ => ⟨_, _, he, ?_, k, fun h => by rw [hm] at h; cases h⟩
    rw [merge_isort] at hw'
    have hgb := grownBy_sortedI (w := w) (g := g) (n := n) (os := os) (isort l).toArray
    have hhp := heap_sortedI (w := w) (n := n) (os := os) (isort l).toArray hg
    have htk := take_putCellsI cur (isort l) (by rw [hiz]; omega)
    rw [← hw'] at hgb hhp
    have hsz : (Go.Sort.putCells intV 0 (isort l).toArray cur).size = cur.size := by simp [Go.Sort.putCells]
    have hrest : St c H w := hw.sub (List.sublist_cons_self _ _)
    have hn : ∀ y ∈ H, y.blk ≠ some g := fun y hy he => by
      have := hw.apart
      rw [List.filterMap_cons] at this
      exact (List.nodup_cons.1 this).1 (List.mem_filterMap.2 ⟨y, hy, he⟩)
    have hblk : ∀ j, j < w.heap.size → j ≠ g → w'.heap[j]? = w.heap[j]? := fun j hj hne => hgb.block j hj (fun e => hne (Option.some.inj e))
    have hmd : ModW c.M c.w0 w' := ⟨hgb.os.trans hw.mod.os, hgb.tape.trans hw.mod.tape, hgb.output.trans hw.mod.output, Nat.le_trans hw.mod.size hgb.size, fun j hj hM => by
      rw [hblk j (Nat.lt_of_lt_of_le hj hw.mod.size) (fun e' => by subst e'; rcases (hk j rfl).2 with h | h; omega; exact hM h)]
      exact hw.mod.block j hj hM⟩
    refine St.push ⟨hmd, fun y hy => ⟨Ent.holds_of_block (hrest.own y hy).1 fun b' e' => hblk b' ((hrest.own y hy).2 b' e').1 (fun e2 => by subst e2; exact hn y hy e'), fun b' e' => ⟨Nat.lt_of_lt_of_le ((hrest.own y hy).2 b' e').1 hgb.size, ((hrest.own y hy).2 b' e').2⟩⟩, hrest.apart⟩
      ⟨by rw [List.length_map, hiz, Nat.mul_one], .inr ⟨g, _, _, fz, rfl, hhp, hnc, hcm, by rw [hsz]; exact hcs, ?_, by rw [hsz]; exact hfz⟩⟩ (fun b' e' => ?_) (fun b' e' y hy => ?_)
    · rw [Nat.mul_one, ← hiz]
      exact htk
    · obtain rfl : g = b' := Option.some.inj e'
      exact ⟨Nat.lt_of_lt_of_le hgl hgb.size, (hk g rfl).2⟩
    · obtain rfl : g = b' := Option.some.inj e'
      exact hn y hy
end Go.Proofs.YtnaeeklnlddcaaaGreatDoor.Vex
/- How many pages a path's segments meet: no more than there are. No program in sight. -/
namespace Go.Proofs.YtnaeeklnlddcaaaGreatDoor.Vex
open Go Go.RowKit

theorem cands_nodup : ∀ ss : List (List UInt8), (cands ss).Nodup
  | [] => by simp [cands]
  | s :: r => by
    have ih := cands_nodup r
    have hm : ∀ p : Plc, ((cands r).map (p :: ·)).Nodup := fun p => List.pairwise_map.2 (ih.imp fun h e => h (List.cons.inj e).2)
    unfold cands
    rw [List.nodup_append, List.nodup_append]
    refine ⟨hm _, ⟨hm _, by simp, fun a ha b hb e => ?_⟩, fun a ha b hb e => ?_⟩
    · obtain ⟨y, _, rfl⟩ := List.mem_map.1 ha
      rw [List.mem_singleton.1 hb] at e
      cases (Prod.mk.inj (List.cons.inj e).1).1
    · obtain ⟨y, _, rfl⟩ := List.mem_map.1 ha
      rcases List.mem_append.1 hb with hb | hb
      · obtain ⟨z, _, rfl⟩ := List.mem_map.1 hb
        cases (Prod.mk.inj (List.cons.inj e).1).1
      · rw [List.mem_singleton.1 hb] at e
        cases (Prod.mk.inj (List.cons.inj e).1).1
theorem idsC_nodup (l : List Rpg) {cs : List (List Plc)} (h : cs.Nodup) : (idsC l cs).Nodup := by
  unfold idsC
  induction cs with
  | nil => exact List.nodup_nil
  | cons c r ih =>
    rw [List.nodup_cons] at h
    rw [List.flatMap_cons, List.nodup_append]
    refine ⟨idsAt_nodup l c, ih h.2, fun a ha b hb e => ?_⟩
    obtain ⟨d, hd, hb⟩ := List.mem_flatMap.1 hb
    obtain ⟨i, g, rfl, hg, hc⟩ := idsAt_mem.1 ha
    obtain ⟨j, g2, rfl, hg2, hc2⟩ := idsAt_mem.1 hb
    obtain rfl : i = j := by omega
    rw [hg] at hg2
    rw [Option.some.inj hg2, hc2] at hc
    exact h.1 (hc ▸ hd)
theorem idsC_mem {l : List Rpg} {cs : List (List Plc)} {x : Int} (h : x ∈ idsC l cs) : ∃ i : Nat, x = i ∧ i < l.length := by
  obtain ⟨d, _, hb⟩ := List.mem_flatMap.1 h
  obtain ⟨i, g, rfl, hg, _⟩ := idsAt_mem.1 hb
  exact ⟨i, rfl, (List.getElem?_eq_some_iff.1 hg).1⟩
theorem few_ids {n : Nat} {a : List Int} (hn : a.Nodup) (h : ∀ x ∈ a, ∃ i : Nat, x = i ∧ i < n) : a.length ≤ n := by
  have hp : a.Perm (((List.range n).map Int.ofNat).filter fun x => decide (x ∈ a)) := by
    refine perm_mem _ _ hn ?_ fun x => ?_
    · refine List.Pairwise.filter _ (List.pairwise_map.2 (List.nodup_range.imp fun h e => h (Int.ofNat.inj e)))
    · rw [List.mem_filter, decide_eq_true_eq]
      refine ⟨fun hx => ⟨?_, hx⟩, fun hx => hx.2⟩
      obtain ⟨i, rfl, hi⟩ := h x hx
      exact List.mem_map.2 ⟨i, List.mem_range.2 hi, rfl⟩
  rw [hp.length_eq]
  refine Nat.le_trans (List.length_filter_le _ _) ?_
  rw [List.length_map, List.length_range]
  exact Nat.le_refl _
theorem idsC_len (l : List Rpg) (ss : List (List UInt8)) : (idsC l (cands ss)).length ≤ l.length := few_ids (idsC_nodup l (cands_nodup ss)) fun _ h => idsC_mem h
section
variable {ns : List Nd} {l : List Rpg}
theorem ids_lead (hs : (l.map slotOf).Nodup) (h : TreeI ns (pgOf l)) : ∀ cs : List (List Plc), ((cs.filterMap fun d => lead ns ([] ++ d)).flatMap idsN).Perm (idsC l cs)
  | [] => List.Perm.refl _
  | c :: r => by
    have ih := ids_lead hs h r
    rw [List.filterMap_cons, List.nil_append]
    unfold idsC at ih ⊢
    rw [List.flatMap_cons]
    cases hl : lead ns c with
    | none =>
      obtain ⟨h1, _⟩ := any_none h (lead_none hl)
      have h2 : idsAt l c = [] := by
        rw [List.eq_nil_iff_forall_not_mem]
        intro x hx
        obtain ⟨i, g, rfl, hg, hc⟩ := idsAt_mem.1 hx
        unfold anyAt at h1
        rw [List.any_eq_false] at h1
        exact h1 g (List.mem_of_getElem? hg) (decide_eq_true hc)
      rw [h2, List.nil_append]
      exact ih
    | some n =>
      obtain ⟨hn, hc⟩ := lead_some hl
      have h3 := ids_node hs h hn
      rw [hc] at h3
      dsimp only
      rw [List.flatMap_cons]
      exact h3.append ih
theorem gat_run {σ : Type} (out : σ → List Int) : ∀ (w : List Nd) (s s' : σ) (b : Bool), RunS (fun a n a' b => GatS (out a) n (out a') b) w s s' b → ∃ ids : List Int, ids.Perm (w.flatMap idsN) ∧ out s' = out s ++ ids
  | [], s, s', b, hr => by
    cases hr
    exact ⟨[], List.Perm.refl _, by rw [List.append_nil]⟩
  | n :: r, s, s', b, hr => by
    cases hr with
    | stop hst => cases hst.1
    | go hst hr2 =>
      obtain ⟨_, ids, hp, he⟩ := hst
      obtain ⟨ids2, hp2, he2⟩ := gat_run out r _ s' b hr2
      exact ⟨ids ++ ids2, by rw [List.flatMap_cons]; exact hp.append hp2, by rw [he2, he, List.append_assoc]⟩
/-- What is gathered ahead of a node, and there, is little. -/
theorem gat_few {σ : Type} (out : σ → List Int) (hs : (l.map slotOf).Nodup) (h : TreeI ns (pgOf l)) {ss : List (List UInt8)} {pre post : List Nd} {n : Nd} {s s' : σ} (e : ways ns [] ss = pre ++ n :: post) (h0 : out s = []) (hr : RunS (fun a n a' b => GatS (out a) n (out a') b) pre s s' true) :
    (out s').length + n.pages.length ≤ l.length := by
  obtain ⟨ids, hp, ho⟩ := gat_run out pre s s' true hr
  have h1 := (ids_lead hs h (cands ss)).length_eq
  have h2 := idsC_len l ss
  have h3 : (cands ss).filterMap (fun d => lead ns ([] ++ d)) = pre ++ n :: post := e
  rw [h3, List.flatMap_append, List.flatMap_cons, List.length_append, List.length_append] at h1
  have h4 : (idsN n).length = n.pages.length := by unfold idsN; rw [List.length_map]
  rw [ho, h0, List.nil_append, hp.length_eq]
  omega
end
end Go.Proofs.YtnaeeklnlddcaaaGreatDoor.Vex
/- Methods of a path, reckoned: the pages of a node are gathered. -/
namespace Go.Proofs.YtnaeeklnlddcaaaGreatDoor.Vex
open Go Go.RowKit
set_option maxRecDepth 100000
set_option linter.unusedSectionVars false
set_option linter.unusedSectionVars false
variable {gI : GI} [HasMax gI] [HasErr gI]

structure GaS where
  l : List Int
  A : Option Addr
  cp : Nat
def GaH (bp : Nat) (R : Hp) (ns : List Nd) (s : GaS) : Hp := .box bp [.slice s.A s.l.length s.cp] 73 :: .row (.slice s.A s.l.length s.cp) 3 1 s.l.length (s.l.map intV) :: (R ++ nodesH ns)
structure GbS where
  js : List Nat
  l : List Int
  A : Option Addr
  cp : Nat
def pgN (P : List (List UInt8 × Value)) (j : Nat) : Int := valI (((P[j]?).map Prod.snd).getD (.bool false))
def gbI (l0 : List Int) (P : List (List UInt8 × Value)) (z : GbS) : Prop := z.js.Nodup ∧ (∀ j ∈ z.js, j < P.length) ∧ z.l = l0 ++ z.js.map (pgN P)
theorem pgN_all (P : List (List UInt8 × Value)) : (List.range P.length).map (pgN P) = P.map fun e => valI e.2 := by
  refine List.ext_getElem (by simp) fun i h1 h2 => ?_
  have hi : i < P.length := by simpa using h2
  simp [pgN, hi]
theorem nat_perm {n : Nat} {js : List Nat} (h1 : js.Nodup) (h2 : ∀ j ∈ js, j < n) (h3 : ∀ i, i < n → i ∈ js) : js.Perm (List.range n) :=
  perm_mem _ _ h1 List.nodup_range fun x => by rw [List.mem_range]; exact ⟨h2 x, h3 x⟩
theorem nat_few {n : Nat} {js : List Nat} (h1 : js.Nodup) (h2 : ∀ j ∈ js, j < n) : js.length ≤ n := by
  have hp : js.Perm ((List.range n).filter fun x => decide (x ∈ js)) := perm_mem _ _ h1 (List.Pairwise.filter _ List.nodup_range) fun x => by
    rw [List.mem_filter, List.mem_range, decide_eq_true_eq]
    exact ⟨fun h => ⟨h2 x h, h⟩, fun h => h.2⟩
  rw [hp.length_eq]
  refine Nat.le_trans (List.length_filter_le _ _) ?_
  rw [List.length_range]
  exact Nat.le_refl _
set_option maxHeartbeats 4000000 in
theorem meth1_k {P : Program} {g : GI} {w0 : World} {M : List Nat} {hM : ∀ b ∈ M, g.n ≤ b} {hG : g.G w0} (hP : P = Tryz.prog) {ns : List Nd} {l : List Rpg} (ht : TreeI ns (pgOf l)) {bp : Nat} {R : Hp} :
    DoK ⟨P, g, w0, M, hM, hG⟩ (GaH bp R ns) ns 31 [.pointer (some ⟨bp, 0, none⟩)] (fun s n => s.l.length + n.pages.length ≤ 1000000) (fun s n s' b => GatS s.l n s'.l b) := ⟨by
  rintro E ⟨l0, A0, cp0⟩ n K hn hok k
  subst hP
  dsimp only at hok
  unfold GaH at k ⊢
  dsimp only at k ⊢
  have hb1 : Ent.box n.b [.map (some n.pm), .map (some n.nm)] 78 ∈ E ++ (R ++ nodesH ns) := Ent.inE (Ent.inE (nodesH_mem hn _ (by simp [Nd.hd])))
  have hb2 : Ent.obj n.pm (mobj str n.pages) ∈ E ++ (R ++ nodesH ns) := Ent.inE (Ent.inE (nodesH_mem hn _ (by simp [Nd.hd])))
  have hval : ∀ e ∈ n.pages, e.2 = intV (valI e.2) := fun e he => by
    obtain ⟨i, g2, h1, _⟩ := node_val ht hn he
    rw [h1]
    rfl
  refine CallK.into (fun w hw => hw.perm (front3 (L := [.box bp [.slice A0 l0.length cp0] 73, .row (.slice A0 l0.length cp0) 3 1 l0.length (l0.map intV)]))) (CallK.post ?_)
  have hback : ∀ (l1 : List Int) (A1 : Option Addr) (c1 : Nat) (w : World), St ⟨Tryz.prog, g, w0, M, hM, hG⟩ (.box bp [.slice A1 l1.length c1] 73 :: .row (.slice A1 l1.length c1) 3 1 l1.length (l1.map intV) :: (E ++ (R ++ nodesH ns))) w → St ⟨Tryz.prog, g, w0, M, hM, hG⟩ (E ++ (.box bp [.slice A1 l1.length c1] 73 :: .row (.slice A1 l1.length c1) 3 1 l1.length (l1.map intV) :: (R ++ nodesH ns))) w :=
    fun l1 A1 c1 w hw => hw.perm (front3 (L := [.box bp [.slice A1 l1.length c1] 73, .row (.slice A1 l1.length c1) 3 1 l1.length (l1.map intV)])).symm
  dsimp only [List.cons_append, List.nil_append]
  generalize E ++ (R ++ nodesH ns) = X at *
  refine CallK.inl tys_ok Tryz.func31 rfl (by kernel_rfl) rfl rfl ?_
  unfold Nd.ptr
  (conv => whnf); repeat ((first | refine tk1 ?_ | refine tk2 ?_ | refine tk3 ?_ | refine tk12 (fun _ => ?_) | refine tk4 ?_ | refine tk5 ?_ | refine tk6 ?_ | refine tk7 ?_ | refine tk8 ?_ | refine tk9 ?_ | refine tk10 (fun _ _ => ?_) | refine tk11 (fun _ => ?_) | refine tk13 ?_ | refine tk14 ?_); (conv => whnf))
  refine Ld.mem (.tail _ (.tail _ hb1)) (v := .map (some n.pm)) rfl ?_
  (conv => whnf); repeat ((first | refine tk1 ?_ | refine tk2 ?_ | refine tk3 ?_ | refine tk12 (fun _ => ?_) | refine tk4 ?_ | refine tk5 ?_ | refine tk6 ?_ | refine tk7 ?_ | refine tk8 ?_ | refine tk9 ?_ | refine tk10 (fun _ _ => ?_) | refine tk11 (fun _ => ?_) | refine tk13 ?_ | refine tk14 ?_); (conv => whnf))
  refine Oth.rangeM (kv := str) (l := n.pages) tys_ok (objAt_mem (.tail _ (.tail _ hb2))) rfl rfl (fun r => ?_)
  (conv => whnf); repeat ((first | refine tk1 ?_ | refine tk2 ?_ | refine tk3 ?_ | refine tk12 (fun _ => ?_) | refine tk4 ?_ | refine tk5 ?_ | refine tk6 ?_ | refine tk7 ?_ | refine tk8 ?_ | refine tk9 ?_ | refine tk10 (fun _ _ => ?_) | refine tk11 (fun _ => ?_) | refine tk13 ?_ | refine tk14 ?_); (conv => whnf))
  refine LoopS.lpT tys_ok (fun (z : GbS) u => [u 0, .pointer (some ⟨bp, 0, none⟩), u 2, u 3, u 4, u 5, u 6, u 7, u 8, u 9, .pointer (some ⟨r, 0, none⟩), u 11, u 12, u 13, u 14, u 15, u 16, u 17, u 18])
    (fun z => .obj r (.mapIter (some n.pm) n.pages.length ⟨z.js⟩ n.pages.length) :: .box bp [.slice z.A z.l.length z.cp] 73 :: .row (.slice z.A z.l.length z.cp) 3 1 z.l.length (z.l.map intV) :: X) (gbI l0 n.pages) (fun z => leftN str n.pages z.js) ⟨[], l0, A0, cp0⟩
    ⟨List.nodup_nil, (fun j h => by cases h), by rw [List.map_nil, List.append_nil]⟩ rfl (fun _ h => h) ?_
  rintro ⟨js, l1, A1, c1⟩ u ⟨h1, h2, h3⟩
  dsimp only at h1 h2 h3 ⊢
  (conv => whnf); repeat ((first | refine tk1 ?_ | refine tk2 ?_ | refine tk3 ?_ | refine tk12 (fun _ => ?_) | refine tk4 ?_ | refine tk5 ?_ | refine tk6 ?_ | refine tk7 ?_ | refine tk8 ?_ | refine tk9 ?_ | refine tk10 (fun _ _ => ?_) | refine tk11 (fun _ => ?_) | refine tk13 ?_ | refine tk14 ?_); (conv => whnf))
  refine Oth.nextM (kv := str) (l := n.pages) (js := js) (objAt_mem (.tail _ (.tail _ (.tail _ hb2)))) rfl (fun hall => ?_) (fun i p hi hni => ?_)
  · (conv => whnf); repeat ((first | refine tk1 ?_ | refine tk2 ?_ | refine tk3 ?_ | refine tk12 (fun _ => ?_) | refine tk4 ?_ | refine tk5 ?_ | refine tk6 ?_ | refine tk7 ?_ | refine tk8 ?_ | refine tk9 ?_ | refine tk10 (fun _ _ => ?_) | refine tk11 (fun _ => ?_) | refine tk13 ?_ | refine tk14 ?_); (conv => whnf))
    refine ⟨_, fun w hw => hback l1 A1 c1 w (hw.sub (List.sublist_cons_self _ _)), k ⟨l1, A1, c1⟩ true ⟨rfl, js.map (pgN n.pages), ?_, h3⟩⟩
    unfold idsN
    rw [← pgN_all]
    exact (nat_perm h1 h2 hall).map _
  · have hil := (List.getElem?_eq_some_iff.1 hi).1
    have hpv := hval p (List.mem_of_getElem? hi)
    have hfew := nat_few h1 h2
    have hl1 : l1.length = l0.length + js.length := by rw [h3, List.length_append, List.length_map]
    have hpg : pgN n.pages i = valI p.2 := by unfold pgN; rw [hi]; rfl
    obtain ⟨x, hx⟩ : ∃ x, valI p.2 = x := ⟨_, rfl⟩
    rw [hx] at hpv hpg
    (conv => whnf); repeat ((first | refine tk1 ?_ | refine tk2 ?_ | refine tk3 ?_ | refine tk12 (fun _ => ?_) | refine tk4 ?_ | refine tk5 ?_ | refine tk6 ?_ | refine tk7 ?_ | refine tk8 ?_ | refine tk9 ?_ | refine tk10 (fun _ _ => ?_) | refine tk11 (fun _ => ?_) | refine tk13 ?_ | refine tk14 ?_); (conv => whnf))
    refine OthP.entryM (kv := str) (l := n.pages) (js := js) (i := i) (p := p) (objAt_mem (.tail _ (.tail _ (.tail _ hb2)))) hi rfl ?_
    rw [hpv]
    (conv => whnf); repeat ((first | refine tk1 ?_ | refine tk2 ?_ | refine tk3 ?_ | refine tk12 (fun _ => ?_) | refine tk4 ?_ | refine tk5 ?_ | refine tk6 ?_ | refine tk7 ?_ | refine tk8 ?_ | refine tk9 ?_ | refine tk10 (fun _ _ => ?_) | refine tk11 (fun _ => ?_) | refine tk13 ?_ | refine tk14 ?_); (conv => whnf))
    refine AppS.tc (m := 1) (news := [intV x]) SrcK.tc rfl (by simp [Value.oneCell']) (by decide) (by omega) (by omega) (zs := (l1 ++ [x]).map intV) (by rw [List.map_append]; rfl) (fun A2 c2 => ?_)
    rw [show l1.length + 1 = (l1 ++ [x]).length by simp]
    (conv => whnf); repeat ((first | refine tk1 ?_ | refine tk2 ?_ | refine tk3 ?_ | refine tk12 (fun _ => ?_) | refine tk4 ?_ | refine tk5 ?_ | refine tk6 ?_ | refine tk7 ?_ | refine tk8 ?_ | refine tk9 ?_ | refine tk10 (fun _ _ => ?_) | refine tk11 (fun _ => ?_) | refine tk13 ?_ | refine tk14 ?_); (conv => whnf))
    refine ⟨⟨js ++ [i], l1 ++ [x], A2, c2⟩, ⟨?_, fun j hj => ?_, ?_⟩, rfl, Cv.into (by (try dsimp only); repeat' (first | with_reducible exact Cv.refl | with_reducible exact Cv.left | with_reducible exact Cv.right | with_reducible exact Cv.nil | (with_reducible apply Cv.cons; focus ((repeat (first | with_reducible exact Pick.here | with_reducible apply Pick.skip)); done)) | (apply Cv.cons; focus ((repeat (first | exact Pick.here | apply Pick.skip)); done)) | exact Cv.nil | exact Cv.refl | exact Cv.left | exact Cv.right | refine Cv.skip ?_)), leftN_lt hi hni⟩
    · dsimp only
      exact List.nodup_append.2 ⟨h1, by simp, fun a ha b hb e => hni (by rw [← List.mem_singleton.1 hb, ← e]; exact ha)⟩
    · dsimp only at hj
      rcases List.mem_append.1 hj with hj | hj
      · exact h2 j hj
      · rw [List.mem_singleton.1 hj]; exact hil
    · dsimp only
      rw [h3, List.map_append, List.append_assoc]
      simp only [List.map_cons, List.map_nil, hpg]⟩
end Go.Proofs.YtnaeeklnlddcaaaGreatDoor.Vex
/- Methods of a path, reckoned. -/
namespace Go.Proofs.YtnaeeklnlddcaaaGreatDoor.Vex
open Go Go.RowKit
set_option maxRecDepth 100000
set_option linter.unusedSectionVars false
set_option linter.unusedSectionVars false
variable {gI : GI} [HasMax gI] [HasErr gI]

def MetV (o : List (List UInt8)) (e : Int) (x : RwM) : Value := .tuple #[.slice x.A o.length x.cp, .int .i64 e]
def MetH (o : List (List UInt8)) (x : RwM) : Hp := [.row (.slice x.A o.length x.cp) 9 1 o.length (o.map str)]
structure MtS where
  j : Nat
  o : List (List UInt8)
  A : Option Addr
  cp : Nat
def mtI (l : List Rpg) (srt : List Int) (z : MtS) : Prop := z.j ≤ srt.length ∧ z.o.length ≤ 2 * z.j ∧ dedM z.o ((srt.drop z.j).map (metAt l)) = dedM [] (srt.map (metAt l))
theorem gat_ids {ns : List Nd} {l : List Rpg} (hs : (l.map slotOf).Nodup) (h : TreeI ns (pgOf l)) {ss : List (List UInt8)} {s s' : GaS} {b : Bool} (h0 : s.l = []) (hr : RunS (fun (a : GaS) n a' b => GatS a.l n a'.l b) (ways ns [] ss) s s' b) : isort s'.l = isort (idsC l (cands ss)) ∧ s'.l.length ≤ l.length := by
  obtain ⟨ids, hp, he⟩ := gat_ways (fun s : GaS => s.l) hs h (cands ss) s s' b hr
  have he : s'.l = s.l ++ ids := he
  rw [h0, List.nil_append] at he
  rw [he]
  exact ⟨isort_congr hp, by rw [hp.length_eq]; exact idsC_len l ss⟩
set_option maxHeartbeats 4000000 in
theorem Methods_f (PA : Option Addr) (Pc : Nat) (l : List Pg) (hl : l.length ≤ 1000000) (hp : ∀ x ∈ l, x.p.length ≤ 1000000) (path : List UInt8) (hpa : path.length ≤ 1000000) :
    FnT Tryz.prog gI 8 [.slice PA l.length Pc, str path] (fun w => Rdw w PA (pgCells l)) (MetV (methO (rp l) path) (grownE (rp l))) (fun _ => True) (MetH (methO (rp l) path)) (fun _ => []) := by
  have hgr := grown_f (gI := gI) PA Pc l hl hp
  have hseg := Segments_f (gI := gI) path (by omega)
  refine FnE.of tys_ok Tryz.func8 rfl (by kernel_rfl) rfl rfl ?_; intro w hG hP
  have hR : ∀ H, RdA (mkC Tryz.prog gI w hG) H PA (pgCells l) := fun H => ⟨hP.now⟩
  clear hP
  have hnone : ∀ (e : Int) (H : Hp), methO (rp l) path = [] → ∀ w', St (mkC Tryz.prog gI w hG) H w' → ∃ x : RwM, Value.tuple #[.slice none 0 0, .int .i64 e] = MetV (methO (rp l) path) e x ∧ True ∧ newH w w' (MetH (methO (rp l) path) x ++ []) := fun e H hO w' hw' => by
    rw [hO]
    exact ⟨⟨none, 0⟩, rfl, trivial, newH.into hw' (Into.nilRow Into.nil)⟩
  have hM0 : grownE (rp l) ≠ 0 → methO (rp l) path = [] := fun h => by unfold methO; rw [if_pos h]
  (conv => whnf); repeat ((first | refine tk1 ?_ | refine tk2 ?_ | refine tk3 ?_ | refine tk12 (fun _ => ?_) | refine tk4 ?_ | refine tk5 ?_ | refine tk6 ?_ | refine tk7 ?_ | refine tk8 ?_ | refine tk9 ?_ | refine tk10 (fun _ _ => ?_) | refine tk11 (fun _ => ?_) | refine tk13 ?_ | refine tk14 ?_); (conv => whnf))
  refine CallK.fnT hgr (fun w1 hw1 => (hR _).ok w1 hw1) ?_
  rintro ⟨ns, r⟩ hQ
  dsimp only [GrV, List.cons_append, List.nil_append]
  by_cases hg : grownE (rp l) = 0
  rotate_left
  · as_aux_lemma =>
    rw [if_neg hg]
    have hO := hM0 hg
    generalize grownE (rp l) = e at *
    (conv => whnf); repeat ((first | refine tk1 ?_ | refine tk2 ?_ | refine tk3 ?_ | refine tk12 (fun _ => ?_) | refine tk4 ?_ | refine tk5 ?_ | refine tk6 ?_ | refine tk7 ?_ | refine tk8 ?_ | refine tk9 ?_ | refine tk10 (fun _ _ => ?_) | refine tk11 (fun _ => ?_) | refine tk13 ?_ | refine tk14 ?_); (conv => whnf))
    exact fun w' hw' => hnone e _ hO w' hw'
  rw [if_pos hg, hg]
  have hM1 : pathOf path = false → methO (rp l) path = [] := fun h => by unfold methO; rw [if_neg (not_not_intro hg), if_pos h]
  have hM2 : pathOf path = true → methO (rp l) path = dedM [] ((isort (idsC (rp l) (cands (segs path)))).map (metAt (rp l))) := fun h => by unfold methO; rw [if_neg (not_not_intro hg), if_neg (by rw [h]; decide)]
  unfold Nd.ptr
  (conv => whnf); repeat ((first | refine tk1 ?_ | refine tk2 ?_ | refine tk3 ?_ | refine tk12 (fun _ => ?_) | refine tk4 ?_ | refine tk5 ?_ | refine tk6 ?_ | refine tk7 ?_ | refine tk8 ?_ | refine tk9 ?_ | refine tk10 (fun _ _ => ?_) | refine tk11 (fun _ => ?_) | refine tk13 ?_ | refine tk14 ?_); (conv => whnf))
  refine CallK.fnG (G := fun u => .tuple #[u, .int .i64 (segE path)]) hseg (fun _ _ => trivial) (fun SA Sc hSc => ?_)
  cases hp2 : pathOf path
  · as_aux_lemma =>
    have hO := hM1 hp2
    rw [show segE path = 3 by unfold segE; rw [hp2]; rfl]
    (conv => whnf); repeat ((first | refine tk1 ?_ | refine tk2 ?_ | refine tk3 ?_ | refine tk12 (fun _ => ?_) | refine tk4 ?_ | refine tk5 ?_ | refine tk6 ?_ | refine tk7 ?_ | refine tk8 ?_ | refine tk9 ?_ | refine tk10 (fun _ _ => ?_) | refine tk11 (fun _ => ?_) | refine tk13 ?_ | refine tk14 ?_); (conv => whnf))
    exact fun w' hw' => hnone 0 _ hO w' hw'
  rw [show segO path = segs path by unfold segO; rw [hp2]; rfl] at hSc
  rw [show segE path = 0 by unfold segE; rw [hp2]; rfl, show segO path = segs path by unfold segO; rw [hp2]; rfl]
  have hO := hM2 hp2
  obtain ⟨htr, hr, hrc⟩ := hQ hg
  obtain ⟨_, _, hnd⟩ := grown_zero hg
  have hgi := fun (s s' : GaS) (b : Bool) => gat_ids (s := s) (s' := s') (b := b) (ss := segs path) hnd htr
  have hfew := fun (pre : List Nd) (n' : Nd) (post : List Nd) (s s' : GaS) => gat_few (ss := segs path) (pre := pre) (n := n') (post := post) (s := s) (s' := s') (fun s : GaS => s.l) hnd htr
  have htot := tot_segs hp2
  have hidm : ∀ x ∈ isort (idsC (rp l) (cands (segs path))), ∃ i : Nat, x = i ∧ i < l.length := fun x hx => by
    have := idsC_mem ((isort_perm _).mem_iff.1 hx)
    rw [rp_length] at this
    exact this
  obtain ⟨ss, hss⟩ : ∃ ss, segs path = ss := ⟨_, rfl⟩
  rw [hss] at hO hgi hfew htot hSc hidm ⊢
  (conv => whnf); repeat ((first | refine tk1 ?_ | refine tk2 ?_ | refine tk3 ?_ | refine tk12 (fun _ => ?_) | refine tk4 ?_ | refine tk5 ?_ | refine tk6 ?_ | refine tk7 ?_ | refine tk8 ?_ | refine tk9 ?_ | refine tk10 (fun _ _ => ?_) | refine tk11 (fun _ => ?_) | refine tk13 ?_ | refine tk14 ?_); (conv => whnf))
  rename_i b9
  refine CallK.into (G := [] ++ GaH b9 [.row (.slice SA ss.length Sc) 9 1 ss.length (ss.map str)] ns ⟨[], none, 0⟩) (fun w hw => (Into.nilRow (e := 3) (sz := 1) (fun _ h => h) w hw).perm (List.Perm.swap _ _ _)) ?_
  refine walk_k (G := GaH b9 [.row (.slice SA ss.length Sc) 9 1 ss.length (ss.map str)] ns) rfl htr (fun s x hx => .tail _ (.tail _ (.tail _ hx))) (meth1_k rfl htr) ss SA Sc r ⟨[], none, 0⟩ [] _ hr (by have := totS_len ss; omega) ?_ (fun s => RdS.skip (RdS.skip RdS.here)) (fun pre n' post s' e hrun => ?_) (fun s' b hs => ?_)
  · exact hSc
  · rw [hrc] at e
    have := hfew pre n' post _ s' e rfl hrun
    rw [rp_length] at this
    exact Nat.le_trans this (by omega)
  rw [hrc] at hs
  obtain ⟨hso, hle⟩ := hgi _ s' b rfl hs
  rw [rp_length] at hle
  clear hgi hfew hs
  obtain ⟨ids, A, cp⟩ := s'
  dsimp only at hso hle
  rw [← hso] at hO hidm
  unfold GaH
  dsimp only [List.cons_append, List.nil_append]
  (conv => whnf); repeat ((first | refine tk1 ?_ | refine tk2 ?_ | refine tk3 ?_ | refine tk12 (fun _ => ?_) | refine tk4 ?_ | refine tk5 ?_ | refine tk6 ?_ | refine tk7 ?_ | refine tk8 ?_ | refine tk9 ?_ | refine tk10 (fun _ _ => ?_) | refine tk11 (fun _ => ?_) | refine tk13 ?_ | refine tk14 ?_); (conv => whnf))
  refine CallK.into (G := .row (.slice A ids.length cp) 3 1 ids.length (ids.map intV) :: .box b9 [.slice A ids.length cp] 73 :: nodesH ns) (Cv.into (by (try dsimp only); repeat' (first | with_reducible exact Cv.refl | with_reducible exact Cv.left | with_reducible exact Cv.right | with_reducible exact Cv.nil | (with_reducible apply Cv.cons; focus ((repeat (first | with_reducible exact Pick.here | with_reducible apply Pick.skip)); done)) | (apply Cv.cons; focus ((repeat (first | exact Pick.here | apply Pick.skip)); done)) | exact Cv.nil | exact Cv.refl | exact Cv.left | exact Cv.right | refine Cv.skip ?_))) ?_
  refine sort_k rfl rfl (by omega) ?_
  have hsl : (isort ids).length = ids.length := (isort_perm ids).length_eq
  rw [← hsl] at hle ⊢
  generalize isort ids = srt at *
  clear hso hsl
  (conv => whnf); repeat ((first | refine tk1 ?_ | refine tk2 ?_ | refine tk3 ?_ | refine tk12 (fun _ => ?_) | refine tk4 ?_ | refine tk5 ?_ | refine tk6 ?_ | refine tk7 ?_ | refine tk8 ?_ | refine tk9 ?_ | refine tk10 (fun _ _ => ?_) | refine tk11 (fun _ => ?_) | refine tk13 ?_ | refine tk14 ?_); (conv => whnf))
  refine LoopS.lpT tys_ok (fun (z : MtS) u => [.slice PA l.length Pc, u 1, u 2, u 3, .slice z.A z.o.length z.cp, u 5, u 6, u 7, u 8, u 9, u 10, u 11, u 12, u 13, u 14, u 15, u 16, u 17, u 18, u 19, u 20, u 21, u 22, u 23, u 24, u 25, u 26, u 27, u 28, u 29, u 30, u 31, u 32, u 33, .slice A srt.length cp, .int .i64 srt.length, .int .i64 (z.j : Nat), u 37, u 38, u 39, u 40, u 41, u 42, u 43, u 44, u 45, u 46, u 47, u 48, u 49, u 50, u 51, u 52, u 53, u 54, u 55, u 56, u 57, u 58])
    (fun z => [.row (.slice z.A z.o.length z.cp) 9 1 z.o.length (z.o.map str), .row (.slice A srt.length cp) 3 1 srt.length (srt.map intV)]) (mtI (rp l) srt) (fun z => srt.length - z.j) ⟨0, [], none, 0⟩
    ⟨Nat.zero_le _, Nat.le_refl _, rfl⟩ rfl (Into.nilRow (e := 9) (sz := 1) (Cv.into (by (try dsimp only); repeat' (first | with_reducible exact Cv.refl | with_reducible exact Cv.left | with_reducible exact Cv.right | with_reducible exact Cv.nil | (with_reducible apply Cv.cons; focus ((repeat (first | with_reducible exact Pick.here | with_reducible apply Pick.skip)); done)) | (apply Cv.cons; focus ((repeat (first | exact Pick.here | apply Pick.skip)); done)) | exact Cv.nil | exact Cv.refl | exact Cv.left | exact Cv.right | refine Cv.skip ?_)))) ?_
  rintro ⟨j, o, oA, oc⟩ u ⟨h1, h2, h3⟩
  dsimp only at h1 h2 h3 ⊢
  by_cases hlt : j < srt.length
  · as_aux_lemma =>
    obtain ⟨i, hi, hil⟩ := hidm srt[j] (List.getElem_mem hlt)
    obtain ⟨c1, c2, c3⟩ := pgCells_at l i hil
    have hri := rp_at l i hil
    have hsv : (srt.map intV)[((j : Nat) : Int).toNat * 1]? = some (intV (i : Nat)) := by rw [Int.toNat_natCast, Nat.mul_one, List.getElem?_map, List.getElem?_eq_getElem hlt, hi]; rfl
    have hmt : metAt (rp l) srt[j] = l[i].m := by unfold metAt; rw [hi, Int.toNat_natCast, hri]; rfl
    rw [List.drop_eq_getElem_cons hlt, List.map_cons, hmt, dedM] at h3
    generalize l[i].m = m at *
    clear hri hmt
    (conv => whnf); repeat ((first | refine tk1 ?_ | refine tk2 ?_ | refine tk3 ?_ | refine tk12 (fun _ => ?_) | refine tk4 ?_ | refine tk5 ?_ | refine tk6 ?_ | refine tk7 ?_ | refine tk8 ?_ | refine tk9 ?_ | refine tk10 (fun _ _ => ?_) | refine tk11 (fun _ => ?_) | refine tk13 ?_ | refine tk14 ?_); (conv => whnf))
    refine IdxA.tc (xs := srt.map intV) (by rw [List.length_map]; omega) (by omega) (by omega) ?_
    (conv => whnf); repeat ((first | refine tk1 ?_ | refine tk2 ?_ | refine tk3 ?_ | refine tk12 (fun _ => ?_) | refine tk4 ?_ | refine tk5 ?_ | refine tk6 ?_ | refine tk7 ?_ | refine tk8 ?_ | refine tk9 ?_ | refine tk10 (fun _ _ => ?_) | refine tk11 (fun _ => ?_) | refine tk13 ?_ | refine tk14 ?_); (conv => whnf))
    refine Ld.ta (xs := srt.map intV) hsv ?_
    (conv => whnf); repeat ((first | refine tk1 ?_ | refine tk2 ?_ | refine tk3 ?_ | refine tk12 (fun _ => ?_) | refine tk4 ?_ | refine tk5 ?_ | refine tk6 ?_ | refine tk7 ?_ | refine tk8 ?_ | refine tk9 ?_ | refine tk10 (fun _ _ => ?_) | refine tk11 (fun _ => ?_) | refine tk13 ?_ | refine tk14 ?_); (conv => whnf))
    refine IdxA.tc (xs := pgCells l) (by rw [pgCells_length]; omega) (by omega) (by omega) ?_
    (conv => whnf); repeat ((first | refine tk1 ?_ | refine tk2 ?_ | refine tk3 ?_ | refine tk12 (fun _ => ?_) | refine tk4 ?_ | refine tk5 ?_ | refine tk6 ?_ | refine tk7 ?_ | refine tk8 ?_ | refine tk9 ?_ | refine tk10 (fun _ _ => ?_) | refine tk11 (fun _ => ?_) | refine tk13 ?_ | refine tk14 ?_); (conv => whnf))
    refine Ld.taF (xs := pgCells l) (v := str m) (by rw [Int.toNat_natCast]; exact c2) ?_
    (conv => whnf); repeat ((first | refine tk1 ?_ | refine tk2 ?_ | refine tk3 ?_ | refine tk12 (fun _ => ?_) | refine tk4 ?_ | refine tk5 ?_ | refine tk6 ?_ | refine tk7 ?_ | refine tk8 ?_ | refine tk9 ?_ | refine tk10 (fun _ _ => ?_) | refine tk11 (fun _ => ?_) | refine tk13 ?_ | refine tk14 ?_); (conv => whnf))
    refine CallK.fnR (Contains_f oA oc o m (by omega)) ⟨RdA.ok, trivial⟩ ?_
    cases hc : o.contains m
    · rw [hc] at h3
      (conv => whnf); repeat ((first | refine tk1 ?_ | refine tk2 ?_ | refine tk3 ?_ | refine tk12 (fun _ => ?_) | refine tk4 ?_ | refine tk5 ?_ | refine tk6 ?_ | refine tk7 ?_ | refine tk8 ?_ | refine tk9 ?_ | refine tk10 (fun _ _ => ?_) | refine tk11 (fun _ => ?_) | refine tk13 ?_ | refine tk14 ?_); (conv => whnf))
      refine AppS.tc (m := 1) (news := [str m]) SrcK.tc rfl (by simp [Value.oneCell']) (by decide) (by omega) (by omega) (zs := (o ++ [m]).map str) (by rw [List.map_append]; rfl) (fun A2 c2 => ?_)
      rw [show o.length + 1 = (o ++ [m]).length by simp]
      (conv => whnf); repeat ((first | refine tk1 ?_ | refine tk2 ?_ | refine tk3 ?_ | refine tk12 (fun _ => ?_) | refine tk4 ?_ | refine tk5 ?_ | refine tk6 ?_ | refine tk7 ?_ | refine tk8 ?_ | refine tk9 ?_ | refine tk10 (fun _ _ => ?_) | refine tk11 (fun _ => ?_) | refine tk13 ?_ | refine tk14 ?_); (conv => whnf))
      by_cases hm : m = [71, 69, 84]
      · subst hm
        refine Cmp.t rfl ?_
        (conv => whnf); repeat ((first | refine tk1 ?_ | refine tk2 ?_ | refine tk3 ?_ | refine tk12 (fun _ => ?_) | refine tk4 ?_ | refine tk5 ?_ | refine tk6 ?_ | refine tk7 ?_ | refine tk8 ?_ | refine tk9 ?_ | refine tk10 (fun _ _ => ?_) | refine tk11 (fun _ => ?_) | refine tk13 ?_ | refine tk14 ?_); (conv => whnf))
        have hol : (o ++ [([71, 69, 84] : List UInt8)]).length = o.length + 1 := by simp
        refine AppS.tc (m := 1) (news := [str headM]) SrcK.tc rfl (by simp [Value.oneCell']) (by decide) (by omega) (by omega) (zs := ((o ++ [([71, 69, 84] : List UInt8)]) ++ [headM]).map str) (by rw [List.map_append (l₁ := o ++ [([71, 69, 84] : List UInt8)])]; rfl) (fun A3 c3 => ?_)
        rw [show (o ++ [([71, 69, 84] : List UInt8)]).length + 1 = ((o ++ [([71, 69, 84] : List UInt8)]) ++ [headM]).length by simp]
        (conv => whnf); repeat ((first | refine tk1 ?_ | refine tk2 ?_ | refine tk3 ?_ | refine tk12 (fun _ => ?_) | refine tk4 ?_ | refine tk5 ?_ | refine tk6 ?_ | refine tk7 ?_ | refine tk8 ?_ | refine tk9 ?_ | refine tk10 (fun _ _ => ?_) | refine tk11 (fun _ => ?_) | refine tk13 ?_ | refine tk14 ?_); (conv => whnf))
        refine ⟨⟨j + 1, (o ++ [[71, 69, 84]]) ++ [headM], A3, c3⟩, ⟨by dsimp only; omega, by dsimp only; rw [List.length_append, List.length_append]; simp only [List.length_singleton]; omega, ?_⟩, rfl, Cv.into (by (try dsimp only); repeat' (first | with_reducible exact Cv.refl | with_reducible exact Cv.left | with_reducible exact Cv.right | with_reducible exact Cv.nil | (with_reducible apply Cv.cons; focus ((repeat (first | with_reducible exact Pick.here | with_reducible apply Pick.skip)); done)) | (apply Cv.cons; focus ((repeat (first | exact Pick.here | apply Pick.skip)); done)) | exact Cv.nil | exact Cv.refl | exact Cv.left | exact Cv.right | refine Cv.skip ?_)), by dsimp only; omega⟩
        dsimp only
        rw [← h3, List.append_assoc]
        rfl
      · refine Cmp.f hm ?_
        (conv => whnf); repeat ((first | refine tk1 ?_ | refine tk2 ?_ | refine tk3 ?_ | refine tk12 (fun _ => ?_) | refine tk4 ?_ | refine tk5 ?_ | refine tk6 ?_ | refine tk7 ?_ | refine tk8 ?_ | refine tk9 ?_ | refine tk10 (fun _ _ => ?_) | refine tk11 (fun _ => ?_) | refine tk13 ?_ | refine tk14 ?_); (conv => whnf))
        refine ⟨⟨j + 1, o ++ [m], A2, c2⟩, ⟨by dsimp only; omega, by dsimp only; rw [List.length_append]; simp only [List.length_singleton]; omega, ?_⟩, rfl, Cv.into (by (try dsimp only); repeat' (first | with_reducible exact Cv.refl | with_reducible exact Cv.left | with_reducible exact Cv.right | with_reducible exact Cv.nil | (with_reducible apply Cv.cons; focus ((repeat (first | with_reducible exact Pick.here | with_reducible apply Pick.skip)); done)) | (apply Cv.cons; focus ((repeat (first | exact Pick.here | apply Pick.skip)); done)) | exact Cv.nil | exact Cv.refl | exact Cv.left | exact Cv.right | refine Cv.skip ?_)), by dsimp only; omega⟩
        dsimp only
        rw [← h3, if_neg (by decide), if_neg (show ¬ m = getM from hm)]
    · rw [hc] at h3
      (conv => whnf); repeat ((first | refine tk1 ?_ | refine tk2 ?_ | refine tk3 ?_ | refine tk12 (fun _ => ?_) | refine tk4 ?_ | refine tk5 ?_ | refine tk6 ?_ | refine tk7 ?_ | refine tk8 ?_ | refine tk9 ?_ | refine tk10 (fun _ _ => ?_) | refine tk11 (fun _ => ?_) | refine tk13 ?_ | refine tk14 ?_); (conv => whnf))
      refine ⟨⟨j + 1, o, oA, oc⟩, ⟨by dsimp only; omega, by dsimp only; omega, ?_⟩, rfl, Cv.into (by (try dsimp only); repeat' (first | with_reducible exact Cv.refl | with_reducible exact Cv.left | with_reducible exact Cv.right | with_reducible exact Cv.nil | (with_reducible apply Cv.cons; focus ((repeat (first | with_reducible exact Pick.here | with_reducible apply Pick.skip)); done)) | (apply Cv.cons; focus ((repeat (first | exact Pick.here | apply Pick.skip)); done)) | exact Cv.nil | exact Cv.refl | exact Cv.left | exact Cv.right | refine Cv.skip ?_)), by dsimp only; omega⟩
      dsimp only
      rw [← h3, if_pos rfl]
  obtain rfl : j = srt.length := by omega
  rw [List.drop_eq_nil_of_le (Nat.le_refl _), List.map_nil, ← hO, dedM] at h3
  (conv => whnf); repeat ((first | refine tk1 ?_ | refine tk2 ?_ | refine tk3 ?_ | refine tk12 (fun _ => ?_) | refine tk4 ?_ | refine tk5 ?_ | refine tk6 ?_ | refine tk7 ?_ | refine tk8 ?_ | refine tk9 ?_ | refine tk10 (fun _ _ => ?_) | refine tk11 (fun _ => ?_) | refine tk13 ?_ | refine tk14 ?_); (conv => whnf))
  refine fun w' hw' => ⟨⟨oA, oc⟩, ?_, trivial, newH.into hw' (Cv.into ?_)⟩
  · unfold MetV
    rw [← h3]
  · rw [← h3]
    exact (by (try dsimp only); repeat' (first | with_reducible exact Cv.refl | with_reducible exact Cv.left | with_reducible exact Cv.right | with_reducible exact Cv.nil | (with_reducible apply Cv.cons; focus ((repeat (first | with_reducible exact Pick.here | with_reducible apply Pick.skip)); done)) | (apply Cv.cons; focus ((repeat (first | exact Pick.here | apply Pick.skip)); done)) | exact Cv.nil | exact Cv.refl | exact Cv.left | exact Cv.right | refine Cv.skip ?_))
end Go.Proofs.YtnaeeklnlddcaaaGreatDoor.Vex
