/- The statement RouteNames: the limits and errors of routes have their numbers, and the chapter's examples are so. -/
import Derived.Test.YtnaeeklnlddcaaaGreatDoorMRouteNames4
/- The statement RouteNames, reckoned. -/
namespace Go.Proofs.YtnaeeklnlddcaaaGreatDoor.Vex
open Go Go.RowKit
set_option maxRecDepth 100000
set_option linter.unusedSectionVars false
set_option linter.unusedSectionVars false
variable {gI : GI} [HasMax gI] [HasErr gI]

def nilPg : Pg := ⟨[], [], 0, ⟨none, 0, []⟩, [], false, ⟨none, 0, []⟩⟩
def twoA : List Pg := [mkPg [71, 69, 84] [47, 58, 97], mkPg [71, 69, 84] [47, 58, 98]]
def oneA : List Pg := [mkPg [71, 69, 84] [47, 42]]
def oneB : List Pg := [mkPg [72, 69, 65, 68] [47]]
def manyA : List Pg := List.replicate 33 nilPg
/-- A slice of structs, made: as a box. -/
theorem Oth.makeN {c : Ctx} {T : Ty} {H : Hp} {fr : Fr} {dst : Option Nat} {ty : TypeId} {pos : String} {after : Array Edge} {gd : Option (Nat × Bool)} {m : Bool} {t e : Nat} {x y : Operand} {n sz bt : Nat} {z : Value} {xs : List Value} {K : Value → Hp → Prop} (hT : TOk c.P T) (ht : (lookT T t).d = .slice e) (he : (lookT T e).d ≠ .invalid) (hz : (lookT T e).zero = z) (hs : (lookT T e).size = sz) (hb : (lookT T e).bytes = bt)
    (hx : evK fr x fun v => v = .int .i64 n) (hy : evK fr y fun v => v = .int .i64 n) (hn : n ≤ 1000000) (hbt : bt ≤ 1000) (hc : madeCells z.cells (n * sz) = ⟨xs⟩) (k : ∀ b, K (.slice (some ⟨b, 0, none⟩) n n) (.box b xs e :: H)) :
    Oth c m ⟨dst, .makeSlice t x y, ty, pos, after, gd⟩ fr H K := ⟨fun w hw => by
  rw [evK_eq] at hx hy
  have hu := (lookT_ok hT (t := t) (by rw [ht]; intro h; cases h)).1
  rw [ht] at hu
  have hi := (lookT_ok hT he).2.1
  obtain ⟨i, hi, hiz, his, hib⟩ : ∃ i, c.P.info? e = some i ∧ i.zero = some z ∧ i.size = sz ∧ i.bytes = bt := by
    cases h : c.P.info? e with
    | none => rw [h] at hi; cases hi
    | some i =>
      rw [h] at hi
      simp only [Option.map_some, Option.some.injEq, Prod.mk.injEq] at hi
      exact ⟨i, rfl, by rw [hi.1, hz], by rw [hi.2.1, hs], by rw [hi.2.2, hb]⟩
  have hnb : bt * n ≤ 1000000000 := by
    have := Nat.mul_le_mul hn hbt
    rw [Nat.mul_comm]
    omega
  have hnb2 : n * bt ≤ 1000000000 := by rw [Nat.mul_comm]; exact hnb
  have hr := run_make (P := c.P) w t e i _ hu hi hiz .i64 .i64 n n (by omega) (by omega) (by rw [hib]; omega) (by omega)
  rw [his, Int.toNat_natCast, hc] at hr
  refine ⟨_, _, _, ?_, hw.alloc xs e, k _, fun _ => (Below.refl _ _).alloc (Nat.le_refl _) _⟩
  generalize (act fr).eval = ρ at *
  simp only [execOp, hx, hy, Sem.run_bind, hr, Result.andThen_ok, Sem.run_pure]⟩
theorem RouteNames_v : Fn Tryz.prog gI 3 [] (.bool true) := by
  have f1 := finds_f (gI := gI) [71, 69, 84] [47, 97, 47, 98, 47, 99] 3 200 [114] [97, 47, 98, 47, 99] (by decide)
  have f2 := finds_f (gI := gI) [80, 85, 84] [47, 97, 47, 98] (-1) 405 [] [] (by decide)
  have f3 := finds_f (gI := gI) [71, 69, 84] [97] (-1) 404 [] [] (by decide)
  rw [show findsB [71, 69, 84] [47, 97, 47, 98, 47, 99] 3 200 [114] [97, 47, 98, 47, 99] = true by decide +kernel] at f1
  rw [show findsB [80, 85, 84] [47, 97, 47, 98] (-1) 405 [] [] = true by decide +kernel] at f2
  rw [show findsB [71, 69, 84] [97] (-1) 404 [] [] = true by decide +kernel] at f3
  have m1 := fun q : Nat => Methods_f (gI := gI) (some ⟨q, 0, none⟩) 4 fourP (by decide) (by decide) [47, 97, 47, 98] (by decide)
  have m2 := fun q : Nat => Methods_f (gI := gI) (some ⟨q, 0, none⟩) 4 fourP (by decide) (by decide) [47, 122] (by decide)
  rw [show methO (rp fourP) [47, 97, 47, 98] = [[71, 69, 84], [72, 69, 65, 68], [80, 79, 83, 84]] by decide +kernel, show grownE (rp fourP) = 0 by decide +kernel] at m1
  rw [show methO (rp fourP) [47, 122] = [[71, 69, 84], [72, 69, 65, 68]] by decide +kernel, show grownE (rp fourP) = 0 by decide +kernel] at m2
  have c1 := fun q : Nat => Check26_f (gI := gI) (some ⟨q, 0, none⟩) 2 twoA (by decide) (by decide)
  have c2 := fun q : Nat => Check26_f (gI := gI) (some ⟨q, 0, none⟩) 1 oneA (by decide) (by decide)
  have c3 := fun q : Nat => Check26_f (gI := gI) (some ⟨q, 0, none⟩) 1 oneB (by decide) (by decide)
  have c4 := fun q : Nat => Check26_f (gI := gI) (some ⟨q, 0, none⟩) 33 manyA (by decide) (by decide)
  rw [show grownE (rp twoA) = 8 by decide +kernel] at c1
  rw [show grownE (rp oneA) = 3 by decide +kernel] at c2
  rw [show grownE (rp oneB) = 3 by decide +kernel] at c3
  rw [show grownE (rp manyA) = 4 by decide +kernel] at c4
  have g1 := Find_f (gI := gI) none 0 [] (by decide) (fun x hx => by cases hx) [71, 69, 84] [47] (by decide)
  rw [show findO (rp []) [71, 69, 84] [47] = ⟨-1, [], 404, 0⟩ by kernel_rfl] at g1
  refine Fn.of tys_ok Tryz.func3 rfl (by kernel_rfl) rfl rfl ?_; intro w hG
  (conv => whnf); repeat ((first | refine tk1 ?_ | refine tk2 ?_ | refine tk3 ?_ | refine tk12 (fun _ => ?_) | refine tk4 ?_ | refine tk5 ?_ | refine tk6 ?_ | refine tk7 ?_ | refine tk8 ?_ | refine tk9 ?_ | refine tk10 (fun _ _ => ?_) | refine tk11 (fun _ => ?_) | refine tk13 ?_ | refine tk14 ?_); (conv => whnf))
  refine CallK.fn f1 ?_
  (conv => whnf); repeat ((first | refine tk1 ?_ | refine tk2 ?_ | refine tk3 ?_ | refine tk12 (fun _ => ?_) | refine tk4 ?_ | refine tk5 ?_ | refine tk6 ?_ | refine tk7 ?_ | refine tk8 ?_ | refine tk9 ?_ | refine tk10 (fun _ _ => ?_) | refine tk11 (fun _ => ?_) | refine tk13 ?_ | refine tk14 ?_); (conv => whnf))
  refine CallK.fn f2 ?_
  (conv => whnf); repeat ((first | refine tk1 ?_ | refine tk2 ?_ | refine tk3 ?_ | refine tk12 (fun _ => ?_) | refine tk4 ?_ | refine tk5 ?_ | refine tk6 ?_ | refine tk7 ?_ | refine tk8 ?_ | refine tk9 ?_ | refine tk10 (fun _ _ => ?_) | refine tk11 (fun _ => ?_) | refine tk13 ?_ | refine tk14 ?_); (conv => whnf))
  refine CallK.fn f3 ?_
  (conv => whnf); repeat ((first | refine tk1 ?_ | refine tk2 ?_ | refine tk3 ?_ | refine tk12 (fun _ => ?_) | refine tk4 ?_ | refine tk5 ?_ | refine tk6 ?_ | refine tk7 ?_ | refine tk8 ?_ | refine tk9 ?_ | refine tk10 (fun _ _ => ?_) | refine tk11 (fun _ => ?_) | refine tk13 ?_ | refine tk14 ?_); (conv => whnf))
  refine CallK.fnT four_f (fun _ _ => trivial) ?_
  rintro q1 _
  dsimp only [List.cons_append, List.nil_append, List.append_nil]
  (conv => whnf); repeat ((first | refine tk1 ?_ | refine tk2 ?_ | refine tk3 ?_ | refine tk12 (fun _ => ?_) | refine tk4 ?_ | refine tk5 ?_ | refine tk6 ?_ | refine tk7 ?_ | refine tk8 ?_ | refine tk9 ?_ | refine tk10 (fun _ _ => ?_) | refine tk11 (fun _ => ?_) | refine tk13 ?_ | refine tk14 ?_); (conv => whnf))
  refine CallK.fnT (m1 q1) (fun w1 hw1 => RdA.ok (xs := pgCells fourP) w1 hw1) ?_
  rintro ⟨aA, ac⟩ _
  dsimp only [MetV, MetH, List.cons_append, List.nil_append, List.append_nil]
  (conv => whnf); repeat ((first | refine tk1 ?_ | refine tk2 ?_ | refine tk3 ?_ | refine tk12 (fun _ => ?_) | refine tk4 ?_ | refine tk5 ?_ | refine tk6 ?_ | refine tk7 ?_ | refine tk8 ?_ | refine tk9 ?_ | refine tk10 (fun _ _ => ?_) | refine tk11 (fun _ => ?_) | refine tk13 ?_ | refine tk14 ?_); (conv => whnf))
  refine CallK.fnT four_f (fun _ _ => trivial) ?_
  rintro q2 _
  dsimp only [List.cons_append, List.nil_append, List.append_nil]
  (conv => whnf); repeat ((first | refine tk1 ?_ | refine tk2 ?_ | refine tk3 ?_ | refine tk12 (fun _ => ?_) | refine tk4 ?_ | refine tk5 ?_ | refine tk6 ?_ | refine tk7 ?_ | refine tk8 ?_ | refine tk9 ?_ | refine tk10 (fun _ _ => ?_) | refine tk11 (fun _ => ?_) | refine tk13 ?_ | refine tk14 ?_); (conv => whnf))
  refine CallK.fnT (m2 q2) (fun w1 hw1 => RdA.ok (xs := pgCells fourP) w1 hw1) ?_
  rintro ⟨bA, bc⟩ _
  dsimp only [MetV, MetH, List.cons_append, List.nil_append, List.append_nil]
  (conv => whnf); repeat ((first | refine tk1 ?_ | refine tk2 ?_ | refine tk3 ?_ | refine tk12 (fun _ => ?_) | refine tk4 ?_ | refine tk5 ?_ | refine tk6 ?_ | refine tk7 ?_ | refine tk8 ?_ | refine tk9 ?_ | refine tk10 (fun _ _ => ?_) | refine tk11 (fun _ => ?_) | refine tk13 ?_ | refine tk14 ?_); (conv => whnf))
  rename_i q3
  refine CallK.fnR (c1 q3) ⟨RdA.ok (xs := pgCells twoA), trivial⟩ ?_
  (conv => whnf); repeat ((first | refine tk1 ?_ | refine tk2 ?_ | refine tk3 ?_ | refine tk12 (fun _ => ?_) | refine tk4 ?_ | refine tk5 ?_ | refine tk6 ?_ | refine tk7 ?_ | refine tk8 ?_ | refine tk9 ?_ | refine tk10 (fun _ _ => ?_) | refine tk11 (fun _ => ?_) | refine tk13 ?_ | refine tk14 ?_); (conv => whnf))
  rename_i q4
  refine CallK.fnR (c2 q4) ⟨RdA.ok (xs := pgCells oneA), trivial⟩ ?_
  (conv => whnf); repeat ((first | refine tk1 ?_ | refine tk2 ?_ | refine tk3 ?_ | refine tk12 (fun _ => ?_) | refine tk4 ?_ | refine tk5 ?_ | refine tk6 ?_ | refine tk7 ?_ | refine tk8 ?_ | refine tk9 ?_ | refine tk10 (fun _ _ => ?_) | refine tk11 (fun _ => ?_) | refine tk13 ?_ | refine tk14 ?_); (conv => whnf))
  rename_i q5
  refine CallK.fnR (c3 q5) ⟨RdA.ok (xs := pgCells oneB), trivial⟩ ?_
  (conv => whnf); repeat ((first | refine tk1 ?_ | refine tk2 ?_ | refine tk3 ?_ | refine tk12 (fun _ => ?_) | refine tk4 ?_ | refine tk5 ?_ | refine tk6 ?_ | refine tk7 ?_ | refine tk8 ?_ | refine tk9 ?_ | refine tk10 (fun _ _ => ?_) | refine tk11 (fun _ => ?_) | refine tk13 ?_ | refine tk14 ?_); (conv => whnf))
  refine Oth.makeN (n := 33) (xs := pgCells manyA) tys_ok rfl (fun h => by cases h) rfl rfl rfl rfl rfl (by decide) (by decide) (by kernel_rfl) (fun q6 => ?_)
  (conv => whnf); repeat ((first | refine tk1 ?_ | refine tk2 ?_ | refine tk3 ?_ | refine tk12 (fun _ => ?_) | refine tk4 ?_ | refine tk5 ?_ | refine tk6 ?_ | refine tk7 ?_ | refine tk8 ?_ | refine tk9 ?_ | refine tk10 (fun _ _ => ?_) | refine tk11 (fun _ => ?_) | refine tk13 ?_ | refine tk14 ?_); (conv => whnf))
  refine CallK.fnR (c4 q6) ⟨RdS.box, trivial⟩ ?_
  (conv => whnf); repeat ((first | refine tk1 ?_ | refine tk2 ?_ | refine tk3 ?_ | refine tk12 (fun _ => ?_) | refine tk4 ?_ | refine tk5 ?_ | refine tk6 ?_ | refine tk7 ?_ | refine tk8 ?_ | refine tk9 ?_ | refine tk10 (fun _ _ => ?_) | refine tk11 (fun _ => ?_) | refine tk13 ?_ | refine tk14 ?_); (conv => whnf))
  refine CallK.fnT g1 (fun w1 _ => fun j u hj => by cases hj) ?_
  rintro ⟨fA, fc⟩ _
  dsimp only [FndV, FndH, List.cons_append, List.nil_append, List.append_nil, List.length_nil]
  (conv => whnf); repeat ((first | refine tk1 ?_ | refine tk2 ?_ | refine tk3 ?_ | refine tk12 (fun _ => ?_) | refine tk4 ?_ | refine tk5 ?_ | refine tk6 ?_ | refine tk7 ?_ | refine tk8 ?_ | refine tk9 ?_ | refine tk10 (fun _ _ => ?_) | refine tk11 (fun _ => ?_) | refine tk13 ?_ | refine tk14 ?_); (conv => whnf))
  refine CallK.fn alive26_f ?_
  (conv => whnf); repeat ((first | refine tk1 ?_ | refine tk2 ?_ | refine tk3 ?_ | refine tk12 (fun _ => ?_) | refine tk4 ?_ | refine tk5 ?_ | refine tk6 ?_ | refine tk7 ?_ | refine tk8 ?_ | refine tk9 ?_ | refine tk10 (fun _ _ => ?_) | refine tk11 (fun _ => ?_) | refine tk13 ?_ | refine tk14 ?_); (conv => whnf))
  refine CallK.fnR (Same_r aA _ ac 3 [[71, 69, 84], [72, 69, 65, 68], [80, 79, 83, 84]] [[71, 69, 84], [72, 69, 65, 68], [80, 79, 83, 84]] (by decide) (by decide)) ⟨RdA.ok, RdA.ok, trivial⟩ ?_
  (conv => whnf); repeat ((first | refine tk1 ?_ | refine tk2 ?_ | refine tk3 ?_ | refine tk12 (fun _ => ?_) | refine tk4 ?_ | refine tk5 ?_ | refine tk6 ?_ | refine tk7 ?_ | refine tk8 ?_ | refine tk9 ?_ | refine tk10 (fun _ _ => ?_) | refine tk11 (fun _ => ?_) | refine tk13 ?_ | refine tk14 ?_); (conv => whnf))
  refine CallK.fnR (Same_r bA _ bc 2 [[71, 69, 84], [72, 69, 65, 68]] [[71, 69, 84], [72, 69, 65, 68]] (by decide) (by decide)) ⟨RdA.ok, RdA.ok, trivial⟩ ?_
  (conv => whnf); repeat ((first | refine tk1 ?_ | refine tk2 ?_ | refine tk3 ?_ | refine tk12 (fun _ => ?_) | refine tk4 ?_ | refine tk5 ?_ | refine tk6 ?_ | refine tk7 ?_ | refine tk8 ?_ | refine tk9 ?_ | refine tk10 (fun _ _ => ?_) | refine tk11 (fun _ => ?_) | refine tk13 ?_ | refine tk14 ?_); (conv => whnf))
end Go.Proofs.YtnaeeklnlddcaaaGreatDoor.Vex
namespace Go.Proofs.YtnaeeklnlddcaaaGreatDoor.routeNames
open Go.ChangeShapes Go.WideShapes Go.ChangeAt Go.RowKit

set_option maxRecDepth 100000 in
theorem contract (H : Type) (enc : TypeId × Value → H) (W : World) (base : Nat) (args : Array Value) (ds gs : List (DataW H)) (before : List MemPlace)
    (hval : ∀ (j : Nat) t v, Tryz.f3.params[j]? = some t → args[j]? = some v → Value.okWide Tryz.prog W .any base t v)
    (hW : DataW.Whole enc Tryz.prog Tryz.f3.params.toList Rows.routeNamesSpec.vars false W args.toList ds gs before) (hL : laidMetH Tryz.prog Rows.routeNamesRow.laid W) (hS : W.ShapedOpen Tryz.prog) :
    Calls Tryz.prog 3 args W fun e W' => ∃ v, e = .returned v ∧ Rows.routeNamesSpec.post enc Tryz.prog Tryz.f3 false true false false W args v W' := by
  have hW' := hW
  obtain ⟨p, q, hA, hV, rfl, hfz, hnd⟩ := hW
  rw [Tryz.params3] at hA hval
  obtain ⟨hargs, rfl, rfl⟩ := trodAll_nil hA
  obtain rfl : args = #[] := by rw [← Array.toList_inj]; exact hargs
  obtain ⟨rfl, rfl⟩ := trodVars_none hV
  have hG := Vex.gE_of hL hS (by kernel_rfl) (List.mem_of_getElem? (i := 5) rfl) (List.mem_of_getElem? (i := 4) rfl)
  refine (Vex.done_F Vex.RouteNames_v hG).mono fun e W' ⟨he, hb⟩ => ?_
  exact ⟨_, he, law_post laidOut rfl hW' (by kernel_rfl) (by kernel_rfl) Tryz.underlying4 (by kernel_rfl) hb⟩

abbrev start : Array Value := #[]
theorem laid_met (os : Os) : laidMet Tryz.prog Rows.routeNamesRow.laid ((laidWorld os start).forCall (fun _ _ => 0) ⟨#[], start, []⟩).memory :=
  laidMet_of_run' 8 (by kernel_rfl) (by kernel_rfl)
theorem reads (os : Os) {H : Type} (enc : TypeId × Value → H) : ∃ places, DataW.whole enc Tryz.prog ((laidWorld os start).forCall (fun _ _ => 0) ⟨#[], start, []⟩).memory Tryz.f3.params.toList Rows.routeNamesSpec.vars false start.toList 8 = some ([], [], places) :=
  ⟨[], by kernel_rfl⟩

set_option maxRecDepth 100000 in
theorem lifted (os : Os) (started : os.Started) (H : Type) (enc : TypeId × Value → H) (F : Stop.Interp) :
    ReturnsInHanded {} Tryz.checked os 3 .any ((OpenSpec.ofChange Rows.routeNamesSpec).preRow enc Tryz.prog Tryz.f3 Rows.routeNamesRow.domain false Rows.routeNamesRow.laid) (((OpenSpec.ofChange Rows.routeNamesSpec).at F).post enc Tryz.prog Tryz.f3 false true false false) := by
  obtain ⟨places, hx⟩ := reads os enc
  refine returnsInHanded_of_row (C := Tryz.checked) (s := OpenSpec.ofChange Rows.routeNamesSpec) own started (by kernel_rfl) Tryz.func3
    (witness_row_atRef (enc := enc) (C := Tryz.checked) false (laidWorld os start) start rfl (by kernel_rfl) (by kernel_rfl) (by kernel_rfl)
      (OpenSpec.preRow_of_cond 8 hx (by kernel_rfl) (fun k hk => by cases hk) (by kernel_rfl) (laid_met os))) ?_
  intro W base args ds gs before hval hW _ _ _ hL hS _
  exact contract H enc W base args ds gs before hval hW hL hS

theorem said : Rows.RouteNamesSaid :=
  OpenClaim.holds_of_cond 3 Tryz.f3 rfl rfl rfl rfl rfl rfl rfl ⟨rfl, rfl, rfl, rfl, rfl⟩ rfl rfl rfl rfl rfl (by kernel_rfl) Tryz.func3 (by kernel_rfl)
    (of_decide_eq_true (by kernel_rfl)) (by unfold Func.isWrapper; first | (rw [if_pos (by decide +kernel)]; kernel_rfl) | (rw [if_neg (by decide +kernel)]; exact ⟨rfl, rfl⟩))
    (fun os started H enc _ F => by rw [OpenClaim.pre_eq_preRow]; exact lifted os started H enc F)

/-- No parameter wants a stand-in; the program's own looks. -/
theorem plain (f : FuncId) (fn : Func) (hf : Tryz.pinned.checked.prog.funcNamed "bellows/bellowslaw26.RouteNames" = some f) (hfn : Tryz.pinned.checked.prog.funcs[f]? = some fn) :
    true = Tryz.pinned.checked.prog.looks [] ∧ ∀ (j : Nat) t, fn.params[j]? = some t → Tryz.pinned.checked.prog.wantsStandIn t = false := by
  obtain rfl : f = 3 := Option.some.inj ((show Tryz.prog.funcNamed "bellows/bellowslaw26.RouteNames" = some 3 by kernel_rfl).symm.trans hf) |>.symm
  obtain rfl : fn = Tryz.f3 := (Option.some.inj (Tryz.func3.symm.trans hfn)).symm
  refine ⟨by kernel_rfl, fun j t ht => ?_⟩
  have hall : (Tryz.f3.params.toList.all fun t => !Tryz.prog.wantsStandIn t) = true := by kernel_rfl
  have := List.all_eq_true.1 hall t (Array.mem_toList_iff.2 (Array.mem_of_getElem? ht))
  exact (show Tryz.prog.wantsStandIn t = false by simpa using this)

theorem proved : Rows.RouteNamesCardSaid :=
  Claim7.holds_tied_plain_at .later [] _ _ _ _ said (fun _ h => by cases h) (by kernel_rfl) (fun _ h => by cases h) routeNames_row_tie rfl ⟨rfl, rfl⟩ (by kernel_rfl) rfl plain (by kernel_rfl)
end Go.Proofs.YtnaeeklnlddcaaaGreatDoor.routeNames
