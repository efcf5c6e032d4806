/- For every page, request and parameters, together of bulk at most uptoSmall, PageTells returns true; the arguments read behind the call as they read before. -/
import Derived.Test.YtmdmmncoigeijaaDoorMPageTells3
/- The statements' own first example, reckoned: answers, alive. -/
namespace Go.Proofs.YtmdmmncoigeijaaDoor.Vex
open Go Go.RowKit
set_option maxRecDepth 100000
set_option linter.unusedSectionVars false
variable {gI : GI} [HasMax gI]

theorem prtsOk_st {c : Ctx} {H : Hp} {A : Option Addr} {ps : List Prt} (h1 : RdS c H A (pcells ps)) (h2 : ∀ q ∈ ps, RdS c H q.A (q.l.map byteV)) : ∀ w, St c H w → PrtsOk w A ps :=
  fun w hw => ⟨h1 w hw, fun q hq => h2 q hq w hw⟩
theorem answers_ps_le {st : Int} {fs : List Fld} {tag : List UInt8} {press : Bool} {Q : List Pce} {B q : List UInt8} {pm : List Fld} {a : Ans} {e : Int} (h : answerOf st fs tag press Q B q pm = (a, e)) : a.ps.length ≤ Q.length ∧ total a.ps ≤ 131072 ∧ a.fs.length ≤ fs.length + 1 := by
  unfold answerOf at h
  split at h
  · split at h
    · rename_i h2
      obtain ⟨rfl, rfl⟩ := Prod.mk.inj h
      refine ⟨?_, ?_, ?_⟩
      · have := (parts_length (told B q pm Q)).1
        unfold told at this
        rw [List.length_map] at this
        exact this
      · show total (partsG _) ≤ _
        rw [← total_bodyOf, bodyOf_parts, total_bodyOf]
        exact h2
      · show (ansF tag fs).length ≤ _
        unfold ansF
        split
        · omega
        · simp
    · obtain ⟨rfl, rfl⟩ := Prod.mk.inj h
      exact ⟨Nat.zero_le _, Nat.zero_le _, Nat.zero_le _⟩
  · obtain ⟨rfl, rfl⟩ := Prod.mk.inj h
    exact ⟨Nat.zero_le _, Nat.zero_le _, Nat.zero_le _⟩
def pm2 : List Fld := [([120], [49]), ([120], [50])]
theorem answers_r (LA : Option Addr) (lc : Nat) (l : List Pce) (WA : Option Addr) (wc : Nat) (want : List Prt) (a : Ans) (e : Int) (hl : l.length ≤ 1000) (hw : want.length ≤ 1000) (h : answerOf 200 [] [] false l [66] [113] pm2 = (a, e)) :
    FnE Tryd.prog gI 15 [.slice LA l.length lc, .slice WA want.length wc] (fun w => Rdw w LA (pccells l) ∧ PrtsOk w WA want) fun _ v _ => v = .bool (decide (e = 0) && (decide (a.st = 200) && decide (a.ps = want.map pure1))) := by
  have hz := answers_ps_le h
  refine FnE.of tys_ok Tryd.func15 rfl (by kernel_rfl) rfl rfl ?_; intro w hG hP
  have hRL : ∀ H, RdA (mkC Tryd.prog gI w hG) H LA (pccells l) := fun H => ⟨hP.1.now⟩
  have hRW : ∀ H, RdA (mkC Tryd.prog gI w hG) H WA (pcells want) := fun H => ⟨hP.2.1.now⟩
  (conv => whnf); repeat ((first | refine tk1 ?_ | refine tk2 ?_ | refine tk3 ?_ | refine tk12 (fun _ => ?_) | refine tk4 ?_ | refine tk5 ?_ | refine tk6 ?_ | refine tk7 ?_ | refine tk8 ?_ | refine tk9 ?_ | refine tk10 (fun _ _ => ?_) | refine tk11 (fun _ => ?_) | refine tk13 ?_ | refine tk14 ?_); (conv => whnf))
  rename_i b10
  refine Oth.same tys_ok rfl rfl rfl (fun o10 ho10 => ?_)
  have hR10 : ∀ H, RdA (mkC Tryd.prog gI w hG) (.obj b10 o10 :: H) (some ⟨b10, 0, none⟩) _ := ho10.rd
  (conv => whnf); repeat ((first | refine tk1 ?_ | refine tk2 ?_ | refine tk3 ?_ | refine tk12 (fun _ => ?_) | refine tk4 ?_ | refine tk5 ?_ | refine tk6 ?_ | refine tk7 ?_ | refine tk8 ?_ | refine tk9 ?_ | refine tk10 (fun _ _ => ?_) | refine tk11 (fun _ => ?_) | refine tk13 ?_ | refine tk14 ?_); (conv => whnf))
  refine CallK.fnT (Answer_f [] [] 200 none 0 [] [] false LA lc l [] [] [113] 0 (.slice none 0 0) _ [66] 1 _ pm2 2 a e (by decide) (by omega) (by decide) (by decide) (by decide) h) (fun w1 hw1 => ⟨(RdS.nil (c := mkC Tryd.prog gI w hG) (H := [])) w1 (hw1.sub (List.nil_sublist _)), (hRL _).ok w1 hw1, RdA.ok (xs := fcells pm2) w1 hw1, RdA.ok (xs := ([66] : List UInt8).map byteV) w1 hw1, trivial⟩) ?_
  rintro x hx
  unfold AnsV.is at hx
  have hxl : x.ps.length ≤ 1000 := by have := congrArg List.length hx; rw [List.length_map] at this; omega
  dsimp only [AnsV.hd, AnsV.tl, List.cons_append, List.nil_append]
  (conv => whnf); repeat ((first | refine tk1 ?_ | refine tk2 ?_ | refine tk3 ?_ | refine tk12 (fun _ => ?_) | refine tk4 ?_ | refine tk5 ?_ | refine tk6 ?_ | refine tk7 ?_ | refine tk8 ?_ | refine tk9 ?_ | refine tk10 (fun _ _ => ?_) | refine tk11 (fun _ => ?_) | refine tk13 ?_ | refine tk14 ?_); (conv => whnf))
  by_cases he : e = 0
  · refine Cmp.t he ?_
    (conv => whnf); repeat ((first | refine tk1 ?_ | refine tk2 ?_ | refine tk3 ?_ | refine tk12 (fun _ => ?_) | refine tk4 ?_ | refine tk5 ?_ | refine tk6 ?_ | refine tk7 ?_ | refine tk8 ?_ | refine tk9 ?_ | refine tk10 (fun _ _ => ?_) | refine tk11 (fun _ => ?_) | refine tk13 ?_ | refine tk14 ?_); (conv => whnf))
    by_cases hs : a.st = 200
    · refine Cmp.t hs ?_
      (conv => whnf); repeat ((first | refine tk1 ?_ | refine tk2 ?_ | refine tk3 ?_ | refine tk12 (fun _ => ?_) | refine tk4 ?_ | refine tk5 ?_ | refine tk6 ?_ | refine tk7 ?_ | refine tk8 ?_ | refine tk9 ?_ | refine tk10 (fun _ _ => ?_) | refine tk11 (fun _ => ?_) | refine tk13 ?_ | refine tk14 ?_); (conv => whnf))
      refine CallK.fnEV (SameParts_r x.pA WA x.pc wc x.ps want (by omega) (by omega)) (fun w1 hw1 => ⟨(prtsOk_st RdA.ok (fun q hq => RdS.sub (Prt.rd (e := 5) hq) (by repeat' (first | exact List.Sublist.refl _ | exact List.sublist_append_right _ _ | exact List.sublist_append_left _ _ | refine List.Sublist.trans ?_ (List.sublist_append_left _ _) | apply List.Sublist.cons)))) w1 hw1, prtsOk_st (hRW _).ok (fun q hq => (hP.2.2 q hq).now) w1 hw1⟩) ?_
      rw [hx, decide_eq_true he, decide_eq_true hs]
      (conv => whnf); repeat ((first | refine tk1 ?_ | refine tk2 ?_ | refine tk3 ?_ | refine tk12 (fun _ => ?_) | refine tk4 ?_ | refine tk5 ?_ | refine tk6 ?_ | refine tk7 ?_ | refine tk8 ?_ | refine tk9 ?_ | refine tk10 (fun _ _ => ?_) | refine tk11 (fun _ => ?_) | refine tk13 ?_ | refine tk14 ?_); (conv => whnf))
      exact fun w' _ => rfl
    · refine Cmp.f hs ?_
      rw [decide_eq_true he, decide_eq_false hs]
      (conv => whnf); repeat ((first | refine tk1 ?_ | refine tk2 ?_ | refine tk3 ?_ | refine tk12 (fun _ => ?_) | refine tk4 ?_ | refine tk5 ?_ | refine tk6 ?_ | refine tk7 ?_ | refine tk8 ?_ | refine tk9 ?_ | refine tk10 (fun _ _ => ?_) | refine tk11 (fun _ => ?_) | refine tk13 ?_ | refine tk14 ?_); (conv => whnf))
      exact fun w' _ => rfl
  · refine Cmp.f he ?_
    rw [decide_eq_false he]
    (conv => whnf); repeat ((first | refine tk1 ?_ | refine tk2 ?_ | refine tk3 ?_ | refine tk12 (fun _ => ?_) | refine tk4 ?_ | refine tk5 ?_ | refine tk6 ?_ | refine tk7 ?_ | refine tk8 ?_ | refine tk9 ?_ | refine tk10 (fun _ _ => ?_) | refine tk11 (fun _ => ?_) | refine tk13 ?_ | refine tk14 ?_); (conv => whnf))
    exact fun w' _ => rfl
def aliveL : List Pce := [⟨1, [97, 98], 2, false⟩, ⟨2, [120], 0, true⟩, ⟨3, [], 0, false⟩]
theorem alive27_f : Fn Tryd.prog gI 10 [] (.bool true) := by
  refine Fn.of tys_ok Tryd.func10 rfl (by kernel_rfl) rfl rfl ?_; intro w hG
  (conv => whnf); repeat ((first | refine tk1 ?_ | refine tk2 ?_ | refine tk3 ?_ | refine tk12 (fun _ => ?_) | refine tk4 ?_ | refine tk5 ?_ | refine tk6 ?_ | refine tk7 ?_ | refine tk8 ?_ | refine tk9 ?_ | refine tk10 (fun _ _ => ?_) | refine tk11 (fun _ => ?_) | refine tk13 ?_ | refine tk14 ?_); (conv => whnf))
  rename_i b4 b5
  refine Oth.same tys_ok rfl rfl rfl (fun o5 ho5 => ?_)
  have hR5 : ∀ H, RdA (mkC Tryd.prog gI w hG) (.obj b5 o5 :: H) (some ⟨b5, 0, none⟩) _ := ho5.rd
  (conv => whnf); repeat ((first | refine tk1 ?_ | refine tk2 ?_ | refine tk3 ?_ | refine tk12 (fun _ => ?_) | refine tk4 ?_ | refine tk5 ?_ | refine tk6 ?_ | refine tk7 ?_ | refine tk8 ?_ | refine tk9 ?_ | refine tk10 (fun _ _ => ?_) | refine tk11 (fun _ => ?_) | refine tk13 ?_ | refine tk14 ?_); (conv => whnf))
  rename_i b8
  refine Oth.same tys_ok rfl rfl rfl (fun o8 ho8 => ?_)
  have hR8 : ∀ H, RdA (mkC Tryd.prog gI w hG) (.obj b8 o8 :: H) (some ⟨b8, 0, none⟩) _ := ho8.rd
  (conv => whnf); repeat ((first | refine tk1 ?_ | refine tk2 ?_ | refine tk3 ?_ | refine tk12 (fun _ => ?_) | refine tk4 ?_ | refine tk5 ?_ | refine tk6 ?_ | refine tk7 ?_ | refine tk8 ?_ | refine tk9 ?_ | refine tk10 (fun _ _ => ?_) | refine tk11 (fun _ => ?_) | refine tk13 ?_ | refine tk14 ?_); (conv => whnf))
  rename_i b11
  refine CallK.fnEV (answers_r _ 3 aliveL _ 2 [⟨some ⟨b5, 0, none⟩, 5, [97, 98, 97, 98, 49], true⟩, ⟨some ⟨b8, 0, none⟩, 1, [66], false⟩] ⟨200, [], [([97, 98, 97, 98, 49], true), ([66], false)], [], false⟩ 0 (by decide) (by simp) (by kernel_rfl))
    (fun w1 hw1 => ⟨RdA.ok (xs := pccells aliveL) w1 hw1, prtsOk_st RdA.ok (fun q hq => ?_) w1 hw1⟩) ?_
  · rcases List.mem_cons.1 hq with rfl | hq
    · exact RdA.ok (xs := ([97, 98, 97, 98, 49] : List UInt8).map byteV)
    · obtain rfl := List.mem_singleton.1 hq
      exact RdA.ok (xs := ([66] : List UInt8).map byteV)
  (conv => whnf); repeat ((first | refine tk1 ?_ | refine tk2 ?_ | refine tk3 ?_ | refine tk12 (fun _ => ?_) | refine tk4 ?_ | refine tk5 ?_ | refine tk6 ?_ | refine tk7 ?_ | refine tk8 ?_ | refine tk9 ?_ | refine tk10 (fun _ _ => ?_) | refine tk11 (fun _ => ?_) | refine tk13 ?_ | refine tk14 ?_); (conv => whnf))
  rfl
end Go.Proofs.YtmdmmncoigeijaaDoor.Vex
/- The statement PageTells, reckoned. -/
namespace Go.Proofs.YtmdmmncoigeijaaDoor.Vex
open Go Go.RowKit
set_option maxRecDepth 100000
set_option linter.unusedSectionVars false
variable {gI : GI} [HasMax gI]

theorem answer_cases {st : Int} {fs : List Fld} {tag : List UInt8} {press : Bool} {Q : List Pce} {B q : List UInt8} {pm : List Fld} {a : Ans} {e : Int} (h : answerOf st fs tag press Q B q pm = (a, e)) :
    (e = 0 ∧ pageOK st tag fs Q = true ∧ total (told B q pm Q) ≤ 131072 ∧ a = ansOf st fs tag press (told B q pm Q)) ∨ (e = 9 ∧ a = ans0) ∨ (e = 8 ∧ pageE st tag fs Q = 8 ∧ a = ans0) := by
  unfold answerOf at h
  cases hp : pageOK st tag fs Q with
  | true =>
    rw [hp, if_pos rfl] at h
    split at h
    · rename_i ht
      obtain ⟨rfl, rfl⟩ := Prod.mk.inj h
      exact .inl ⟨rfl, rfl, ht, rfl⟩
    · obtain ⟨rfl, rfl⟩ := Prod.mk.inj h
      exact .inr (.inl ⟨rfl, rfl⟩)
  | false =>
    rw [hp, if_neg Bool.false_ne_true] at h
    obtain ⟨rfl, rfl⟩ := Prod.mk.inj h
    exact .inr (.inr ⟨rfl, by unfold pageE; rw [hp]; rfl, rfl⟩)
theorem ansF_at (tag : List UInt8) (F : List Fld) : F.length ≤ (ansF tag F).length ∧ ∀ (k : Nat) (h : k < F.length) (h' : k < (ansF tag F).length), (ansF tag F)[k] = F[k] := by
  unfold ansF
  by_cases ht : tag = []
  · simp only [if_pos ht]
    exact ⟨Nat.le_refl _, fun _ _ _ => trivial⟩
  · simp only [if_neg ht]
    exact ⟨by simp, fun k h h' => List.getElem_append_left h⟩
/-- What the walk of a statement on pages needs. -/
abbrev PgL (x : Pg) (r : Req) (P : Sl Fld) : List (Option Addr × List Value) := [(x.F.A, fcells x.F.l), (x.Ps.A, pccells x.Ps.l), (P.A, fcells P.l), (r.B.A, r.B.l.map byteV)]
theorem PageTells_v (x : Pg) (r : Req) (P : Sl Fld) (hf : Fit x r P) : FnR Tryd.prog gI 3 [.agg ⟨x.cells⟩, .agg ⟨r.cells⟩, .slice P.A P.l.length P.cp] (PgL x r P) (.bool true) := by
  obtain ⟨m, p, st, ⟨FA, Fc, F⟩, tag, press, ⟨QA, Qc, Q⟩⟩ := x
  obtain ⟨rm, rp, rq, rv, ⟨RA, Rc, R⟩, ⟨BA, Bc, B⟩⟩ := r
  obtain ⟨PA, Pc, pm⟩ := P
  obtain ⟨hst, htag, hF, hQ, hQt, hB, hq, hp⟩ := hf
  dsimp only at hst htag hF hQ hQt hB hq hp
  unfold PgL Pg.cells Req.cells
  dsimp only
  have hFl := fsum_length F
  obtain ⟨a, e, h⟩ : ∃ a e, answerOf st F tag press Q B rq pm = (a, e) := ⟨_, _, rfl⟩
  have hz := answers_ps_le h
  refine FnE.of tys_ok Tryd.func3 rfl (by kernel_rfl) rfl rfl ?_; intro w hG hP
  have hRF : ∀ H, RdA (mkC Tryd.prog gI w hG) H FA (fcells F) := fun H => ⟨hP.1.now⟩
  have hRQ : ∀ H, RdA (mkC Tryd.prog gI w hG) H QA (pccells Q) := fun H => ⟨hP.2.1.now⟩
  have hRP : ∀ H, RdA (mkC Tryd.prog gI w hG) H PA (fcells pm) := fun H => ⟨hP.2.2.1.now⟩
  have hRB : ∀ H, RdA (mkC Tryd.prog gI w hG) H BA (B.map byteV) := fun H => ⟨hP.2.2.2.1.now⟩
  (conv => whnf); repeat ((first | refine tk1 ?_ | refine tk2 ?_ | refine tk3 ?_ | refine tk12 (fun _ => ?_) | refine tk4 ?_ | refine tk5 ?_ | refine tk6 ?_ | refine tk7 ?_ | refine tk8 ?_ | refine tk9 ?_ | refine tk10 (fun _ _ => ?_) | refine tk11 (fun _ => ?_) | refine tk13 ?_ | refine tk14 ?_); (conv => whnf))
  rename_i b3 b4
  refine CallK.fn alive27_f ?_
  (conv => whnf); repeat ((first | refine tk1 ?_ | refine tk2 ?_ | refine tk3 ?_ | refine tk12 (fun _ => ?_) | refine tk4 ?_ | refine tk5 ?_ | refine tk6 ?_ | refine tk7 ?_ | refine tk8 ?_ | refine tk9 ?_ | refine tk10 (fun _ _ => ?_) | refine tk11 (fun _ => ?_) | refine tk13 ?_ | refine tk14 ?_); (conv => whnf))
  refine CallK.fnAny (Great27_b m p st FA Fc F tag press QA Qc Q rm rp rq rv _ BA B.length Bc PA pm Pc hQ hB hq htag) (fun w1 hw1 => ⟨(hRF _).ok w1 hw1, (hRQ _).ok w1 hw1, (hRP _).ok w1 hw1, trivial⟩) (fun b => ?_)
  cases b
  rotate_left
  · (conv => whnf); repeat ((first | refine tk1 ?_ | refine tk2 ?_ | refine tk3 ?_ | refine tk12 (fun _ => ?_) | refine tk4 ?_ | refine tk5 ?_ | refine tk6 ?_ | refine tk7 ?_ | refine tk8 ?_ | refine tk9 ?_ | refine tk10 (fun _ _ => ?_) | refine tk11 (fun _ => ?_) | refine tk13 ?_ | refine tk14 ?_); (conv => whnf))
    exact fun w' _ => rfl
  (conv => whnf); repeat ((first | refine tk1 ?_ | refine tk2 ?_ | refine tk3 ?_ | refine tk12 (fun _ => ?_) | refine tk4 ?_ | refine tk5 ?_ | refine tk6 ?_ | refine tk7 ?_ | refine tk8 ?_ | refine tk9 ?_ | refine tk10 (fun _ _ => ?_) | refine tk11 (fun _ => ?_) | refine tk13 ?_ | refine tk14 ?_); (conv => whnf))
  refine CallK.fnT (Answer_f m p st FA Fc F tag press QA Qc Q rm rp rq rv _ BA B Bc PA pm Pc a e hF hQ hp hB hq h) (fun w1 hw1 => ⟨(hRF _).ok w1 hw1, (hRQ _).ok w1 hw1, (hRP _).ok w1 hw1, (hRB _).ok w1 hw1, trivial⟩) ?_
  intro y hy
  unfold AnsV.is at hy
  dsimp only [AnsV.hd, AnsV.tl, List.cons_append, List.nil_append]
  (conv => whnf); repeat ((first | refine tk1 ?_ | refine tk2 ?_ | refine tk3 ?_ | refine tk12 (fun _ => ?_) | refine tk4 ?_ | refine tk5 ?_ | refine tk6 ?_ | refine tk7 ?_ | refine tk8 ?_ | refine tk9 ?_ | refine tk10 (fun _ _ => ?_) | refine tk11 (fun _ => ?_) | refine tk13 ?_ | refine tk14 ?_); (conv => whnf))
  rename_i b8
  rcases answer_cases h with ⟨rfl, hok, htot, ha⟩ | ⟨rfl, ha⟩ | ⟨rfl, h8, ha⟩
  · obtain ⟨L, hL⟩ : ∃ L, ansF tag F = L := ⟨_, rfl⟩
    have hLa := ansF_at tag F
    have hLe : L = if tag = [] then F else F ++ [(etN, [34] ++ tag ++ [34])] := by rw [← hL]; rfl
    obtain ⟨ap, hap⟩ : ∃ ap, (press && !decide (st = 204)) = ap := ⟨_, rfl⟩
    unfold ansOf at ha
    rw [hap] at ha
    rw [hL] at ha hLa
    subst ha
    dsimp only at hz hy ⊢
    clear h hok htot
    have hLz := hz.2.2
    (conv => whnf); repeat ((first | refine tk1 ?_ | refine tk2 ?_ | refine tk3 ?_ | refine tk12 (fun _ => ?_) | refine tk4 ?_ | refine tk5 ?_ | refine tk6 ?_ | refine tk7 ?_ | refine tk8 ?_ | refine tk9 ?_ | refine tk10 (fun _ _ => ?_) | refine tk11 (fun _ => ?_) | refine tk13 ?_ | refine tk14 ?_); (conv => whnf))
    refine Cmp.f (fun h => h rfl) ?_
    (conv => whnf); repeat ((first | refine tk1 ?_ | refine tk2 ?_ | refine tk3 ?_ | refine tk12 (fun _ => ?_) | refine tk4 ?_ | refine tk5 ?_ | refine tk6 ?_ | refine tk7 ?_ | refine tk8 ?_ | refine tk9 ?_ | refine tk10 (fun _ _ => ?_) | refine tk11 (fun _ => ?_) | refine tk13 ?_ | refine tk14 ?_); (conv => whnf))
    have main : True := trivial
    cases ap
    · clear main
      (conv => whnf); repeat ((first | refine tk1 ?_ | refine tk2 ?_ | refine tk3 ?_ | refine tk12 (fun _ => ?_) | refine tk4 ?_ | refine tk5 ?_ | refine tk6 ?_ | refine tk7 ?_ | refine tk8 ?_ | refine tk9 ?_ | refine tk10 (fun _ _ => ?_) | refine tk11 (fun _ => ?_) | refine tk13 ?_ | refine tk14 ?_); (conv => whnf))
      refine LoopS.lp tys_ok (fun (k : Nat) u => [u 0, u 1, u 2, .pointer (some ⟨b3, 0, none⟩), u 4, u 5, u 6, .bool true, .pointer (some ⟨b8, 0, none⟩), u 9, .int .i64 F.length, .int .i64 (k : Nat), u 12, u 13, u 14, u 15, u 16, u 17, u 18, u 19, u 20, u 21, u 22, u 23, u 24, u 25, u 26, u 27, u 28, u 29, u 30, u 31, u 32, u 33, u 34, u 35, u 36, u 37, u 38, u 39, u 40, u 41, u 42, u 43, u 44, u 45, u 46, u 47, u 48, u 49, u 50, u 51, u 52, u 53, u 54, u 55, u 56, u 57, u 58, u 59, u 60, u 61, u 62, u 63, u 64, u 65, u 66, u 67, u 68, u 69, u 70, u 71, u 72, u 73, u 74, u 75, u 76, u 77, u 78, u 79, u 80, u 81, u 82, u 83, u 84, u 85, u 86, u 87, u 88, u 89, u 90, u 91, u 92, u 93, u 94, u 95, u 96, u 97, u 98, u 99, u 100, u 101, u 102, u 103, u 104, u 105, u 106, u 107, u 108, u 109, u 110, u 111, u 112, u 113, u 114, u 115, u 116, u 117, u 118, u 119, u 120, u 121, u 122, u 123, u 124, u 125, u 126])
        (fun _ => [.box b8 _ 33, .row (.slice y.fA L.length y.fc) 39 2 L.length (fcells L), .box b3 _ 25]) (fun k => k ≤ F.length) (fun k => F.length - k) 0 (Nat.zero_le _) rfl (by repeat' (first | exact List.Sublist.refl _ | exact List.nil_sublist _ | apply List.Sublist.cons_cons | apply List.Sublist.cons)) ?_
      intro k u hk
      (conv => whnf); repeat ((first | refine tk1 ?_ | refine tk2 ?_ | refine tk3 ?_ | refine tk12 (fun _ => ?_) | refine tk4 ?_ | refine tk5 ?_ | refine tk6 ?_ | refine tk7 ?_ | refine tk8 ?_ | refine tk9 ?_ | refine tk10 (fun _ _ => ?_) | refine tk11 (fun _ => ?_) | refine tk13 ?_ | refine tk14 ?_); (conv => whnf))
      refine Cmp.cases (fun hlt => ?_) (fun hlt => ?_)
      · have hlt' : k < F.length := by omega
        have hkL : k < L.length := by omega
        have e1 := hLa.2 k hlt' hkL
        have f1 := fcells_two L k hkL
        have f2 := fcells_two F k hlt'
        rw [e1] at f1
        (conv => whnf); repeat ((first | refine tk1 ?_ | refine tk2 ?_ | refine tk3 ?_ | refine tk12 (fun _ => ?_) | refine tk4 ?_ | refine tk5 ?_ | refine tk6 ?_ | refine tk7 ?_ | refine tk8 ?_ | refine tk9 ?_ | refine tk10 (fun _ _ => ?_) | refine tk11 (fun _ => ?_) | refine tk13 ?_ | refine tk14 ?_); (conv => whnf))
        refine DrawS.go (qs 11) tys_ok mixed (by kernel_rfl) ?_
        (conv => whnf); repeat ((first | refine tk1 ?_ | refine tk2 ?_ | refine tk3 ?_ | refine tk12 (fun _ => ?_) | refine tk4 ?_ | refine tk5 ?_ | refine tk6 ?_ | refine tk7 ?_ | refine tk8 ?_ | refine tk9 ?_ | refine tk10 (fun _ _ => ?_) | refine tk11 (fun _ => ?_) | refine tk13 ?_ | refine tk14 ?_); (conv => whnf))
        refine IdxA.tc (by rw [fcells_length]; omega) (by omega) (by omega) ?_
        (conv => whnf); repeat ((first | refine tk1 ?_ | refine tk2 ?_ | refine tk3 ?_ | refine tk12 (fun _ => ?_) | refine tk4 ?_ | refine tk5 ?_ | refine tk6 ?_ | refine tk7 ?_ | refine tk8 ?_ | refine tk9 ?_ | refine tk10 (fun _ _ => ?_) | refine tk11 (fun _ => ?_) | refine tk13 ?_ | refine tk14 ?_); (conv => whnf))
        refine Ld.taN f1 rfl ?_
        (conv => whnf); repeat ((first | refine tk1 ?_ | refine tk2 ?_ | refine tk3 ?_ | refine tk12 (fun _ => ?_) | refine tk4 ?_ | refine tk5 ?_ | refine tk6 ?_ | refine tk7 ?_ | refine tk8 ?_ | refine tk9 ?_ | refine tk10 (fun _ _ => ?_) | refine tk11 (fun _ => ?_) | refine tk13 ?_ | refine tk14 ?_); (conv => whnf))
        refine IdxA.tc (by rw [fcells_length]; omega) (by omega) (by omega) ?_
        (conv => whnf); repeat ((first | refine tk1 ?_ | refine tk2 ?_ | refine tk3 ?_ | refine tk12 (fun _ => ?_) | refine tk4 ?_ | refine tk5 ?_ | refine tk6 ?_ | refine tk7 ?_ | refine tk8 ?_ | refine tk9 ?_ | refine tk10 (fun _ _ => ?_) | refine tk11 (fun _ => ?_) | refine tk13 ?_ | refine tk14 ?_); (conv => whnf))
        refine Ld.taN f2 rfl ?_
        (conv => whnf); repeat ((first | refine tk1 ?_ | refine tk2 ?_ | refine tk3 ?_ | refine tk12 (fun _ => ?_) | refine tk4 ?_ | refine tk5 ?_ | refine tk6 ?_ | refine tk7 ?_ | refine tk8 ?_ | refine tk9 ?_ | refine tk10 (fun _ _ => ?_) | refine tk11 (fun _ => ?_) | refine tk13 ?_ | refine tk14 ?_); (conv => whnf))
        refine OthP.neF rfl rfl rfl ?_
        rw [show (!(F[k].1 == F[k].1 && F[k].2 == F[k].2)) = false by simp]
        (conv => whnf); repeat ((first | refine tk1 ?_ | refine tk2 ?_ | refine tk3 ?_ | refine tk12 (fun _ => ?_) | refine tk4 ?_ | refine tk5 ?_ | refine tk6 ?_ | refine tk7 ?_ | refine tk8 ?_ | refine tk9 ?_ | refine tk10 (fun _ _ => ?_) | refine tk11 (fun _ => ?_) | refine tk13 ?_ | refine tk14 ?_); (conv => whnf))
        exact ⟨k + 1, by omega, rfl, (by repeat' (first | exact List.Sublist.refl _ | exact List.nil_sublist _ | apply List.Sublist.cons_cons | apply List.Sublist.cons)), by dsimp only; omega⟩
      (conv => whnf); repeat ((first | refine tk1 ?_ | refine tk2 ?_ | refine tk3 ?_ | refine tk12 (fun _ => ?_) | refine tk4 ?_ | refine tk5 ?_ | refine tk6 ?_ | refine tk7 ?_ | refine tk8 ?_ | refine tk9 ?_ | refine tk10 (fun _ _ => ?_) | refine tk11 (fun _ => ?_) | refine tk13 ?_ | refine tk14 ?_); (conv => whnf))
      refine Cmp.cases (fun ht => ?_) (fun ht => ?_)
      · rw [if_pos ht] at hLe
        subst hLe
        (conv => whnf); repeat ((first | refine tk1 ?_ | refine tk2 ?_ | refine tk3 ?_ | refine tk12 (fun _ => ?_) | refine tk4 ?_ | refine tk5 ?_ | refine tk6 ?_ | refine tk7 ?_ | refine tk8 ?_ | refine tk9 ?_ | refine tk10 (fun _ _ => ?_) | refine tk11 (fun _ => ?_) | refine tk13 ?_ | refine tk14 ?_); (conv => whnf))
        exact fun w' _ => rfl
      · rw [if_neg ht] at hLe
        have hLn : L.length = F.length + 1 := by rw [hLe]; simp
        have f3 := fcells_two L F.length (by omega)
        have e3 : L[F.length]'(by omega) = (etN, [34] ++ tag ++ [34]) := by simp only [hLe]; rw [List.getElem_append_right (Nat.le_refl _)]; simp
        rw [e3] at f3
        (conv => whnf); repeat ((first | refine tk1 ?_ | refine tk2 ?_ | refine tk3 ?_ | refine tk12 (fun _ => ?_) | refine tk4 ?_ | refine tk5 ?_ | refine tk6 ?_ | refine tk7 ?_ | refine tk8 ?_ | refine tk9 ?_ | refine tk10 (fun _ _ => ?_) | refine tk11 (fun _ => ?_) | refine tk13 ?_ | refine tk14 ?_); (conv => whnf))
        refine DrawS.go (qs 23) tys_ok mixed (by kernel_rfl) ?_
        (conv => whnf); repeat ((first | refine tk1 ?_ | refine tk2 ?_ | refine tk3 ?_ | refine tk12 (fun _ => ?_) | refine tk4 ?_ | refine tk5 ?_ | refine tk6 ?_ | refine tk7 ?_ | refine tk8 ?_ | refine tk9 ?_ | refine tk10 (fun _ _ => ?_) | refine tk11 (fun _ => ?_) | refine tk13 ?_ | refine tk14 ?_); (conv => whnf))
        refine IdxA.tc (by rw [fcells_length]; omega) (by omega) (by omega) ?_
        (conv => whnf); repeat ((first | refine tk1 ?_ | refine tk2 ?_ | refine tk3 ?_ | refine tk12 (fun _ => ?_) | refine tk4 ?_ | refine tk5 ?_ | refine tk6 ?_ | refine tk7 ?_ | refine tk8 ?_ | refine tk9 ?_ | refine tk10 (fun _ _ => ?_) | refine tk11 (fun _ => ?_) | refine tk13 ?_ | refine tk14 ?_); (conv => whnf))
        refine Ld.taN f3 rfl ?_
        (conv => whnf); repeat ((first | refine tk1 ?_ | refine tk2 ?_ | refine tk3 ?_ | refine tk12 (fun _ => ?_) | refine tk4 ?_ | refine tk5 ?_ | refine tk6 ?_ | refine tk7 ?_ | refine tk8 ?_ | refine tk9 ?_ | refine tk10 (fun _ _ => ?_) | refine tk11 (fun _ => ?_) | refine tk13 ?_ | refine tk14 ?_); (conv => whnf))
        refine CatS.at (by simp; omega) ?_
        (conv => whnf); repeat ((first | refine tk1 ?_ | refine tk2 ?_ | refine tk3 ?_ | refine tk12 (fun _ => ?_) | refine tk4 ?_ | refine tk5 ?_ | refine tk6 ?_ | refine tk7 ?_ | refine tk8 ?_ | refine tk9 ?_ | refine tk10 (fun _ _ => ?_) | refine tk11 (fun _ => ?_) | refine tk13 ?_ | refine tk14 ?_); (conv => whnf))
        refine CatS.at (by simp; omega) ?_
        (conv => whnf); repeat ((first | refine tk1 ?_ | refine tk2 ?_ | refine tk3 ?_ | refine tk12 (fun _ => ?_) | refine tk4 ?_ | refine tk5 ?_ | refine tk6 ?_ | refine tk7 ?_ | refine tk8 ?_ | refine tk9 ?_ | refine tk10 (fun _ _ => ?_) | refine tk11 (fun _ => ?_) | refine tk13 ?_ | refine tk14 ?_); (conv => whnf))
        refine OthP.eqF (a := etN) (b := [34] ++ tag ++ [34]) (a' := etN) (b' := [34] ++ tag ++ [34]) rfl rfl rfl ?_
        rw [show (etN == etN && ([34] ++ tag ++ [34]) == ([34] ++ tag ++ [34])) = true by simp]
        (conv => whnf); repeat ((first | refine tk1 ?_ | refine tk2 ?_ | refine tk3 ?_ | refine tk12 (fun _ => ?_) | refine tk4 ?_ | refine tk5 ?_ | refine tk6 ?_ | refine tk7 ?_ | refine tk8 ?_ | refine tk9 ?_ | refine tk10 (fun _ _ => ?_) | refine tk11 (fun _ => ?_) | refine tk13 ?_ | refine tk14 ?_); (conv => whnf))
        exact fun w' _ => rfl
    · cases press
      · simp at hap
      · (conv => whnf); repeat ((first | refine tk1 ?_ | refine tk2 ?_ | refine tk3 ?_ | refine tk12 (fun _ => ?_) | refine tk4 ?_ | refine tk5 ?_ | refine tk6 ?_ | refine tk7 ?_ | refine tk8 ?_ | refine tk9 ?_ | refine tk10 (fun _ _ => ?_) | refine tk11 (fun _ => ?_) | refine tk13 ?_ | refine tk14 ?_); (conv => whnf))
        refine LoopS.lp tys_ok (fun (k : Nat) u => [u 0, u 1, u 2, .pointer (some ⟨b3, 0, none⟩), u 4, u 5, u 6, .bool true, .pointer (some ⟨b8, 0, none⟩), u 9, .int .i64 F.length, .int .i64 (k : Nat), u 12, u 13, u 14, u 15, u 16, u 17, u 18, u 19, u 20, u 21, u 22, u 23, u 24, u 25, u 26, u 27, u 28, u 29, u 30, u 31, u 32, u 33, u 34, u 35, u 36, u 37, u 38, u 39, u 40, u 41, u 42, u 43, u 44, u 45, u 46, u 47, u 48, u 49, u 50, u 51, u 52, u 53, u 54, u 55, u 56, u 57, u 58, u 59, u 60, u 61, u 62, u 63, u 64, u 65, u 66, u 67, u 68, u 69, u 70, u 71, u 72, u 73, u 74, u 75, u 76, u 77, u 78, u 79, u 80, u 81, u 82, u 83, u 84, u 85, u 86, u 87, u 88, u 89, u 90, u 91, u 92, u 93, u 94, u 95, u 96, u 97, u 98, u 99, u 100, u 101, u 102, u 103, u 104, u 105, u 106, u 107, u 108, u 109, u 110, u 111, u 112, u 113, u 114, u 115, u 116, u 117, u 118, u 119, u 120, u 121, u 122, u 123, u 124, u 125, u 126])
          (fun _ => [.box b8 _ 33, .row (.slice y.fA L.length y.fc) 39 2 L.length (fcells L), .box b3 _ 25]) (fun k => k ≤ F.length) (fun k => F.length - k) 0 (Nat.zero_le _) rfl (by repeat' (first | exact List.Sublist.refl _ | exact List.nil_sublist _ | apply List.Sublist.cons_cons | apply List.Sublist.cons)) ?_
        intro k u hk
        (conv => whnf); repeat ((first | refine tk1 ?_ | refine tk2 ?_ | refine tk3 ?_ | refine tk12 (fun _ => ?_) | refine tk4 ?_ | refine tk5 ?_ | refine tk6 ?_ | refine tk7 ?_ | refine tk8 ?_ | refine tk9 ?_ | refine tk10 (fun _ _ => ?_) | refine tk11 (fun _ => ?_) | refine tk13 ?_ | refine tk14 ?_); (conv => whnf))
        refine Cmp.cases (fun hlt => ?_) (fun hlt => ?_)
        · have hlt' : k < F.length := by omega
          have hkL : k < L.length := by omega
          have e1 := hLa.2 k hlt' hkL
          have f1 := fcells_two L k hkL
          have f2 := fcells_two F k hlt'
          rw [e1] at f1
          (conv => whnf); repeat ((first | refine tk1 ?_ | refine tk2 ?_ | refine tk3 ?_ | refine tk12 (fun _ => ?_) | refine tk4 ?_ | refine tk5 ?_ | refine tk6 ?_ | refine tk7 ?_ | refine tk8 ?_ | refine tk9 ?_ | refine tk10 (fun _ _ => ?_) | refine tk11 (fun _ => ?_) | refine tk13 ?_ | refine tk14 ?_); (conv => whnf))
          refine DrawS.go (qs 11) tys_ok mixed (by kernel_rfl) ?_
          (conv => whnf); repeat ((first | refine tk1 ?_ | refine tk2 ?_ | refine tk3 ?_ | refine tk12 (fun _ => ?_) | refine tk4 ?_ | refine tk5 ?_ | refine tk6 ?_ | refine tk7 ?_ | refine tk8 ?_ | refine tk9 ?_ | refine tk10 (fun _ _ => ?_) | refine tk11 (fun _ => ?_) | refine tk13 ?_ | refine tk14 ?_); (conv => whnf))
          refine IdxA.tc (by rw [fcells_length]; omega) (by omega) (by omega) ?_
          (conv => whnf); repeat ((first | refine tk1 ?_ | refine tk2 ?_ | refine tk3 ?_ | refine tk12 (fun _ => ?_) | refine tk4 ?_ | refine tk5 ?_ | refine tk6 ?_ | refine tk7 ?_ | refine tk8 ?_ | refine tk9 ?_ | refine tk10 (fun _ _ => ?_) | refine tk11 (fun _ => ?_) | refine tk13 ?_ | refine tk14 ?_); (conv => whnf))
          refine Ld.taN f1 rfl ?_
          (conv => whnf); repeat ((first | refine tk1 ?_ | refine tk2 ?_ | refine tk3 ?_ | refine tk12 (fun _ => ?_) | refine tk4 ?_ | refine tk5 ?_ | refine tk6 ?_ | refine tk7 ?_ | refine tk8 ?_ | refine tk9 ?_ | refine tk10 (fun _ _ => ?_) | refine tk11 (fun _ => ?_) | refine tk13 ?_ | refine tk14 ?_); (conv => whnf))
          refine IdxA.tc (by rw [fcells_length]; omega) (by omega) (by omega) ?_
          (conv => whnf); repeat ((first | refine tk1 ?_ | refine tk2 ?_ | refine tk3 ?_ | refine tk12 (fun _ => ?_) | refine tk4 ?_ | refine tk5 ?_ | refine tk6 ?_ | refine tk7 ?_ | refine tk8 ?_ | refine tk9 ?_ | refine tk10 (fun _ _ => ?_) | refine tk11 (fun _ => ?_) | refine tk13 ?_ | refine tk14 ?_); (conv => whnf))
          refine Ld.taN f2 rfl ?_
          (conv => whnf); repeat ((first | refine tk1 ?_ | refine tk2 ?_ | refine tk3 ?_ | refine tk12 (fun _ => ?_) | refine tk4 ?_ | refine tk5 ?_ | refine tk6 ?_ | refine tk7 ?_ | refine tk8 ?_ | refine tk9 ?_ | refine tk10 (fun _ _ => ?_) | refine tk11 (fun _ => ?_) | refine tk13 ?_ | refine tk14 ?_); (conv => whnf))
          refine OthP.neF rfl rfl rfl ?_
          rw [show (!(F[k].1 == F[k].1 && F[k].2 == F[k].2)) = false by simp]
          (conv => whnf); repeat ((first | refine tk1 ?_ | refine tk2 ?_ | refine tk3 ?_ | refine tk12 (fun _ => ?_) | refine tk4 ?_ | refine tk5 ?_ | refine tk6 ?_ | refine tk7 ?_ | refine tk8 ?_ | refine tk9 ?_ | refine tk10 (fun _ _ => ?_) | refine tk11 (fun _ => ?_) | refine tk13 ?_ | refine tk14 ?_); (conv => whnf))
          exact ⟨k + 1, by omega, rfl, (by repeat' (first | exact List.Sublist.refl _ | exact List.nil_sublist _ | apply List.Sublist.cons_cons | apply List.Sublist.cons)), by dsimp only; omega⟩
        (conv => whnf); repeat ((first | refine tk1 ?_ | refine tk2 ?_ | refine tk3 ?_ | refine tk12 (fun _ => ?_) | refine tk4 ?_ | refine tk5 ?_ | refine tk6 ?_ | refine tk7 ?_ | refine tk8 ?_ | refine tk9 ?_ | refine tk10 (fun _ _ => ?_) | refine tk11 (fun _ => ?_) | refine tk13 ?_ | refine tk14 ?_); (conv => whnf))
        refine Cmp.cases (fun ht => ?_) (fun ht => ?_)
        · rw [if_pos ht] at hLe
          subst hLe
          (conv => whnf); repeat ((first | refine tk1 ?_ | refine tk2 ?_ | refine tk3 ?_ | refine tk12 (fun _ => ?_) | refine tk4 ?_ | refine tk5 ?_ | refine tk6 ?_ | refine tk7 ?_ | refine tk8 ?_ | refine tk9 ?_ | refine tk10 (fun _ _ => ?_) | refine tk11 (fun _ => ?_) | refine tk13 ?_ | refine tk14 ?_); (conv => whnf))
          exact fun w' _ => rfl
        · rw [if_neg ht] at hLe
          have hLn : L.length = F.length + 1 := by rw [hLe]; simp
          have f3 := fcells_two L F.length (by omega)
          have e3 : L[F.length]'(by omega) = (etN, [34] ++ tag ++ [34]) := by simp only [hLe]; rw [List.getElem_append_right (Nat.le_refl _)]; simp
          rw [e3] at f3
          (conv => whnf); repeat ((first | refine tk1 ?_ | refine tk2 ?_ | refine tk3 ?_ | refine tk12 (fun _ => ?_) | refine tk4 ?_ | refine tk5 ?_ | refine tk6 ?_ | refine tk7 ?_ | refine tk8 ?_ | refine tk9 ?_ | refine tk10 (fun _ _ => ?_) | refine tk11 (fun _ => ?_) | refine tk13 ?_ | refine tk14 ?_); (conv => whnf))
          refine DrawS.go (qs 23) tys_ok mixed (by kernel_rfl) ?_
          (conv => whnf); repeat ((first | refine tk1 ?_ | refine tk2 ?_ | refine tk3 ?_ | refine tk12 (fun _ => ?_) | refine tk4 ?_ | refine tk5 ?_ | refine tk6 ?_ | refine tk7 ?_ | refine tk8 ?_ | refine tk9 ?_ | refine tk10 (fun _ _ => ?_) | refine tk11 (fun _ => ?_) | refine tk13 ?_ | refine tk14 ?_); (conv => whnf))
          refine IdxA.tc (by rw [fcells_length]; omega) (by omega) (by omega) ?_
          (conv => whnf); repeat ((first | refine tk1 ?_ | refine tk2 ?_ | refine tk3 ?_ | refine tk12 (fun _ => ?_) | refine tk4 ?_ | refine tk5 ?_ | refine tk6 ?_ | refine tk7 ?_ | refine tk8 ?_ | refine tk9 ?_ | refine tk10 (fun _ _ => ?_) | refine tk11 (fun _ => ?_) | refine tk13 ?_ | refine tk14 ?_); (conv => whnf))
          refine Ld.taN f3 rfl ?_
          (conv => whnf); repeat ((first | refine tk1 ?_ | refine tk2 ?_ | refine tk3 ?_ | refine tk12 (fun _ => ?_) | refine tk4 ?_ | refine tk5 ?_ | refine tk6 ?_ | refine tk7 ?_ | refine tk8 ?_ | refine tk9 ?_ | refine tk10 (fun _ _ => ?_) | refine tk11 (fun _ => ?_) | refine tk13 ?_ | refine tk14 ?_); (conv => whnf))
          refine CatS.at (by simp; omega) ?_
          (conv => whnf); repeat ((first | refine tk1 ?_ | refine tk2 ?_ | refine tk3 ?_ | refine tk12 (fun _ => ?_) | refine tk4 ?_ | refine tk5 ?_ | refine tk6 ?_ | refine tk7 ?_ | refine tk8 ?_ | refine tk9 ?_ | refine tk10 (fun _ _ => ?_) | refine tk11 (fun _ => ?_) | refine tk13 ?_ | refine tk14 ?_); (conv => whnf))
          refine CatS.at (by simp; omega) ?_
          (conv => whnf); repeat ((first | refine tk1 ?_ | refine tk2 ?_ | refine tk3 ?_ | refine tk12 (fun _ => ?_) | refine tk4 ?_ | refine tk5 ?_ | refine tk6 ?_ | refine tk7 ?_ | refine tk8 ?_ | refine tk9 ?_ | refine tk10 (fun _ _ => ?_) | refine tk11 (fun _ => ?_) | refine tk13 ?_ | refine tk14 ?_); (conv => whnf))
          refine OthP.eqF (a := etN) (b := [34] ++ tag ++ [34]) (a' := etN) (b' := [34] ++ tag ++ [34]) rfl rfl rfl ?_
          rw [show (etN == etN && ([34] ++ tag ++ [34]) == ([34] ++ tag ++ [34])) = true by simp]
          (conv => whnf); repeat ((first | refine tk1 ?_ | refine tk2 ?_ | refine tk3 ?_ | refine tk12 (fun _ => ?_) | refine tk4 ?_ | refine tk5 ?_ | refine tk6 ?_ | refine tk7 ?_ | refine tk8 ?_ | refine tk9 ?_ | refine tk10 (fun _ _ => ?_) | refine tk11 (fun _ => ?_) | refine tk13 ?_ | refine tk14 ?_); (conv => whnf))
          exact fun w' _ => rfl
  · subst ha
    (conv => whnf); repeat ((first | refine tk1 ?_ | refine tk2 ?_ | refine tk3 ?_ | refine tk12 (fun _ => ?_) | refine tk4 ?_ | refine tk5 ?_ | refine tk6 ?_ | refine tk7 ?_ | refine tk8 ?_ | refine tk9 ?_ | refine tk10 (fun _ _ => ?_) | refine tk11 (fun _ => ?_) | refine tk13 ?_ | refine tk14 ?_); (conv => whnf))
    exact fun w' _ => rfl
  · subst ha
    (conv => whnf); repeat ((first | refine tk1 ?_ | refine tk2 ?_ | refine tk3 ?_ | refine tk12 (fun _ => ?_) | refine tk4 ?_ | refine tk5 ?_ | refine tk6 ?_ | refine tk7 ?_ | refine tk8 ?_ | refine tk9 ?_ | refine tk10 (fun _ _ => ?_) | refine tk11 (fun _ => ?_) | refine tk13 ?_ | refine tk14 ?_); (conv => whnf))
    refine CallK.fnR (Check27_f m p st FA Fc F tag press QA Qc Q hF hQ) ⟨(hRF _).ok, (hRQ _).ok, trivial⟩ ?_
    rw [h8]
    (conv => whnf); repeat ((first | refine tk1 ?_ | refine tk2 ?_ | refine tk3 ?_ | refine tk12 (fun _ => ?_) | refine tk4 ?_ | refine tk5 ?_ | refine tk6 ?_ | refine tk7 ?_ | refine tk8 ?_ | refine tk9 ?_ | refine tk10 (fun _ _ => ?_) | refine tk11 (fun _ => ?_) | refine tk13 ?_ | refine tk14 ?_); (conv => whnf))
    exact fun w' _ => rfl
end Go.Proofs.YtmdmmncoigeijaaDoor.Vex
namespace Go.Proofs.YtmdmmncoigeijaaDoor.pageTells
open Go.ChangeShapes Go.WideShapes Go.ChangeAt Go.RowKit

set_option maxRecDepth 100000 in
theorem contract (H : Type) (enc : TypeId × Value → H) (W : World) (base : Nat) (args : Array Value) (ds gs : List (DataW H)) (before : List MemPlace)
    (hval : ∀ (j : Nat) t v, Tryd.f3.params[j]? = some t → args[j]? = some v → Value.okWide Tryd.prog W .any base t v)
    (hW : DataW.Whole enc Tryd.prog Tryd.f3.params.toList Rows.pageTellsSpec.vars false W args.toList ds gs before) (_hL : laidMetH Tryd.prog Rows.pageTellsUptoRow.laid W) (hS : W.ShapedOpen Tryd.prog) (hK : Rows.uptoSmall H (ds ++ gs) = true) :
    Calls Tryd.prog 3 args W fun e W' => ∃ v, e = .returned v ∧ Rows.pageTellsSpec.post enc Tryd.prog Tryd.f3 false true false false W args v W' := by
  have hW' := hW
  obtain ⟨p, q, hA, hV, rfl, hfz, hnd⟩ := hW
  rw [Tryd.params3] at hA hval
  obtain ⟨v0, vs0, d0, ds0, p0, q0, hargs, rfl, rfl, h0, r0⟩ := trodAll_cons hA
  obtain ⟨v1, vs1, d1, ds1, p1, q1, rfl, rfl, rfl, h1, r1⟩ := trodAll_cons r0
  obtain ⟨v2, vs2, d2, ds2, p2, q2, rfl, rfl, rfl, h2, r2⟩ := trodAll_cons r1
  obtain ⟨rfl, rfl, rfl⟩ := trodAll_nil r2
  obtain rfl : args = #[v0, v1, v2] := by rw [← Array.toList_inj]; exact hargs
  obtain ⟨rfl, rfl⟩ := trodVars_none hV
  obtain ⟨x0, rfl, k0, z0⟩ := Vex.open_whole Vex.opens_page Tryd.underlying25 (hval 0 25 v0 rfl rfl) h0
  obtain ⟨x1, rfl, k1, z1⟩ := Vex.open_whole Vex.opens_request Tryd.underlying28 (hval 1 28 v1 rfl rfl) h1
  obtain ⟨x2, e2, k2, z2⟩ := Vex.open_cell Vex.opens_fields (by rw [Tryd.underlying22]) (hval 2 22 v2 rfl rfl) h2
  obtain rfl := (List.cons.inj e2).1
  have hB := Vex.bulk_of2 hK
  simp only [List.append_nil, Rows.uptoBulkAll, Nat.add_zero] at hB
  have hG := Vex.gB_of hS
  refine (Vex.done_E (Vex.PageTells_v x0 x1 x2 (Vex.fit_of k0 k1 k2 (n := 0) (Nat.le_trans (Nat.add_le_add z0 (Nat.add_le_add z1 (Nat.add_le_add z2 (Nat.le_refl 0)))) hB))) hG ⟨Vex.rd_fields k0.2.1, Vex.rd_pieces k0.2.2.1, Vex.rd_fields k2, Vex.rd_bytes k1.2.2.1, trivial⟩).mono fun e W' ⟨he, hb⟩ => ?_
  exact ⟨_, he, law_post laidOut rfl hW' (by kernel_rfl) (by kernel_rfl) Tryd.underlying4 (by kernel_rfl) hb⟩

abbrev start : Array Value := #[.agg #[.string ⟨#[]⟩, .string ⟨#[]⟩, .int .i64 0, .slice none 0 0, .string ⟨#[]⟩, .bool false, .slice none 0 0], .agg #[.string ⟨#[]⟩, .string ⟨#[]⟩, .string ⟨#[]⟩, .int .i64 0, .slice none 0 0, .slice none 0 0], .slice none 0 0]
theorem laid_met (os : Os) : laidMet Tryd.prog Rows.pageTellsUptoRow.laid ((laidWorld os start).forCall (fun _ _ => 0) ⟨#[], start, []⟩).memory :=
  laidMet_of_run' 8 (by kernel_rfl) (by kernel_rfl)
theorem reads (os : Os) {H : Type} (enc : TypeId × Value → H) : ∃ places, DataW.whole enc Tryd.prog ((laidWorld os start).forCall (fun _ _ => 0) ⟨#[], start, []⟩).memory Tryd.f3.params.toList Rows.pageTellsSpec.vars false start.toList 8 = some ([.agg [.lit (.string []), .lit (.string []), .lit (.int .i64 0), .nil, .lit (.string []), .lit (.bool false), .nil], .agg [.lit (.string []), .lit (.string []), .lit (.string []), .lit (.int .i64 0), .nil, .nil], .nil], [], places) :=
  ⟨[], by kernel_rfl⟩

set_option maxRecDepth 100000 in
theorem lifted (os : Os) (started : os.Started) (H : Type) (enc : TypeId × Value → H) (F : Stop.Interp) :
    ReturnsInHanded {} Tryd.checked os 3 .any ((Rows.OpenSpec.upto Rows.pageTellsSpec).preRow enc Tryd.prog Tryd.f3 Rows.pageTellsUptoRow.domain false Rows.pageTellsUptoRow.laid) (((Rows.OpenSpec.upto Rows.pageTellsSpec).at F).post enc Tryd.prog Tryd.f3 false true false false) := by
  obtain ⟨places, hx⟩ := reads os enc
  refine returnsInHanded_of_row (C := Tryd.checked) (s := Rows.OpenSpec.upto Rows.pageTellsSpec) own started (by kernel_rfl) Tryd.func3
    (witness_row_atRef (enc := enc) (C := Tryd.checked) false (laidWorld os start) start rfl (by kernel_rfl) (by kernel_rfl) (by kernel_rfl)
      (OpenSpec.preRow_of_cond 8 hx (by kernel_rfl) (fun k hk => by cases hk; kernel_rfl) (by kernel_rfl) (laid_met os))) ?_
  intro W base args ds gs before hval hW _ hB _ hL hS _
  exact contract H enc W base args ds gs before hval hW hL hS (hB _ rfl)

theorem said : Rows.PageTellsUptoSaid :=
  OpenClaim.holds_of_cond 3 Tryd.f3 rfl rfl rfl rfl rfl rfl rfl ⟨rfl, rfl, rfl, rfl, rfl⟩ rfl rfl rfl rfl rfl (by kernel_rfl) Tryd.func3 (by kernel_rfl)
    (of_decide_eq_true (by kernel_rfl)) (by unfold Func.isWrapper; first | (rw [if_pos (by decide +kernel)]; kernel_rfl) | (rw [if_neg (by decide +kernel)]; exact ⟨rfl, rfl⟩))
    (fun os started H enc _ F => by rw [OpenClaim.pre_eq_preRow]; exact lifted os started H enc F)

/-- No parameter wants a stand-in; the program's own looks. -/
theorem plain (f : FuncId) (fn : Func) (hf : Tryd.pinned.checked.prog.funcNamed "bellows/bellowslaw27.PageTells" = some f) (hfn : Tryd.pinned.checked.prog.funcs[f]? = some fn) :
    true = Tryd.pinned.checked.prog.looks [] ∧ ∀ (j : Nat) t, fn.params[j]? = some t → Tryd.pinned.checked.prog.wantsStandIn t = false := by
  obtain rfl : f = 3 := Option.some.inj ((show Tryd.prog.funcNamed "bellows/bellowslaw27.PageTells" = some 3 by kernel_rfl).symm.trans hf) |>.symm
  obtain rfl : fn = Tryd.f3 := (Option.some.inj (Tryd.func3.symm.trans hfn)).symm
  refine ⟨by kernel_rfl, fun j t ht => ?_⟩
  have hall : (Tryd.f3.params.toList.all fun t => !Tryd.prog.wantsStandIn t) = true := by kernel_rfl
  have := List.all_eq_true.1 hall t (Array.mem_toList_iff.2 (Array.mem_of_getElem? ht))
  exact (show Tryd.prog.wantsStandIn t = false by simpa using this)

theorem proved : Rows.PageTellsUptoCardSaid :=
  Claim7.holds_tied_plain_at .later [] _ _ _ _ said (fun _ h => by cases h) (by kernel_rfl) (fun _ h => by cases h) pageTellsUpto_row_tie rfl ⟨rfl, rfl⟩ (by kernel_rfl) rfl plain (by kernel_rfl)
end Go.Proofs.YtmdmmncoigeijaaDoor.pageTells
