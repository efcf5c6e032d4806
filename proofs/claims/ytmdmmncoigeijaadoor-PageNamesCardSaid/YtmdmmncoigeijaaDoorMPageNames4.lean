/- PageNames returns true. -/
import Derived.Test.YtmdmmncoigeijaaDoorMPageNames3
import Derived.Lib.ItoaLen
/- The statements' own first example, reckoned: answers, alive. -/
namespace Go.Proofs.YtmdmmncoigeijaaDoor.Vex
open Go Go.RowKit
set_option maxRecDepth 100000
set_option linter.unusedSectionVars false
variable {gI : GI} [HasMax gI]

theorem prtsOk_st {c : Ctx} {H : Hp} {A : Option Addr} {ps : List Prt} (h1 : RdS c H A (pcells ps)) (h2 : ∀ q ∈ ps, RdS c H q.A (q.l.map byteV)) : ∀ w, St c H w → PrtsOk w A ps :=
  fun w hw => ⟨h1 w hw, fun q hq => h2 q hq w hw⟩
theorem answers_ps_le {st : Int} {fs : List Fld} {tag : List UInt8} {press : Bool} {Q : List Pce} {B q : List UInt8} {pm : List Fld} {a : Ans} {e : Int} (h : answerOf st fs tag press Q B q pm = (a, e)) : a.ps.length ≤ Q.length ∧ total a.ps ≤ 131072 ∧ a.fs.length ≤ fs.length + 1 := by
  unfold answerOf at h
  split at h
  · split at h
    · rename_i h2
      obtain ⟨rfl, rfl⟩ := Prod.mk.inj h
      refine ⟨?_, ?_, ?_⟩
      · have := (parts_length (told B q pm Q)).1
        unfold told at this
        rw [List.length_map] at this
        exact this
      · show total (partsG _) ≤ _
        rw [← total_bodyOf, bodyOf_parts, total_bodyOf]
        exact h2
      · show (ansF tag fs).length ≤ _
        unfold ansF
        split
        · omega
        · simp
    · obtain ⟨rfl, rfl⟩ := Prod.mk.inj h
      exact ⟨Nat.zero_le _, Nat.zero_le _, Nat.zero_le _⟩
  · obtain ⟨rfl, rfl⟩ := Prod.mk.inj h
    exact ⟨Nat.zero_le _, Nat.zero_le _, Nat.zero_le _⟩
def pm2 : List Fld := [([120], [49]), ([120], [50])]
theorem answers_r (LA : Option Addr) (lc : Nat) (l : List Pce) (WA : Option Addr) (wc : Nat) (want : List Prt) (a : Ans) (e : Int) (hl : l.length ≤ 1000) (hw : want.length ≤ 1000) (h : answerOf 200 [] [] false l [66] [113] pm2 = (a, e)) :
    FnE Tryd.prog gI 15 [.slice LA l.length lc, .slice WA want.length wc] (fun w => Rdw w LA (pccells l) ∧ PrtsOk w WA want) fun _ v _ => v = .bool (decide (e = 0) && (decide (a.st = 200) && decide (a.ps = want.map pure1))) := by
  have hz := answers_ps_le h
  refine FnE.of tys_ok Tryd.func15 rfl (by kernel_rfl) rfl rfl ?_; intro w hG hP
  have hRL : ∀ H, RdA (mkC Tryd.prog gI w hG) H LA (pccells l) := fun H => ⟨hP.1.now⟩
  have hRW : ∀ H, RdA (mkC Tryd.prog gI w hG) H WA (pcells want) := fun H => ⟨hP.2.1.now⟩
  (conv => whnf); repeat ((first | refine tk1 ?_ | refine tk2 ?_ | refine tk3 ?_ | refine tk12 (fun _ => ?_) | refine tk4 ?_ | refine tk5 ?_ | refine tk6 ?_ | refine tk7 ?_ | refine tk8 ?_ | refine tk9 ?_ | refine tk10 (fun _ _ => ?_) | refine tk11 (fun _ => ?_) | refine tk13 ?_ | refine tk14 ?_); (conv => whnf))
  rename_i b10
  refine Oth.same tys_ok rfl rfl rfl (fun o10 ho10 => ?_)
  have hR10 : ∀ H, RdA (mkC Tryd.prog gI w hG) (.obj b10 o10 :: H) (some ⟨b10, 0, none⟩) _ := ho10.rd
  (conv => whnf); repeat ((first | refine tk1 ?_ | refine tk2 ?_ | refine tk3 ?_ | refine tk12 (fun _ => ?_) | refine tk4 ?_ | refine tk5 ?_ | refine tk6 ?_ | refine tk7 ?_ | refine tk8 ?_ | refine tk9 ?_ | refine tk10 (fun _ _ => ?_) | refine tk11 (fun _ => ?_) | refine tk13 ?_ | refine tk14 ?_); (conv => whnf))
  refine CallK.fnT (Answer_f [] [] 200 none 0 [] [] false LA lc l [] [] [113] 0 (.slice none 0 0) _ [66] 1 _ pm2 2 a e (by decide) (by omega) (by decide) (by decide) (by decide) h) (fun w1 hw1 => ⟨(RdS.nil (c := mkC Tryd.prog gI w hG) (H := [])) w1 (hw1.sub (List.nil_sublist _)), (hRL _).ok w1 hw1, RdA.ok (xs := fcells pm2) w1 hw1, RdA.ok (xs := ([66] : List UInt8).map byteV) w1 hw1, trivial⟩) ?_
  rintro x hx
  unfold AnsV.is at hx
  have hxl : x.ps.length ≤ 1000 := by have := congrArg List.length hx; rw [List.length_map] at this; omega
  dsimp only [AnsV.hd, AnsV.tl, List.cons_append, List.nil_append]
  (conv => whnf); repeat ((first | refine tk1 ?_ | refine tk2 ?_ | refine tk3 ?_ | refine tk12 (fun _ => ?_) | refine tk4 ?_ | refine tk5 ?_ | refine tk6 ?_ | refine tk7 ?_ | refine tk8 ?_ | refine tk9 ?_ | refine tk10 (fun _ _ => ?_) | refine tk11 (fun _ => ?_) | refine tk13 ?_ | refine tk14 ?_); (conv => whnf))
  by_cases he : e = 0
  · refine Cmp.t he ?_
    (conv => whnf); repeat ((first | refine tk1 ?_ | refine tk2 ?_ | refine tk3 ?_ | refine tk12 (fun _ => ?_) | refine tk4 ?_ | refine tk5 ?_ | refine tk6 ?_ | refine tk7 ?_ | refine tk8 ?_ | refine tk9 ?_ | refine tk10 (fun _ _ => ?_) | refine tk11 (fun _ => ?_) | refine tk13 ?_ | refine tk14 ?_); (conv => whnf))
    by_cases hs : a.st = 200
    · refine Cmp.t hs ?_
      (conv => whnf); repeat ((first | refine tk1 ?_ | refine tk2 ?_ | refine tk3 ?_ | refine tk12 (fun _ => ?_) | refine tk4 ?_ | refine tk5 ?_ | refine tk6 ?_ | refine tk7 ?_ | refine tk8 ?_ | refine tk9 ?_ | refine tk10 (fun _ _ => ?_) | refine tk11 (fun _ => ?_) | refine tk13 ?_ | refine tk14 ?_); (conv => whnf))
      refine CallK.fnEV (SameParts_r x.pA WA x.pc wc x.ps want (by omega) (by omega)) (fun w1 hw1 => ⟨(prtsOk_st RdA.ok (fun q hq => RdS.sub (Prt.rd (e := 5) hq) (by repeat' (first | exact List.Sublist.refl _ | exact List.sublist_append_right _ _ | exact List.sublist_append_left _ _ | refine List.Sublist.trans ?_ (List.sublist_append_left _ _) | apply List.Sublist.cons)))) w1 hw1, prtsOk_st (hRW _).ok (fun q hq => (hP.2.2 q hq).now) w1 hw1⟩) ?_
      rw [hx, decide_eq_true he, decide_eq_true hs]
      (conv => whnf); repeat ((first | refine tk1 ?_ | refine tk2 ?_ | refine tk3 ?_ | refine tk12 (fun _ => ?_) | refine tk4 ?_ | refine tk5 ?_ | refine tk6 ?_ | refine tk7 ?_ | refine tk8 ?_ | refine tk9 ?_ | refine tk10 (fun _ _ => ?_) | refine tk11 (fun _ => ?_) | refine tk13 ?_ | refine tk14 ?_); (conv => whnf))
      exact fun w' _ => rfl
    · refine Cmp.f hs ?_
      rw [decide_eq_true he, decide_eq_false hs]
      (conv => whnf); repeat ((first | refine tk1 ?_ | refine tk2 ?_ | refine tk3 ?_ | refine tk12 (fun _ => ?_) | refine tk4 ?_ | refine tk5 ?_ | refine tk6 ?_ | refine tk7 ?_ | refine tk8 ?_ | refine tk9 ?_ | refine tk10 (fun _ _ => ?_) | refine tk11 (fun _ => ?_) | refine tk13 ?_ | refine tk14 ?_); (conv => whnf))
      exact fun w' _ => rfl
  · refine Cmp.f he ?_
    rw [decide_eq_false he]
    (conv => whnf); repeat ((first | refine tk1 ?_ | refine tk2 ?_ | refine tk3 ?_ | refine tk12 (fun _ => ?_) | refine tk4 ?_ | refine tk5 ?_ | refine tk6 ?_ | refine tk7 ?_ | refine tk8 ?_ | refine tk9 ?_ | refine tk10 (fun _ _ => ?_) | refine tk11 (fun _ => ?_) | refine tk13 ?_ | refine tk14 ?_); (conv => whnf))
    exact fun w' _ => rfl
def aliveL : List Pce := [⟨1, [97, 98], 2, false⟩, ⟨2, [120], 0, true⟩, ⟨3, [], 0, false⟩]
theorem alive27_f : Fn Tryd.prog gI 10 [] (.bool true) := by
  refine Fn.of tys_ok Tryd.func10 rfl (by kernel_rfl) rfl rfl ?_; intro w hG
  (conv => whnf); repeat ((first | refine tk1 ?_ | refine tk2 ?_ | refine tk3 ?_ | refine tk12 (fun _ => ?_) | refine tk4 ?_ | refine tk5 ?_ | refine tk6 ?_ | refine tk7 ?_ | refine tk8 ?_ | refine tk9 ?_ | refine tk10 (fun _ _ => ?_) | refine tk11 (fun _ => ?_) | refine tk13 ?_ | refine tk14 ?_); (conv => whnf))
  rename_i b4 b5
  refine Oth.same tys_ok rfl rfl rfl (fun o5 ho5 => ?_)
  have hR5 : ∀ H, RdA (mkC Tryd.prog gI w hG) (.obj b5 o5 :: H) (some ⟨b5, 0, none⟩) _ := ho5.rd
  (conv => whnf); repeat ((first | refine tk1 ?_ | refine tk2 ?_ | refine tk3 ?_ | refine tk12 (fun _ => ?_) | refine tk4 ?_ | refine tk5 ?_ | refine tk6 ?_ | refine tk7 ?_ | refine tk8 ?_ | refine tk9 ?_ | refine tk10 (fun _ _ => ?_) | refine tk11 (fun _ => ?_) | refine tk13 ?_ | refine tk14 ?_); (conv => whnf))
  rename_i b8
  refine Oth.same tys_ok rfl rfl rfl (fun o8 ho8 => ?_)
  have hR8 : ∀ H, RdA (mkC Tryd.prog gI w hG) (.obj b8 o8 :: H) (some ⟨b8, 0, none⟩) _ := ho8.rd
  (conv => whnf); repeat ((first | refine tk1 ?_ | refine tk2 ?_ | refine tk3 ?_ | refine tk12 (fun _ => ?_) | refine tk4 ?_ | refine tk5 ?_ | refine tk6 ?_ | refine tk7 ?_ | refine tk8 ?_ | refine tk9 ?_ | refine tk10 (fun _ _ => ?_) | refine tk11 (fun _ => ?_) | refine tk13 ?_ | refine tk14 ?_); (conv => whnf))
  rename_i b11
  refine CallK.fnEV (answers_r _ 3 aliveL _ 2 [⟨some ⟨b5, 0, none⟩, 5, [97, 98, 97, 98, 49], true⟩, ⟨some ⟨b8, 0, none⟩, 1, [66], false⟩] ⟨200, [], [([97, 98, 97, 98, 49], true), ([66], false)], [], false⟩ 0 (by decide) (by simp) (by kernel_rfl))
    (fun w1 hw1 => ⟨RdA.ok (xs := pccells aliveL) w1 hw1, prtsOk_st RdA.ok (fun q hq => ?_) w1 hw1⟩) ?_
  · rcases List.mem_cons.1 hq with rfl | hq
    · exact RdA.ok (xs := ([97, 98, 97, 98, 49] : List UInt8).map byteV)
    · obtain rfl := List.mem_singleton.1 hq
      exact RdA.ok (xs := ([66] : List UInt8).map byteV)
  (conv => whnf); repeat ((first | refine tk1 ?_ | refine tk2 ?_ | refine tk3 ?_ | refine tk12 (fun _ => ?_) | refine tk4 ?_ | refine tk5 ?_ | refine tk6 ?_ | refine tk7 ?_ | refine tk8 ?_ | refine tk9 ?_ | refine tk10 (fun _ _ => ?_) | refine tk11 (fun _ => ?_) | refine tk13 ?_ | refine tk14 ?_); (conv => whnf))
  rfl
end Go.Proofs.YtmdmmncoigeijaaDoor.Vex
/- An error's answer, and the statement PageNames, reckoned. -/
namespace Go.Proofs.YtmdmmncoigeijaaDoor.Vex
open Go Go.RowKit
set_option maxRecDepth 100000
set_option linter.unusedSectionVars false
variable {gI : GI} [HasMax gI] [HasPow gI]

theorem Itoa_f (n : Int) (h0 : -9223372036854775808 ≤ n) (h1 : n ≤ 9223372036854775807) : Fn Tryd.prog gI 37 [.int .i64 n] (str (Lib.itoa n)) :=
  ⟨callable Tryd.func37 rfl (by kernel_rfl), fun w hG => (Tryd.strconv_Itoa n h0 h1 w (HasPow.ok w hG)).mono fun _ _ ⟨he, k, os, hw⟩ => ⟨he, by
    rw [hw]
    exact ⟨rfl, rfl, rfl, by simp [«Sort».grow, World.drewN], fun i hi => by
      show (w.heap ++ os)[i]? = w.heap[i]?
      exact Array.getElem?_append_left hi⟩⟩⟩
def errorOf (st : Int) : Ans × Int := if st < 400 ∨ 599 < st then (ans0, 8) else (⟨st, [], [(Lib.itoa st ++ [10], false)], [], false⟩, 0)
theorem PError_f (st : Int) (a : Ans) (e : Int) (h : errorOf st = (a, e)) : FnT Tryd.prog gI 16 [.int .i64 st] (fun _ => True) (fun x => .tuple #[AnsV.val a x, .int .i64 e]) (AnsV.is a) (AnsV.hd a) AnsV.tl := by
  unfold errorOf at h
  refine FnE.of tys_ok Tryd.func16 rfl (by kernel_rfl) rfl rfl ?_; intro w hG hP
  (conv => whnf); repeat ((first | refine tk1 ?_ | refine tk2 ?_ | refine tk3 ?_ | refine tk12 (fun _ => ?_) | refine tk4 ?_ | refine tk5 ?_ | refine tk6 ?_ | refine tk7 ?_ | refine tk8 ?_ | refine tk9 ?_ | refine tk10 (fun _ _ => ?_) | refine tk11 (fun _ => ?_) | refine tk13 ?_ | refine tk14 ?_); (conv => whnf))
  rename_i b2
  have bad : (st < 400 ∨ 599 < st) → a = ans0 ∧ e = 8 := fun hh => by
    rw [if_pos hh] at h
    exact ⟨(Prod.mk.inj h).1.symm, (Prod.mk.inj h).2.symm⟩
  refine Cmp.cases (fun c1 => ?_) (fun c1 => ?_)
  · obtain ⟨rfl, rfl⟩ := bad (by omega)
    (conv => whnf); repeat ((first | refine tk1 ?_ | refine tk2 ?_ | refine tk3 ?_ | refine tk12 (fun _ => ?_) | refine tk4 ?_ | refine tk5 ?_ | refine tk6 ?_ | refine tk7 ?_ | refine tk8 ?_ | refine tk9 ?_ | refine tk10 (fun _ _ => ?_) | refine tk11 (fun _ => ?_) | refine tk13 ?_ | refine tk14 ?_); (conv => whnf))
    exact fun w' hw' => ⟨.nil, rfl, rfl, newH.into hw' (Into.nilRow (Into.nilRow Into.nil))⟩
  (conv => whnf); repeat ((first | refine tk1 ?_ | refine tk2 ?_ | refine tk3 ?_ | refine tk12 (fun _ => ?_) | refine tk4 ?_ | refine tk5 ?_ | refine tk6 ?_ | refine tk7 ?_ | refine tk8 ?_ | refine tk9 ?_ | refine tk10 (fun _ _ => ?_) | refine tk11 (fun _ => ?_) | refine tk13 ?_ | refine tk14 ?_); (conv => whnf))
  refine Cmp.cases (fun c2 => ?_) (fun c2 => ?_)
  · obtain ⟨rfl, rfl⟩ := bad (by omega)
    (conv => whnf); repeat ((first | refine tk1 ?_ | refine tk2 ?_ | refine tk3 ?_ | refine tk12 (fun _ => ?_) | refine tk4 ?_ | refine tk5 ?_ | refine tk6 ?_ | refine tk7 ?_ | refine tk8 ?_ | refine tk9 ?_ | refine tk10 (fun _ _ => ?_) | refine tk11 (fun _ => ?_) | refine tk13 ?_ | refine tk14 ?_); (conv => whnf))
    exact fun w' hw' => ⟨.nil, rfl, rfl, newH.into hw' (Into.nilRow (Into.nilRow Into.nil))⟩
  rw [if_neg (by omega)] at h
  obtain ⟨rfl, rfl⟩ := Prod.mk.inj h
  have hil := Lib.itoa_length_le st (by omega) (by omega)
  (conv => whnf); repeat ((first | refine tk1 ?_ | refine tk2 ?_ | refine tk3 ?_ | refine tk12 (fun _ => ?_) | refine tk4 ?_ | refine tk5 ?_ | refine tk6 ?_ | refine tk7 ?_ | refine tk8 ?_ | refine tk9 ?_ | refine tk10 (fun _ _ => ?_) | refine tk11 (fun _ => ?_) | refine tk13 ?_ | refine tk14 ?_); (conv => whnf))
  refine CallK.fn (Itoa_f st (by omega) (by omega)) ?_
  (conv => whnf); repeat ((first | refine tk1 ?_ | refine tk2 ?_ | refine tk3 ?_ | refine tk12 (fun _ => ?_) | refine tk4 ?_ | refine tk5 ?_ | refine tk6 ?_ | refine tk7 ?_ | refine tk8 ?_ | refine tk9 ?_ | refine tk10 (fun _ _ => ?_) | refine tk11 (fun _ => ?_) | refine tk13 ?_ | refine tk14 ?_); (conv => whnf))
  refine CatS.at (by simp only [List.length_cons, List.length_nil]; omega) ?_
  have hl2 : (Lib.itoa st ++ [10]).length ≤ 1000 := by rw [List.length_append]; simp only [List.length_cons, List.length_nil]; omega
  (conv => whnf); repeat ((first | refine tk1 ?_ | refine tk2 ?_ | refine tk3 ?_ | refine tk12 (fun _ => ?_) | refine tk4 ?_ | refine tk5 ?_ | refine tk6 ?_ | refine tk7 ?_ | refine tk8 ?_ | refine tk9 ?_ | refine tk10 (fun _ _ => ?_) | refine tk11 (fun _ => ?_) | refine tk13 ?_ | refine tk14 ?_); (conv => whnf))
  rename_i bb cc b17
  exact fun w' hw' => ⟨⟨none, 0, some ⟨b17, 0, none⟩, 1, [⟨some ⟨bb, 0, none⟩, cc, Lib.itoa st ++ [10], false⟩]⟩, rfl, rfl, newH.into hw' (Into.nilRow (Cv.into (by repeat' (first | exact Cv.nil | exact Cv.refl | refine Cv.cons (by first | exact Pick.here | exact Pick.here.skip | exact Pick.here.skip.skip | exact Pick.here.skip.skip.skip | exact Pick.here.skip.skip.skip.skip | exact Pick.here.skip.skip.skip.skip.skip | exact Pick.here.skip.skip.skip.skip.skip.skip | exact Pick.here.skip.skip.skip.skip.skip.skip.skip | exact Pick.here.skip.skip.skip.skip.skip.skip.skip.skip | exact Pick.here.skip.skip.skip.skip.skip.skip.skip.skip.skip | exact Pick.here.skip.skip.skip.skip.skip.skip.skip.skip.skip.skip | exact Pick.here.skip.skip.skip.skip.skip.skip.skip.skip.skip.skip.skip) ?_ | refine Cv.skip ?_))))⟩
theorem bad_r (m p : List UInt8) (st : Int) (FA : Option Addr) (Fc : Nat) (F : List Fld) (tag : List UInt8) (press : Bool) (QA : Option Addr) (Qc : Nat) (Q : List Pce) (hF : fsum F ≤ 1048576) (hQ : Q.length ≤ 1048576) (h : pageOK st tag F Q = false) :
    FnR Tryd.prog gI 17 [.agg ⟨[str m, str p, .int .i64 st, .slice FA F.length Fc, str tag, .bool press, .slice QA Q.length Qc]⟩] [(FA, fcells F), (QA, pccells Q)] (.bool true) := by
  refine FnE.of tys_ok Tryd.func17 rfl (by kernel_rfl) rfl rfl ?_; intro w hG hP
  have hRF : ∀ H, RdA (mkC Tryd.prog gI w hG) H FA (fcells F) := fun H => ⟨hP.1.now⟩
  have hRQ : ∀ H, RdA (mkC Tryd.prog gI w hG) H QA (pccells Q) := fun H => ⟨hP.2.1.now⟩
  (conv => whnf); repeat ((first | refine tk1 ?_ | refine tk2 ?_ | refine tk3 ?_ | refine tk12 (fun _ => ?_) | refine tk4 ?_ | refine tk5 ?_ | refine tk6 ?_ | refine tk7 ?_ | refine tk8 ?_ | refine tk9 ?_ | refine tk10 (fun _ _ => ?_) | refine tk11 (fun _ => ?_) | refine tk13 ?_ | refine tk14 ?_); (conv => whnf))
  refine CallK.fnT (Answer_f m p st FA Fc F tag press QA Qc Q [] [] [] 0 (.slice none 0 0) none [] 0 none [] 0 ans0 8 hF hQ (by decide) (by decide) (by decide) (by unfold answerOf; rw [h]; rfl)) (fun w1 hw1 => ⟨(hRF _).ok w1 hw1, (hRQ _).ok w1 hw1, (RdS.nil (c := mkC Tryd.prog gI w hG) (H := [])) w1 (hw1.sub (List.nil_sublist _)), (RdS.nil (c := mkC Tryd.prog gI w hG) (H := [])) w1 (hw1.sub (List.nil_sublist _)), trivial⟩) ?_
  intro y hy
  dsimp only [AnsV.hd, AnsV.tl, List.cons_append, List.nil_append]
  (conv => whnf); repeat ((first | refine tk1 ?_ | refine tk2 ?_ | refine tk3 ?_ | refine tk12 (fun _ => ?_) | refine tk4 ?_ | refine tk5 ?_ | refine tk6 ?_ | refine tk7 ?_ | refine tk8 ?_ | refine tk9 ?_ | refine tk10 (fun _ _ => ?_) | refine tk11 (fun _ => ?_) | refine tk13 ?_ | refine tk14 ?_); (conv => whnf))
  refine CallK.fnR (Check27_f m p st FA Fc F tag press QA Qc Q hF hQ) ⟨(hRF _).ok, (hRQ _).ok, trivial⟩ ?_
  rw [show pageE st tag F Q = 8 by unfold pageE; rw [h]; rfl]
  (conv => whnf); repeat ((first | refine tk1 ?_ | refine tk2 ?_ | refine tk3 ?_ | refine tk12 (fun _ => ?_) | refine tk4 ?_ | refine tk5 ?_ | refine tk6 ?_ | refine tk7 ?_ | refine tk8 ?_ | refine tk9 ?_ | refine tk10 (fun _ _ => ?_) | refine tk11 (fun _ => ?_) | refine tk13 ?_ | refine tk14 ?_); (conv => whnf))
  exact fun w' _ => rfl
end Go.Proofs.YtmdmmncoigeijaaDoor.Vex
/- The statement PageNames, reckoned. -/
namespace Go.Proofs.YtmdmmncoigeijaaDoor.Vex
open Go Go.RowKit
set_option maxRecDepth 100000
set_option linter.unusedSectionVars false
variable {gI : GI} [HasMax gI] [HasPow gI]

theorem nil_rd {c : Ctx} {H : Hp} {A : Option Addr} : ∀ w, St c H w → Rdw w A [] := fun _ _ _ _ h => by simp at h
set_option maxHeartbeats 8000000 in
theorem PageNames_v : Fn Tryd.prog gI 5 [] (.bool true) := by
  refine Fn.of tys_ok Tryd.func5 rfl (by kernel_rfl) rfl rfl ?_; intro w hG
  (conv => whnf); repeat ((first | refine tk1 ?_ | refine tk2 ?_ | refine tk3 ?_ | refine tk12 (fun _ => ?_) | refine tk4 ?_ | refine tk5 ?_ | refine tk6 ?_ | refine tk7 ?_ | refine tk8 ?_ | refine tk9 ?_ | refine tk10 (fun _ _ => ?_) | refine tk11 (fun _ => ?_) | refine tk13 ?_ | refine tk14 ?_); (conv => whnf))
  rename_i b13 b14
  refine Oth.same tys_ok rfl rfl rfl (fun o14 ho14 => ?_)
  have hR14 : ∀ H, RdA (mkC Tryd.prog gI w hG) (.obj b14 o14 :: H) (some ⟨b14, 0, none⟩) _ := ho14.rd
  (conv => whnf); repeat ((first | refine tk1 ?_ | refine tk2 ?_ | refine tk3 ?_ | refine tk12 (fun _ => ?_) | refine tk4 ?_ | refine tk5 ?_ | refine tk6 ?_ | refine tk7 ?_ | refine tk8 ?_ | refine tk9 ?_ | refine tk10 (fun _ _ => ?_) | refine tk11 (fun _ => ?_) | refine tk13 ?_ | refine tk14 ?_); (conv => whnf))
  refine CallK.fnEV (answers_r _ 2 [⟨1, [], 1, true⟩, ⟨4, [], 0, false⟩] _ 1 [⟨some ⟨b14, 0, none⟩, 1, [113], false⟩] ⟨200, [], [([113], false)], [], false⟩ 0 (by decide) (by simp) (by kernel_rfl))
    (fun w1 hw1 => ⟨RdA.ok (xs := pccells [⟨1, [], 1, true⟩, ⟨4, [], 0, false⟩]) w1 hw1, prtsOk_st RdA.ok (fun q hq => ?_) w1 hw1⟩) ?_
  · obtain rfl := List.mem_singleton.1 hq
    exact RdA.ok (xs := ([113] : List UInt8).map byteV)
  (conv => whnf); repeat ((first | refine tk1 ?_ | refine tk2 ?_ | refine tk3 ?_ | refine tk12 (fun _ => ?_) | refine tk4 ?_ | refine tk5 ?_ | refine tk6 ?_ | refine tk7 ?_ | refine tk8 ?_ | refine tk9 ?_ | refine tk10 (fun _ _ => ?_) | refine tk11 (fun _ => ?_) | refine tk13 ?_ | refine tk14 ?_); (conv => whnf))
  refine CallK.fnEV (answers_r _ 1 [⟨2, [122], 0, true⟩] none 0 [] ⟨200, [], [], [], false⟩ 0 (by decide) (by simp) (by kernel_rfl))
    (fun w1 hw1 => ⟨RdA.ok (xs := pccells [⟨2, [122], 0, true⟩]) w1 hw1, nil_rd w1 hw1, fun q hq => by cases hq⟩) ?_
  (conv => whnf); repeat ((first | refine tk1 ?_ | refine tk2 ?_ | refine tk3 ?_ | refine tk12 (fun _ => ?_) | refine tk4 ?_ | refine tk5 ?_ | refine tk6 ?_ | refine tk7 ?_ | refine tk8 ?_ | refine tk9 ?_ | refine tk10 (fun _ _ => ?_) | refine tk11 (fun _ => ?_) | refine tk13 ?_ | refine tk14 ?_); (conv => whnf))
  refine CallK.fnT (PError_f 404 ⟨404, [], [([52, 48, 52, 10], false)], [], false⟩ 0 (by kernel_rfl)) (fun _ _ => trivial) ?_
  intro x2 hx2
  have hx2 : x2.ps.map pure1 = [([52, 48, 52, 10], false)] := hx2
  dsimp only [AnsV.hd, AnsV.tl, List.cons_append, List.nil_append]
  (conv => whnf); repeat ((first | refine tk1 ?_ | refine tk2 ?_ | refine tk3 ?_ | refine tk12 (fun _ => ?_) | refine tk4 ?_ | refine tk5 ?_ | refine tk6 ?_ | refine tk7 ?_ | refine tk8 ?_ | refine tk9 ?_ | refine tk10 (fun _ _ => ?_) | refine tk11 (fun _ => ?_) | refine tk13 ?_ | refine tk14 ?_); (conv => whnf))
  rename_i b2
  refine CallK.fnT (PError_f 399 ans0 8 (by kernel_rfl)) (fun _ _ => trivial) ?_
  intro x4 hx4
  dsimp only [AnsV.hd, AnsV.tl, List.cons_append, List.nil_append]
  (conv => whnf); repeat ((first | refine tk1 ?_ | refine tk2 ?_ | refine tk3 ?_ | refine tk12 (fun _ => ?_) | refine tk4 ?_ | refine tk5 ?_ | refine tk6 ?_ | refine tk7 ?_ | refine tk8 ?_ | refine tk9 ?_ | refine tk10 (fun _ _ => ?_) | refine tk11 (fun _ => ?_) | refine tk13 ?_ | refine tk14 ?_); (conv => whnf))
  rename_i b4 b34
  refine CallK.fnT (Answer_f [] [] 200 (some ⟨b34, 0, none⟩) 1 [([97], [98])] [116] true none 0 [] [] [] [] 0 (.slice none 0 0) none [] 0 none [] 0 ⟨200, [([97], [98]), (etN, [34, 116, 34])], [], [116], true⟩ 0 (by decide) (by decide) (by decide) (by decide) (by decide) (by kernel_rfl)) (fun w1 hw1 => ⟨RdA.ok (xs := fcells [([97], [98])]) w1 hw1, nil_rd w1 hw1, nil_rd w1 hw1, nil_rd w1 hw1, trivial⟩) ?_
  intro x6 hx6
  dsimp only [AnsV.hd, AnsV.tl, List.cons_append, List.nil_append]
  (conv => whnf); repeat ((first | refine tk1 ?_ | refine tk2 ?_ | refine tk3 ?_ | refine tk12 (fun _ => ?_) | refine tk4 ?_ | refine tk5 ?_ | refine tk6 ?_ | refine tk7 ?_ | refine tk8 ?_ | refine tk9 ?_ | refine tk10 (fun _ _ => ?_) | refine tk11 (fun _ => ?_) | refine tk13 ?_ | refine tk14 ?_); (conv => whnf))
  rename_i b6
  refine CallK.fnT (Answer_f [] [] 204 none 0 [] [] true none 0 [] [] [] [] 0 (.slice none 0 0) none [] 0 none [] 0 ⟨204, [], [], [], false⟩ 0 (by decide) (by decide) (by decide) (by decide) (by decide) (by kernel_rfl)) (fun w1 hw1 => ⟨nil_rd w1 hw1, nil_rd w1 hw1, nil_rd w1 hw1, nil_rd w1 hw1, trivial⟩) ?_
  intro x8 hx8
  have hx8 : x8.ps.length = 0 := by
    have hx8 : x8.ps.map pure1 = [] := hx8
    rw [← List.length_map (f := pure1), hx8]; rfl
  have hx2l : x2.ps.length = 1 := by rw [← List.length_map (f := pure1), hx2]; rfl
  dsimp only [AnsV.hd, AnsV.tl, List.cons_append, List.nil_append]
  (conv => whnf); repeat ((first | refine tk1 ?_ | refine tk2 ?_ | refine tk3 ?_ | refine tk12 (fun _ => ?_) | refine tk4 ?_ | refine tk5 ?_ | refine tk6 ?_ | refine tk7 ?_ | refine tk8 ?_ | refine tk9 ?_ | refine tk10 (fun _ _ => ?_) | refine tk11 (fun _ => ?_) | refine tk13 ?_ | refine tk14 ?_); (conv => whnf))
  refine CallK.fnR (bad_r [] [] 199 none 0 [] [] false none 0 [] (by decide) (by decide) (by kernel_rfl)) ⟨RdS.nil, RdS.nil, trivial⟩ ?_
  (conv => whnf); repeat ((first | refine tk1 ?_ | refine tk2 ?_ | refine tk3 ?_ | refine tk12 (fun _ => ?_) | refine tk4 ?_ | refine tk5 ?_ | refine tk6 ?_ | refine tk7 ?_ | refine tk8 ?_ | refine tk9 ?_ | refine tk10 (fun _ _ => ?_) | refine tk11 (fun _ => ?_) | refine tk13 ?_ | refine tk14 ?_); (conv => whnf))
  refine CallK.fnR (bad_r [] [] 304 none 0 [] [] false none 0 [] (by decide) (by decide) (by kernel_rfl)) ⟨RdS.nil, RdS.nil, trivial⟩ ?_
  (conv => whnf); repeat ((first | refine tk1 ?_ | refine tk2 ?_ | refine tk3 ?_ | refine tk12 (fun _ => ?_) | refine tk4 ?_ | refine tk5 ?_ | refine tk6 ?_ | refine tk7 ?_ | refine tk8 ?_ | refine tk9 ?_ | refine tk10 (fun _ _ => ?_) | refine tk11 (fun _ => ?_) | refine tk13 ?_ | refine tk14 ?_); (conv => whnf))
  refine CallK.fnR (bad_r [] [] 204 none 0 [] [] false _ 1 [⟨3, [], 0, false⟩] (by decide) (by decide) (by kernel_rfl)) ⟨RdS.nil, RdA.ok (xs := pccells [⟨3, [], 0, false⟩]), trivial⟩ ?_
  (conv => whnf); repeat ((first | refine tk1 ?_ | refine tk2 ?_ | refine tk3 ?_ | refine tk12 (fun _ => ?_) | refine tk4 ?_ | refine tk5 ?_ | refine tk6 ?_ | refine tk7 ?_ | refine tk8 ?_ | refine tk9 ?_ | refine tk10 (fun _ _ => ?_) | refine tk11 (fun _ => ?_) | refine tk13 ?_ | refine tk14 ?_); (conv => whnf))
  refine CallK.fnR (bad_r [] [] 200 none 0 [] [34] false none 0 [] (by decide) (by decide) (by kernel_rfl)) ⟨RdS.nil, RdS.nil, trivial⟩ ?_
  (conv => whnf); repeat ((first | refine tk1 ?_ | refine tk2 ?_ | refine tk3 ?_ | refine tk12 (fun _ => ?_) | refine tk4 ?_ | refine tk5 ?_ | refine tk6 ?_ | refine tk7 ?_ | refine tk8 ?_ | refine tk9 ?_ | refine tk10 (fun _ _ => ?_) | refine tk11 (fun _ => ?_) | refine tk13 ?_ | refine tk14 ?_); (conv => whnf))
  refine CallK.fnR (bad_r [] [] 200 _ 1 [(etN, [])] [] false none 0 [] (by decide) (by decide) (by kernel_rfl)) ⟨RdA.ok (xs := fcells [(etN, [])]), RdS.nil, trivial⟩ ?_
  (conv => whnf); repeat ((first | refine tk1 ?_ | refine tk2 ?_ | refine tk3 ?_ | refine tk12 (fun _ => ?_) | refine tk4 ?_ | refine tk5 ?_ | refine tk6 ?_ | refine tk7 ?_ | refine tk8 ?_ | refine tk9 ?_ | refine tk10 (fun _ _ => ?_) | refine tk11 (fun _ => ?_) | refine tk13 ?_ | refine tk14 ?_); (conv => whnf))
  refine CallK.fnR (bad_r [] [] 200 none 0 [] [] false _ 1 [⟨0, [], 0, false⟩] (by decide) (by decide) (by kernel_rfl)) ⟨RdS.nil, RdA.ok (xs := pccells [⟨0, [], 0, false⟩]), trivial⟩ ?_
  (conv => whnf); repeat ((first | refine tk1 ?_ | refine tk2 ?_ | refine tk3 ?_ | refine tk12 (fun _ => ?_) | refine tk4 ?_ | refine tk5 ?_ | refine tk6 ?_ | refine tk7 ?_ | refine tk8 ?_ | refine tk9 ?_ | refine tk10 (fun _ _ => ?_) | refine tk11 (fun _ => ?_) | refine tk13 ?_ | refine tk14 ?_); (conv => whnf))
  refine CallK.fnR (bad_r [] [] 200 none 0 [] [] false _ 1 [⟨3, [], 1, false⟩] (by decide) (by decide) (by kernel_rfl)) ⟨RdS.nil, RdA.ok (xs := pccells [⟨3, [], 1, false⟩]), trivial⟩ ?_
  (conv => whnf); repeat ((first | refine tk1 ?_ | refine tk2 ?_ | refine tk3 ?_ | refine tk12 (fun _ => ?_) | refine tk4 ?_ | refine tk5 ?_ | refine tk6 ?_ | refine tk7 ?_ | refine tk8 ?_ | refine tk9 ?_ | refine tk10 (fun _ _ => ?_) | refine tk11 (fun _ => ?_) | refine tk13 ?_ | refine tk14 ?_); (conv => whnf))
  refine CallK.fn alive27_f ?_
  (conv => whnf); repeat ((first | refine tk1 ?_ | refine tk2 ?_ | refine tk3 ?_ | refine tk12 (fun _ => ?_) | refine tk4 ?_ | refine tk5 ?_ | refine tk6 ?_ | refine tk7 ?_ | refine tk8 ?_ | refine tk9 ?_ | refine tk10 (fun _ _ => ?_) | refine tk11 (fun _ => ?_) | refine tk13 ?_ | refine tk14 ?_); (conv => whnf))
  obtain ⟨q2, hq2, hq2l⟩ : ∃ q : Prt, x2.ps = [q] ∧ q.l = [52, 48, 52, 10] := by
    generalize x2.ps = l at hx2 hx2l
    cases l with
    | nil => simp at hx2l
    | cons q r =>
      cases r with
      | nil => exact ⟨q, rfl, congrArg Prod.fst (List.cons.inj hx2).1⟩
      | cons _ _ => simp at hx2l
  have hRq : RdA (mkC Tryd.prog gI w hG) (rowsP 5 x2.ps) q2.A (q2.l.map byteV) := ⟨Prt.rd (by rw [hq2]; simp)⟩
  refine IdxA.tc (by rw [pcells_length]; omega) (by omega) (by omega) ?_
  (conv => whnf); repeat ((first | refine tk1 ?_ | refine tk2 ?_ | refine tk3 ?_ | refine tk12 (fun _ => ?_) | refine tk4 ?_ | refine tk5 ?_ | refine tk6 ?_ | refine tk7 ?_ | refine tk8 ?_ | refine tk9 ?_ | refine tk10 (fun _ _ => ?_) | refine tk11 (fun _ => ?_) | refine tk13 ?_ | refine tk14 ?_); (conv => whnf))
  refine Ld.taF (v := .slice q2.A q2.l.length q2.cp) (by rw [hq2]; rfl) ?_
  (conv => whnf); repeat ((first | refine tk1 ?_ | refine tk2 ?_ | refine tk3 ?_ | refine tk12 (fun _ => ?_) | refine tk4 ?_ | refine tk5 ?_ | refine tk6 ?_ | refine tk7 ?_ | refine tk8 ?_ | refine tk9 ?_ | refine tk10 (fun _ _ => ?_) | refine tk11 (fun _ => ?_) | refine tk13 ?_ | refine tk14 ?_); (conv => whnf))
  refine B2S.tc (xs := q2.l.map byteV) (l := q2.l) rfl rfl ?_
  (conv => whnf); repeat ((first | refine tk1 ?_ | refine tk2 ?_ | refine tk3 ?_ | refine tk12 (fun _ => ?_) | refine tk4 ?_ | refine tk5 ?_ | refine tk6 ?_ | refine tk7 ?_ | refine tk8 ?_ | refine tk9 ?_ | refine tk10 (fun _ _ => ?_) | refine tk11 (fun _ => ?_) | refine tk13 ?_ | refine tk14 ?_); (conv => whnf))
  refine IdxA.tc (by decide) (by omega) (by decide) ?_
  (conv => whnf); repeat ((first | refine tk1 ?_ | refine tk2 ?_ | refine tk3 ?_ | refine tk12 (fun _ => ?_) | refine tk4 ?_ | refine tk5 ?_ | refine tk6 ?_ | refine tk7 ?_ | refine tk8 ?_ | refine tk9 ?_ | refine tk10 (fun _ _ => ?_) | refine tk11 (fun _ => ?_) | refine tk13 ?_ | refine tk14 ?_); (conv => whnf))
  refine Ld.taN (fcells_two [([97], [98]), (etN, [34, 116, 34])] 1 (by decide)) rfl ?_
  (conv => whnf); repeat ((first | refine tk1 ?_ | refine tk2 ?_ | refine tk3 ?_ | refine tk12 (fun _ => ?_) | refine tk4 ?_ | refine tk5 ?_ | refine tk6 ?_ | refine tk7 ?_ | refine tk8 ?_ | refine tk9 ?_ | refine tk10 (fun _ _ => ?_) | refine tk11 (fun _ => ?_) | refine tk13 ?_ | refine tk14 ?_); (conv => whnf))
  refine OthP.eqF (a := etN) (b := [34, 116, 34]) (a' := etN) (b' := [34, 116, 34]) rfl rfl rfl ?_
  rw [show (etN == etN && ([34, 116, 34] : List UInt8) == [34, 116, 34]) = true by decide]
  (conv => whnf); repeat ((first | refine tk1 ?_ | refine tk2 ?_ | refine tk3 ?_ | refine tk12 (fun _ => ?_) | refine tk4 ?_ | refine tk5 ?_ | refine tk6 ?_ | refine tk7 ?_ | refine tk8 ?_ | refine tk9 ?_ | refine tk10 (fun _ _ => ?_) | refine tk11 (fun _ => ?_) | refine tk13 ?_ | refine tk14 ?_); (conv => whnf))
end Go.Proofs.YtmdmmncoigeijaaDoor.Vex
namespace Go.Proofs.YtmdmmncoigeijaaDoor.pageNames
open Go.ChangeShapes Go.WideShapes Go.ChangeAt Go.RowKit

set_option maxRecDepth 100000 in
theorem contract (H : Type) (enc : TypeId × Value → H) (W : World) (base : Nat) (args : Array Value) (ds gs : List (DataW H)) (before : List MemPlace)
    (hval : ∀ (j : Nat) t v, Tryd.f5.params[j]? = some t → args[j]? = some v → Value.okWide Tryd.prog W .any base t v)
    (hW : DataW.Whole enc Tryd.prog Tryd.f5.params.toList Rows.pageNamesSpec.vars false W args.toList ds gs before) (hL : laidMetH Tryd.prog Rows.pageNamesRow.laid W) (hS : W.ShapedOpen Tryd.prog) :
    Calls Tryd.prog 5 args W fun e W' => ∃ v, e = .returned v ∧ Rows.pageNamesSpec.post enc Tryd.prog Tryd.f5 false true false false W args v W' := by
  have hW' := hW
  obtain ⟨p, q, hA, hV, rfl, hfz, hnd⟩ := hW
  rw [Tryd.params5] at hA hval
  obtain ⟨hargs, rfl, rfl⟩ := trodAll_nil hA
  obtain rfl : args = #[] := by rw [← Array.toList_inj]; exact hargs
  obtain ⟨rfl, rfl⟩ := trodVars_none hV
  have hG := Vex.gQ_of hL hS (by kernel_rfl) (List.mem_of_getElem? (i := 2) rfl)
  refine (Vex.done_F Vex.PageNames_v hG).mono fun e W' ⟨he, hb⟩ => ?_
  exact ⟨_, he, law_post laidOut rfl hW' (by kernel_rfl) (by kernel_rfl) Tryd.underlying4 (by kernel_rfl) hb⟩

abbrev start : Array Value := #[]
theorem laid_met (os : Os) : laidMet Tryd.prog Rows.pageNamesRow.laid ((laidWorld os start).forCall (fun _ _ => 0) ⟨#[], start, []⟩).memory :=
  laidMet_of_run' 8 (by kernel_rfl) (by kernel_rfl)
theorem reads (os : Os) {H : Type} (enc : TypeId × Value → H) : ∃ places, DataW.whole enc Tryd.prog ((laidWorld os start).forCall (fun _ _ => 0) ⟨#[], start, []⟩).memory Tryd.f5.params.toList Rows.pageNamesSpec.vars false start.toList 8 = some ([], [], places) :=
  ⟨[], by kernel_rfl⟩

set_option maxRecDepth 100000 in
theorem lifted (os : Os) (started : os.Started) (H : Type) (enc : TypeId × Value → H) (F : Stop.Interp) :
    ReturnsInHanded {} Tryd.checked os 5 .any ((OpenSpec.ofChange Rows.pageNamesSpec).preRow enc Tryd.prog Tryd.f5 Rows.pageNamesRow.domain false Rows.pageNamesRow.laid) (((OpenSpec.ofChange Rows.pageNamesSpec).at F).post enc Tryd.prog Tryd.f5 false true false false) := by
  obtain ⟨places, hx⟩ := reads os enc
  refine returnsInHanded_of_row (C := Tryd.checked) (s := OpenSpec.ofChange Rows.pageNamesSpec) own started (by kernel_rfl) Tryd.func5
    (witness_row_atRef (enc := enc) (C := Tryd.checked) false (laidWorld os start) start rfl (by kernel_rfl) (by kernel_rfl) (by kernel_rfl)
      (OpenSpec.preRow_of_cond 8 hx (by kernel_rfl) (fun k hk => by cases hk) (by kernel_rfl) (laid_met os))) ?_
  intro W base args ds gs before hval hW _ _ _ hL hS _
  exact contract H enc W base args ds gs before hval hW hL hS

theorem said : Rows.PageNamesSaid :=
  OpenClaim.holds_of_cond 5 Tryd.f5 rfl rfl rfl rfl rfl rfl rfl ⟨rfl, rfl, rfl, rfl, rfl⟩ rfl rfl rfl rfl rfl (by kernel_rfl) Tryd.func5 (by kernel_rfl)
    (of_decide_eq_true (by kernel_rfl)) (by unfold Func.isWrapper; first | (rw [if_pos (by decide +kernel)]; kernel_rfl) | (rw [if_neg (by decide +kernel)]; exact ⟨rfl, rfl⟩))
    (fun os started H enc _ F => by rw [OpenClaim.pre_eq_preRow]; exact lifted os started H enc F)

/-- No parameter wants a stand-in; the program's own looks. -/
theorem plain (f : FuncId) (fn : Func) (hf : Tryd.pinned.checked.prog.funcNamed "bellows/bellowslaw27.PageNames" = some f) (hfn : Tryd.pinned.checked.prog.funcs[f]? = some fn) :
    true = Tryd.pinned.checked.prog.looks [] ∧ ∀ (j : Nat) t, fn.params[j]? = some t → Tryd.pinned.checked.prog.wantsStandIn t = false := by
  obtain rfl : f = 5 := Option.some.inj ((show Tryd.prog.funcNamed "bellows/bellowslaw27.PageNames" = some 5 by kernel_rfl).symm.trans hf) |>.symm
  obtain rfl : fn = Tryd.f5 := (Option.some.inj (Tryd.func5.symm.trans hfn)).symm
  refine ⟨by kernel_rfl, fun j t ht => ?_⟩
  have hall : (Tryd.f5.params.toList.all fun t => !Tryd.prog.wantsStandIn t) = true := by kernel_rfl
  have := List.all_eq_true.1 hall t (Array.mem_toList_iff.2 (Array.mem_of_getElem? ht))
  exact (show Tryd.prog.wantsStandIn t = false by simpa using this)

theorem proved : Rows.PageNamesCardSaid :=
  Claim7.holds_tied_plain_at .later [] _ _ _ _ said (fun _ h => by cases h) (by kernel_rfl) (fun _ h => by cases h) pageNames_row_tie rfl ⟨rfl, rfl⟩ (by kernel_rfl) rfl plain (by kernel_rfl)
end Go.Proofs.YtmdmmncoigeijaaDoor.pageNames
