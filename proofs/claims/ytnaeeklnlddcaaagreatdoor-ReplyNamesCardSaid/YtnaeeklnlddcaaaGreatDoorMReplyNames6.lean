/- The statement ReplyNames: the limits, kinds and errors of replies have their numbers, and the chapter's examples are so. -/
import Derived.Test.YtnaeeklnlddcaaaGreatDoorMReplyNames5
import Derived.Lib.ItoaLen
/- The program's functions on answers as bytes, reckoned: wrap. -/
namespace Go.Proofs.YtnaeeklnlddcaaaGreatDoor.Vex
open Go Go.RowKit
set_option maxRecDepth 100000
set_option linter.unusedSectionVars false
variable {gI : GI} [HasTz gI]

section
variable {c : Ctx} {T : Ty} {H : Hp} {fr : Fr} {dst : Option Nat} {ty : TypeId} {pos : String} {after : Array Edge} {gd : Option (Nat × Bool)}
/-- A slice's own elements, all of them, with no room behind. -/
theorem OthP.slcAll {t e n cp : Nat} {x lo hi mx : Operand} {A : Option Addr} {k1 k2 k3 : IntKind} {z : Int} {K : Value → Prop} (hT : TOk c.P T) (ht : (lookT T t).d = .slice e) (he : (lookT T e).d ≠ .invalid)
    (hx : evK fr x fun v => v = .slice A n cp) (hl : evK fr lo fun v => v = .int k1 0) (hh : evK fr hi fun v => v = .int k2 z) (hm : evK fr mx fun v => v = .int k3 z) (hz : z = n) (hcp : n ≤ cp) (kk : K (.slice A n n)) :
    OthP c ⟨dst, .slice t x (some lo) (some hi) (some mx), ty, pos, after, gd⟩ fr H K := ⟨⟨_, kk, fun w _ => by
  rw [evK_eq] at hx hl hh hm
  subst hz
  have hu := (lookT_ok hT (t := t) (by rw [ht]; intro h; cases h)).1
  rw [ht] at hu
  have hse := run_sizeOf (lookT_ok hT he) w
  have hA : A.map (·.add (0 * (lookT T e).size)) = A := by
    cases A with
    | none => rfl
    | some a =>
      simp only [Option.map_some, Nat.zero_mul, Option.some.injEq]
      unfold Addr.add
      split <;> simp_all
  rw [Nat.zero_mul] at hA
  generalize (act fr).eval = ρ at *
  simp [execOp, hx, hl, hh, hm, Instr.sliceAt, Instr.slice, Instr.sliceBounds, Instr.sliceBound, asIntOf, Sem.run_bind, run_underlying hu, hse, hcp, hA]⟩⟩
end
theorem AWrap_f (A : Option Addr) (cp : Nat) (b : List UInt8) (hb : b.length ≤ 131072) (hcp : b.length ≤ cp) : FnS Tryz.prog gI 46 [.slice A b.length cp] [(A, b.map byteV)] 5 1 (wrapG b).length ((wrapG b).map byteV) := by
  have hw := fun XA Xc => Wrap_f (gI := gI) XA Xc b (by omega)
  have e1 : wrapV b = wrapG b := if_pos hb
  have e2 : wrapE b = 0 := if_pos hb
  have hwl := wrapG_long b (by omega)
  rw [e1, e2] at hw
  refine FnE.ofX tys_ok Tryz.func46 rfl (by kernel_rfl) rfl rfl ?_; intro w hG hP
  have hA : ∀ H, RdA (mkC Tryz.prog gI w hG) H A (b.map byteV) := fun H => ⟨hP.1.now⟩
  (conv => whnf); repeat ((first | refine tk1 ?_ | refine tk2 ?_ | refine tk3 ?_ | refine tk12 (fun _ => ?_) | refine tk4 ?_ | refine tk5 ?_ | refine tk6 ?_ | refine tk7 ?_ | refine tk8 ?_ | refine tk9 ?_ | refine tk10 (fun _ _ => ?_) | refine tk11 (fun _ => ?_) | refine tk13 ?_ | refine tk14 ?_); (conv => whnf))
  refine CallK.inl tys_ok Tryz.func76 rfl (by kernel_rfl) rfl rfl ?_
  (conv => whnf); repeat ((first | refine tk1 ?_ | refine tk2 ?_ | refine tk3 ?_ | refine tk12 (fun _ => ?_) | refine tk4 ?_ | refine tk5 ?_ | refine tk6 ?_ | refine tk7 ?_ | refine tk8 ?_ | refine tk9 ?_ | refine tk10 (fun _ _ => ?_) | refine tk11 (fun _ => ?_) | refine tk13 ?_ | refine tk14 ?_); (conv => whnf))
  rename_i bo bs bn
  refine RngS.go tys_ok rfl Tryz.func119 rfl (by kernel_rfl) ?_
  intro fno D
  generalize hR : ready fno _ _ _ _ D = R
  have yl : ∀ (A0 : Option Addr) (c0 : Nat) (K : Value → Hp → Prop), (∀ A' cp', K (.bool true) [.obj (D + 1) (.loop R), .row (.slice A' (wrapG b).length cp') 5 1 (wrapG b).length ((wrapG b).map byteV), .obj D (.deferred (some [])), .box bn [.int .i64 131072] 3, .box bs [.slice A b.length cp] 51, .box bo [.slice A' (wrapG b).length cp'] 51]) →
      YldK (mkC Tryz.prog gI w hG) (D + 1) [.slice A b.length b.length] [.obj (D + 1) (.loop R), .row (.slice A0 ([] : List UInt8).length c0) 5 1 ([] : List UInt8).length (([] : List UInt8).map byteV), .obj D (.deferred (some [])), .box bn [.int .i64 131072] 3, .box bs [.slice A b.length cp] 51, .box bo [.slice A0 ([] : List UInt8).length c0] 51] K := by
    intro A0 c0 K hk
    subst hR
    refine YldK.run tys_ok .here rfl rfl rfl rfl ?_
    (conv => whnf); repeat ((first | refine tk1 ?_ | refine tk2 ?_ | refine tk3 ?_ | refine tk12 (fun _ => ?_) | refine tk4 ?_ | refine tk5 ?_ | refine tk6 ?_ | refine tk7 ?_ | refine tk8 ?_ | refine tk9 ?_ | refine tk10 (fun _ _ => ?_) | refine tk11 (fun _ => ?_) | refine tk13 ?_ | refine tk14 ?_); (conv => whnf))
    refine ⟨List.Perm.refl _, ?_⟩
    (conv => whnf); repeat ((first | refine tk1 ?_ | refine tk2 ?_ | refine tk3 ?_ | refine tk12 (fun _ => ?_) | refine tk4 ?_ | refine tk5 ?_ | refine tk6 ?_ | refine tk7 ?_ | refine tk8 ?_ | refine tk9 ?_ | refine tk10 (fun _ _ => ?_) | refine tk11 (fun _ => ?_) | refine tk13 ?_ | refine tk14 ?_); (conv => whnf))
    refine CallK.fnT (hw A b.length) (fun w1 hw1 => ⟨(hA _).ok w1 hw1, trivial⟩) ?_
    rintro ⟨vA, vc⟩ _
    dsimp only [List.cons_append, List.nil_append, List.append_nil]
    (conv => whnf); repeat ((first | refine tk1 ?_ | refine tk2 ?_ | refine tk3 ?_ | refine tk12 (fun _ => ?_) | refine tk4 ?_ | refine tk5 ?_ | refine tk6 ?_ | refine tk7 ?_ | refine tk8 ?_ | refine tk9 ?_ | refine tk10 (fun _ _ => ?_) | refine tk11 (fun _ => ?_) | refine tk13 ?_ | refine tk14 ?_); (conv => whnf))
    refine AppS.tc (m := (wrapG b).length) (news := (wrapG b).map byteV) SrcK.tc (by simp) (bytes_one _) (by decide) (by simp; omega) (by simp; omega) (zs := (wrapG b).map byteV) (by simp) (fun A' cp' => ?_)
    rw [List.length_nil, Nat.zero_add]
    (conv => whnf); repeat ((first | refine tk1 ?_ | refine tk2 ?_ | refine tk3 ?_ | refine tk12 (fun _ => ?_) | refine tk4 ?_ | refine tk5 ?_ | refine tk6 ?_ | refine tk7 ?_ | refine tk8 ?_ | refine tk9 ?_ | refine tk10 (fun _ _ => ?_) | refine tk11 (fun _ => ?_) | refine tk13 ?_ | refine tk14 ?_); (conv => whnf))
    exact ⟨_, _, (by first | exact Pick.here | exact Pick.here.skip | exact Pick.here.skip.skip | exact Pick.here.skip.skip.skip | exact Pick.here.skip.skip.skip.skip | exact Pick.here.skip.skip.skip.skip.skip | exact Pick.here.skip.skip.skip.skip.skip.skip | exact Pick.here.skip.skip.skip.skip.skip.skip.skip | exact Pick.here.skip.skip.skip.skip.skip.skip.skip.skip | exact Pick.here.skip.skip.skip.skip.skip.skip.skip.skip.skip | exact Pick.here.skip.skip.skip.skip.skip.skip.skip.skip.skip.skip | exact Pick.here.skip.skip.skip.skip.skip.skip.skip.skip.skip.skip.skip), (by repeat' (first | exact List.Sublist.refl _ | exact List.nil_sublist _ | apply List.Sublist.cons_cons | apply List.Sublist.cons)), hk A' cp'⟩
  (conv => whnf); repeat ((first | refine tk1 ?_ | refine tk2 ?_ | refine tk3 ?_ | refine tk12 (fun _ => ?_) | refine tk4 ?_ | refine tk5 ?_ | refine tk6 ?_ | refine tk7 ?_ | refine tk8 ?_ | refine tk9 ?_ | refine tk10 (fun _ _ => ?_) | refine tk11 (fun _ => ?_) | refine tk13 ?_ | refine tk14 ?_); (conv => whnf))
  refine LoopS.nilRow 5 1 ?_
  refine LoopS.lpT tys_ok (fun (x : Nat × List UInt8 × Option Addr × Nat) u => [.func (.yield (D + 1)) ⟨[]⟩ ⟨[]⟩, .pointer (some ⟨bs, 0, none⟩), .pointer (some ⟨bn, 0, none⟩), u 3, .int .i64 (131072 * (x.1 : Nat)), u 5, u 6, u 7, u 8, u 9, u 10, u 11, u 12, u 13, u 14, u 15, u 16, u 17, u 18, u 19, u 20, u 21, u 22, u 23, u 24, u 25, u 26, u 27, u 28, u 29, u 30])
    (fun x => [.obj (D + 1) (.loop R), .row (.slice x.2.2.1 x.2.1.length x.2.2.2) 5 1 x.2.1.length (x.2.1.map byteV), .obj D (.deferred (some [])), .box bn [.int .i64 131072] 3, .box bs [.slice A b.length cp] 51, .box bo [.slice x.2.2.1 x.2.1.length x.2.2.2] 51]) (fun x => (x.1 = 0 ∧ x.2.1 = []) ∨ (x.1 = 1 ∧ x.2.1 = wrapG b)) (fun x => 1 - x.1) (0, [], none, 0) (.inl ⟨rfl, rfl⟩) rfl (Cv.into (by (try dsimp only); repeat' (first | with_reducible exact Cv.refl | with_reducible exact Cv.left | with_reducible exact Cv.right | with_reducible exact Cv.nil | (with_reducible apply Cv.cons; focus ((repeat (first | with_reducible exact Pick.here | with_reducible apply Pick.skip)); done)) | (apply Cv.cons; focus ((repeat (first | exact Pick.here | apply Pick.skip)); done)) | exact Cv.nil | exact Cv.refl | exact Cv.left | exact Cv.right | refine Cv.skip ?_))) ?_
  rintro ⟨k, out, OA, oc⟩ u hx
  dsimp only at hx ⊢
  rcases hx with ⟨rfl, rfl⟩ | ⟨rfl, rfl⟩
  rotate_left
  · (conv => whnf); repeat ((first | refine tk1 ?_ | refine tk2 ?_ | refine tk3 ?_ | refine tk12 (fun _ => ?_) | refine tk4 ?_ | refine tk5 ?_ | refine tk6 ?_ | refine tk7 ?_ | refine tk8 ?_ | refine tk9 ?_ | refine tk10 (fun _ _ => ?_) | refine tk11 (fun _ => ?_) | refine tk13 ?_ | refine tk14 ?_); (conv => whnf))
    refine ⟨_, _, .here, ?_, ?_, ?_⟩
    · rw [← hR]; rfl
    · rw [← hR]; rfl
    (conv => whnf); repeat ((first | refine tk1 ?_ | refine tk2 ?_ | refine tk3 ?_ | refine tk12 (fun _ => ?_) | refine tk4 ?_ | refine tk5 ?_ | refine tk6 ?_ | refine tk7 ?_ | refine tk8 ?_ | refine tk9 ?_ | refine tk10 (fun _ _ => ?_) | refine tk11 (fun _ => ?_) | refine tk13 ?_ | refine tk14 ?_); (conv => whnf))
    refine ⟨_, _, rfl, (by first | exact Pick.here | exact Pick.here.skip | exact Pick.here.skip.skip | exact Pick.here.skip.skip.skip | exact Pick.here.skip.skip.skip.skip | exact Pick.here.skip.skip.skip.skip.skip | exact Pick.here.skip.skip.skip.skip.skip.skip | exact Pick.here.skip.skip.skip.skip.skip.skip.skip | exact Pick.here.skip.skip.skip.skip.skip.skip.skip.skip | exact Pick.here.skip.skip.skip.skip.skip.skip.skip.skip.skip | exact Pick.here.skip.skip.skip.skip.skip.skip.skip.skip.skip.skip | exact Pick.here.skip.skip.skip.skip.skip.skip.skip.skip.skip.skip.skip), ?_⟩
    (conv => whnf); repeat ((first | refine tk1 ?_ | refine tk2 ?_ | refine tk3 ?_ | refine tk12 (fun _ => ?_) | refine tk4 ?_ | refine tk5 ?_ | refine tk6 ?_ | refine tk7 ?_ | refine tk8 ?_ | refine tk9 ?_ | refine tk10 (fun _ _ => ?_) | refine tk11 (fun _ => ?_) | refine tk13 ?_ | refine tk14 ?_); (conv => whnf))
    exact fun w' hs => rowPost.of (by simp) w' hs
  by_cases h0 : b.length = 0
  · obtain rfl : b = [] := List.eq_nil_of_length_eq_zero h0
    (conv => whnf); repeat ((first | refine tk1 ?_ | refine tk2 ?_ | refine tk3 ?_ | refine tk12 (fun _ => ?_) | refine tk4 ?_ | refine tk5 ?_ | refine tk6 ?_ | refine tk7 ?_ | refine tk8 ?_ | refine tk9 ?_ | refine tk10 (fun _ _ => ?_) | refine tk11 (fun _ => ?_) | refine tk13 ?_ | refine tk14 ?_); (conv => whnf))
    refine ⟨_, _, .here, ?_, ?_, ?_⟩
    · rw [← hR]; rfl
    · rw [← hR]; rfl
    (conv => whnf); repeat ((first | refine tk1 ?_ | refine tk2 ?_ | refine tk3 ?_ | refine tk12 (fun _ => ?_) | refine tk4 ?_ | refine tk5 ?_ | refine tk6 ?_ | refine tk7 ?_ | refine tk8 ?_ | refine tk9 ?_ | refine tk10 (fun _ _ => ?_) | refine tk11 (fun _ => ?_) | refine tk13 ?_ | refine tk14 ?_); (conv => whnf))
    refine ⟨_, _, rfl, (by first | exact Pick.here | exact Pick.here.skip | exact Pick.here.skip.skip | exact Pick.here.skip.skip.skip | exact Pick.here.skip.skip.skip.skip | exact Pick.here.skip.skip.skip.skip.skip | exact Pick.here.skip.skip.skip.skip.skip.skip | exact Pick.here.skip.skip.skip.skip.skip.skip.skip | exact Pick.here.skip.skip.skip.skip.skip.skip.skip.skip | exact Pick.here.skip.skip.skip.skip.skip.skip.skip.skip.skip | exact Pick.here.skip.skip.skip.skip.skip.skip.skip.skip.skip.skip | exact Pick.here.skip.skip.skip.skip.skip.skip.skip.skip.skip.skip.skip), ?_⟩
    (conv => whnf); repeat ((first | refine tk1 ?_ | refine tk2 ?_ | refine tk3 ?_ | refine tk12 (fun _ => ?_) | refine tk4 ?_ | refine tk5 ?_ | refine tk6 ?_ | refine tk7 ?_ | refine tk8 ?_ | refine tk9 ?_ | refine tk10 (fun _ _ => ?_) | refine tk11 (fun _ => ?_) | refine tk13 ?_ | refine tk14 ?_); (conv => whnf))
    exact fun w' hs => rowPost.of (by simp [wrapG]) w' hs
  (conv => whnf); repeat ((first | refine tk1 ?_ | refine tk2 ?_ | refine tk3 ?_ | refine tk12 (fun _ => ?_) | refine tk4 ?_ | refine tk5 ?_ | refine tk6 ?_ | refine tk7 ?_ | refine tk8 ?_ | refine tk9 ?_ | refine tk10 (fun _ _ => ?_) | refine tk11 (fun _ => ?_) | refine tk13 ?_ | refine tk14 ?_); (conv => whnf))
  refine DrawS.go (qs 7) tys_ok mixed (by kernel_rfl) ?_
  (conv => whnf); repeat ((first | refine tk1 ?_ | refine tk2 ?_ | refine tk3 ?_ | refine tk12 (fun _ => ?_) | refine tk4 ?_ | refine tk5 ?_ | refine tk6 ?_ | refine tk7 ?_ | refine tk8 ?_ | refine tk9 ?_ | refine tk10 (fun _ _ => ?_) | refine tk11 (fun _ => ?_) | refine tk13 ?_ | refine tk14 ?_); (conv => whnf))
  refine SlcV.from (by omega) (by omega) ?_
  (conv => whnf); repeat ((first | refine tk1 ?_ | refine tk2 ?_ | refine tk3 ?_ | refine tk12 (fun _ => ?_) | refine tk4 ?_ | refine tk5 ?_ | refine tk6 ?_ | refine tk7 ?_ | refine tk8 ?_ | refine tk9 ?_ | refine tk10 (fun _ _ => ?_) | refine tk11 (fun _ => ?_) | refine tk13 ?_ | refine tk14 ?_); (conv => whnf))
  refine OthP.min2 (z := (b.length : Int)) rfl rfl (by omega) ?_
  (conv => whnf); repeat ((first | refine tk1 ?_ | refine tk2 ?_ | refine tk3 ?_ | refine tk12 (fun _ => ?_) | refine tk4 ?_ | refine tk5 ?_ | refine tk6 ?_ | refine tk7 ?_ | refine tk8 ?_ | refine tk9 ?_ | refine tk10 (fun _ _ => ?_) | refine tk11 (fun _ => ?_) | refine tk13 ?_ | refine tk14 ?_); (conv => whnf))
  refine OthP.slcAll (z := 131072 * ((0 : Nat) : Int) + (b.length : Int)) tys_ok rfl (fun h => nomatch h) rfl rfl rfl rfl (by omega) hcp ?_
  (conv => whnf); repeat ((first | refine tk1 ?_ | refine tk2 ?_ | refine tk3 ?_ | refine tk12 (fun _ => ?_) | refine tk4 ?_ | refine tk5 ?_ | refine tk6 ?_ | refine tk7 ?_ | refine tk8 ?_ | refine tk9 ?_ | refine tk10 (fun _ _ => ?_) | refine tk11 (fun _ => ?_) | refine tk13 ?_ | refine tk14 ?_); (conv => whnf))
  refine yl OA oc _ (fun A' cp' => ?_)
  (conv => whnf); repeat ((first | refine tk1 ?_ | refine tk2 ?_ | refine tk3 ?_ | refine tk12 (fun _ => ?_) | refine tk4 ?_ | refine tk5 ?_ | refine tk6 ?_ | refine tk7 ?_ | refine tk8 ?_ | refine tk9 ?_ | refine tk10 (fun _ _ => ?_) | refine tk11 (fun _ => ?_) | refine tk13 ?_ | refine tk14 ?_); (conv => whnf))
  exact ⟨(1, wrapG b, A', cp'), .inr ⟨rfl, rfl⟩, rfl, Cv.into (by (try dsimp only); repeat' (first | with_reducible exact Cv.refl | with_reducible exact Cv.left | with_reducible exact Cv.right | with_reducible exact Cv.nil | (with_reducible apply Cv.cons; focus ((repeat (first | with_reducible exact Pick.here | with_reducible apply Pick.skip)); done)) | (apply Cv.cons; focus ((repeat (first | exact Pick.here | apply Pick.skip)); done)) | exact Cv.nil | exact Cv.refl | exact Cv.left | exact Cv.right | refine Cv.skip ?_)), by dsimp only; omega⟩
end Go.Proofs.YtnaeeklnlddcaaaGreatDoor.Vex
/- The program's functions on answers as bytes, reckoned: Write. -/
namespace Go.Proofs.YtnaeeklnlddcaaaGreatDoor.Vex
open Go Go.RowKit
set_option maxRecDepth 100000
set_option linter.unusedSectionVars false
variable {gI : GI} [HasMax gI] [HasPow gI] [HasTz gI]

/-- Parts that come out. -/
structure PV where
  D : Option Addr
  dc : Nat
  ps : List Prt
def PV.hd (y : PV) : Hp := [.row (.slice y.D y.ps.length y.dc) 53 2 y.ps.length (pcells y.ps)]
structure WL where
  k : Nat
  A : Option Addr
  o : List UInt8
  c : Nat
  D : Option Addr
  d : List Prt
  dc : Nat
theorem bodyR_eq (ch : Bool) (ps : List Prt) : bodyR ch (ps.map pure1) = ps.map fun q => (if ch then wrapG q.l else q.l, q.f) := by
  unfold bodyR
  rw [List.map_map]
  rfl
theorem bodyR_at (ch : Bool) (ps : List Prt) (k : Nat) (h : k < ps.length) : (bodyR ch (ps.map pure1)).take (k + 1) = (bodyR ch (ps.map pure1)).take k ++ [(if ch then wrapG ps[k].l else ps[k].l, ps[k].f)] := by
  rw [bodyR_eq, List.take_succ_eq_append_getElem (by rw [List.length_map]; exact h), List.getElem_map]
theorem total_mem2 {p : List UInt8 × Bool} : ∀ {l : Prs}, p ∈ l → p.1.length ≤ total l
  | q :: r, h => by
    rw [total]
    rcases List.mem_cons.1 h with rfl | h
    · omega
    · have := total_mem2 h
      omega
theorem total_bodyR (ch : Bool) : ∀ l : Prs, (∀ p ∈ l, p.1.length < 16777216) → total (bodyR ch l) ≤ total l + 10 * l.length
  | [], _ => Nat.zero_le _
  | p :: r, h => by
    have ih := total_bodyR ch r fun q hq => h q (List.mem_cons_of_mem _ hq)
    have h1 := wrapG_long p.1 (h p (List.mem_cons_self ..))
    have e : bodyR ch (p :: r) = (if ch then wrapG p.1 else p.1, p.2) :: bodyR ch r := rfl
    rw [e, total, total, List.length_cons]
    cases ch
    · simp only [Bool.false_eq_true, if_false]; omega
    · simp only [if_true]; omega
theorem headR_le (st : Int) (fs : List Fld) (ps : Prs) (cd : Nat) (ch cl : Bool) (hF : fsum fs ≤ 1048576) (hst : 200 ≤ st) (hst2 : st ≤ 599) (ht : total ps ≤ 4000000) : (headR st fs ps cd ch cl).length ≤ 8000000 := by
  have h1 := Lib.itoa_length_le st (by omega) (by omega)
  have h2 := Lib.itoa_length_le (total ps : Nat) (by omega) (by omega)
  have h3 := linesR_le fs
  have h4 := fsum_length fs
  have h5 : (codNm cd).length ≤ 20 := by unfold codNm; split <;> (try split) <;> decide
  have h6 : (if cd = 0 then [] else lineR ceN (codNm cd)).length ≤ 100 := by
    split
    · simp
    · simp [lineR, ceN]; omega
  have h7 : (lengthR st ps cd ch).length ≤ 100 := by
    unfold lengthR
    split
    · simp
    split
    · decide
    split
    · simp
    · simp [lineR, clN]; omega
  have h8 : (if cl then lineR coN closeN else []).length ≤ 100 := by cases cl <;> decide
  unfold headR
  simp only [List.length_append]
  have h9 : firstR.length = 9 := rfl
  simp only [List.length_cons, List.length_nil]
  omega
set_option maxHeartbeats 16000000 in
theorem AWrite_f (st : Int) (FA : Option Addr) (Fc : Nat) (F : List Fld) (QA : Option Addr) (Qc : Nat) (ps : List Prt) (cd : UInt8) (tag : List UInt8) (press : Bool) (minor : Int) (head last : Bool) (hF : fsum F ≤ 1048576) (hn : ps.length ≤ 1000) (htl : total (ps.map pure1) ≤ 131072) (hq : ∀ q ∈ ps, q.l.length ≤ q.cp) :
    FnT Tryz.prog gI 20 [.agg ⟨[.int .i64 st, .slice FA F.length Fc, .slice QA ps.length Qc, .int .u8 cd.toNat, str tag, .bool press]⟩, .int .i64 minor, .bool head, .bool last] (fun w => Rdw w FA (fcells F) ∧ PrtsOk w QA ps)
      (fun y : PV => .tuple #[.slice y.D y.ps.length y.dc, .bool (writeR st F (ps.map pure1) cd.toNat minor head last).c, .int .i64 (writeR st F (ps.map pure1) cd.toNat minor head last).e]) (fun y => y.ps.map pure1 = (writeR st F (ps.map pure1) cd.toNat minor head last).l) PV.hd (fun y => rowsP 5 y.ps) := by
  have hck := ACheck_f (gI := gI) st FA Fc F QA Qc ps cd tag press hF (by omega) (by omega)
  have hstr := streamed_r (gI := gI) st FA F.length Fc QA Qc ps cd tag press (by omega)
  have hbare := bare_f (gI := gI) st
  refine FnE.of tys_ok Tryz.func20 rfl (by kernel_rfl) rfl rfl ?_; intro w hG hP
  have hRF : ∀ H, RdA (mkC Tryz.prog gI w hG) H FA (fcells F) := fun H => ⟨hP.1.now⟩
  have hRQ : ∀ H, RdA (mkC Tryz.prog gI w hG) H QA (pcells ps) := fun H => ⟨hP.2.1.now⟩
  have hRq : ∀ q ∈ ps, ∀ H, RdA (mkC Tryz.prog gI w hG) H q.A (q.l.map byteV) := fun q hm H => ⟨(hP.2.2 q hm).now⟩
  have hPQ : ∀ H w', St (mkC Tryz.prog gI w hG) H w' → PrtsOk w' QA ps := fun H w' hw' => ⟨(hRQ H).ok w' hw', fun q hm => (hRq q hm H).ok w' hw'⟩
  have hou : Ours Tryz.prog gI (mkC Tryz.prog gI w hG) := ⟨rfl, rfl⟩
  clear hP
  have hfail : ∀ (e : Int) (r : WRes) (w w' : World) (hG : gI.G w), r = ⟨[], false, e⟩ → St (mkC Tryz.prog gI w hG) [] w' → ∃ y : PV, Value.tuple #[.slice none 0 0, .bool false, .int .i64 e] = Value.tuple #[.slice y.D y.ps.length y.dc, .bool r.c, .int .i64 r.e] ∧ y.ps.map pure1 = r.l ∧ newH w w' (y.hd ++ rowsP 5 y.ps) := fun e r w w' hG hr hw' => by
    subst hr
    exact ⟨⟨none, 0, []⟩, rfl, rfl, newH.of (hw'.nilRow 53 2)⟩
  (conv => whnf); repeat ((first | refine tk1 ?_ | refine tk2 ?_ | refine tk3 ?_ | refine tk12 (fun _ => ?_) | refine tk4 ?_ | refine tk5 ?_ | refine tk6 ?_ | refine tk7 ?_ | refine tk8 ?_ | refine tk9 ?_ | refine tk10 (fun _ _ => ?_) | refine tk11 (fun _ => ?_) | refine tk13 ?_ | refine tk14 ?_); (conv => whnf))
  rename_i b4
  refine CallK.fnR hck ⟨(hRF _).ok, (hRQ _).ok, trivial⟩ ?_
  unfold anE writeR
  cases hok : anOK st F (ps.map pure1) cd.toNat
  · simp only [Bool.false_eq_true, if_false]
    (conv => whnf); repeat ((first | refine tk1 ?_ | refine tk2 ?_ | refine tk3 ?_ | refine tk12 (fun _ => ?_) | refine tk4 ?_ | refine tk5 ?_ | refine tk6 ?_ | refine tk7 ?_ | refine tk8 ?_ | refine tk9 ?_ | refine tk10 (fun _ _ => ?_) | refine tk11 (fun _ => ?_) | refine tk13 ?_ | refine tk14 ?_); (conv => whnf))
    exact fun w' hw' => hfail 8 _ w w' hG rfl (hw'.sub (List.nil_sublist _))
  simp only [if_true]
  by_cases hmi : minor = 0 ∨ minor = 1
  rotate_left
  · rw [if_neg hmi]
    rcases (show minor < 0 ∨ (¬ minor < 0 ∧ 1 < minor) by omega) with h | ⟨h, h2⟩
    · (conv => whnf); repeat ((first | refine tk1 ?_ | refine tk2 ?_ | refine tk3 ?_ | refine tk12 (fun _ => ?_) | refine tk4 ?_ | refine tk5 ?_ | refine tk6 ?_ | refine tk7 ?_ | refine tk8 ?_ | refine tk9 ?_ | refine tk10 (fun _ _ => ?_) | refine tk11 (fun _ => ?_) | refine tk13 ?_ | refine tk14 ?_); (conv => whnf))
      exact fun w' hw' => hfail 2 _ w w' hG rfl (hw'.sub (List.nil_sublist _))
    · (conv => whnf); repeat ((first | refine tk1 ?_ | refine tk2 ?_ | refine tk3 ?_ | refine tk12 (fun _ => ?_) | refine tk4 ?_ | refine tk5 ?_ | refine tk6 ?_ | refine tk7 ?_ | refine tk8 ?_ | refine tk9 ?_ | refine tk10 (fun _ _ => ?_) | refine tk11 (fun _ => ?_) | refine tk13 ?_ | refine tk14 ?_); (conv => whnf))
      exact fun w' hw' => hfail 2 _ w w' hG rfl (hw'.sub (List.nil_sublist _))
  rw [if_pos hmi]
  dsimp only
  have hst : 200 ≤ st ∧ st ≤ 599 ∧ cd.toNat ≤ 2 := by
    unfold anOK anST at hok
    simp only [Bool.and_eq_true, decide_eq_true_eq] at hok
    exact ⟨hok.1.1, hok.1.2.1, hok.1.2.2.1⟩
  have hps : ∀ q ∈ ps, q.l.length ≤ 131072 := fun q hm => by
    have := total_mem2 (p := pure1 q) (l := ps.map pure1) (List.mem_map_of_mem hm)
    exact Nat.le_trans this htl
  clear hok hck hfail
  have hbt := total_bodyR
  unfold piecesR chunkB
  obtain ⟨ch, hch⟩ : ∃ ch, (streamB (ps.map pure1) cd.toNat && (decide (minor = 1) && !bareB st)) = ch := ⟨_, rfl⟩
  obtain ⟨cl, hcl⟩ : ∃ cl, (last || decide (minor = 0)) = cl := ⟨_, rfl⟩
  rw [hch, hcl]
  have hLz := headR_le st F (ps.map pure1) cd.toNat ch cl hF hst.1 hst.2.1 (by omega)
  have hways : (minor = 0 ∧ streamB (ps.map pure1) cd.toNat = false) ∨ (minor = 0 ∧ streamB (ps.map pure1) cd.toNat = true) ∨ (minor = 1 ∧ streamB (ps.map pure1) cd.toNat = false) ∨ (minor = 1 ∧ streamB (ps.map pure1) cd.toNat = true ∧ bareB st = false) ∨ (minor = 1 ∧ streamB (ps.map pure1) cd.toNat = true ∧ bareB st = true) := by
    cases streamB (ps.map pure1) cd.toNat <;> cases bareB st <;> simp [hmi]
  clear hmi
  cases head
  · cases last <;> rcases hways with ⟨rfl, hs⟩ | ⟨rfl, hs⟩ | ⟨rfl, hs⟩ | ⟨rfl, hs, hb⟩ | ⟨rfl, hs, hb⟩ <;> rw [hs] at hch <;> (try rw [hb] at hch) <;> have hch' := hch.symm <;> have hcl' := hcl.symm <;> simp at hch' hcl'
    all_goals as_aux_lemma =>
      (conv => whnf); repeat ((first | refine tk1 ?_ | refine tk2 ?_ | refine tk3 ?_ | refine tk12 (fun _ => ?_) | refine tk4 ?_ | refine tk5 ?_ | refine tk6 ?_ | refine tk7 ?_ | refine tk8 ?_ | refine tk9 ?_ | refine tk10 (fun _ _ => ?_) | refine tk11 (fun _ => ?_) | refine tk13 ?_ | refine tk14 ?_); (conv => whnf))
      refine CallK.fnR hstr ⟨(hRQ _).ok, trivial⟩ ?_
      rw [hs]
      (conv => whnf); repeat ((first | refine tk1 ?_ | refine tk2 ?_ | refine tk3 ?_ | refine tk12 (fun _ => ?_) | refine tk4 ?_ | refine tk5 ?_ | refine tk6 ?_ | refine tk7 ?_ | refine tk8 ?_ | refine tk9 ?_ | refine tk10 (fun _ _ => ?_) | refine tk11 (fun _ => ?_) | refine tk13 ?_ | refine tk14 ?_); (conv => whnf))
      try (refine CallK.fn hbare ?_; rw [hb])
      try ((conv => whnf); repeat ((first | refine tk1 ?_ | refine tk2 ?_ | refine tk3 ?_ | refine tk12 (fun _ => ?_) | refine tk4 ?_ | refine tk5 ?_ | refine tk6 ?_ | refine tk7 ?_ | refine tk8 ?_ | refine tk9 ?_ | refine tk10 (fun _ _ => ?_) | refine tk11 (fun _ => ?_) | refine tk13 ?_ | refine tk14 ?_); (conv => whnf)))
      rename_i b12
      refine CallK.into (G := .box b12 [.slice none 0 0, .slice none 0 0] 95 :: .row (.slice none 0 0) 5 1 0 [] :: [.box b4 [.int .i64 st, .slice FA F.length Fc, .slice QA ps.length Qc, .int .u8 cd.toNat, str tag, .bool press] 47]) (Into.trans (Into.nilRow (e := 5) (sz := 1) Into.refl) (Cv.into (by (try dsimp only); repeat' (first | with_reducible exact Cv.refl | with_reducible exact Cv.left | with_reducible exact Cv.right | with_reducible exact Cv.nil | (with_reducible apply Cv.cons; focus ((repeat (first | with_reducible exact Pick.here | with_reducible apply Pick.skip)); done)) | (apply Cv.cons; focus ((repeat (first | exact Pick.here | apply Pick.skip)); done)) | exact Cv.nil | exact Cv.refl | exact Cv.left | exact Cv.right | refine Cv.skip ?_)))) ?_
      refine head_k hou (l := []) (X := [.box b4 [.int .i64 st, .slice FA F.length Fc, .slice QA ps.length Qc, .int .u8 cd.toNat, str tag, .bool press] 47]) st FA Fc F QA Qc ps cd tag press _ _ hRF hRQ hPQ hF (by omega) (by omega) (by simp) hst.2.2 hst.1 hst.2.1 (fun _ A1 c1 L hL => ?_)
      rw [List.nil_append] at hL
      have hL : L = headR st F (ps.map pure1) cd.toNat ch cl := by rw [hch', hcl']; exact hL
      rw [← hL] at hLz ⊢
      (conv => whnf); repeat ((first | refine tk1 ?_ | refine tk2 ?_ | refine tk3 ?_ | refine tk12 (fun _ => ?_) | refine tk4 ?_ | refine tk5 ?_ | refine tk6 ?_ | refine tk7 ?_ | refine tk8 ?_ | refine tk9 ?_ | refine tk10 (fun _ _ => ?_) | refine tk11 (fun _ => ?_) | refine tk13 ?_ | refine tk14 ?_); (conv => whnf))
      obtain ⟨bd, hbd⟩ : ∃ bd, bodyR ch (ps.map pure1) = bd := ⟨_, rfl⟩
      rw [hbd]
      have hbdt : total bd ≤ 200000 := by
        rw [← hbd]
        have := total_bodyR ch (ps.map pure1) (fun p hp => by have := total_mem2 hp; omega)
        rw [List.length_map] at this
        exact Nat.le_trans (this) (by omega)
      have hbdl : bd.length = ps.length := by rw [← hbd]; unfold bodyR; rw [List.length_map, List.length_map]
      refine LoopS.lpT tys_ok (fun (x : WL) u => [u 0, u 1, u 2, u 3, u 4, u 5, u 6, u 7, u 8, .bool cl, u 10, u 11, .pointer (some ⟨b12, 0, none⟩), .bool ch, u 14, u 15, u 16, u 17, u 18, u 19, u 20, u 21, u 22, u 23, u 24, u 25, u 26, u 27, u 28, u 29, u 30, u 31, u 32, u 33, u 34, u 35, u 36, u 37, u 38, u 39, u 40, u 41, u 42, u 43, u 44, u 45, u 46, u 47, u 48, u 49, u 50, u 51, u 52, u 53, u 54, .slice QA ps.length Qc, .int .i64 ps.length, .int .i64 (x.k : Nat), u 58, u 59, u 60, u 61, u 62, u 63, u 64, u 65, u 66, u 67, u 68, u 69, u 70, u 71, u 72, u 73, u 74, u 75, u 76, u 77, u 78, u 79, u 80, u 81, u 82, u 83, u 84, u 85, u 86, u 87, u 88])
        (fun x => .box b12 [.slice x.A x.o.length x.c, .slice x.D x.d.length x.dc] 95 :: .row (.slice x.D x.d.length x.dc) 53 2 x.d.length (pcells x.d) :: .row (.slice x.A x.o.length x.c) 5 1 x.o.length (x.o.map byteV) :: ([] ++ rowsP 5 x.d)) (fun x => x.k ≤ ps.length ∧ x.o = (stG ((L, false) :: bd.take x.k)).1 ∧ x.d.map pure1 = (stG ((L, false) :: bd.take x.k)).2) (fun x => ps.length - x.k) ⟨0, A1, L, c1, none, [], 0⟩ ⟨Nat.zero_le _, by simp [stG, stepG], by simp [stG, stepG]⟩ (by rw [hch', hcl']; rfl) (Into.trans (Into.nilRow (e := 53) (sz := 2) Into.refl) (Cv.into (by (try dsimp only); repeat' (first | with_reducible exact Cv.refl | with_reducible exact Cv.left | with_reducible exact Cv.right | with_reducible exact Cv.nil | (with_reducible apply Cv.cons; focus ((repeat (first | with_reducible exact Pick.here | with_reducible apply Pick.skip)); done)) | (apply Cv.cons; focus ((repeat (first | exact Pick.here | apply Pick.skip)); done)) | exact Cv.nil | exact Cv.refl | exact Cv.left | exact Cv.right | refine Cv.skip ?_)))) ?_
      rintro ⟨k, oA, o, oc, D, d, dc⟩ u ⟨hk, ho, hd⟩
      dsimp only at hk ho hd ⊢
      have hsg : stG ((L, false) :: bd.take k) = (o, d.map pure1) := Prod.ext ho.symm hd.symm
      have hts := total_stG ((L, false) :: bd.take k)
      have htt := total_take bd k
      have hstl := stG_length ((L, false) :: bd.take k)
      rw [hsg] at hts hstl
      dsimp only at hts hstl
      rw [total] at hts
      dsimp only at hts
      rw [List.length_map, List.length_cons, List.length_take] at hstl
      by_cases hlt : k < ps.length
      · as_aux_lemma =>
        have h2 := (pcells_at ps k hlt).2.2
        have hqm := List.getElem_mem hlt
        have hx := bodyR_at ch ps k hlt
        rw [hbd] at hx
        generalize ps[k] = q at *
        have hpl := hps q hqm
        have hwl := wrapG_long q.l (by omega)
        have hqc := hq q hqm
        have hRq1 := hRq q hqm
        have hwr := AWrap_f (gI := gI) q.A q.cp q.l hpl hqc
        obtain ⟨pc, hpc⟩ : ∃ pc, (if ch then wrapG q.l else q.l) = pc := ⟨_, rfl⟩
        rw [hpc] at hx
        have hstep : stG ((L, false) :: bd.take (k + 1)) = stepG (o, d.map pure1) (pc, q.f) := by rw [hx, ← List.cons_append, stG_snoc, hsg]
        rw [hch'] at hpc
        have hpz : pc.length ≤ 140000 := by rw [← hpc]; simp; omega
        simp only [Bool.false_eq_true, if_true, if_false] at hpc
        subst hpc
        simp only [hch', hcl']
        (conv => whnf); repeat ((first | refine tk1 ?_ | refine tk2 ?_ | refine tk3 ?_ | refine tk12 (fun _ => ?_) | refine tk4 ?_ | refine tk5 ?_ | refine tk6 ?_ | refine tk7 ?_ | refine tk8 ?_ | refine tk9 ?_ | refine tk10 (fun _ _ => ?_) | refine tk11 (fun _ => ?_) | refine tk13 ?_ | refine tk14 ?_); (conv => whnf))
        refine IdxA.tc (xs := pcells ps) (by rw [pcells_length]; omega) (by omega) (by omega) ?_
        (conv => whnf); repeat ((first | refine tk1 ?_ | refine tk2 ?_ | refine tk3 ?_ | refine tk12 (fun _ => ?_) | refine tk4 ?_ | refine tk5 ?_ | refine tk6 ?_ | refine tk7 ?_ | refine tk8 ?_ | refine tk9 ?_ | refine tk10 (fun _ _ => ?_) | refine tk11 (fun _ => ?_) | refine tk13 ?_ | refine tk14 ?_); (conv => whnf))
        refine Ld.taN h2 rfl ?_
        (conv => whnf); repeat ((first | refine tk1 ?_ | refine tk2 ?_ | refine tk3 ?_ | refine tk12 (fun _ => ?_) | refine tk4 ?_ | refine tk5 ?_ | refine tk6 ?_ | refine tk7 ?_ | refine tk8 ?_ | refine tk9 ?_ | refine tk10 (fun _ _ => ?_) | refine tk11 (fun _ => ?_) | refine tk13 ?_ | refine tk14 ?_); (conv => whnf))
        try (refine CallK.fnS hwr ⟨(hRq1 _).ok, trivial⟩ (fun WA wc => ?_))
        try ((conv => whnf); repeat ((first | refine tk1 ?_ | refine tk2 ?_ | refine tk3 ?_ | refine tk12 (fun _ => ?_) | refine tk4 ?_ | refine tk5 ?_ | refine tk6 ?_ | refine tk7 ?_ | refine tk8 ?_ | refine tk9 ?_ | refine tk10 (fun _ _ => ?_) | refine tk11 (fun _ => ?_) | refine tk13 ?_ | refine tk14 ?_); (conv => whnf)))
        first
          | refine B2S.tc (xs := (wrapG q.l).map byteV) (l := wrapG q.l) rfl rfl ?_
          | refine B2S.rd (l := q.l) (hRq1 _).ok rfl ?_
        (conv => whnf); repeat ((first | refine tk1 ?_ | refine tk2 ?_ | refine tk3 ?_ | refine tk12 (fun _ => ?_) | refine tk4 ?_ | refine tk5 ?_ | refine tk6 ?_ | refine tk7 ?_ | refine tk8 ?_ | refine tk9 ?_ | refine tk10 (fun _ _ => ?_) | refine tk11 (fun _ => ?_) | refine tk13 ?_ | refine tk14 ?_); (conv => whnf))
        rename_i b15 sb
        obtain ⟨pc, hpc⟩ : ∃ pc, (if ch then wrapG q.l else q.l) = pc := ⟨_, rfl⟩
        rw [hch'] at hpc
        simp only [Bool.false_eq_true, if_true, if_false] at hpc
        simp only [hpc] at hstep hpz
        refine CallK.into (G := .row (.slice (some ⟨sb, 0, none⟩) 1 1) 9 1 1 ([pc].map str) :: .box b12 [.slice oA o.length oc, .slice D d.length dc] 95 :: .row (.slice oA o.length oc) 5 1 o.length (o.map byteV) :: (.box b15 [.slice q.A q.l.length q.cp, .bool q.f] 53 :: .row (.slice D d.length dc) 53 2 d.length (pcells d) :: rowsP 5 d)) (by subst hpc; exact Cv.into (by (try dsimp only); repeat' (first | with_reducible exact Cv.refl | with_reducible exact Cv.left | with_reducible exact Cv.right | with_reducible exact Cv.nil | (with_reducible apply Cv.cons; focus ((repeat (first | with_reducible exact Pick.here | with_reducible apply Pick.skip)); done)) | (apply Cv.cons; focus ((repeat (first | exact Pick.here | apply Pick.skip)); done)) | exact Cv.nil | exact Cv.refl | exact Cv.left | exact Cv.right | refine Cv.skip ?_))) ?_
        refine write_k hou (ts := [pc]) (X := .box b15 [.slice q.A q.l.length q.cp, .bool q.f] 53 :: .row (.slice D d.length dc) 53 2 d.length (pcells d) :: rowsP 5 d) (by simp; omega) (by simp) (fun _ A3 c3 => ?_)
        rw [show [pc].flatten = pc by simp]
        have hopl : (o ++ pc).length ≤ 9000000 := by rw [List.length_append]; omega
        clear hpc
        (conv => whnf); repeat ((first | refine tk1 ?_ | refine tk2 ?_ | refine tk3 ?_ | refine tk12 (fun _ => ?_) | refine tk4 ?_ | refine tk5 ?_ | refine tk6 ?_ | refine tk7 ?_ | refine tk8 ?_ | refine tk9 ?_ | refine tk10 (fun _ _ => ?_) | refine tk11 (fun _ => ?_) | refine tk13 ?_ | refine tk14 ?_); (conv => whnf))
        cases hqf : q.f
        · rw [hqf] at hstep
          (conv => whnf); repeat ((first | refine tk1 ?_ | refine tk2 ?_ | refine tk3 ?_ | refine tk12 (fun _ => ?_) | refine tk4 ?_ | refine tk5 ?_ | refine tk6 ?_ | refine tk7 ?_ | refine tk8 ?_ | refine tk9 ?_ | refine tk10 (fun _ _ => ?_) | refine tk11 (fun _ => ?_) | refine tk13 ?_ | refine tk14 ?_); (conv => whnf))
          exact ⟨⟨k + 1, A3, o ++ pc, c3, D, d, dc⟩, ⟨by dsimp only; omega, by dsimp only; rw [hstep]; rfl, by dsimp only; rw [hstep]; rfl⟩, rfl, Cv.into (by (try dsimp only); repeat' (first | with_reducible exact Cv.refl | with_reducible exact Cv.left | with_reducible exact Cv.right | with_reducible exact Cv.nil | (with_reducible apply Cv.cons; focus ((repeat (first | with_reducible exact Pick.here | with_reducible apply Pick.skip)); done)) | (apply Cv.cons; focus ((repeat (first | exact Pick.here | apply Pick.skip)); done)) | exact Cv.nil | exact Cv.refl | exact Cv.left | exact Cv.right | refine Cv.skip ?_)), by dsimp only; omega⟩
        · rw [hqf] at hstep
          (conv => whnf); repeat ((first | refine tk1 ?_ | refine tk2 ?_ | refine tk3 ?_ | refine tk12 (fun _ => ?_) | refine tk4 ?_ | refine tk5 ?_ | refine tk6 ?_ | refine tk7 ?_ | refine tk8 ?_ | refine tk9 ?_ | refine tk10 (fun _ _ => ?_) | refine tk11 (fun _ => ?_) | refine tk13 ?_ | refine tk14 ?_); (conv => whnf))
          refine CallK.into (G := .box b12 [.slice A3 (o ++ pc).length c3, .slice D d.length dc] 95 :: .row (.slice D d.length dc) 53 2 d.length (pcells d) :: .row (.slice A3 (o ++ pc).length c3) 5 1 (o ++ pc).length ((o ++ pc).map byteV) :: ([] ++ rowsP 5 d)) (Cv.into (by (try dsimp only); repeat' (first | with_reducible exact Cv.refl | with_reducible exact Cv.left | with_reducible exact Cv.right | with_reducible exact Cv.nil | (with_reducible apply Cv.cons; focus ((repeat (first | with_reducible exact Pick.here | with_reducible apply Pick.skip)); done)) | (apply Cv.cons; focus ((repeat (first | exact Pick.here | apply Pick.skip)); done)) | exact Cv.nil | exact Cv.refl | exact Cv.left | exact Cv.right | refine Cv.skip ?_))) ?_
          refine cut_k hou (f := true) (ps := d) (by omega) (by omega) (fun _ D3 dc3 d3 hd3 => ?_)
          (conv => whnf); repeat ((first | refine tk1 ?_ | refine tk2 ?_ | refine tk3 ?_ | refine tk12 (fun _ => ?_) | refine tk4 ?_ | refine tk5 ?_ | refine tk6 ?_ | refine tk7 ?_ | refine tk8 ?_ | refine tk9 ?_ | refine tk10 (fun _ _ => ?_) | refine tk11 (fun _ => ?_) | refine tk13 ?_ | refine tk14 ?_); (conv => whnf))
          exact ⟨⟨k + 1, none, [], 0, D3, d3, dc3⟩, ⟨by dsimp only; omega, by dsimp only; rw [hstep]; rfl, by dsimp only; rw [hd3, hstep]; rfl⟩, rfl, Cv.into (by (try dsimp only); repeat' (first | with_reducible exact Cv.refl | with_reducible exact Cv.left | with_reducible exact Cv.right | with_reducible exact Cv.nil | (with_reducible apply Cv.cons; focus ((repeat (first | with_reducible exact Pick.here | with_reducible apply Pick.skip)); done)) | (apply Cv.cons; focus ((repeat (first | exact Pick.here | apply Pick.skip)); done)) | exact Cv.nil | exact Cv.refl | exact Cv.left | exact Cv.right | refine Cv.skip ?_)), by dsimp only; omega⟩
      obtain rfl : k = ps.length := by omega
      rw [List.take_of_length_le (show bd.length ≤ ps.length by omega)] at hsg
      simp only [hch', hcl', if_true, if_false, Bool.false_eq_true]
      (conv => whnf); repeat ((first | refine tk1 ?_ | refine tk2 ?_ | refine tk3 ?_ | refine tk12 (fun _ => ?_) | refine tk4 ?_ | refine tk5 ?_ | refine tk6 ?_ | refine tk7 ?_ | refine tk8 ?_ | refine tk9 ?_ | refine tk10 (fun _ _ => ?_) | refine tk11 (fun _ => ?_) | refine tk13 ?_ | refine tk14 ?_); (conv => whnf))
      try (refine CallK.fnT Last_f (fun _ _ => trivial) ?_; rintro ⟨lb, lo⟩ hlo; have hRl : ∀ H, RdA (mkC Tryz.prog gI w hG) (.obj lb lo :: H) (some ⟨lb, 0, none⟩) _ := hlo.rd; dsimp only [List.cons_append, List.nil_append, List.append_nil])
      try ((conv => whnf); repeat ((first | refine tk1 ?_ | refine tk2 ?_ | refine tk3 ?_ | refine tk12 (fun _ => ?_) | refine tk4 ?_ | refine tk5 ?_ | refine tk6 ?_ | refine tk7 ?_ | refine tk8 ?_ | refine tk9 ?_ | refine tk10 (fun _ _ => ?_) | refine tk11 (fun _ => ?_) | refine tk13 ?_ | refine tk14 ?_); (conv => whnf)))
      have hfin1 : partsG ((L, false) :: (bd ++ [(lastC, false)])) = close1 (o ++ lastC) false (d.map pure1) := by unfold partsG; rw [← List.cons_append, stG_snoc, hsg]; rfl
      have hfin2 : partsG ((L, false) :: (bd ++ [])) = close1 o false (d.map pure1) := by rw [List.append_nil]; unfold partsG; rw [hsg]
      have hl5 : lastC.length = 5 := rfl
      first
        | (refine B2S.tc (xs := lastC.map byteV) (l := lastC) rfl rfl ?_
           (conv => whnf); repeat ((first | refine tk1 ?_ | refine tk2 ?_ | refine tk3 ?_ | refine tk12 (fun _ => ?_) | refine tk4 ?_ | refine tk5 ?_ | refine tk6 ?_ | refine tk7 ?_ | refine tk8 ?_ | refine tk9 ?_ | refine tk10 (fun _ _ => ?_) | refine tk11 (fun _ => ?_) | refine tk13 ?_ | refine tk14 ?_); (conv => whnf))
           rename_i sb
           refine CallK.into (G := .row (.slice (some ⟨sb, 0, none⟩) 1 1) 9 1 1 ([lastC].map str) :: .box b12 [.slice oA o.length oc, .slice D d.length dc] 95 :: .row (.slice oA o.length oc) 5 1 o.length (o.map byteV) :: (.row (.slice D d.length dc) 53 2 d.length (pcells d) :: rowsP 5 d)) (Cv.into (by (try dsimp only); repeat' (first | with_reducible exact Cv.refl | with_reducible exact Cv.left | with_reducible exact Cv.right | with_reducible exact Cv.nil | (with_reducible apply Cv.cons; focus ((repeat (first | with_reducible exact Pick.here | with_reducible apply Pick.skip)); done)) | (apply Cv.cons; focus ((repeat (first | exact Pick.here | apply Pick.skip)); done)) | exact Cv.nil | exact Cv.refl | exact Cv.left | exact Cv.right | refine Cv.skip ?_))) ?_
           refine write_k hou (ts := [lastC]) (X := .row (.slice D d.length dc) 53 2 d.length (pcells d) :: rowsP 5 d) (by simp; omega) (by simp) (fun _ A3 c3 => ?_)
           rw [show [lastC].flatten = lastC by simp]
           have hopl : (o ++ lastC).length ≤ 9000000 := by rw [List.length_append]; omega
           (conv => whnf); repeat ((first | refine tk1 ?_ | refine tk2 ?_ | refine tk3 ?_ | refine tk12 (fun _ => ?_) | refine tk4 ?_ | refine tk5 ?_ | refine tk6 ?_ | refine tk7 ?_ | refine tk8 ?_ | refine tk9 ?_ | refine tk10 (fun _ _ => ?_) | refine tk11 (fun _ => ?_) | refine tk13 ?_ | refine tk14 ?_); (conv => whnf))
           refine CallK.into (G := .box b12 [.slice A3 (o ++ lastC).length c3, .slice D d.length dc] 95 :: .row (.slice D d.length dc) 53 2 d.length (pcells d) :: .row (.slice A3 (o ++ lastC).length c3) 5 1 (o ++ lastC).length ((o ++ lastC).map byteV) :: ([] ++ rowsP 5 d)) (Cv.into (by (try dsimp only); repeat' (first | with_reducible exact Cv.refl | with_reducible exact Cv.left | with_reducible exact Cv.right | with_reducible exact Cv.nil | (with_reducible apply Cv.cons; focus ((repeat (first | with_reducible exact Pick.here | with_reducible apply Pick.skip)); done)) | (apply Cv.cons; focus ((repeat (first | exact Pick.here | apply Pick.skip)); done)) | exact Cv.nil | exact Cv.refl | exact Cv.left | exact Cv.right | refine Cv.skip ?_))) ?_
           refine cut_k hou (f := false) (ps := d) (by omega) (by omega) (fun _ D3 dc3 d3 hd3 => ?_)
           (conv => whnf); repeat ((first | refine tk1 ?_ | refine tk2 ?_ | refine tk3 ?_ | refine tk12 (fun _ => ?_) | refine tk4 ?_ | refine tk5 ?_ | refine tk6 ?_ | refine tk7 ?_ | refine tk8 ?_ | refine tk9 ?_ | refine tk10 (fun _ _ => ?_) | refine tk11 (fun _ => ?_) | refine tk13 ?_ | refine tk14 ?_); (conv => whnf))
           exact fun w' hw' => ⟨⟨D3, dc3, d3⟩, rfl, hd3.trans hfin1.symm, newH.into hw' (Cv.into (by (try dsimp only); repeat' (first | with_reducible exact Cv.refl | with_reducible exact Cv.left | with_reducible exact Cv.right | with_reducible exact Cv.nil | (with_reducible apply Cv.cons; focus ((repeat (first | with_reducible exact Pick.here | with_reducible apply Pick.skip)); done)) | (apply Cv.cons; focus ((repeat (first | exact Pick.here | apply Pick.skip)); done)) | exact Cv.nil | exact Cv.refl | exact Cv.left | exact Cv.right | refine Cv.skip ?_)))⟩)
        | (refine CallK.into (G := .box b12 [.slice oA o.length oc, .slice D d.length dc] 95 :: .row (.slice D d.length dc) 53 2 d.length (pcells d) :: .row (.slice oA o.length oc) 5 1 o.length (o.map byteV) :: ([] ++ rowsP 5 d)) (Cv.into (by (try dsimp only); repeat' (first | with_reducible exact Cv.refl | with_reducible exact Cv.left | with_reducible exact Cv.right | with_reducible exact Cv.nil | (with_reducible apply Cv.cons; focus ((repeat (first | with_reducible exact Pick.here | with_reducible apply Pick.skip)); done)) | (apply Cv.cons; focus ((repeat (first | exact Pick.here | apply Pick.skip)); done)) | exact Cv.nil | exact Cv.refl | exact Cv.left | exact Cv.right | refine Cv.skip ?_))) ?_
           refine cut_k hou (f := false) (ps := d) (by omega) (by omega) (fun _ D3 dc3 d3 hd3 => ?_)
           (conv => whnf); repeat ((first | refine tk1 ?_ | refine tk2 ?_ | refine tk3 ?_ | refine tk12 (fun _ => ?_) | refine tk4 ?_ | refine tk5 ?_ | refine tk6 ?_ | refine tk7 ?_ | refine tk8 ?_ | refine tk9 ?_ | refine tk10 (fun _ _ => ?_) | refine tk11 (fun _ => ?_) | refine tk13 ?_ | refine tk14 ?_); (conv => whnf))
           exact fun w' hw' => ⟨⟨D3, dc3, d3⟩, rfl, hd3.trans hfin2.symm, newH.into hw' (Cv.into (by (try dsimp only); repeat' (first | with_reducible exact Cv.refl | with_reducible exact Cv.left | with_reducible exact Cv.right | with_reducible exact Cv.nil | (with_reducible apply Cv.cons; focus ((repeat (first | with_reducible exact Pick.here | with_reducible apply Pick.skip)); done)) | (apply Cv.cons; focus ((repeat (first | exact Pick.here | apply Pick.skip)); done)) | exact Cv.nil | exact Cv.refl | exact Cv.left | exact Cv.right | refine Cv.skip ?_)))⟩)
  · cases last <;> rcases hways with ⟨rfl, hs⟩ | ⟨rfl, hs⟩ | ⟨rfl, hs⟩ | ⟨rfl, hs, hb⟩ | ⟨rfl, hs, hb⟩ <;> rw [hs] at hch <;> (try rw [hb] at hch) <;> have hch' := hch.symm <;> have hcl' := hcl.symm <;> simp at hch' hcl'
    all_goals as_aux_lemma =>
      (conv => whnf); repeat ((first | refine tk1 ?_ | refine tk2 ?_ | refine tk3 ?_ | refine tk12 (fun _ => ?_) | refine tk4 ?_ | refine tk5 ?_ | refine tk6 ?_ | refine tk7 ?_ | refine tk8 ?_ | refine tk9 ?_ | refine tk10 (fun _ _ => ?_) | refine tk11 (fun _ => ?_) | refine tk13 ?_ | refine tk14 ?_); (conv => whnf))
      refine CallK.fnR hstr ⟨(hRQ _).ok, trivial⟩ ?_
      rw [hs]
      (conv => whnf); repeat ((first | refine tk1 ?_ | refine tk2 ?_ | refine tk3 ?_ | refine tk12 (fun _ => ?_) | refine tk4 ?_ | refine tk5 ?_ | refine tk6 ?_ | refine tk7 ?_ | refine tk8 ?_ | refine tk9 ?_ | refine tk10 (fun _ _ => ?_) | refine tk11 (fun _ => ?_) | refine tk13 ?_ | refine tk14 ?_); (conv => whnf))
      try (refine CallK.fn hbare ?_; rw [hb])
      try ((conv => whnf); repeat ((first | refine tk1 ?_ | refine tk2 ?_ | refine tk3 ?_ | refine tk12 (fun _ => ?_) | refine tk4 ?_ | refine tk5 ?_ | refine tk6 ?_ | refine tk7 ?_ | refine tk8 ?_ | refine tk9 ?_ | refine tk10 (fun _ _ => ?_) | refine tk11 (fun _ => ?_) | refine tk13 ?_ | refine tk14 ?_); (conv => whnf)))
      rename_i b12
      refine CallK.into (G := .box b12 [.slice none 0 0, .slice none 0 0] 95 :: .row (.slice none 0 0) 5 1 0 [] :: [.box b4 [.int .i64 st, .slice FA F.length Fc, .slice QA ps.length Qc, .int .u8 cd.toNat, str tag, .bool press] 47]) (Into.trans (Into.nilRow (e := 5) (sz := 1) Into.refl) (Cv.into (by (try dsimp only); repeat' (first | with_reducible exact Cv.refl | with_reducible exact Cv.left | with_reducible exact Cv.right | with_reducible exact Cv.nil | (with_reducible apply Cv.cons; focus ((repeat (first | with_reducible exact Pick.here | with_reducible apply Pick.skip)); done)) | (apply Cv.cons; focus ((repeat (first | exact Pick.here | apply Pick.skip)); done)) | exact Cv.nil | exact Cv.refl | exact Cv.left | exact Cv.right | refine Cv.skip ?_)))) ?_
      refine head_k hou (l := []) (X := [.box b4 [.int .i64 st, .slice FA F.length Fc, .slice QA ps.length Qc, .int .u8 cd.toNat, str tag, .bool press] 47]) st FA Fc F QA Qc ps cd tag press _ _ hRF hRQ hPQ hF (by omega) (by omega) (by simp) hst.2.2 hst.1 hst.2.1 (fun _ A1 c1 L hL => ?_)
      rw [List.nil_append] at hL
      have hL : L = headR st F (ps.map pure1) cd.toNat ch cl := by rw [hch', hcl']; exact hL
      rw [← hL] at hLz ⊢
      (conv => whnf); repeat ((first | refine tk1 ?_ | refine tk2 ?_ | refine tk3 ?_ | refine tk12 (fun _ => ?_) | refine tk4 ?_ | refine tk5 ?_ | refine tk6 ?_ | refine tk7 ?_ | refine tk8 ?_ | refine tk9 ?_ | refine tk10 (fun _ _ => ?_) | refine tk11 (fun _ => ?_) | refine tk13 ?_ | refine tk14 ?_); (conv => whnf))
      refine CallK.into (G := .box b12 [.slice A1 L.length c1, .slice none 0 0] 95 :: .row (.slice none 0 0) 53 2 0 [] :: .row (.slice A1 L.length c1) 5 1 L.length (L.map byteV) :: ([] ++ rowsP 5 [])) (Into.trans (Into.nilRow (e := 53) (sz := 2) Into.refl) (Cv.into (by (try dsimp only); repeat' (first | with_reducible exact Cv.refl | with_reducible exact Cv.left | with_reducible exact Cv.right | with_reducible exact Cv.nil | (with_reducible apply Cv.cons; focus ((repeat (first | with_reducible exact Pick.here | with_reducible apply Pick.skip)); done)) | (apply Cv.cons; focus ((repeat (first | exact Pick.here | apply Pick.skip)); done)) | exact Cv.nil | exact Cv.refl | exact Cv.left | exact Cv.right | refine Cv.skip ?_)))) ?_
      refine cut_k hou (ps := []) (by omega) (by simp) (fun _ D2 dc2 ps2 hps2 => ?_)
      (conv => whnf); repeat ((first | refine tk1 ?_ | refine tk2 ?_ | refine tk3 ?_ | refine tk12 (fun _ => ?_) | refine tk4 ?_ | refine tk5 ?_ | refine tk6 ?_ | refine tk7 ?_ | refine tk8 ?_ | refine tk9 ?_ | refine tk10 (fun _ _ => ?_) | refine tk11 (fun _ => ?_) | refine tk13 ?_ | refine tk14 ?_); (conv => whnf))
      simp only [hch', hcl', if_true]
      exact fun w' hw' => ⟨⟨D2, dc2, ps2⟩, rfl, hps2, newH.into hw' (Cv.into (by (try dsimp only); repeat' (first | with_reducible exact Cv.refl | with_reducible exact Cv.left | with_reducible exact Cv.right | with_reducible exact Cv.nil | (with_reducible apply Cv.cons; focus ((repeat (first | with_reducible exact Pick.here | with_reducible apply Pick.skip)); done)) | (apply Cv.cons; focus ((repeat (first | exact Pick.here | apply Pick.skip)); done)) | exact Cv.nil | exact Cv.refl | exact Cv.left | exact Cv.right | refine Cv.skip ?_)))⟩
end Go.Proofs.YtnaeeklnlddcaaaGreatDoor.Vex
/- Whether an answer is great, reckoned. -/
namespace Go.Proofs.YtnaeeklnlddcaaaGreatDoor.Vex
open Go Go.RowKit
set_option maxRecDepth 100000
set_option linter.unusedSectionVars false
variable {gI : GI} [HasMax gI] [HasPow gI]

def pw (p : List UInt8 × Bool) : Nat := 1 + min p.1.length 10000
def gp : Prs → Nat
  | [] => 0
  | p :: r => pw p + gp r
theorem gp_add : ∀ a b : Prs, gp (a ++ b) = gp a + gp b
  | [], b => by simp [gp]
  | p :: a, b => by simp [gp, gp_add a b]; omega
theorem gp_take (l : Prs) (k : Nat) (h : k < l.length) : gp (l.take (k + 1)) = gp (l.take k) + pw l[k] := by
  rw [List.take_succ_eq_append_getElem h, gp_add]; simp [gp]
theorem gp_total : ∀ l : Prs, gp l ≤ 5000 → total l ≤ 5000 ∧ total l ≤ gp l
  | [], _ => by simp [total, gp]
  | p :: r, h => by
    have h' : pw p + gp r ≤ 5000 := h
    have hr := (gp_total r (by omega)).2
    have : total (p :: r) = p.1.length + total r := rfl
    unfold pw at h'
    have hgp : gp (p :: r) = pw p + gp r := rfl
    unfold pw at hgp
    omega
def greatR (F : List Fld) (ps : Prs) : Bool := decide (100 < ps.length) || (decide (5000 < gp (ps.take 200)) || (decide (90 < F.length) || decide (3000 < gs (F.take 1000))))

theorem gs_fsum : ∀ l : List Fld, gs l ≤ 3000 → fsum l ≤ gs l + 2 * l.length ∧ (∀ f ∈ l, f.1.length + f.2.length ≤ 3000)
  | [], _ => ⟨by simp [gs, fsum], fun f h => by cases h⟩
  | p :: r, h => by
    have e : gs (p :: r) = fw p + gs r := rfl
    rw [e] at h ⊢
    unfold fw at h ⊢
    have ih := gs_fsum r (by omega)
    rw [fsum_cons, List.length_cons]
    refine ⟨by omega, fun f hf => ?_⟩
    rcases List.mem_cons.1 hf with rfl | hf
    · omega
    · exact ih.2 f hf
/-- What an answer that is not great has. -/
theorem greatR_le {F : List Fld} {ps : Prs} (h : greatR F ps = false) : fsum F ≤ 4000 ∧ F.length ≤ 90 ∧ ps.length ≤ 100 ∧ total ps ≤ 5000 ∧ (∀ f ∈ F, f.1.length + f.2.length ≤ 3000) := by
  unfold greatR at h
  simp only [Bool.or_eq_false_iff, decide_eq_false_iff_not] at h
  obtain ⟨h1, h2, h3, h4⟩ := h
  rw [List.take_of_length_le (by omega)] at h2 h4
  have h5 := gs_fsum F (by omega)
  exact ⟨by omega, by omega, by omega, (gp_total _ (by omega)).1, h5.2⟩

set_option maxHeartbeats 4000000 in
theorem Great29_r (st : Int) (FA : Option Addr) (Fc : Nat) (F : List Fld) (QA : Option Addr) (Qc : Nat) (ps : List Prt) (cd : UInt8) (tag : List UInt8) (press : Bool) :
    FnR Tryz.prog gI 19 [.agg ⟨[.int .i64 st, .slice FA F.length Fc, .slice QA ps.length Qc, .int .u8 cd.toNat, str tag, .bool press]⟩] [(FA, fcells F), (QA, pcells ps)] (.bool (greatR F (ps.map pure1))) := by
  refine FnE.of tys_ok Tryz.func19 rfl (by kernel_rfl) rfl rfl ?_; intro w hG hP
  have hRF : ∀ H, RdA (mkC Tryz.prog gI w hG) H FA (fcells F) := fun H => ⟨hP.1.now⟩
  have hRQ : ∀ H, RdA (mkC Tryz.prog gI w hG) H QA (pcells ps) := fun H => ⟨hP.2.1.now⟩
  clear hP
  (conv => whnf); repeat ((first | refine tk1 ?_ | refine tk2 ?_ | refine tk3 ?_ | refine tk12 (fun _ => ?_) | refine tk4 ?_ | refine tk5 ?_ | refine tk6 ?_ | refine tk7 ?_ | refine tk8 ?_ | refine tk9 ?_ | refine tk10 (fun _ _ => ?_) | refine tk11 (fun _ => ?_) | refine tk13 ?_ | refine tk14 ?_); (conv => whnf))
  rename_i b
  refine LoopS.lp tys_ok (fun (k : Nat) u => [u 0, .pointer (some ⟨b, 0, none⟩), u 2, .int .i64 (gp ((ps.map pure1).take k) : Nat), .int .i64 (k : Nat), u 5, u 6, u 7, u 8, u 9, u 10, u 11, u 12, u 13, u 14, u 15, u 16, u 17, u 18, u 19, u 20, u 21, u 22, u 23, u 24, u 25, u 26, u 27, u 28, u 29, u 30, u 31, u 32, u 33, u 34, u 35, u 36, u 37, u 38, u 39, u 40, u 41, u 42, u 43, u 44, u 45]) (fun _ => [.box b [.int .i64 st, .slice FA F.length Fc, .slice QA ps.length Qc, .int .u8 cd.toNat, str tag, .bool press] 47])
    (fun k => k ≤ ps.length ∧ k ≤ 200 ∧ gp ((ps.map pure1).take k) ≤ k * 10001) (fun k => ps.length - k) 0 ⟨Nat.zero_le _, Nat.zero_le _, Nat.zero_le _⟩ rfl (by repeat' (first | exact List.Sublist.refl _ | exact List.nil_sublist _ | apply List.Sublist.cons_cons | apply List.Sublist.cons)) ?_
  intro k u ⟨hk, hk2, hz⟩
  (conv => whnf); repeat ((first | refine tk1 ?_ | refine tk2 ?_ | refine tk3 ?_ | refine tk12 (fun _ => ?_) | refine tk4 ?_ | refine tk5 ?_ | refine tk6 ?_ | refine tk7 ?_ | refine tk8 ?_ | refine tk9 ?_ | refine tk10 (fun _ _ => ?_) | refine tk11 (fun _ => ?_) | refine tk13 ?_ | refine tk14 ?_); (conv => whnf))
  refine Cmp.cases (fun hlt => ?_) (fun hlt => ?_)
  · (conv => whnf); repeat ((first | refine tk1 ?_ | refine tk2 ?_ | refine tk3 ?_ | refine tk12 (fun _ => ?_) | refine tk4 ?_ | refine tk5 ?_ | refine tk6 ?_ | refine tk7 ?_ | refine tk8 ?_ | refine tk9 ?_ | refine tk10 (fun _ _ => ?_) | refine tk11 (fun _ => ?_) | refine tk13 ?_ | refine tk14 ?_); (conv => whnf))
    refine Cmp.cases (fun h2 => ?_) (fun h2 => ?_)
    · have hlt' : k < ps.length := by omega
      have hkp : k < (ps.map pure1).length := by rw [List.length_map]; exact hlt'
      have g2 := (pcells_at ps k hlt').1
      have hnx := gp_take (ps.map pure1) k hkp
      rw [List.getElem_map] at hnx
      generalize ps[k] = q at *
      have hpw : pw (pure1 q) = 1 + min q.l.length 10000 := rfl
      rw [hpw] at hnx
      (conv => whnf); repeat ((first | refine tk1 ?_ | refine tk2 ?_ | refine tk3 ?_ | refine tk12 (fun _ => ?_) | refine tk4 ?_ | refine tk5 ?_ | refine tk6 ?_ | refine tk7 ?_ | refine tk8 ?_ | refine tk9 ?_ | refine tk10 (fun _ _ => ?_) | refine tk11 (fun _ => ?_) | refine tk13 ?_ | refine tk14 ?_); (conv => whnf))
      refine IdxA.tc (xs := pcells ps) (by rw [pcells_length]; omega) (by omega) (by omega) ?_
      (conv => whnf); repeat ((first | refine tk1 ?_ | refine tk2 ?_ | refine tk3 ?_ | refine tk12 (fun _ => ?_) | refine tk4 ?_ | refine tk5 ?_ | refine tk6 ?_ | refine tk7 ?_ | refine tk8 ?_ | refine tk9 ?_ | refine tk10 (fun _ _ => ?_) | refine tk11 (fun _ => ?_) | refine tk13 ?_ | refine tk14 ?_); (conv => whnf))
      refine Ld.taF (xs := pcells ps) (v := .slice q.A q.l.length q.cp) (by rw [Int.toNat_natCast]; exact g2) ?_
      (conv => whnf); repeat ((first | refine tk1 ?_ | refine tk2 ?_ | refine tk3 ?_ | refine tk12 (fun _ => ?_) | refine tk4 ?_ | refine tk5 ?_ | refine tk6 ?_ | refine tk7 ?_ | refine tk8 ?_ | refine tk9 ?_ | refine tk10 (fun _ _ => ?_) | refine tk11 (fun _ => ?_) | refine tk13 ?_ | refine tk14 ?_); (conv => whnf))
      refine OthP.min2 (min (q.l.length : Int) 10000) rfl rfl rfl ?_
      (conv => whnf); repeat ((first | refine tk1 ?_ | refine tk2 ?_ | refine tk3 ?_ | refine tk12 (fun _ => ?_) | refine tk4 ?_ | refine tk5 ?_ | refine tk6 ?_ | refine tk7 ?_ | refine tk8 ?_ | refine tk9 ?_ | refine tk10 (fun _ _ => ?_) | refine tk11 (fun _ => ?_) | refine tk13 ?_ | refine tk14 ?_); (conv => whnf))
      exact ⟨k + 1, ⟨by omega, by omega, by omega⟩, by dsimp only; rw [show ((gp ((ps.map pure1).take (k + 1)) : Nat) : Int) = (gp ((ps.map pure1).take k) : Nat) + 1 + min (q.l.length : Int) 10000 by rw [hnx]; omega]; rfl, (by repeat' (first | exact List.Sublist.refl _ | exact List.nil_sublist _ | apply List.Sublist.cons_cons | apply List.Sublist.cons)), by dsimp only; omega⟩
    · have ht : gp ((ps.map pure1).take k) = gp ((ps.map pure1).take 200) := by
        first
          | rw [show k = 200 by omega]
          | rw [List.take_of_length_le (by rw [List.length_map]; omega), List.take_of_length_le (by rw [List.length_map]; omega)]
      unfold greatR
      rw [ht, List.length_map]
      rw [ht] at hz
      (conv => whnf); repeat ((first | refine tk1 ?_ | refine tk2 ?_ | refine tk3 ?_ | refine tk12 (fun _ => ?_) | refine tk4 ?_ | refine tk5 ?_ | refine tk6 ?_ | refine tk7 ?_ | refine tk8 ?_ | refine tk9 ?_ | refine tk10 (fun _ _ => ?_) | refine tk11 (fun _ => ?_) | refine tk13 ?_ | refine tk14 ?_); (conv => whnf))
      exact fun w' _ => by rw [decide_eq_true (show 100 < ps.length by omega)]; rfl
  · have ht : gp ((ps.map pure1).take k) = gp ((ps.map pure1).take 200) := by
      first
        | rw [show k = 200 by omega]
        | rw [List.take_of_length_le (by rw [List.length_map]; omega), List.take_of_length_le (by rw [List.length_map]; omega)]
    unfold greatR
    rw [ht, List.length_map]
    rw [ht] at hz
    (conv => whnf); repeat ((first | refine tk1 ?_ | refine tk2 ?_ | refine tk3 ?_ | refine tk12 (fun _ => ?_) | refine tk4 ?_ | refine tk5 ?_ | refine tk6 ?_ | refine tk7 ?_ | refine tk8 ?_ | refine tk9 ?_ | refine tk10 (fun _ _ => ?_) | refine tk11 (fun _ => ?_) | refine tk13 ?_ | refine tk14 ?_); (conv => whnf))
    refine Cmp.cases (fun c1 => ?_) (fun c1 => ?_)
    · (conv => whnf); repeat ((first | refine tk1 ?_ | refine tk2 ?_ | refine tk3 ?_ | refine tk12 (fun _ => ?_) | refine tk4 ?_ | refine tk5 ?_ | refine tk6 ?_ | refine tk7 ?_ | refine tk8 ?_ | refine tk9 ?_ | refine tk10 (fun _ _ => ?_) | refine tk11 (fun _ => ?_) | refine tk13 ?_ | refine tk14 ?_); (conv => whnf))
      exact fun w' _ => by rw [decide_eq_true (show 100 < ps.length by omega)]; rfl
    rw [decide_eq_false (show ¬ 100 < ps.length by omega), Bool.false_or]
    (conv => whnf); repeat ((first | refine tk1 ?_ | refine tk2 ?_ | refine tk3 ?_ | refine tk12 (fun _ => ?_) | refine tk4 ?_ | refine tk5 ?_ | refine tk6 ?_ | refine tk7 ?_ | refine tk8 ?_ | refine tk9 ?_ | refine tk10 (fun _ _ => ?_) | refine tk11 (fun _ => ?_) | refine tk13 ?_ | refine tk14 ?_); (conv => whnf))
    refine Cmp.cases (fun c2 => ?_) (fun c2 => ?_)
    · (conv => whnf); repeat ((first | refine tk1 ?_ | refine tk2 ?_ | refine tk3 ?_ | refine tk12 (fun _ => ?_) | refine tk4 ?_ | refine tk5 ?_ | refine tk6 ?_ | refine tk7 ?_ | refine tk8 ?_ | refine tk9 ?_ | refine tk10 (fun _ _ => ?_) | refine tk11 (fun _ => ?_) | refine tk13 ?_ | refine tk14 ?_); (conv => whnf))
      exact fun w' _ => by rw [decide_eq_true (show 5000 < gp ((ps.map pure1).take 200) by omega)]; rfl
    rw [decide_eq_false (show ¬ 5000 < gp ((ps.map pure1).take 200) by omega), Bool.false_or]
    (conv => whnf); repeat ((first | refine tk1 ?_ | refine tk2 ?_ | refine tk3 ?_ | refine tk12 (fun _ => ?_) | refine tk4 ?_ | refine tk5 ?_ | refine tk6 ?_ | refine tk7 ?_ | refine tk8 ?_ | refine tk9 ?_ | refine tk10 (fun _ _ => ?_) | refine tk11 (fun _ => ?_) | refine tk13 ?_ | refine tk14 ?_); (conv => whnf))
    refine Cmp.cases (fun c3 => ?_) (fun c3 => ?_)
    · (conv => whnf); repeat ((first | refine tk1 ?_ | refine tk2 ?_ | refine tk3 ?_ | refine tk12 (fun _ => ?_) | refine tk4 ?_ | refine tk5 ?_ | refine tk6 ?_ | refine tk7 ?_ | refine tk8 ?_ | refine tk9 ?_ | refine tk10 (fun _ _ => ?_) | refine tk11 (fun _ => ?_) | refine tk13 ?_ | refine tk14 ?_); (conv => whnf))
      exact fun w' _ => by rw [decide_eq_true (show 90 < F.length by omega)]; rfl
    rw [decide_eq_false (show ¬ 90 < F.length by omega), Bool.false_or]
    (conv => whnf); repeat ((first | refine tk1 ?_ | refine tk2 ?_ | refine tk3 ?_ | refine tk12 (fun _ => ?_) | refine tk4 ?_ | refine tk5 ?_ | refine tk6 ?_ | refine tk7 ?_ | refine tk8 ?_ | refine tk9 ?_ | refine tk10 (fun _ _ => ?_) | refine tk11 (fun _ => ?_) | refine tk13 ?_ | refine tk14 ?_); (conv => whnf))
    refine CallK.fnR (Great_r (gI := gI) FA Fc F) ⟨(hRF _).ok, trivial⟩ ?_
    (conv => whnf); repeat ((first | refine tk1 ?_ | refine tk2 ?_ | refine tk3 ?_ | refine tk12 (fun _ => ?_) | refine tk4 ?_ | refine tk5 ?_ | refine tk6 ?_ | refine tk7 ?_ | refine tk8 ?_ | refine tk9 ?_ | refine tk10 (fun _ _ => ?_) | refine tk11 (fun _ => ?_) | refine tk13 ?_ | refine tk14 ?_); (conv => whnf))
    exact fun w' _ => rfl
end Go.Proofs.YtnaeeklnlddcaaaGreatDoor.Vex
/- What is great in layer 27, reckoned: it tells something of any argument. -/
namespace Go.Proofs.YtnaeeklnlddcaaaGreatDoor.Vex
open Go Go.RowKit
set_option maxRecDepth 100000
set_option linter.unusedSectionVars false
variable {gI : GI} [HasMax gI]

theorem mul_bound {a b : Int} (h1 : 0 ≤ a) (h2 : a ≤ 2000) (h3 : 0 ≤ b) (h4 : b ≤ 200) : 0 ≤ a * b ∧ a * b ≤ 400000 :=
  ⟨Int.mul_nonneg h1 h3, Int.le_trans (Int.mul_le_mul h2 h4 h3 (by decide)) (by decide)⟩
end Go.Proofs.YtnaeeklnlddcaaaGreatDoor.Vex
/- Plain laws on pages: where flushes cut a body. No program in sight. -/
namespace Go.Proofs.YtnaeeklnlddcaaaGreatDoor.Vex

/-- How many bytes stand up to the end of each part. -/
def cumG (n : Nat) : Prs → List Nat
  | [] => []
  | p :: r => (n + p.1.length) :: cumG (n + p.1.length) r
def cumE (d : Prs) : List Nat := cumG 0 d
theorem cumG_length : ∀ (d : Prs) (n : Nat), (cumG n d).length = d.length
  | [], _ => rfl
  | p :: r, n => by simp only [cumG, List.length_cons, cumG_length r]
theorem cumG_snoc (p : List UInt8 × Bool) : ∀ (d : Prs) (n : Nat), cumG n (d ++ [p]) = cumG n d ++ [n + total d + p.1.length]
  | [], n => by simp [cumG, total]
  | q :: r, n => by
    simp only [List.cons_append, cumG, cumG_snoc p r, total]
    congr 3
    omega
theorem cumG_at : ∀ (d : Prs) (n i : Nat), i < d.length → (cumG n d)[i]? = some (n + total (d.take (i + 1)))
  | [], _, i, h => by simp at h
  | p :: r, n, 0, _ => by simp [cumG, total]
  | p :: r, n, i + 1, h => by
    simp only [cumG, List.getElem?_cons_succ, List.take_succ_cons, total]
    rw [cumG_at r _ i (by simpa using h)]
    congr 1
    omega
theorem cumE_length (d : Prs) : (cumE d).length = d.length := cumG_length d 0
theorem cumE_at (d : Prs) (i : Nat) (h : i < d.length) : (cumE d)[i]? = some (total (d.take (i + 1))) := by
  have := cumG_at d 0 i h
  rw [Nat.zero_add] at this
  exact this
theorem cumE_last (d : Prs) (h : d ≠ []) : (cumE d)[d.length - 1]? = some (total d) := by
  have h1 := List.length_pos_iff.2 h
  rw [cumE_at d _ (by omega), show d.length - 1 + 1 = d.length by omega, List.take_length]
/-- What the ends are when a piece more is told. -/
theorem ends_none (l : Prs) (x : List UInt8 × Bool) (h : x.2 = false) : cumE (stG (l ++ [x])).2 = cumE (stG l).2 := by
  rw [stG_snoc]; unfold stepG; rw [h]; rfl
theorem ends_step (l : Prs) (x : List UInt8 × Bool) (h : x.2 = true) :
    cumE (stG (l ++ [x])).2 = if 0 < total (l ++ [x]) ∧ ((stG l).2 = [] ∨ total (stG l).2 < total (l ++ [x])) then cumE (stG l).2 ++ [total (l ++ [x])] else cumE (stG l).2 := by
  have h1 := total_stG l
  have h2 := total_snoc l x
  have h3 : total (stG l).2 = 0 → (stG l).2 = [] := fun h0 => by
    have := length_le_total (stG l).2 fun p hp => (whole_stG l p hp).1
    exact List.eq_nil_of_length_eq_zero (by omega)
  rw [stG_snoc]
  unfold stepG
  rw [h]
  simp only [if_true]
  unfold close1
  by_cases hz : (stG l).1 ++ x.1 = []
  · have hz' := congrArg List.length hz
    rw [List.length_append, List.length_nil] at hz'
    rw [if_pos hz, if_neg]
    rintro ⟨h4, h5⟩
    rcases h5 with h5 | h5
    · rw [h5] at h1
      simp only [total] at h1
      omega
    · omega
  · have hz' : 0 < ((stG l).1 ++ x.1).length := List.length_pos_iff.2 hz
    rw [List.length_append] at hz'
    rw [if_neg hz, if_pos ⟨by omega, .inr (by omega)⟩]
    unfold cumE
    rw [cumG_snoc, List.length_append]
    congr 2
    omega
/-- The parts, and those among them that have a flush. -/
theorem parts_cases (l : Prs) : ((stG l).1 = [] ∧ partsG l = (stG l).2) ∨ ((stG l).1 ≠ [] ∧ partsG l = (stG l).2 ++ [((stG l).1, false)]) := by
  unfold partsG close1
  by_cases h : (stG l).1 = []
  · exact .inl ⟨h, by rw [if_pos h]⟩
  · exact .inr ⟨h, by rw [if_neg h]⟩
theorem parts_at (l : Prs) (i : Nat) (h : i < (partsG l).length) : ((partsG l)[i].1 ≠ []) ∧
    (((i < (stG l).2.length) ∧ (partsG l)[i].2 = true ∧ (cumE (stG l).2)[i]? = some (total ((partsG l).take (i + 1)))) ∨ (i = (stG l).2.length ∧ (partsG l)[i].2 = false ∧ i + 1 = (partsG l).length)) := by
  have hw := whole_stG l
  rcases parts_cases l with ⟨h0, h1⟩ | ⟨h0, h1⟩
  · have h2 : i < (stG l).2.length := by rw [← h1]; exact h
    have h3 : (partsG l)[i] = (stG l).2[i] := by simp only [h1]
    have h4 := hw _ (List.getElem_mem h2)
    rw [h3]
    exact ⟨h4.1, .inl ⟨h2, h4.2, by rw [cumE_at _ _ h2, h1]⟩⟩
  · have h5 : (partsG l).length = (stG l).2.length + 1 := by rw [h1]; simp
    by_cases h2 : i < (stG l).2.length
    · have h3 : (partsG l)[i] = (stG l).2[i] := by simp only [h1]; rw [List.getElem_append_left h2]
      have h4 := hw _ (List.getElem_mem h2)
      rw [h3]
      exact ⟨h4.1, .inl ⟨h2, h4.2, by rw [cumE_at _ _ h2, h1, List.take_append_of_le_length (by omega)]⟩⟩
    · have h6 : i = (stG l).2.length := by omega
      have h3 : (partsG l)[i] = ((stG l).1, false) := by simp only [h1]; rw [List.getElem_append_right (by omega)]; simp [h6]
      rw [h3]
      exact ⟨h0, .inr ⟨h6, rfl, by omega⟩⟩
theorem parts_length (l : Prs) : (partsG l).length ≤ l.length ∧ (stG l).2.length ≤ (partsG l).length ∧ (partsG l).length ≤ (stG l).2.length + 1 := by
  have key : ∀ l : Prs, (stG l).2.length + (if (stG l).1 = [] then 0 else 1) ≤ l.length := fun l => by
    refine snoc_ind (p := fun l => (stG l).2.length + (if (stG l).1 = [] then 0 else 1) ≤ l.length) (Nat.le_refl _) (fun l x ih => ?_) l
    have h9 := stG_length l
    rw [stG_snoc, List.length_append]
    unfold stepG close1
    by_cases hx : x.2 = true
    · rw [if_pos hx]
      dsimp only
      split
      · simp; omega
      · simp; omega
    · rw [if_neg hx]
      dsimp only
      split
      · simp; omega
      · simp; omega
  have h := key l
  rcases parts_cases l with ⟨h0, h1⟩ | ⟨h0, h1⟩
  · rw [if_pos h0] at h
    rw [h1]
    omega
  · rw [if_neg h0] at h
    rw [h1]
    simp
    omega
theorem parts_one (x : List UInt8 × Bool) : partsG [x] = if x.1 = [] then [] else [x] := by
  obtain ⟨s, f⟩ := x
  unfold partsG stG stepG close1
  cases f <;> by_cases h : s = [] <;> simp [h]
end Go.Proofs.YtnaeeklnlddcaaaGreatDoor.Vex
/- The statements' own first example, reckoned: answers, alive. -/
namespace Go.Proofs.YtnaeeklnlddcaaaGreatDoor.Vex
open Go Go.RowKit
set_option maxRecDepth 100000
set_option linter.unusedSectionVars false
variable {gI : GI} [HasMax gI]

theorem prtsOk_st {c : Ctx} {H : Hp} {A : Option Addr} {ps : List Prt} (h1 : RdS c H A (pcells ps)) (h2 : ∀ q ∈ ps, RdS c H q.A (q.l.map byteV)) : ∀ w, St c H w → PrtsOk w A ps :=
  fun w hw => ⟨h1 w hw, fun q hq => h2 q hq w hw⟩
theorem answers_ps_le {st : Int} {fs : List Fld} {tag : List UInt8} {press : Bool} {Q : List Pce} {B q : List UInt8} {pm : List Fld} {a : Ans} {e : Int} (h : answerOf st fs tag press Q B q pm = (a, e)) : a.ps.length ≤ Q.length ∧ total a.ps ≤ 131072 ∧ a.fs.length ≤ fs.length + 1 := by
  unfold answerOf at h
  split at h
  · split at h
    · rename_i h2
      obtain ⟨rfl, rfl⟩ := Prod.mk.inj h
      refine ⟨?_, ?_, ?_⟩
      · have := (parts_length (told B q pm Q)).1
        unfold told at this
        rw [List.length_map] at this
        exact this
      · show total (partsG _) ≤ _
        rw [← total_bodyOf, bodyOf_parts, total_bodyOf]
        exact h2
      · show (ansF tag fs).length ≤ _
        unfold ansF
        split
        · omega
        · simp
    · obtain ⟨rfl, rfl⟩ := Prod.mk.inj h
      exact ⟨Nat.zero_le _, Nat.zero_le _, Nat.zero_le _⟩
  · obtain ⟨rfl, rfl⟩ := Prod.mk.inj h
    exact ⟨Nat.zero_le _, Nat.zero_le _, Nat.zero_le _⟩
def pm2 : List Fld := [([120], [49]), ([120], [50])]
def aliveL : List Pce := [⟨1, [97, 98], 2, false⟩, ⟨2, [120], 0, true⟩, ⟨3, [], 0, false⟩]
end Go.Proofs.YtnaeeklnlddcaaaGreatDoor.Vex
/- How long what is told of an answer is. No program in sight. -/
namespace Go.Proofs.YtnaeeklnlddcaaaGreatDoor.Vex
open Go Go.RowKit

theorem writeR_le (st : Int) (F : List Fld) (ps : Prs) (cd : Nat) (minor : Int) (head last : Bool) (hF : fsum F ≤ 1048576) (hn : ps.length ≤ 100) (ht : total ps ≤ 5000) : (writeR st F ps cd minor head last).l.length ≤ 4000000 ∧ total (writeR st F ps cd minor head last).l ≤ 9000000 := by
  unfold writeR
  split
  · rename_i hok
    split
    · dsimp only
      have hst : 200 ≤ st ∧ st ≤ 599 := by
        unfold anOK anST at hok
        simp only [Bool.and_eq_true, decide_eq_true_eq] at hok
        exact ⟨hok.1.1, hok.1.2.1⟩
      have h1 := headR_le st F ps cd (chunkB st ps cd minor) (last || decide (minor = 0)) hF hst.1 hst.2 (by omega)
      have h2 := total_bodyR (chunkB st ps cd minor) ps (fun p hp => Nat.lt_of_le_of_lt (total_mem2 hp) (by omega))
      have h3 : (bodyR (chunkB st ps cd minor) ps).length ≤ ps.length := by unfold bodyR; split <;> simp
      have hpt : ∀ l : Prs, total (partsG l) = total l := fun l => by rw [← total_bodyOf, bodyOf_parts, total_bodyOf]
      rw [hpt]
      have h4 := (parts_length (piecesR st F ps cd minor head last)).1
      have h5 : lastC.length = 5 := rfl
      have h6 : (piecesR st F ps cd minor head last).length ≤ 200 ∧ total (piecesR st F ps cd minor head last) ≤ 9000000 := by
        have hc : ∀ (p : List UInt8 × Bool) (r : Prs), total (p :: r) = p.1.length + total r := fun _ _ => rfl
        have hnil : total ([] : Prs) = 0 := rfl
        clear h4
        unfold piecesR
        generalize headR st F ps cd (chunkB st ps cd minor) (last || decide (minor = 0)) = Hh at h1 ⊢
        generalize bodyR (chunkB st ps cd minor) ps = B at h2 h3 ⊢
        generalize chunkB st ps cd minor = ch
        cases head <;> cases ch <;> simp only [Bool.false_eq_true, if_true, if_false, hc, total_append, hnil, List.length_cons, List.length_append, List.length_nil, h5] <;> omega
      exact ⟨by omega, h6.2⟩
    · exact ⟨Nat.zero_le _, Nat.zero_le _⟩
  · exact ⟨Nat.zero_le _, Nat.zero_le _⟩
end Go.Proofs.YtnaeeklnlddcaaaGreatDoor.Vex
/- The statements on answers as bytes, reckoned: the chapter's answer is told, and read. -/
namespace Go.Proofs.YtnaeeklnlddcaaaGreatDoor.Vex
open Go Go.RowKit
set_option maxRecDepth 100000
set_option linter.unusedSectionVars false
variable {gI : GI} [HasMax gI] [HasUtf gI] [HasErr gI] [HasPow gI] [HasTz gI]

def twoP : Prs := [([97], true), ([98], false)]
def twoT : List UInt8 := firstR ++ [50, 48, 48, 32, 13, 10] ++ lineR teN chunkedN ++ [13, 10] ++ [49, 13, 10, 97, 13, 10, 49, 13, 10, 98, 13, 10, 48, 13, 10, 13, 10]
theorem two_ok : anOK 200 [] twoP 0 = true := by decide +kernel
theorem itoa_200 : Lib.itoa 200 = [50, 48, 48] := by decide +kernel
theorem two_text : bodyOf (piecesR 200 [] twoP 0 1 false false) = twoT := by decide +kernel
theorem two_read : parseR (twoT ++ [120]) false false = ⟨200, [(teN, chunkedN)], [97, 98], false, twoT.length, 0⟩ := by
  have h := back_law 200 [] twoP 0 1 false false [120] two_ok (.inr rfl) (Nat.zero_le _) (fun f hf => by cases hf) (by decide) (by decide) (by rw [two_text]; decide)
  rw [two_text] at h
  exact h
theorem two_write : writeR 200 [] twoP 0 1 false false = ⟨partsG (piecesR 200 [] twoP 0 1 false false), false, 0⟩ := by
  unfold writeR
  rw [two_ok, if_pos rfl, if_pos (.inr rfl)]
  rfl
theorem two_body : bodyOf (writeR 200 [] twoP 0 1 false false).l = twoT := by
  rw [two_write]
  dsimp only
  rw [bodyOf_parts, two_text]
/-- The chapter's answer, in memory. -/
structure TwoM where
  q : Nat
  b1 : Nat
  o1 : Obj
  b2 : Nat
  o2 : Obj
def TwoM.ps (x : TwoM) : List Prt := [⟨some ⟨x.b1, 0, none⟩, 1, [97], true⟩, ⟨some ⟨x.b2, 0, none⟩, 1, [98], false⟩]
def TwoM.val (x : TwoM) : Value := .agg ⟨[.int .i64 200, .slice none 0 0, .slice (some ⟨x.q, 0, none⟩) 2 2, .int .u8 0, str [], .bool false]⟩
theorem two_f : FnT Tryz.prog gI 24 [] (fun _ => True) TwoM.val (fun x => RowO x.o1 [byteV 97] ∧ RowO x.o2 [byteV 98]) (fun x => [.row (.slice (some ⟨x.q, 0, none⟩) 2 2) 53 2 2 (pcells x.ps)]) (fun x => [.obj x.b1 x.o1, .obj x.b2 x.o2]) := by
  refine FnE.of tys_ok Tryz.func24 rfl (by kernel_rfl) rfl rfl ?_; intro w hG hP
  (conv => whnf); repeat ((first | refine tk1 ?_ | refine tk2 ?_ | refine tk3 ?_ | refine tk12 (fun _ => ?_) | refine tk4 ?_ | refine tk5 ?_ | refine tk6 ?_ | refine tk7 ?_ | refine tk8 ?_ | refine tk9 ?_ | refine tk10 (fun _ _ => ?_) | refine tk11 (fun _ => ?_) | refine tk13 ?_ | refine tk14 ?_); (conv => whnf))
  rename_i b1
  refine Oth.same tys_ok rfl rfl rfl (fun o1 ho1 => ?_)
  (conv => whnf); repeat ((first | refine tk1 ?_ | refine tk2 ?_ | refine tk3 ?_ | refine tk12 (fun _ => ?_) | refine tk4 ?_ | refine tk5 ?_ | refine tk6 ?_ | refine tk7 ?_ | refine tk8 ?_ | refine tk9 ?_ | refine tk10 (fun _ _ => ?_) | refine tk11 (fun _ => ?_) | refine tk13 ?_ | refine tk14 ?_); (conv => whnf))
  rename_i b2
  refine Oth.same tys_ok rfl rfl rfl (fun o2 ho2 => ?_)
  (conv => whnf); repeat ((first | refine tk1 ?_ | refine tk2 ?_ | refine tk3 ?_ | refine tk12 (fun _ => ?_) | refine tk4 ?_ | refine tk5 ?_ | refine tk6 ?_ | refine tk7 ?_ | refine tk8 ?_ | refine tk9 ?_ | refine tk10 (fun _ _ => ?_) | refine tk11 (fun _ => ?_) | refine tk13 ?_ | refine tk14 ?_); (conv => whnf))
  exact fun w' hw' => ⟨⟨_, b1, o1, b2, o2⟩, rfl, ⟨ho1, ho2⟩, newH.into hw' (Cv.into (by (try dsimp only); repeat' (first | with_reducible exact Cv.refl | with_reducible exact Cv.left | with_reducible exact Cv.right | with_reducible exact Cv.nil | (with_reducible apply Cv.cons; focus ((repeat (first | with_reducible exact Pick.here | with_reducible apply Pick.skip)); done)) | (apply Cv.cons; focus ((repeat (first | exact Pick.here | apply Pick.skip)); done)) | exact Cv.nil | exact Cv.refl | exact Cv.left | exact Cv.right | refine Cv.skip ?_)))⟩
theorem TwoM.prts {c : Ctx} (x : TwoM) (_h : RowO x.o1 [byteV 97] ∧ RowO x.o2 [byteV 98]) {H : Hp} (h1 : RdA c H (some ⟨x.q, 0, none⟩) (pcells x.ps)) (h2 : RdS c H (some ⟨x.b1, 0, none⟩) [byteV 97]) (h3 : RdS c H (some ⟨x.b2, 0, none⟩) [byteV 98]) : ∀ w, St c H w → PrtsOk w (some ⟨x.q, 0, none⟩) x.ps :=
  prtsOk_st h1.ok (fun q hq => by
    unfold TwoM.ps at hq
    rcases List.mem_cons.1 hq with rfl | hq
    · exact h2
    · rw [List.mem_singleton.1 hq]; exact h3)
/-- What is told of an answer, as one text; or a mark. -/
def toldT (st : Int) (F : List Fld) (ps : Prs) (cd : Nat) (minor : Int) : List UInt8 := if (writeR st F ps cd minor false false).e = 0 then bodyOf (writeR st F ps cd minor false false).l else [63]
theorem two_told : toldT 200 [] twoP 0 1 = twoT := by
  unfold toldT
  rw [two_body, two_write]
  rfl
theorem told_f (st : Int) (FA : Option Addr) (Fc : Nat) (F : List Fld) (QA : Option Addr) (Qc : Nat) (ps : List Prt) (cd : UInt8) (tag : List UInt8) (press : Bool) (minor : Int) (hF : fsum F ≤ 1048576) (hn : ps.length ≤ 100) (htl : total (ps.map pure1) ≤ 5000) (hq : ∀ q ∈ ps, q.l.length ≤ q.cp) :
    FnE Tryz.prog gI 26 [.agg ⟨[.int .i64 st, .slice FA F.length Fc, .slice QA ps.length Qc, .int .u8 cd.toNat, str tag, .bool press]⟩, .int .i64 minor] (fun w => Rdw w FA (fcells F) ∧ PrtsOk w QA ps) fun _ v _ => v = str (toldT st F (ps.map pure1) cd.toNat minor) := by
  have hw := AWrite_f (gI := gI) st FA Fc F QA Qc ps cd tag press minor false false hF (by omega) (by omega) hq
  have hle := writeR_le st F (ps.map pure1) cd.toNat minor false false hF (by rw [List.length_map]; exact hn) htl
  refine FnE.of tys_ok Tryz.func26 rfl (by kernel_rfl) rfl rfl ?_; intro w hG hP
  have hRF : ∀ H, RdA (mkC Tryz.prog gI w hG) H FA (fcells F) := fun H => ⟨hP.1.now⟩
  have hRQ : ∀ H, RdA (mkC Tryz.prog gI w hG) H QA (pcells ps) := fun H => ⟨hP.2.1.now⟩
  have hRq : ∀ q ∈ ps, ∀ H, RdA (mkC Tryz.prog gI w hG) H q.A (q.l.map byteV) := fun q hm H => ⟨(hP.2.2 q hm).now⟩
  have hPQ : ∀ H w', St (mkC Tryz.prog gI w hG) H w' → PrtsOk w' QA ps := fun H w' hw' => ⟨(hRQ H).ok w' hw', fun q hm => (hRq q hm H).ok w' hw'⟩
  clear hP
  unfold toldT
  generalize writeR st F (ps.map pure1) cd.toNat minor false false = W at *
  obtain ⟨Wl, Wc, We⟩ := W
  dsimp only at hw hle ⊢
  (conv => whnf); repeat ((first | refine tk1 ?_ | refine tk2 ?_ | refine tk3 ?_ | refine tk12 (fun _ => ?_) | refine tk4 ?_ | refine tk5 ?_ | refine tk6 ?_ | refine tk7 ?_ | refine tk8 ?_ | refine tk9 ?_ | refine tk10 (fun _ _ => ?_) | refine tk11 (fun _ => ?_) | refine tk13 ?_ | refine tk14 ?_); (conv => whnf))
  refine CallK.fnT hw (fun w1 hw1 => ⟨(hRF _).ok w1 hw1, hPQ _ w1 hw1⟩) ?_
  rintro x hx
  have hx' : x.ps.map pure1 = Wl := hx
  have hxl : x.ps.length = Wl.length := by rw [← hx', List.length_map]
  dsimp only [PV.hd, List.cons_append, List.nil_append]
  by_cases he : We = 0
  · rw [if_pos he]
    (conv => whnf); repeat ((first | refine tk1 ?_ | refine tk2 ?_ | refine tk3 ?_ | refine tk12 (fun _ => ?_) | refine tk4 ?_ | refine tk5 ?_ | refine tk6 ?_ | refine tk7 ?_ | refine tk8 ?_ | refine tk9 ?_ | refine tk10 (fun _ _ => ?_) | refine tk11 (fun _ => ?_) | refine tk13 ?_ | refine tk14 ?_); (conv => whnf))
    refine CallK.fnG (G := id) (Body_f x.D x.dc x.ps (by omega) (by rw [hx']; omega)) (fun w1 hw1 => (prtsOk_st RdA.ok (fun q hq => RdS.sub (Prt.rd (e := 5) hq) (by repeat' (first | exact List.Sublist.refl _ | exact List.sublist_append_right _ _ | exact List.sublist_append_left _ _ | refine List.Sublist.trans ?_ (List.sublist_append_left _ _) | apply List.Sublist.cons)))) w1 hw1) (fun dA dc hdc => ?_)
    rw [hx']
    (conv => whnf); repeat ((first | refine tk1 ?_ | refine tk2 ?_ | refine tk3 ?_ | refine tk12 (fun _ => ?_) | refine tk4 ?_ | refine tk5 ?_ | refine tk6 ?_ | refine tk7 ?_ | refine tk8 ?_ | refine tk9 ?_ | refine tk10 (fun _ _ => ?_) | refine tk11 (fun _ => ?_) | refine tk13 ?_ | refine tk14 ?_); (conv => whnf))
    refine B2S.tc (xs := (bodyOf Wl).map byteV) (l := bodyOf Wl) rfl rfl ?_
    (conv => whnf); repeat ((first | refine tk1 ?_ | refine tk2 ?_ | refine tk3 ?_ | refine tk12 (fun _ => ?_) | refine tk4 ?_ | refine tk5 ?_ | refine tk6 ?_ | refine tk7 ?_ | refine tk8 ?_ | refine tk9 ?_ | refine tk10 (fun _ _ => ?_) | refine tk11 (fun _ => ?_) | refine tk13 ?_ | refine tk14 ?_); (conv => whnf))
    exact fun w' _ => rfl
  · rw [if_neg he]
    (conv => whnf); repeat ((first | refine tk1 ?_ | refine tk2 ?_ | refine tk3 ?_ | refine tk12 (fun _ => ?_) | refine tk4 ?_ | refine tk5 ?_ | refine tk6 ?_ | refine tk7 ?_ | refine tk8 ?_ | refine tk9 ?_ | refine tk10 (fun _ _ => ?_) | refine tk11 (fun _ => ?_) | refine tk13 ?_ | refine tk14 ?_); (conv => whnf))
    exact fun w' _ => rfl
theorem alive29_f : Fn Tryz.prog gI 18 [] (.bool true) := by
  refine Fn.of tys_ok Tryz.func18 rfl (by kernel_rfl) rfl rfl ?_; intro w hG
  (conv => whnf); repeat ((first | refine tk1 ?_ | refine tk2 ?_ | refine tk3 ?_ | refine tk12 (fun _ => ?_) | refine tk4 ?_ | refine tk5 ?_ | refine tk6 ?_ | refine tk7 ?_ | refine tk8 ?_ | refine tk9 ?_ | refine tk10 (fun _ _ => ?_) | refine tk11 (fun _ => ?_) | refine tk13 ?_ | refine tk14 ?_); (conv => whnf))
  refine CallK.fnT two_f (fun _ _ => trivial) ?_
  rintro ⟨q, b1, o1, b2, o2⟩ ⟨ho1, ho2⟩
  have hR1 : ∀ H, RdA (mkC Tryz.prog gI w hG) (.obj b1 o1 :: H) (some ⟨b1, 0, none⟩) _ := ho1.rd
  have hR2 : ∀ H, RdA (mkC Tryz.prog gI w hG) (.obj b2 o2 :: H) (some ⟨b2, 0, none⟩) _ := ho2.rd
  dsimp only [TwoM.val, TwoM.ps, List.cons_append, List.nil_append, List.append_nil]
  (conv => whnf); repeat ((first | refine tk1 ?_ | refine tk2 ?_ | refine tk3 ?_ | refine tk12 (fun _ => ?_) | refine tk4 ?_ | refine tk5 ?_ | refine tk6 ?_ | refine tk7 ?_ | refine tk8 ?_ | refine tk9 ?_ | refine tk10 (fun _ _ => ?_) | refine tk11 (fun _ => ?_) | refine tk13 ?_ | refine tk14 ?_); (conv => whnf))
  refine CallK.fnEV (told_f (gI := gI) 200 none 0 [] (some ⟨q, 0, none⟩) 2 (TwoM.ps ⟨q, b1, o1, b2, o2⟩) 0 [] false 1 (by decide) (by show 2 ≤ 100; decide) (by show 2 ≤ 5000; decide) (by intro p hp; unfold TwoM.ps at hp; rcases List.mem_cons.1 hp with rfl | hp; exact Nat.le_refl _; rw [List.mem_singleton.1 hp]; exact Nat.le_refl _)) (fun w1 hw1 => ⟨fun j u hj => by simp [fcells] at hj, TwoM.prts ⟨q, b1, o1, b2, o2⟩ ⟨ho1, ho2⟩ (by unfold TwoM.ps; infer_instance) RdA.ok RdA.ok w1 hw1⟩) ?_
  rw [show toldT 200 [] (List.map pure1 (TwoM.ps ⟨q, b1, o1, b2, o2⟩)) (UInt8.toNat 0) 1 = twoT from two_told]
  have hpr := fun A cp => RParse_f (gI := gI) A cp (twoT ++ [120]) false false (by decide)
  rw [two_read] at hpr
  obtain ⟨Lx, hLx⟩ : ∃ Lx, twoT ++ [120] = Lx := ⟨_, rfl⟩
  have hLl : Lx.length ≤ 1000 := by rw [← hLx]; decide
  rw [hLx] at hpr
  (conv => whnf); repeat ((first | refine tk1 ?_ | refine tk2 ?_ | refine tk3 ?_ | refine tk12 (fun _ => ?_) | refine tk4 ?_ | refine tk5 ?_ | refine tk6 ?_ | refine tk7 ?_ | refine tk8 ?_ | refine tk9 ?_ | refine tk10 (fun _ _ => ?_) | refine tk11 (fun _ => ?_) | refine tk13 ?_ | refine tk14 ?_); (conv => whnf))
  refine CatS.at (by decide) ?_
  rw [hLx]
  (conv => whnf); repeat ((first | refine tk1 ?_ | refine tk2 ?_ | refine tk3 ?_ | refine tk12 (fun _ => ?_) | refine tk4 ?_ | refine tk5 ?_ | refine tk6 ?_ | refine tk7 ?_ | refine tk8 ?_ | refine tk9 ?_ | refine tk10 (fun _ _ => ?_) | refine tk11 (fun _ => ?_) | refine tk13 ?_ | refine tk14 ?_); (conv => whnf))
  rename_i sb scp
  refine CallK.fnT (hpr _ _) (fun w1 hw1 => ⟨RdA.ok (xs := Lx.map byteV) w1 hw1, row_cap (A := some ⟨sb, 0, none⟩) (e := 5) (sz := 1) (n' := Lx.length) (xs := Lx.map byteV) hw1⟩) ?_
  rintro ⟨fA, fc, oA, oc⟩ _
  dsimp only [ParV, ParH, repC, List.cons_append, List.nil_append, List.append_nil]
  (conv => whnf); repeat ((first | refine tk1 ?_ | refine tk2 ?_ | refine tk3 ?_ | refine tk12 (fun _ => ?_) | refine tk4 ?_ | refine tk5 ?_ | refine tk6 ?_ | refine tk7 ?_ | refine tk8 ?_ | refine tk9 ?_ | refine tk10 (fun _ _ => ?_) | refine tk11 (fun _ => ?_) | refine tk13 ?_ | refine tk14 ?_); (conv => whnf))
  refine B2S.tc (xs := ([97, 98] : List UInt8).map byteV) (l := [97, 98]) rfl rfl ?_
  (conv => whnf); repeat ((first | refine tk1 ?_ | refine tk2 ?_ | refine tk3 ?_ | refine tk12 (fun _ => ?_) | refine tk4 ?_ | refine tk5 ?_ | refine tk6 ?_ | refine tk7 ?_ | refine tk8 ?_ | refine tk9 ?_ | refine tk10 (fun _ _ => ?_) | refine tk11 (fun _ => ?_) | refine tk13 ?_ | refine tk14 ?_); (conv => whnf))
end Go.Proofs.YtnaeeklnlddcaaaGreatDoor.Vex
/- The statement ReplyBack, reckoned. -/
namespace Go.Proofs.YtnaeeklnlddcaaaGreatDoor.Vex
open Go Go.RowKit
set_option maxRecDepth 100000
set_option linter.unusedSectionVars false
variable {gI : GI} [HasMax gI] [HasUtf gI] [HasErr gI] [HasPow gI] [HasTz gI]

theorem text_le (st : Int) (F : List Fld) (ps : Prs) (cd : Nat) (minor : Int) (head last : Bool) (hF : fsum F ≤ 4000) (hst : 200 ≤ st) (hst2 : st ≤ 599) (hn : ps.length ≤ 100) (ht : total ps ≤ 5000) : (bodyOf (piecesR st F ps cd minor head last)).length ≤ 100000 := by
  rw [body_pieces, List.length_append]
  obtain ⟨ch, hch⟩ : ∃ ch, chunkB st ps cd minor = ch := ⟨_, rfl⟩
  obtain ⟨cl, hcl⟩ : ∃ cl, (last || decide (minor = 0)) = cl := ⟨_, rfl⟩
  rw [hch, hcl]
  have h1 := Lib.itoa_length_le st (by omega) (by omega)
  have h2 := Lib.itoa_length_le (total ps : Nat) (by omega) (by omega)
  have h3 := linesR_le F
  have h4 := fsum_length F
  have h5 : (codNm cd).length ≤ 20 := by unfold codNm; split <;> (try split) <;> decide
  have h6 : (if cd = 0 then [] else lineR ceN (codNm cd)).length ≤ 100 := by
    split
    · simp
    · simp [lineR, ceN]; omega
  have h7 : (lengthR st ps cd ch).length ≤ 100 := by
    unfold lengthR
    split
    · simp
    split
    · decide
    split
    · simp
    · simp [lineR, clN]; omega
  have h8 : (if cl then lineR coN closeN else []).length ≤ 100 := by cases cl <;> decide
  have hH : (headR st F ps cd ch cl).length ≤ 90000 := by
    unfold headR
    simp only [List.length_append]
    have h9 : firstR.length = 9 := rfl
    simp only [List.length_cons, List.length_nil]
    omega
  have hb1 := total_bodyR true ps (fun p hp => Nat.lt_of_le_of_lt (total_mem2 hp) (by omega))
  have hb2 : (wrapL (ps.map (·.1))).length = total (bodyR true ps) := by
    rw [← total_bodyOf]
    unfold bodyOf bodyR wrapL
    simp only [if_true]
    rw [List.flatMap_map, List.map_map]
    rfl
  have hb3 := total_bodyOf ps
  have h5c : lastC.length = 5 := rfl
  cases head
  · cases ch
    · simp only [Bool.false_eq_true, if_false]
      omega
    · simp only [Bool.false_eq_true, if_false, if_true, List.length_append]
      omega
  · simp only [if_true, List.length_nil]
    omega
theorem writeR_bad (st : Int) (F : List Fld) (ps : Prs) (cd : Nat) (minor : Int) (head last : Bool) (h : (writeR st F ps cd minor head last).e ≠ 0) : (writeR st F ps cd minor head last).l = [] ∧ (writeR st F ps cd minor head last).c = false := by
  unfold writeR at h ⊢
  split
  · rename_i h1
    rw [if_pos h1] at h
    split
    · rename_i h2
      rw [if_pos h2] at h
      exact absurd rfl h
    · exact ⟨rfl, rfl⟩
  · exact ⟨rfl, rfl⟩
theorem writeR_good (st : Int) (F : List Fld) (ps : Prs) (cd : Nat) (minor : Int) (head last : Bool) (h : (writeR st F ps cd minor head last).e = 0) : anOK st F ps cd = true ∧ (minor = 0 ∨ minor = 1) ∧ writeR st F ps cd minor head last = ⟨partsG (piecesR st F ps cd minor head last), last || decide (minor = 0), 0⟩ := by
  unfold writeR at h ⊢
  split
  · rename_i h1
    rw [if_pos h1] at h
    split
    · rename_i h2
      exact ⟨h1, h2, rfl⟩
    · rename_i h2
      rw [if_neg h2] at h
      cases h
  · rename_i h1
    rw [if_neg h1] at h
    cases h
end Go.Proofs.YtnaeeklnlddcaaaGreatDoor.Vex
/- An error's answer, and the statement PageNames, reckoned. -/
namespace Go.Proofs.YtnaeeklnlddcaaaGreatDoor.Vex
open Go Go.RowKit
set_option maxRecDepth 100000
set_option linter.unusedSectionVars false
variable {gI : GI} [HasMax gI] [HasPow gI]

def errorOf (st : Int) : Ans × Int := if st < 400 ∨ 599 < st then (ans0, 8) else (⟨st, [], [(Lib.itoa st ++ [10], false)], [], false⟩, 0)
theorem PError_f (st : Int) (a : Ans) (e : Int) (h : errorOf st = (a, e)) : FnT Tryz.prog gI 23 [.int .i64 st] (fun _ => True) (fun x => .tuple #[AnsV.val a x, .int .i64 e]) (AnsV.is a) (AnsV.hd a) AnsV.tl := by
  unfold errorOf at h
  refine FnE.of tys_ok Tryz.func23 rfl (by kernel_rfl) rfl rfl ?_; intro w hG hP
  (conv => whnf); repeat ((first | refine tk1 ?_ | refine tk2 ?_ | refine tk3 ?_ | refine tk12 (fun _ => ?_) | refine tk4 ?_ | refine tk5 ?_ | refine tk6 ?_ | refine tk7 ?_ | refine tk8 ?_ | refine tk9 ?_ | refine tk10 (fun _ _ => ?_) | refine tk11 (fun _ => ?_) | refine tk13 ?_ | refine tk14 ?_); (conv => whnf))
  rename_i b2
  have bad : (st < 400 ∨ 599 < st) → a = ans0 ∧ e = 8 := fun hh => by
    rw [if_pos hh] at h
    exact ⟨(Prod.mk.inj h).1.symm, (Prod.mk.inj h).2.symm⟩
  refine Cmp.cases (fun c1 => ?_) (fun c1 => ?_)
  · obtain ⟨rfl, rfl⟩ := bad (by omega)
    (conv => whnf); repeat ((first | refine tk1 ?_ | refine tk2 ?_ | refine tk3 ?_ | refine tk12 (fun _ => ?_) | refine tk4 ?_ | refine tk5 ?_ | refine tk6 ?_ | refine tk7 ?_ | refine tk8 ?_ | refine tk9 ?_ | refine tk10 (fun _ _ => ?_) | refine tk11 (fun _ => ?_) | refine tk13 ?_ | refine tk14 ?_); (conv => whnf))
    exact fun w' hw' => ⟨.nil, rfl, rfl, newH.into hw' (Into.nilRow (Into.nilRow Into.nil))⟩
  (conv => whnf); repeat ((first | refine tk1 ?_ | refine tk2 ?_ | refine tk3 ?_ | refine tk12 (fun _ => ?_) | refine tk4 ?_ | refine tk5 ?_ | refine tk6 ?_ | refine tk7 ?_ | refine tk8 ?_ | refine tk9 ?_ | refine tk10 (fun _ _ => ?_) | refine tk11 (fun _ => ?_) | refine tk13 ?_ | refine tk14 ?_); (conv => whnf))
  refine Cmp.cases (fun c2 => ?_) (fun c2 => ?_)
  · obtain ⟨rfl, rfl⟩ := bad (by omega)
    (conv => whnf); repeat ((first | refine tk1 ?_ | refine tk2 ?_ | refine tk3 ?_ | refine tk12 (fun _ => ?_) | refine tk4 ?_ | refine tk5 ?_ | refine tk6 ?_ | refine tk7 ?_ | refine tk8 ?_ | refine tk9 ?_ | refine tk10 (fun _ _ => ?_) | refine tk11 (fun _ => ?_) | refine tk13 ?_ | refine tk14 ?_); (conv => whnf))
    exact fun w' hw' => ⟨.nil, rfl, rfl, newH.into hw' (Into.nilRow (Into.nilRow Into.nil))⟩
  rw [if_neg (by omega)] at h
  obtain ⟨rfl, rfl⟩ := Prod.mk.inj h
  have hil := Lib.itoa_length_le st (by omega) (by omega)
  (conv => whnf); repeat ((first | refine tk1 ?_ | refine tk2 ?_ | refine tk3 ?_ | refine tk12 (fun _ => ?_) | refine tk4 ?_ | refine tk5 ?_ | refine tk6 ?_ | refine tk7 ?_ | refine tk8 ?_ | refine tk9 ?_ | refine tk10 (fun _ _ => ?_) | refine tk11 (fun _ => ?_) | refine tk13 ?_ | refine tk14 ?_); (conv => whnf))
  refine CallK.fn (Itoa_f st (by omega) (by omega)) ?_
  (conv => whnf); repeat ((first | refine tk1 ?_ | refine tk2 ?_ | refine tk3 ?_ | refine tk12 (fun _ => ?_) | refine tk4 ?_ | refine tk5 ?_ | refine tk6 ?_ | refine tk7 ?_ | refine tk8 ?_ | refine tk9 ?_ | refine tk10 (fun _ _ => ?_) | refine tk11 (fun _ => ?_) | refine tk13 ?_ | refine tk14 ?_); (conv => whnf))
  refine CatS.at (by simp only [List.length_cons, List.length_nil]; omega) ?_
  have hl2 : (Lib.itoa st ++ [10]).length ≤ 1000 := by rw [List.length_append]; simp only [List.length_cons, List.length_nil]; omega
  (conv => whnf); repeat ((first | refine tk1 ?_ | refine tk2 ?_ | refine tk3 ?_ | refine tk12 (fun _ => ?_) | refine tk4 ?_ | refine tk5 ?_ | refine tk6 ?_ | refine tk7 ?_ | refine tk8 ?_ | refine tk9 ?_ | refine tk10 (fun _ _ => ?_) | refine tk11 (fun _ => ?_) | refine tk13 ?_ | refine tk14 ?_); (conv => whnf))
  rename_i bb cc b17
  exact fun w' hw' => ⟨⟨none, 0, some ⟨b17, 0, none⟩, 1, [⟨some ⟨bb, 0, none⟩, cc, Lib.itoa st ++ [10], false⟩]⟩, rfl, rfl, newH.into hw' (Into.nilRow (Cv.into (by repeat' (first | exact Cv.nil | exact Cv.refl | refine Cv.cons (by first | exact Pick.here | exact Pick.here.skip | exact Pick.here.skip.skip | exact Pick.here.skip.skip.skip | exact Pick.here.skip.skip.skip.skip | exact Pick.here.skip.skip.skip.skip.skip | exact Pick.here.skip.skip.skip.skip.skip.skip | exact Pick.here.skip.skip.skip.skip.skip.skip.skip | exact Pick.here.skip.skip.skip.skip.skip.skip.skip.skip | exact Pick.here.skip.skip.skip.skip.skip.skip.skip.skip.skip | exact Pick.here.skip.skip.skip.skip.skip.skip.skip.skip.skip.skip | exact Pick.here.skip.skip.skip.skip.skip.skip.skip.skip.skip.skip.skip) ?_ | refine Cv.skip ?_))))⟩
end Go.Proofs.YtnaeeklnlddcaaaGreatDoor.Vex
/- The statement ReplyNames, reckoned. -/
namespace Go.Proofs.YtnaeeklnlddcaaaGreatDoor.Vex
open Go Go.RowKit
set_option maxRecDepth 100000
set_option linter.unusedSectionVars false
variable {gI : GI} [HasMax gI] [HasUtf gI] [HasErr gI] [HasPow gI] [HasTz gI]

def nA : List UInt8 := [72, 84, 84, 80, 47, 49, 46, 49, 32, 52, 48, 52, 32, 13, 10, 99, 111, 110, 116, 101, 110, 116, 45, 108, 101, 110, 103, 116, 104, 58, 32, 52, 13, 10, 13, 10, 52, 48, 52, 10]
def nB : List UInt8 := [72, 84, 84, 80, 47, 49, 46, 49, 32, 50, 48, 48, 32, 79, 75, 13, 10, 99, 111, 110, 116, 101, 110, 116, 45, 108, 101, 110, 103, 116, 104, 58, 32, 50, 13, 10, 13, 10, 97, 98, 99]
def nC : List UInt8 := [72, 84, 84, 80, 47, 49, 46, 49, 32, 50, 48, 48, 32, 13, 10, 13, 10, 97, 98, 99]
def nD : List UInt8 := [72, 84, 84, 80, 47, 49, 46, 49, 32, 50, 48, 48, 32, 79, 75, 13, 10, 99, 111, 110, 116, 101, 110, 116, 45, 108, 101, 110, 103, 116, 104, 58, 32, 50, 13, 10, 13, 10, 97]
def nE : List UInt8 := [72, 84, 84, 80, 47, 49, 46, 49, 32, 57, 57, 32, 120, 13, 10]
def nF : List UInt8 := [72, 84, 84, 80, 47, 49, 46, 48, 32, 50, 48, 48, 32, 120, 13, 10]
def nG : List UInt8 := [72, 84, 84, 80, 47, 49, 46, 49, 32, 50, 48, 48, 32, 13, 10, 99, 111, 110, 110, 101, 99, 116, 105, 111, 110, 58, 32, 99, 108, 111, 115, 101, 13, 10, 13, 10, 97]
theorem nA_told : toldT 404 [] [([52, 48, 52, 10], false)] 0 1 = nA := by decide +kernel
theorem nB_read : parseR nB false false = ⟨200, [(clN, [50])], [97, 98], false, 40, 0⟩ := by kernel_rfl
theorem nC_read : parseR nC false true = ⟨200, [], [97, 98, 99], true, 20, 0⟩ := by kernel_rfl
theorem w0_is : writeR 200 [] twoP 0 0 false false = ⟨[(nG, true), ([98], false)], true, 0⟩ := by kernel_rfl
theorem w2_is : writeR 200 [] twoP 0 2 false false = ⟨[], false, 2⟩ := by kernel_rfl
theorem w4_is : writeR 204 [] [] 1 1 false false = ⟨[], false, 8⟩ := by kernel_rfl
theorem fails_f (b : List UInt8) (en : Bool) (want : Int) (hb : b.length ≤ 1000) (h : (parseR b false en).e = want ∧ (parseR b false en).u = 0 ∧ (parseR b false en).st = 0) : Fn Tryz.prog gI 27 [str b, .bool en, .int .i64 want] (.bool true) := by
  have hpr := fun A cp => RParse_f (gI := gI) A cp b false en (by omega)
  generalize parseR b false en = R at *
  obtain ⟨rst, rfs, rl, rc, ru, re⟩ := R
  dsimp only at h
  obtain ⟨rfl, rfl, rfl⟩ := h
  refine Fn.of tys_ok Tryz.func27 rfl (by kernel_rfl) rfl rfl ?_; intro w hG
  (conv => whnf); repeat ((first | refine tk1 ?_ | refine tk2 ?_ | refine tk3 ?_ | refine tk12 (fun _ => ?_) | refine tk4 ?_ | refine tk5 ?_ | refine tk6 ?_ | refine tk7 ?_ | refine tk8 ?_ | refine tk9 ?_ | refine tk10 (fun _ _ => ?_) | refine tk11 (fun _ => ?_) | refine tk13 ?_ | refine tk14 ?_); (conv => whnf))
  rename_i sb scp
  refine CallK.fnT (hpr _ _) (fun w1 hw1 => ⟨RdA.ok (xs := b.map byteV) w1 hw1, row_cap (A := some ⟨sb, 0, none⟩) (e := 5) (sz := 1) (n' := b.length) (xs := b.map byteV) hw1⟩) ?_
  rintro ⟨fA, fc, oA, oc⟩ _
  dsimp only [ParV, ParH, repC, List.cons_append, List.nil_append, List.append_nil]
  (conv => whnf); repeat ((first | refine tk1 ?_ | refine tk2 ?_ | refine tk3 ?_ | refine tk12 (fun _ => ?_) | refine tk4 ?_ | refine tk5 ?_ | refine tk6 ?_ | refine tk7 ?_ | refine tk8 ?_ | refine tk9 ?_ | refine tk10 (fun _ _ => ?_) | refine tk11 (fun _ => ?_) | refine tk13 ?_ | refine tk14 ?_); (conv => whnf))
theorem prt_nil {ps : List Prt} (h : ps.map pure1 = []) : ps = [] := List.map_eq_nil_iff.1 h
theorem prt_one {ps : List Prt} {a : List UInt8} {x : Bool} (h : ps.map pure1 = [(a, x)]) : ∃ A c, ps = [⟨A, c, a, x⟩] := by
  cases ps with
  | nil => cases h
  | cons q r =>
    cases r with
    | nil =>
      obtain ⟨A, c, l, f⟩ := q
      have e := (List.cons.inj h).1
      cases e
      exact ⟨A, c, rfl⟩
    | cons _ _ => simp at h
theorem prt_two {ps : List Prt} {a b : List UInt8} {x y : Bool} (h : ps.map pure1 = [(a, x), (b, y)]) : ∃ A c B d, ps = [⟨A, c, a, x⟩, ⟨B, d, b, y⟩] := by
  cases ps with
  | nil => cases h
  | cons q r =>
    obtain ⟨h1, h2⟩ := List.cons.inj h
    obtain ⟨B, d, rfl⟩ := prt_one h2
    obtain ⟨A, c, l, f⟩ := q
    cases h1
    exact ⟨A, c, B, d, rfl⟩
theorem nil_prts {w : World} {A : Option Addr} : PrtsOk w A [] := ⟨fun j u hj => by simp [pcells] at hj, fun q hq => by cases hq⟩
theorem nil_flds {w : World} {A : Option Addr} : Rdw w A (fcells []) := fun j u hj => by simp [fcells] at hj
/-- What every world that meets the heap tells. -/
theorem CallK.pure {c : Ctx} {m : Bool} {f : Nat} {args : List Value} {H : Hp} {K : Value → Hp → Prop} {p : Prop} (h : ∀ w, St c H w → p) (k : p → CallK c m f args H K) : CallK c m f args H K := by
  by_cases hp : p
  · exact k hp
  · exact ⟨.inr fun w hw => absurd (h w hw) hp⟩
set_option maxHeartbeats 8000000 in
theorem ReplyNames_v : Fn Tryz.prog gI 6 [] (.bool true) := by
  have hB := fun A cp => RParse_f (gI := gI) A cp nB false false (by decide)
  rw [nB_read] at hB
  have hC := fun A cp => RParse_f (gI := gI) A cp nC false true (by decide)
  rw [nC_read] at hC
  have h2p : ∀ (q b1 : Nat) (o1 : Obj) (b2 : Nat) (o2 : Obj), ∀ p ∈ TwoM.ps ⟨q, b1, o1, b2, o2⟩, p.l.length ≤ p.cp := by
    intro q b1 o1 b2 o2 p hp
    unfold TwoM.ps at hp
    rcases List.mem_cons.1 hp with rfl | hp
    · exact Nat.le_refl _
    · rw [List.mem_singleton.1 hp]; exact Nat.le_refl _
  have hw0 := fun (q b1 : Nat) (o1 : Obj) (b2 : Nat) (o2 : Obj) => AWrite_f (gI := gI) 200 none 0 [] (some ⟨q, 0, none⟩) 2 (TwoM.ps ⟨q, b1, o1, b2, o2⟩) 0 [] false 0 false false (by decide) (by show 2 ≤ 1000; decide) (by show 2 ≤ 131072; decide) (h2p q b1 o1 b2 o2)
  have hw2 := fun (q b1 : Nat) (o1 : Obj) (b2 : Nat) (o2 : Obj) => AWrite_f (gI := gI) 200 none 0 [] (some ⟨q, 0, none⟩) 2 (TwoM.ps ⟨q, b1, o1, b2, o2⟩) 0 [] false 2 false false (by decide) (by show 2 ≤ 1000; decide) (by show 2 ≤ 131072; decide) (h2p q b1 o1 b2 o2)
  have hw4 := AWrite_f (gI := gI) 204 none 0 [] none 0 [] 1 [] false 1 false false (by decide) (by decide) (by decide) (fun p hp => by cases hp)
  have e0 : ∀ (q b1 : Nat) (o1 : Obj) (b2 : Nat) (o2 : Obj), writeR 200 [] ((TwoM.ps ⟨q, b1, o1, b2, o2⟩).map pure1) (UInt8.toNat 0) 0 false false = ⟨[(nG, true), ([98], false)], true, 0⟩ := fun _ _ _ _ _ => w0_is
  have e2 : ∀ (q b1 : Nat) (o1 : Obj) (b2 : Nat) (o2 : Obj), writeR 200 [] ((TwoM.ps ⟨q, b1, o1, b2, o2⟩).map pure1) (UInt8.toNat 0) 2 false false = ⟨[], false, 2⟩ := fun _ _ _ _ _ => w2_is
  have e4 : writeR 204 [] (List.map pure1 []) (UInt8.toNat 1) 1 false false = ⟨[], false, 8⟩ := w4_is
  simp only [e0] at hw0
  simp only [e2] at hw2
  rw [e4] at hw4
  refine Fn.of tys_ok Tryz.func6 rfl (by kernel_rfl) rfl rfl ?_; intro w hG
  (conv => whnf); repeat ((first | refine tk1 ?_ | refine tk2 ?_ | refine tk3 ?_ | refine tk12 (fun _ => ?_) | refine tk4 ?_ | refine tk5 ?_ | refine tk6 ?_ | refine tk7 ?_ | refine tk8 ?_ | refine tk9 ?_ | refine tk10 (fun _ _ => ?_) | refine tk11 (fun _ => ?_) | refine tk13 ?_ | refine tk14 ?_); (conv => whnf))
  refine CallK.fnT (PError_f 404 ⟨404, [], [([52, 48, 52, 10], false)], [], false⟩ 0 (by kernel_rfl)) (fun _ _ => trivial) ?_
  rintro ⟨afA, afc, apA, apc, aps⟩ hx1
  obtain ⟨A1, d1, rfl⟩ := prt_one (show aps.map pure1 = [([52, 48, 52, 10], false)] from hx1)
  clear hx1
  dsimp only [AnsV.val, AnsV.hd, AnsV.tl, rowsP, List.map_cons, List.map_nil, Prt.row, List.cons_append, List.nil_append, List.length_cons, List.length_nil]
  (conv => whnf); repeat ((first | refine tk1 ?_ | refine tk2 ?_ | refine tk3 ?_ | refine tk12 (fun _ => ?_) | refine tk4 ?_ | refine tk5 ?_ | refine tk6 ?_ | refine tk7 ?_ | refine tk8 ?_ | refine tk9 ?_ | refine tk10 (fun _ _ => ?_) | refine tk11 (fun _ => ?_) | refine tk13 ?_ | refine tk14 ?_); (conv => whnf))
  rename_i t1
  refine CallK.fnT two_f (fun _ _ => trivial) ?_
  rintro ⟨q, b1, o1, b2, o2⟩ ⟨ho1, ho2⟩
  have hR1 : ∀ H, RdA (mkC Tryz.prog gI w hG) (.obj b1 o1 :: H) (some ⟨b1, 0, none⟩) _ := ho1.rd
  have hR2 : ∀ H, RdA (mkC Tryz.prog gI w hG) (.obj b2 o2 :: H) (some ⟨b2, 0, none⟩) _ := ho2.rd
  dsimp only [TwoM.val, List.cons_append, List.nil_append]
  (conv => whnf); repeat ((first | refine tk1 ?_ | refine tk2 ?_ | refine tk3 ?_ | refine tk12 (fun _ => ?_) | refine tk4 ?_ | refine tk5 ?_ | refine tk6 ?_ | refine tk7 ?_ | refine tk8 ?_ | refine tk9 ?_ | refine tk10 (fun _ _ => ?_) | refine tk11 (fun _ => ?_) | refine tk13 ?_ | refine tk14 ?_); (conv => whnf))
  refine CallK.fnT (hw0 q b1 o1 b2 o2) (fun w1 hw1 => ⟨nil_flds, TwoM.prts ⟨q, b1, o1, b2, o2⟩ ⟨ho1, ho2⟩ (by unfold TwoM.ps; infer_instance) RdA.ok RdA.ok w1 hw1⟩) ?_
  rintro ⟨D0, dc0, ps0⟩ hx0
  obtain ⟨A2, d2, A3, d3, rfl⟩ := prt_two (show ps0.map pure1 = [(nG, true), ([98], false)] from hx0)
  clear hx0
  dsimp only [PV.hd, TwoM.ps, rowsP, pcells, List.map_cons, List.map_nil, Prt.row, List.cons_append, List.nil_append, List.length_cons, List.length_nil]
  (conv => whnf); repeat ((first | refine tk1 ?_ | refine tk2 ?_ | refine tk3 ?_ | refine tk12 (fun _ => ?_) | refine tk4 ?_ | refine tk5 ?_ | refine tk6 ?_ | refine tk7 ?_ | refine tk8 ?_ | refine tk9 ?_ | refine tk10 (fun _ _ => ?_) | refine tk11 (fun _ => ?_) | refine tk13 ?_ | refine tk14 ?_); (conv => whnf))
  rename_i bb
  refine Oth.same tys_ok rfl rfl rfl (fun ob hob => ?_)
  have hRb : ∀ H, RdA (mkC Tryz.prog gI w hG) (.obj bb ob :: H) (some ⟨bb, 0, none⟩) _ := hob.rd
  (conv => whnf); repeat ((first | refine tk1 ?_ | refine tk2 ?_ | refine tk3 ?_ | refine tk12 (fun _ => ?_) | refine tk4 ?_ | refine tk5 ?_ | refine tk6 ?_ | refine tk7 ?_ | refine tk8 ?_ | refine tk9 ?_ | refine tk10 (fun _ _ => ?_) | refine tk11 (fun _ => ?_) | refine tk13 ?_ | refine tk14 ?_); (conv => whnf))
  refine CallK.fnT (hB (some ⟨bb, 0, none⟩) 41) (fun w1 hw1 => ⟨RdA.ok (xs := nB.map byteV) w1 hw1, by decide⟩) ?_
  rintro ⟨rfA, rfc, roA, roc⟩ _
  dsimp only [ParV, ParH, repC, List.cons_append, List.nil_append]
  (conv => whnf); repeat ((first | refine tk1 ?_ | refine tk2 ?_ | refine tk3 ?_ | refine tk12 (fun _ => ?_) | refine tk4 ?_ | refine tk5 ?_ | refine tk6 ?_ | refine tk7 ?_ | refine tk8 ?_ | refine tk9 ?_ | refine tk10 (fun _ _ => ?_) | refine tk11 (fun _ => ?_) | refine tk13 ?_ | refine tk14 ?_); (conv => whnf))
  rename_i t6 bc
  refine Oth.same tys_ok rfl rfl rfl (fun oc hoc => ?_)
  have hRc : ∀ H, RdA (mkC Tryz.prog gI w hG) (.obj bc oc :: H) (some ⟨bc, 0, none⟩) _ := hoc.rd
  (conv => whnf); repeat ((first | refine tk1 ?_ | refine tk2 ?_ | refine tk3 ?_ | refine tk12 (fun _ => ?_) | refine tk4 ?_ | refine tk5 ?_ | refine tk6 ?_ | refine tk7 ?_ | refine tk8 ?_ | refine tk9 ?_ | refine tk10 (fun _ _ => ?_) | refine tk11 (fun _ => ?_) | refine tk13 ?_ | refine tk14 ?_); (conv => whnf))
  refine CallK.fnT (hC (some ⟨bc, 0, none⟩) 20) (fun w1 hw1 => ⟨RdA.ok (xs := nC.map byteV) w1 hw1, by decide⟩) ?_
  rintro ⟨sfA, sfc, soA, soc⟩ _
  dsimp only [ParV, ParH, repC, List.cons_append, List.nil_append]
  (conv => whnf); repeat ((first | refine tk1 ?_ | refine tk2 ?_ | refine tk3 ?_ | refine tk12 (fun _ => ?_) | refine tk4 ?_ | refine tk5 ?_ | refine tk6 ?_ | refine tk7 ?_ | refine tk8 ?_ | refine tk9 ?_ | refine tk10 (fun _ _ => ?_) | refine tk11 (fun _ => ?_) | refine tk13 ?_ | refine tk14 ?_); (conv => whnf))
  rename_i t9
  refine CallK.fnT two_f (fun _ _ => trivial) ?_
  rintro ⟨q', b1', o1', b2', o2'⟩ ⟨ho1', ho2'⟩
  have hR1' : ∀ H, RdA (mkC Tryz.prog gI w hG) (.obj b1' o1' :: H) (some ⟨b1', 0, none⟩) _ := ho1'.rd
  have hR2' : ∀ H, RdA (mkC Tryz.prog gI w hG) (.obj b2' o2' :: H) (some ⟨b2', 0, none⟩) _ := ho2'.rd
  dsimp only [TwoM.val, List.cons_append, List.nil_append]
  (conv => whnf); repeat ((first | refine tk1 ?_ | refine tk2 ?_ | refine tk3 ?_ | refine tk12 (fun _ => ?_) | refine tk4 ?_ | refine tk5 ?_ | refine tk6 ?_ | refine tk7 ?_ | refine tk8 ?_ | refine tk9 ?_ | refine tk10 (fun _ _ => ?_) | refine tk11 (fun _ => ?_) | refine tk13 ?_ | refine tk14 ?_); (conv => whnf))
  refine CallK.fnT (hw2 q' b1' o1' b2' o2') (fun w1 hw1 => ⟨nil_flds, TwoM.prts ⟨q', b1', o1', b2', o2'⟩ ⟨ho1', ho2'⟩ (by unfold TwoM.ps; infer_instance) RdA.ok RdA.ok w1 hw1⟩) ?_
  rintro ⟨D2, dc2, ps2⟩ hx2
  obtain rfl := prt_nil (show ps2.map pure1 = [] from hx2)
  dsimp only [PV.hd, TwoM.ps, rowsP, pcells, List.map_nil, List.cons_append, List.nil_append, List.length_nil]
  (conv => whnf); repeat ((first | refine tk1 ?_ | refine tk2 ?_ | refine tk3 ?_ | refine tk12 (fun _ => ?_) | refine tk4 ?_ | refine tk5 ?_ | refine tk6 ?_ | refine tk7 ?_ | refine tk8 ?_ | refine tk9 ?_ | refine tk10 (fun _ _ => ?_) | refine tk11 (fun _ => ?_) | refine tk13 ?_ | refine tk14 ?_); (conv => whnf))
  refine CallK.fnT hw4 (fun w1 hw1 => ⟨nil_flds, nil_prts⟩) ?_
  rintro ⟨D4, dc4, ps4⟩ hx4
  obtain rfl := prt_nil (show ps4.map pure1 = [] from hx4)
  dsimp only [PV.hd, rowsP, pcells, List.map_nil, List.cons_append, List.nil_append, List.length_nil, List.append_nil]
  (conv => whnf); repeat ((first | refine tk1 ?_ | refine tk2 ?_ | refine tk3 ?_ | refine tk12 (fun _ => ?_) | refine tk4 ?_ | refine tk5 ?_ | refine tk6 ?_ | refine tk7 ?_ | refine tk8 ?_ | refine tk9 ?_ | refine tk10 (fun _ _ => ?_) | refine tk11 (fun _ => ?_) | refine tk13 ?_ | refine tk14 ?_); (conv => whnf))
  simp only [List.map_cons, List.map_nil, Prt.row, List.cons_append, List.nil_append, List.append_nil]
  refine CallK.pure (p := 4 ≤ d1) (fun w1 hw1 => row_cap (A := A1) (e := 5) (sz := 1) (n' := 4) (xs := ([52, 48, 52, 10] : List UInt8).map byteV) hw1) (fun hd1 => ?_)
  refine CallK.fnEV (told_f (gI := gI) 404 afA afc [] apA apc [⟨A1, d1, [52, 48, 52, 10], false⟩] 0 [] false 1 (by decide) (by show 1 ≤ 100; decide) (by show 4 ≤ 5000; decide) (fun p hp => by rw [List.mem_singleton.1 hp]; exact hd1)) (fun w1 hw1 => ⟨nil_flds, prtsOk_st RdA.ok (fun p hp => by rw [List.mem_singleton.1 hp]; exact RdA.ok (xs := ([52, 48, 52, 10] : List UInt8).map byteV)) w1 hw1⟩) ?_
  rw [show toldT 404 [] (List.map pure1 [⟨A1, d1, [52, 48, 52, 10], false⟩]) (UInt8.toNat 0) 1 = nA from nA_told]
  have f1 := fails_f (gI := gI) nD true 10 (by decide) (by decide +kernel)
  have f2 := fails_f (gI := gI) nE false 3 (by decide) (by decide +kernel)
  have f3 := fails_f (gI := gI) nF false 3 (by decide) (by decide +kernel)
  have f4 := fails_f (gI := gI) nC false 10 (by decide) (by decide +kernel)
  (conv => whnf); repeat ((first | refine tk1 ?_ | refine tk2 ?_ | refine tk3 ?_ | refine tk12 (fun _ => ?_) | refine tk4 ?_ | refine tk5 ?_ | refine tk6 ?_ | refine tk7 ?_ | refine tk8 ?_ | refine tk9 ?_ | refine tk10 (fun _ _ => ?_) | refine tk11 (fun _ => ?_) | refine tk13 ?_ | refine tk14 ?_); (conv => whnf))
  refine IdxA.tc (xs := [.slice A2 nG.length d2, .bool true, .slice A3 1 d3, .bool false]) (by simp) (by omega) (by omega) ?_
  (conv => whnf); repeat ((first | refine tk1 ?_ | refine tk2 ?_ | refine tk3 ?_ | refine tk12 (fun _ => ?_) | refine tk4 ?_ | refine tk5 ?_ | refine tk6 ?_ | refine tk7 ?_ | refine tk8 ?_ | refine tk9 ?_ | refine tk10 (fun _ _ => ?_) | refine tk11 (fun _ => ?_) | refine tk13 ?_ | refine tk14 ?_); (conv => whnf))
  refine Ld.taF (xs := [.slice A2 nG.length d2, .bool true, .slice A3 1 d3, .bool false]) (v := .bool true) rfl ?_
  (conv => whnf); repeat ((first | refine tk1 ?_ | refine tk2 ?_ | refine tk3 ?_ | refine tk12 (fun _ => ?_) | refine tk4 ?_ | refine tk5 ?_ | refine tk6 ?_ | refine tk7 ?_ | refine tk8 ?_ | refine tk9 ?_ | refine tk10 (fun _ _ => ?_) | refine tk11 (fun _ => ?_) | refine tk13 ?_ | refine tk14 ?_); (conv => whnf))
  refine IdxA.tc (xs := [.slice A2 nG.length d2, .bool true, .slice A3 1 d3, .bool false]) (by simp) (by omega) (by omega) ?_
  (conv => whnf); repeat ((first | refine tk1 ?_ | refine tk2 ?_ | refine tk3 ?_ | refine tk12 (fun _ => ?_) | refine tk4 ?_ | refine tk5 ?_ | refine tk6 ?_ | refine tk7 ?_ | refine tk8 ?_ | refine tk9 ?_ | refine tk10 (fun _ _ => ?_) | refine tk11 (fun _ => ?_) | refine tk13 ?_ | refine tk14 ?_); (conv => whnf))
  refine Ld.taF (xs := [.slice A2 nG.length d2, .bool true, .slice A3 1 d3, .bool false]) (v := .slice A2 nG.length d2) rfl ?_
  (conv => whnf); repeat ((first | refine tk1 ?_ | refine tk2 ?_ | refine tk3 ?_ | refine tk12 (fun _ => ?_) | refine tk4 ?_ | refine tk5 ?_ | refine tk6 ?_ | refine tk7 ?_ | refine tk8 ?_ | refine tk9 ?_ | refine tk10 (fun _ _ => ?_) | refine tk11 (fun _ => ?_) | refine tk13 ?_ | refine tk14 ?_); (conv => whnf))
  refine B2S.tc (xs := nG.map byteV) (l := nG) rfl rfl ?_
  (conv => whnf); repeat ((first | refine tk1 ?_ | refine tk2 ?_ | refine tk3 ?_ | refine tk12 (fun _ => ?_) | refine tk4 ?_ | refine tk5 ?_ | refine tk6 ?_ | refine tk7 ?_ | refine tk8 ?_ | refine tk9 ?_ | refine tk10 (fun _ _ => ?_) | refine tk11 (fun _ => ?_) | refine tk13 ?_ | refine tk14 ?_); (conv => whnf))
  refine IdxA.tc (xs := [.slice A2 nG.length d2, .bool true, .slice A3 1 d3, .bool false]) (by simp) (by omega) (by omega) ?_
  (conv => whnf); repeat ((first | refine tk1 ?_ | refine tk2 ?_ | refine tk3 ?_ | refine tk12 (fun _ => ?_) | refine tk4 ?_ | refine tk5 ?_ | refine tk6 ?_ | refine tk7 ?_ | refine tk8 ?_ | refine tk9 ?_ | refine tk10 (fun _ _ => ?_) | refine tk11 (fun _ => ?_) | refine tk13 ?_ | refine tk14 ?_); (conv => whnf))
  refine Ld.taF (xs := [.slice A2 nG.length d2, .bool true, .slice A3 1 d3, .bool false]) (v := .slice A3 1 d3) rfl ?_
  (conv => whnf); repeat ((first | refine tk1 ?_ | refine tk2 ?_ | refine tk3 ?_ | refine tk12 (fun _ => ?_) | refine tk4 ?_ | refine tk5 ?_ | refine tk6 ?_ | refine tk7 ?_ | refine tk8 ?_ | refine tk9 ?_ | refine tk10 (fun _ _ => ?_) | refine tk11 (fun _ => ?_) | refine tk13 ?_ | refine tk14 ?_); (conv => whnf))
  refine B2S.tc (xs := ([98] : List UInt8).map byteV) (l := [98]) rfl rfl ?_
  (conv => whnf); repeat ((first | refine tk1 ?_ | refine tk2 ?_ | refine tk3 ?_ | refine tk12 (fun _ => ?_) | refine tk4 ?_ | refine tk5 ?_ | refine tk6 ?_ | refine tk7 ?_ | refine tk8 ?_ | refine tk9 ?_ | refine tk10 (fun _ _ => ?_) | refine tk11 (fun _ => ?_) | refine tk13 ?_ | refine tk14 ?_); (conv => whnf))
  refine B2S.tc (xs := ([97, 98] : List UInt8).map byteV) (l := [97, 98]) rfl rfl ?_
  (conv => whnf); repeat ((first | refine tk1 ?_ | refine tk2 ?_ | refine tk3 ?_ | refine tk12 (fun _ => ?_) | refine tk4 ?_ | refine tk5 ?_ | refine tk6 ?_ | refine tk7 ?_ | refine tk8 ?_ | refine tk9 ?_ | refine tk10 (fun _ _ => ?_) | refine tk11 (fun _ => ?_) | refine tk13 ?_ | refine tk14 ?_); (conv => whnf))
  refine B2S.tc (xs := ([97, 98, 99] : List UInt8).map byteV) (l := [97, 98, 99]) rfl rfl ?_
  (conv => whnf); repeat ((first | refine tk1 ?_ | refine tk2 ?_ | refine tk3 ?_ | refine tk12 (fun _ => ?_) | refine tk4 ?_ | refine tk5 ?_ | refine tk6 ?_ | refine tk7 ?_ | refine tk8 ?_ | refine tk9 ?_ | refine tk10 (fun _ _ => ?_) | refine tk11 (fun _ => ?_) | refine tk13 ?_ | refine tk14 ?_); (conv => whnf))
  refine CallK.fn alive29_f ?_
  (conv => whnf); repeat ((first | refine tk1 ?_ | refine tk2 ?_ | refine tk3 ?_ | refine tk12 (fun _ => ?_) | refine tk4 ?_ | refine tk5 ?_ | refine tk6 ?_ | refine tk7 ?_ | refine tk8 ?_ | refine tk9 ?_ | refine tk10 (fun _ _ => ?_) | refine tk11 (fun _ => ?_) | refine tk13 ?_ | refine tk14 ?_); (conv => whnf))
  refine CallK.fn f1 ?_
  (conv => whnf); repeat ((first | refine tk1 ?_ | refine tk2 ?_ | refine tk3 ?_ | refine tk12 (fun _ => ?_) | refine tk4 ?_ | refine tk5 ?_ | refine tk6 ?_ | refine tk7 ?_ | refine tk8 ?_ | refine tk9 ?_ | refine tk10 (fun _ _ => ?_) | refine tk11 (fun _ => ?_) | refine tk13 ?_ | refine tk14 ?_); (conv => whnf))
  refine CallK.fn f2 ?_
  (conv => whnf); repeat ((first | refine tk1 ?_ | refine tk2 ?_ | refine tk3 ?_ | refine tk12 (fun _ => ?_) | refine tk4 ?_ | refine tk5 ?_ | refine tk6 ?_ | refine tk7 ?_ | refine tk8 ?_ | refine tk9 ?_ | refine tk10 (fun _ _ => ?_) | refine tk11 (fun _ => ?_) | refine tk13 ?_ | refine tk14 ?_); (conv => whnf))
  refine CallK.fn f3 ?_
  (conv => whnf); repeat ((first | refine tk1 ?_ | refine tk2 ?_ | refine tk3 ?_ | refine tk12 (fun _ => ?_) | refine tk4 ?_ | refine tk5 ?_ | refine tk6 ?_ | refine tk7 ?_ | refine tk8 ?_ | refine tk9 ?_ | refine tk10 (fun _ _ => ?_) | refine tk11 (fun _ => ?_) | refine tk13 ?_ | refine tk14 ?_); (conv => whnf))
  refine CallK.fn f4 ?_
  (conv => whnf); repeat ((first | refine tk1 ?_ | refine tk2 ?_ | refine tk3 ?_ | refine tk12 (fun _ => ?_) | refine tk4 ?_ | refine tk5 ?_ | refine tk6 ?_ | refine tk7 ?_ | refine tk8 ?_ | refine tk9 ?_ | refine tk10 (fun _ _ => ?_) | refine tk11 (fun _ => ?_) | refine tk13 ?_ | refine tk14 ?_); (conv => whnf))
end Go.Proofs.YtnaeeklnlddcaaaGreatDoor.Vex
namespace Go.Proofs.YtnaeeklnlddcaaaGreatDoor.replyNames
open Go.ChangeShapes Go.WideShapes Go.ChangeAt Go.RowKit

set_option maxRecDepth 100000 in
theorem contract (H : Type) (enc : TypeId × Value → H) (W : World) (base : Nat) (args : Array Value) (ds gs : List (DataW H)) (before : List MemPlace)
    (hval : ∀ (j : Nat) t v, Tryz.f6.params[j]? = some t → args[j]? = some v → Value.okWide Tryz.prog W .any base t v)
    (hW : DataW.Whole enc Tryz.prog Tryz.f6.params.toList Rows.replyNamesSpec.vars false W args.toList ds gs before) (hL : laidMetH Tryz.prog Rows.replyNamesRow.laid W) (hS : W.ShapedOpen Tryz.prog) :
    Calls Tryz.prog 6 args W fun e W' => ∃ v, e = .returned v ∧ Rows.replyNamesSpec.post enc Tryz.prog Tryz.f6 false true false false W args v W' := by
  have hW' := hW
  obtain ⟨p, q, hA, hV, rfl, hfz, hnd⟩ := hW
  rw [Tryz.params6] at hA hval
  obtain ⟨hargs, rfl, rfl⟩ := trodAll_nil hA
  obtain rfl : args = #[] := by rw [← Array.toList_inj]; exact hargs
  obtain ⟨rfl, rfl⟩ := trodVars_none hV
  have hG := Vex.gV_of hL hS (by kernel_rfl) (List.mem_of_getElem? (i := 5) rfl) (List.mem_of_getElem? (i := 4) rfl) (List.mem_of_getElem? (i := 2) rfl) (List.mem_of_getElem? (i := 6) rfl) (List.mem_of_getElem? (i := 3) rfl) (List.mem_of_getElem? (i := 1) rfl)
  refine (Vex.done_F Vex.ReplyNames_v hG).mono fun e W' ⟨he, hb⟩ => ?_
  exact ⟨_, he, law_post laidOut rfl hW' (by kernel_rfl) (by kernel_rfl) Tryz.underlying4 (by kernel_rfl) hb⟩

abbrev start : Array Value := #[]
theorem laid_met (os : Os) : laidMet Tryz.prog Rows.replyNamesRow.laid ((laidWorld os start).forCall (fun _ _ => 0) ⟨#[], start, []⟩).memory :=
  laidMet_of_run' 8 (by kernel_rfl) (by kernel_rfl)
theorem reads (os : Os) {H : Type} (enc : TypeId × Value → H) : ∃ places, DataW.whole enc Tryz.prog ((laidWorld os start).forCall (fun _ _ => 0) ⟨#[], start, []⟩).memory Tryz.f6.params.toList Rows.replyNamesSpec.vars false start.toList 8 = some ([], [], places) :=
  ⟨[], by kernel_rfl⟩

set_option maxRecDepth 100000 in
theorem lifted (os : Os) (started : os.Started) (H : Type) (enc : TypeId × Value → H) (F : Stop.Interp) :
    ReturnsInHanded {} Tryz.checked os 6 .any ((OpenSpec.ofChange Rows.replyNamesSpec).preRow enc Tryz.prog Tryz.f6 Rows.replyNamesRow.domain false Rows.replyNamesRow.laid) (((OpenSpec.ofChange Rows.replyNamesSpec).at F).post enc Tryz.prog Tryz.f6 false true false false) := by
  obtain ⟨places, hx⟩ := reads os enc
  refine returnsInHanded_of_row (C := Tryz.checked) (s := OpenSpec.ofChange Rows.replyNamesSpec) own started (by kernel_rfl) Tryz.func6
    (witness_row_atRef (enc := enc) (C := Tryz.checked) false (laidWorld os start) start rfl (by kernel_rfl) (by kernel_rfl) (by kernel_rfl)
      (OpenSpec.preRow_of_cond 8 hx (by kernel_rfl) (fun k hk => by cases hk) (by kernel_rfl) (laid_met os))) ?_
  intro W base args ds gs before hval hW _ _ _ hL hS _
  exact contract H enc W base args ds gs before hval hW hL hS

theorem said : Rows.ReplyNamesSaid :=
  OpenClaim.holds_of_cond 6 Tryz.f6 rfl rfl rfl rfl rfl rfl rfl ⟨rfl, rfl, rfl, rfl, rfl⟩ rfl rfl rfl rfl rfl (by kernel_rfl) Tryz.func6 (by kernel_rfl)
    (of_decide_eq_true (by kernel_rfl)) (by unfold Func.isWrapper; first | (rw [if_pos (by decide +kernel)]; kernel_rfl) | (rw [if_neg (by decide +kernel)]; exact ⟨rfl, rfl⟩))
    (fun os started H enc _ F => by rw [OpenClaim.pre_eq_preRow]; exact lifted os started H enc F)

/-- No parameter wants a stand-in; the program's own looks. -/
theorem plain (f : FuncId) (fn : Func) (hf : Tryz.pinned.checked.prog.funcNamed "bellows/bellowslaw29.ReplyNames" = some f) (hfn : Tryz.pinned.checked.prog.funcs[f]? = some fn) :
    true = Tryz.pinned.checked.prog.looks [] ∧ ∀ (j : Nat) t, fn.params[j]? = some t → Tryz.pinned.checked.prog.wantsStandIn t = false := by
  obtain rfl : f = 6 := Option.some.inj ((show Tryz.prog.funcNamed "bellows/bellowslaw29.ReplyNames" = some 6 by kernel_rfl).symm.trans hf) |>.symm
  obtain rfl : fn = Tryz.f6 := (Option.some.inj (Tryz.func6.symm.trans hfn)).symm
  refine ⟨by kernel_rfl, fun j t ht => ?_⟩
  have hall : (Tryz.f6.params.toList.all fun t => !Tryz.prog.wantsStandIn t) = true := by kernel_rfl
  have := List.all_eq_true.1 hall t (Array.mem_toList_iff.2 (Array.mem_of_getElem? ht))
  exact (show Tryz.prog.wantsStandIn t = false by simpa using this)

theorem proved : Rows.ReplyNamesCardSaid :=
  Claim7.holds_tied_plain_at .later [] _ _ _ _ said (fun _ h => by cases h) (by kernel_rfl) (fun _ h => by cases h) replyNames_row_tie rfl ⟨rfl, rfl⟩ (by kernel_rfl) rfl plain (by kernel_rfl)
end Go.Proofs.YtnaeeklnlddcaaaGreatDoor.replyNames
