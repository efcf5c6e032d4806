/- The statement ReplyFlushes: a flush stands behind a whole chunk: what comes up to it is the head and chunks that are read whole, and their bytes are those of the parts up to that flush; any answer, and which flush. -/
import Derived.Test.YtnaeeklnlddcaaaGreatDoorMReplyFlushes5
/- The program's functions on answers as bytes, reckoned: wrap. -/
namespace Go.Proofs.YtnaeeklnlddcaaaGreatDoor.Vex
open Go Go.RowKit
set_option maxRecDepth 100000
set_option linter.unusedSectionVars false
variable {gI : GI} [HasTz gI]

section
variable {c : Ctx} {T : Ty} {H : Hp} {fr : Fr} {dst : Option Nat} {ty : TypeId} {pos : String} {after : Array Edge} {gd : Option (Nat × Bool)}
/-- A slice's own elements, all of them, with no room behind. -/
theorem OthP.slcAll {t e n cp : Nat} {x lo hi mx : Operand} {A : Option Addr} {k1 k2 k3 : IntKind} {z : Int} {K : Value → Prop} (hT : TOk c.P T) (ht : (lookT T t).d = .slice e) (he : (lookT T e).d ≠ .invalid)
    (hx : evK fr x fun v => v = .slice A n cp) (hl : evK fr lo fun v => v = .int k1 0) (hh : evK fr hi fun v => v = .int k2 z) (hm : evK fr mx fun v => v = .int k3 z) (hz : z = n) (hcp : n ≤ cp) (kk : K (.slice A n n)) :
    OthP c ⟨dst, .slice t x (some lo) (some hi) (some mx), ty, pos, after, gd⟩ fr H K := ⟨⟨_, kk, fun w _ => by
  rw [evK_eq] at hx hl hh hm
  subst hz
  have hu := (lookT_ok hT (t := t) (by rw [ht]; intro h; cases h)).1
  rw [ht] at hu
  have hse := run_sizeOf (lookT_ok hT he) w
  have hA : A.map (·.add (0 * (lookT T e).size)) = A := by
    cases A with
    | none => rfl
    | some a =>
      simp only [Option.map_some, Nat.zero_mul, Option.some.injEq]
      unfold Addr.add
      split <;> simp_all
  rw [Nat.zero_mul] at hA
  generalize (act fr).eval = ρ at *
  simp [execOp, hx, hl, hh, hm, Instr.sliceAt, Instr.slice, Instr.sliceBounds, Instr.sliceBound, asIntOf, Sem.run_bind, run_underlying hu, hse, hcp, hA]⟩⟩
end
theorem AWrap_f (A : Option Addr) (cp : Nat) (b : List UInt8) (hb : b.length ≤ 131072) (hcp : b.length ≤ cp) : FnS Tryz.prog gI 46 [.slice A b.length cp] [(A, b.map byteV)] 5 1 (wrapG b).length ((wrapG b).map byteV) := by
  have hw := fun XA Xc => Wrap_f (gI := gI) XA Xc b (by omega)
  have e1 : wrapV b = wrapG b := if_pos hb
  have e2 : wrapE b = 0 := if_pos hb
  have hwl := wrapG_long b (by omega)
  rw [e1, e2] at hw
  refine FnE.ofX tys_ok Tryz.func46 rfl (by kernel_rfl) rfl rfl ?_; intro w hG hP
  have hA : ∀ H, RdA (mkC Tryz.prog gI w hG) H A (b.map byteV) := fun H => ⟨hP.1.now⟩
  (conv => whnf); repeat ((first | refine tk1 ?_ | refine tk2 ?_ | refine tk3 ?_ | refine tk12 (fun _ => ?_) | refine tk4 ?_ | refine tk5 ?_ | refine tk6 ?_ | refine tk7 ?_ | refine tk8 ?_ | refine tk9 ?_ | refine tk10 (fun _ _ => ?_) | refine tk11 (fun _ => ?_) | refine tk13 ?_ | refine tk14 ?_); (conv => whnf))
  refine CallK.inl tys_ok Tryz.func76 rfl (by kernel_rfl) rfl rfl ?_
  (conv => whnf); repeat ((first | refine tk1 ?_ | refine tk2 ?_ | refine tk3 ?_ | refine tk12 (fun _ => ?_) | refine tk4 ?_ | refine tk5 ?_ | refine tk6 ?_ | refine tk7 ?_ | refine tk8 ?_ | refine tk9 ?_ | refine tk10 (fun _ _ => ?_) | refine tk11 (fun _ => ?_) | refine tk13 ?_ | refine tk14 ?_); (conv => whnf))
  rename_i bo bs bn
  refine RngS.go tys_ok rfl Tryz.func119 rfl (by kernel_rfl) ?_
  intro fno D
  generalize hR : ready fno _ _ _ _ D = R
  have yl : ∀ (A0 : Option Addr) (c0 : Nat) (K : Value → Hp → Prop), (∀ A' cp', K (.bool true) [.obj (D + 1) (.loop R), .row (.slice A' (wrapG b).length cp') 5 1 (wrapG b).length ((wrapG b).map byteV), .obj D (.deferred (some [])), .box bn [.int .i64 131072] 3, .box bs [.slice A b.length cp] 51, .box bo [.slice A' (wrapG b).length cp'] 51]) →
      YldK (mkC Tryz.prog gI w hG) (D + 1) [.slice A b.length b.length] [.obj (D + 1) (.loop R), .row (.slice A0 ([] : List UInt8).length c0) 5 1 ([] : List UInt8).length (([] : List UInt8).map byteV), .obj D (.deferred (some [])), .box bn [.int .i64 131072] 3, .box bs [.slice A b.length cp] 51, .box bo [.slice A0 ([] : List UInt8).length c0] 51] K := by
    intro A0 c0 K hk
    subst hR
    refine YldK.run tys_ok .here rfl rfl rfl rfl ?_
    (conv => whnf); repeat ((first | refine tk1 ?_ | refine tk2 ?_ | refine tk3 ?_ | refine tk12 (fun _ => ?_) | refine tk4 ?_ | refine tk5 ?_ | refine tk6 ?_ | refine tk7 ?_ | refine tk8 ?_ | refine tk9 ?_ | refine tk10 (fun _ _ => ?_) | refine tk11 (fun _ => ?_) | refine tk13 ?_ | refine tk14 ?_); (conv => whnf))
    refine ⟨List.Perm.refl _, ?_⟩
    (conv => whnf); repeat ((first | refine tk1 ?_ | refine tk2 ?_ | refine tk3 ?_ | refine tk12 (fun _ => ?_) | refine tk4 ?_ | refine tk5 ?_ | refine tk6 ?_ | refine tk7 ?_ | refine tk8 ?_ | refine tk9 ?_ | refine tk10 (fun _ _ => ?_) | refine tk11 (fun _ => ?_) | refine tk13 ?_ | refine tk14 ?_); (conv => whnf))
    refine CallK.fnT (hw A b.length) (fun w1 hw1 => ⟨(hA _).ok w1 hw1, trivial⟩) ?_
    rintro ⟨vA, vc⟩ _
    dsimp only [List.cons_append, List.nil_append, List.append_nil]
    (conv => whnf); repeat ((first | refine tk1 ?_ | refine tk2 ?_ | refine tk3 ?_ | refine tk12 (fun _ => ?_) | refine tk4 ?_ | refine tk5 ?_ | refine tk6 ?_ | refine tk7 ?_ | refine tk8 ?_ | refine tk9 ?_ | refine tk10 (fun _ _ => ?_) | refine tk11 (fun _ => ?_) | refine tk13 ?_ | refine tk14 ?_); (conv => whnf))
    refine AppS.tc (m := (wrapG b).length) (news := (wrapG b).map byteV) SrcK.tc (by simp) (bytes_one _) (by decide) (by simp; omega) (by simp; omega) (zs := (wrapG b).map byteV) (by simp) (fun A' cp' => ?_)
    rw [List.length_nil, Nat.zero_add]
    (conv => whnf); repeat ((first | refine tk1 ?_ | refine tk2 ?_ | refine tk3 ?_ | refine tk12 (fun _ => ?_) | refine tk4 ?_ | refine tk5 ?_ | refine tk6 ?_ | refine tk7 ?_ | refine tk8 ?_ | refine tk9 ?_ | refine tk10 (fun _ _ => ?_) | refine tk11 (fun _ => ?_) | refine tk13 ?_ | refine tk14 ?_); (conv => whnf))
    exact ⟨_, _, (by first | exact Pick.here | exact Pick.here.skip | exact Pick.here.skip.skip | exact Pick.here.skip.skip.skip | exact Pick.here.skip.skip.skip.skip | exact Pick.here.skip.skip.skip.skip.skip | exact Pick.here.skip.skip.skip.skip.skip.skip | exact Pick.here.skip.skip.skip.skip.skip.skip.skip | exact Pick.here.skip.skip.skip.skip.skip.skip.skip.skip | exact Pick.here.skip.skip.skip.skip.skip.skip.skip.skip.skip | exact Pick.here.skip.skip.skip.skip.skip.skip.skip.skip.skip.skip | exact Pick.here.skip.skip.skip.skip.skip.skip.skip.skip.skip.skip.skip), (by repeat' (first | exact List.Sublist.refl _ | exact List.nil_sublist _ | apply List.Sublist.cons_cons | apply List.Sublist.cons)), hk A' cp'⟩
  (conv => whnf); repeat ((first | refine tk1 ?_ | refine tk2 ?_ | refine tk3 ?_ | refine tk12 (fun _ => ?_) | refine tk4 ?_ | refine tk5 ?_ | refine tk6 ?_ | refine tk7 ?_ | refine tk8 ?_ | refine tk9 ?_ | refine tk10 (fun _ _ => ?_) | refine tk11 (fun _ => ?_) | refine tk13 ?_ | refine tk14 ?_); (conv => whnf))
  refine LoopS.nilRow 5 1 ?_
  refine LoopS.lpT tys_ok (fun (x : Nat × List UInt8 × Option Addr × Nat) u => [.func (.yield (D + 1)) ⟨[]⟩ ⟨[]⟩, .pointer (some ⟨bs, 0, none⟩), .pointer (some ⟨bn, 0, none⟩), u 3, .int .i64 (131072 * (x.1 : Nat)), u 5, u 6, u 7, u 8, u 9, u 10, u 11, u 12, u 13, u 14, u 15, u 16, u 17, u 18, u 19, u 20, u 21, u 22, u 23, u 24, u 25, u 26, u 27, u 28, u 29, u 30])
    (fun x => [.obj (D + 1) (.loop R), .row (.slice x.2.2.1 x.2.1.length x.2.2.2) 5 1 x.2.1.length (x.2.1.map byteV), .obj D (.deferred (some [])), .box bn [.int .i64 131072] 3, .box bs [.slice A b.length cp] 51, .box bo [.slice x.2.2.1 x.2.1.length x.2.2.2] 51]) (fun x => (x.1 = 0 ∧ x.2.1 = []) ∨ (x.1 = 1 ∧ x.2.1 = wrapG b)) (fun x => 1 - x.1) (0, [], none, 0) (.inl ⟨rfl, rfl⟩) rfl (Cv.into (by (try dsimp only); repeat' (first | with_reducible exact Cv.refl | with_reducible exact Cv.left | with_reducible exact Cv.right | with_reducible exact Cv.nil | (with_reducible apply Cv.cons; focus ((repeat (first | with_reducible exact Pick.here | with_reducible apply Pick.skip)); done)) | (apply Cv.cons; focus ((repeat (first | exact Pick.here | apply Pick.skip)); done)) | exact Cv.nil | exact Cv.refl | exact Cv.left | exact Cv.right | refine Cv.skip ?_))) ?_
  rintro ⟨k, out, OA, oc⟩ u hx
  dsimp only at hx ⊢
  rcases hx with ⟨rfl, rfl⟩ | ⟨rfl, rfl⟩
  rotate_left
  · (conv => whnf); repeat ((first | refine tk1 ?_ | refine tk2 ?_ | refine tk3 ?_ | refine tk12 (fun _ => ?_) | refine tk4 ?_ | refine tk5 ?_ | refine tk6 ?_ | refine tk7 ?_ | refine tk8 ?_ | refine tk9 ?_ | refine tk10 (fun _ _ => ?_) | refine tk11 (fun _ => ?_) | refine tk13 ?_ | refine tk14 ?_); (conv => whnf))
    refine ⟨_, _, .here, ?_, ?_, ?_⟩
    · rw [← hR]; rfl
    · rw [← hR]; rfl
    (conv => whnf); repeat ((first | refine tk1 ?_ | refine tk2 ?_ | refine tk3 ?_ | refine tk12 (fun _ => ?_) | refine tk4 ?_ | refine tk5 ?_ | refine tk6 ?_ | refine tk7 ?_ | refine tk8 ?_ | refine tk9 ?_ | refine tk10 (fun _ _ => ?_) | refine tk11 (fun _ => ?_) | refine tk13 ?_ | refine tk14 ?_); (conv => whnf))
    refine ⟨_, _, rfl, (by first | exact Pick.here | exact Pick.here.skip | exact Pick.here.skip.skip | exact Pick.here.skip.skip.skip | exact Pick.here.skip.skip.skip.skip | exact Pick.here.skip.skip.skip.skip.skip | exact Pick.here.skip.skip.skip.skip.skip.skip | exact Pick.here.skip.skip.skip.skip.skip.skip.skip | exact Pick.here.skip.skip.skip.skip.skip.skip.skip.skip | exact Pick.here.skip.skip.skip.skip.skip.skip.skip.skip.skip | exact Pick.here.skip.skip.skip.skip.skip.skip.skip.skip.skip.skip | exact Pick.here.skip.skip.skip.skip.skip.skip.skip.skip.skip.skip.skip), ?_⟩
    (conv => whnf); repeat ((first | refine tk1 ?_ | refine tk2 ?_ | refine tk3 ?_ | refine tk12 (fun _ => ?_) | refine tk4 ?_ | refine tk5 ?_ | refine tk6 ?_ | refine tk7 ?_ | refine tk8 ?_ | refine tk9 ?_ | refine tk10 (fun _ _ => ?_) | refine tk11 (fun _ => ?_) | refine tk13 ?_ | refine tk14 ?_); (conv => whnf))
    exact fun w' hs => rowPost.of (by simp) w' hs
  by_cases h0 : b.length = 0
  · obtain rfl : b = [] := List.eq_nil_of_length_eq_zero h0
    (conv => whnf); repeat ((first | refine tk1 ?_ | refine tk2 ?_ | refine tk3 ?_ | refine tk12 (fun _ => ?_) | refine tk4 ?_ | refine tk5 ?_ | refine tk6 ?_ | refine tk7 ?_ | refine tk8 ?_ | refine tk9 ?_ | refine tk10 (fun _ _ => ?_) | refine tk11 (fun _ => ?_) | refine tk13 ?_ | refine tk14 ?_); (conv => whnf))
    refine ⟨_, _, .here, ?_, ?_, ?_⟩
    · rw [← hR]; rfl
    · rw [← hR]; rfl
    (conv => whnf); repeat ((first | refine tk1 ?_ | refine tk2 ?_ | refine tk3 ?_ | refine tk12 (fun _ => ?_) | refine tk4 ?_ | refine tk5 ?_ | refine tk6 ?_ | refine tk7 ?_ | refine tk8 ?_ | refine tk9 ?_ | refine tk10 (fun _ _ => ?_) | refine tk11 (fun _ => ?_) | refine tk13 ?_ | refine tk14 ?_); (conv => whnf))
    refine ⟨_, _, rfl, (by first | exact Pick.here | exact Pick.here.skip | exact Pick.here.skip.skip | exact Pick.here.skip.skip.skip | exact Pick.here.skip.skip.skip.skip | exact Pick.here.skip.skip.skip.skip.skip | exact Pick.here.skip.skip.skip.skip.skip.skip | exact Pick.here.skip.skip.skip.skip.skip.skip.skip | exact Pick.here.skip.skip.skip.skip.skip.skip.skip.skip | exact Pick.here.skip.skip.skip.skip.skip.skip.skip.skip.skip | exact Pick.here.skip.skip.skip.skip.skip.skip.skip.skip.skip.skip | exact Pick.here.skip.skip.skip.skip.skip.skip.skip.skip.skip.skip.skip), ?_⟩
    (conv => whnf); repeat ((first | refine tk1 ?_ | refine tk2 ?_ | refine tk3 ?_ | refine tk12 (fun _ => ?_) | refine tk4 ?_ | refine tk5 ?_ | refine tk6 ?_ | refine tk7 ?_ | refine tk8 ?_ | refine tk9 ?_ | refine tk10 (fun _ _ => ?_) | refine tk11 (fun _ => ?_) | refine tk13 ?_ | refine tk14 ?_); (conv => whnf))
    exact fun w' hs => rowPost.of (by simp [wrapG]) w' hs
  (conv => whnf); repeat ((first | refine tk1 ?_ | refine tk2 ?_ | refine tk3 ?_ | refine tk12 (fun _ => ?_) | refine tk4 ?_ | refine tk5 ?_ | refine tk6 ?_ | refine tk7 ?_ | refine tk8 ?_ | refine tk9 ?_ | refine tk10 (fun _ _ => ?_) | refine tk11 (fun _ => ?_) | refine tk13 ?_ | refine tk14 ?_); (conv => whnf))
  refine DrawS.go (qs 7) tys_ok mixed (by kernel_rfl) ?_
  (conv => whnf); repeat ((first | refine tk1 ?_ | refine tk2 ?_ | refine tk3 ?_ | refine tk12 (fun _ => ?_) | refine tk4 ?_ | refine tk5 ?_ | refine tk6 ?_ | refine tk7 ?_ | refine tk8 ?_ | refine tk9 ?_ | refine tk10 (fun _ _ => ?_) | refine tk11 (fun _ => ?_) | refine tk13 ?_ | refine tk14 ?_); (conv => whnf))
  refine SlcV.from (by omega) (by omega) ?_
  (conv => whnf); repeat ((first | refine tk1 ?_ | refine tk2 ?_ | refine tk3 ?_ | refine tk12 (fun _ => ?_) | refine tk4 ?_ | refine tk5 ?_ | refine tk6 ?_ | refine tk7 ?_ | refine tk8 ?_ | refine tk9 ?_ | refine tk10 (fun _ _ => ?_) | refine tk11 (fun _ => ?_) | refine tk13 ?_ | refine tk14 ?_); (conv => whnf))
  refine OthP.min2 (z := (b.length : Int)) rfl rfl (by omega) ?_
  (conv => whnf); repeat ((first | refine tk1 ?_ | refine tk2 ?_ | refine tk3 ?_ | refine tk12 (fun _ => ?_) | refine tk4 ?_ | refine tk5 ?_ | refine tk6 ?_ | refine tk7 ?_ | refine tk8 ?_ | refine tk9 ?_ | refine tk10 (fun _ _ => ?_) | refine tk11 (fun _ => ?_) | refine tk13 ?_ | refine tk14 ?_); (conv => whnf))
  refine OthP.slcAll (z := 131072 * ((0 : Nat) : Int) + (b.length : Int)) tys_ok rfl (fun h => nomatch h) rfl rfl rfl rfl (by omega) hcp ?_
  (conv => whnf); repeat ((first | refine tk1 ?_ | refine tk2 ?_ | refine tk3 ?_ | refine tk12 (fun _ => ?_) | refine tk4 ?_ | refine tk5 ?_ | refine tk6 ?_ | refine tk7 ?_ | refine tk8 ?_ | refine tk9 ?_ | refine tk10 (fun _ _ => ?_) | refine tk11 (fun _ => ?_) | refine tk13 ?_ | refine tk14 ?_); (conv => whnf))
  refine yl OA oc _ (fun A' cp' => ?_)
  (conv => whnf); repeat ((first | refine tk1 ?_ | refine tk2 ?_ | refine tk3 ?_ | refine tk12 (fun _ => ?_) | refine tk4 ?_ | refine tk5 ?_ | refine tk6 ?_ | refine tk7 ?_ | refine tk8 ?_ | refine tk9 ?_ | refine tk10 (fun _ _ => ?_) | refine tk11 (fun _ => ?_) | refine tk13 ?_ | refine tk14 ?_); (conv => whnf))
  exact ⟨(1, wrapG b, A', cp'), .inr ⟨rfl, rfl⟩, rfl, Cv.into (by (try dsimp only); repeat' (first | with_reducible exact Cv.refl | with_reducible exact Cv.left | with_reducible exact Cv.right | with_reducible exact Cv.nil | (with_reducible apply Cv.cons; focus ((repeat (first | with_reducible exact Pick.here | with_reducible apply Pick.skip)); done)) | (apply Cv.cons; focus ((repeat (first | exact Pick.here | apply Pick.skip)); done)) | exact Cv.nil | exact Cv.refl | exact Cv.left | exact Cv.right | refine Cv.skip ?_)), by dsimp only; omega⟩
end Go.Proofs.YtnaeeklnlddcaaaGreatDoor.Vex
/- The program's functions on answers as bytes, reckoned: Write. -/
namespace Go.Proofs.YtnaeeklnlddcaaaGreatDoor.Vex
open Go Go.RowKit
set_option maxRecDepth 100000
set_option linter.unusedSectionVars false
variable {gI : GI} [HasMax gI] [HasPow gI] [HasTz gI]

/-- Parts that come out. -/
structure PV where
  D : Option Addr
  dc : Nat
  ps : List Prt
def PV.hd (y : PV) : Hp := [.row (.slice y.D y.ps.length y.dc) 53 2 y.ps.length (pcells y.ps)]
structure WL where
  k : Nat
  A : Option Addr
  o : List UInt8
  c : Nat
  D : Option Addr
  d : List Prt
  dc : Nat
theorem bodyR_eq (ch : Bool) (ps : List Prt) : bodyR ch (ps.map pure1) = ps.map fun q => (if ch then wrapG q.l else q.l, q.f) := by
  unfold bodyR
  rw [List.map_map]
  rfl
theorem bodyR_at (ch : Bool) (ps : List Prt) (k : Nat) (h : k < ps.length) : (bodyR ch (ps.map pure1)).take (k + 1) = (bodyR ch (ps.map pure1)).take k ++ [(if ch then wrapG ps[k].l else ps[k].l, ps[k].f)] := by
  rw [bodyR_eq, List.take_succ_eq_append_getElem (by rw [List.length_map]; exact h), List.getElem_map]
theorem total_mem2 {p : List UInt8 × Bool} : ∀ {l : Prs}, p ∈ l → p.1.length ≤ total l
  | q :: r, h => by
    rw [total]
    rcases List.mem_cons.1 h with rfl | h
    · omega
    · have := total_mem2 h
      omega
theorem total_bodyR (ch : Bool) : ∀ l : Prs, (∀ p ∈ l, p.1.length < 16777216) → total (bodyR ch l) ≤ total l + 10 * l.length
  | [], _ => Nat.zero_le _
  | p :: r, h => by
    have ih := total_bodyR ch r fun q hq => h q (List.mem_cons_of_mem _ hq)
    have h1 := wrapG_long p.1 (h p (List.mem_cons_self ..))
    have e : bodyR ch (p :: r) = (if ch then wrapG p.1 else p.1, p.2) :: bodyR ch r := rfl
    rw [e, total, total, List.length_cons]
    cases ch
    · simp only [Bool.false_eq_true, if_false]; omega
    · simp only [if_true]; omega
theorem headR_le (st : Int) (fs : List Fld) (ps : Prs) (cd : Nat) (ch cl : Bool) (hF : fsum fs ≤ 1048576) (hst : 200 ≤ st) (hst2 : st ≤ 599) (ht : total ps ≤ 4000000) : (headR st fs ps cd ch cl).length ≤ 8000000 := by
  have h1 := Lib.itoa_length_le st (by omega) (by omega)
  have h2 := Lib.itoa_length_le (total ps : Nat) (by omega) (by omega)
  have h3 := linesR_le fs
  have h4 := fsum_length fs
  have h5 : (codNm cd).length ≤ 20 := by unfold codNm; split <;> (try split) <;> decide
  have h6 : (if cd = 0 then [] else lineR ceN (codNm cd)).length ≤ 100 := by
    split
    · simp
    · simp [lineR, ceN]; omega
  have h7 : (lengthR st ps cd ch).length ≤ 100 := by
    unfold lengthR
    split
    · simp
    split
    · decide
    split
    · simp
    · simp [lineR, clN]; omega
  have h8 : (if cl then lineR coN closeN else []).length ≤ 100 := by cases cl <;> decide
  unfold headR
  simp only [List.length_append]
  have h9 : firstR.length = 9 := rfl
  simp only [List.length_cons, List.length_nil]
  omega
set_option maxHeartbeats 16000000 in
theorem AWrite_f (st : Int) (FA : Option Addr) (Fc : Nat) (F : List Fld) (QA : Option Addr) (Qc : Nat) (ps : List Prt) (cd : UInt8) (tag : List UInt8) (press : Bool) (minor : Int) (head last : Bool) (hF : fsum F ≤ 1048576) (hn : ps.length ≤ 1000) (htl : total (ps.map pure1) ≤ 131072) (hq : ∀ q ∈ ps, q.l.length ≤ q.cp) :
    FnT Tryz.prog gI 20 [.agg ⟨[.int .i64 st, .slice FA F.length Fc, .slice QA ps.length Qc, .int .u8 cd.toNat, str tag, .bool press]⟩, .int .i64 minor, .bool head, .bool last] (fun w => Rdw w FA (fcells F) ∧ PrtsOk w QA ps)
      (fun y : PV => .tuple #[.slice y.D y.ps.length y.dc, .bool (writeR st F (ps.map pure1) cd.toNat minor head last).c, .int .i64 (writeR st F (ps.map pure1) cd.toNat minor head last).e]) (fun y => y.ps.map pure1 = (writeR st F (ps.map pure1) cd.toNat minor head last).l) PV.hd (fun y => rowsP 5 y.ps) := by
  have hck := ACheck_f (gI := gI) st FA Fc F QA Qc ps cd tag press hF (by omega) (by omega)
  have hstr := streamed_r (gI := gI) st FA F.length Fc QA Qc ps cd tag press (by omega)
  have hbare := bare_f (gI := gI) st
  refine FnE.of tys_ok Tryz.func20 rfl (by kernel_rfl) rfl rfl ?_; intro w hG hP
  have hRF : ∀ H, RdA (mkC Tryz.prog gI w hG) H FA (fcells F) := fun H => ⟨hP.1.now⟩
  have hRQ : ∀ H, RdA (mkC Tryz.prog gI w hG) H QA (pcells ps) := fun H => ⟨hP.2.1.now⟩
  have hRq : ∀ q ∈ ps, ∀ H, RdA (mkC Tryz.prog gI w hG) H q.A (q.l.map byteV) := fun q hm H => ⟨(hP.2.2 q hm).now⟩
  have hPQ : ∀ H w', St (mkC Tryz.prog gI w hG) H w' → PrtsOk w' QA ps := fun H w' hw' => ⟨(hRQ H).ok w' hw', fun q hm => (hRq q hm H).ok w' hw'⟩
  have hou : Ours Tryz.prog gI (mkC Tryz.prog gI w hG) := ⟨rfl, rfl⟩
  clear hP
  have hfail : ∀ (e : Int) (r : WRes) (w w' : World) (hG : gI.G w), r = ⟨[], false, e⟩ → St (mkC Tryz.prog gI w hG) [] w' → ∃ y : PV, Value.tuple #[.slice none 0 0, .bool false, .int .i64 e] = Value.tuple #[.slice y.D y.ps.length y.dc, .bool r.c, .int .i64 r.e] ∧ y.ps.map pure1 = r.l ∧ newH w w' (y.hd ++ rowsP 5 y.ps) := fun e r w w' hG hr hw' => by
    subst hr
    exact ⟨⟨none, 0, []⟩, rfl, rfl, newH.of (hw'.nilRow 53 2)⟩
  (conv => whnf); repeat ((first | refine tk1 ?_ | refine tk2 ?_ | refine tk3 ?_ | refine tk12 (fun _ => ?_) | refine tk4 ?_ | refine tk5 ?_ | refine tk6 ?_ | refine tk7 ?_ | refine tk8 ?_ | refine tk9 ?_ | refine tk10 (fun _ _ => ?_) | refine tk11 (fun _ => ?_) | refine tk13 ?_ | refine tk14 ?_); (conv => whnf))
  rename_i b4
  refine CallK.fnR hck ⟨(hRF _).ok, (hRQ _).ok, trivial⟩ ?_
  unfold anE writeR
  cases hok : anOK st F (ps.map pure1) cd.toNat
  · simp only [Bool.false_eq_true, if_false]
    (conv => whnf); repeat ((first | refine tk1 ?_ | refine tk2 ?_ | refine tk3 ?_ | refine tk12 (fun _ => ?_) | refine tk4 ?_ | refine tk5 ?_ | refine tk6 ?_ | refine tk7 ?_ | refine tk8 ?_ | refine tk9 ?_ | refine tk10 (fun _ _ => ?_) | refine tk11 (fun _ => ?_) | refine tk13 ?_ | refine tk14 ?_); (conv => whnf))
    exact fun w' hw' => hfail 8 _ w w' hG rfl (hw'.sub (List.nil_sublist _))
  simp only [if_true]
  by_cases hmi : minor = 0 ∨ minor = 1
  rotate_left
  · rw [if_neg hmi]
    rcases (show minor < 0 ∨ (¬ minor < 0 ∧ 1 < minor) by omega) with h | ⟨h, h2⟩
    · (conv => whnf); repeat ((first | refine tk1 ?_ | refine tk2 ?_ | refine tk3 ?_ | refine tk12 (fun _ => ?_) | refine tk4 ?_ | refine tk5 ?_ | refine tk6 ?_ | refine tk7 ?_ | refine tk8 ?_ | refine tk9 ?_ | refine tk10 (fun _ _ => ?_) | refine tk11 (fun _ => ?_) | refine tk13 ?_ | refine tk14 ?_); (conv => whnf))
      exact fun w' hw' => hfail 2 _ w w' hG rfl (hw'.sub (List.nil_sublist _))
    · (conv => whnf); repeat ((first | refine tk1 ?_ | refine tk2 ?_ | refine tk3 ?_ | refine tk12 (fun _ => ?_) | refine tk4 ?_ | refine tk5 ?_ | refine tk6 ?_ | refine tk7 ?_ | refine tk8 ?_ | refine tk9 ?_ | refine tk10 (fun _ _ => ?_) | refine tk11 (fun _ => ?_) | refine tk13 ?_ | refine tk14 ?_); (conv => whnf))
      exact fun w' hw' => hfail 2 _ w w' hG rfl (hw'.sub (List.nil_sublist _))
  rw [if_pos hmi]
  dsimp only
  have hst : 200 ≤ st ∧ st ≤ 599 ∧ cd.toNat ≤ 2 := by
    unfold anOK anST at hok
    simp only [Bool.and_eq_true, decide_eq_true_eq] at hok
    exact ⟨hok.1.1, hok.1.2.1, hok.1.2.2.1⟩
  have hps : ∀ q ∈ ps, q.l.length ≤ 131072 := fun q hm => by
    have := total_mem2 (p := pure1 q) (l := ps.map pure1) (List.mem_map_of_mem hm)
    exact Nat.le_trans this htl
  clear hok hck hfail
  have hbt := total_bodyR
  unfold piecesR chunkB
  obtain ⟨ch, hch⟩ : ∃ ch, (streamB (ps.map pure1) cd.toNat && (decide (minor = 1) && !bareB st)) = ch := ⟨_, rfl⟩
  obtain ⟨cl, hcl⟩ : ∃ cl, (last || decide (minor = 0)) = cl := ⟨_, rfl⟩
  rw [hch, hcl]
  have hLz := headR_le st F (ps.map pure1) cd.toNat ch cl hF hst.1 hst.2.1 (by omega)
  have hways : (minor = 0 ∧ streamB (ps.map pure1) cd.toNat = false) ∨ (minor = 0 ∧ streamB (ps.map pure1) cd.toNat = true) ∨ (minor = 1 ∧ streamB (ps.map pure1) cd.toNat = false) ∨ (minor = 1 ∧ streamB (ps.map pure1) cd.toNat = true ∧ bareB st = false) ∨ (minor = 1 ∧ streamB (ps.map pure1) cd.toNat = true ∧ bareB st = true) := by
    cases streamB (ps.map pure1) cd.toNat <;> cases bareB st <;> simp [hmi]
  clear hmi
  cases head
  · cases last <;> rcases hways with ⟨rfl, hs⟩ | ⟨rfl, hs⟩ | ⟨rfl, hs⟩ | ⟨rfl, hs, hb⟩ | ⟨rfl, hs, hb⟩ <;> rw [hs] at hch <;> (try rw [hb] at hch) <;> have hch' := hch.symm <;> have hcl' := hcl.symm <;> simp at hch' hcl'
    all_goals as_aux_lemma =>
      (conv => whnf); repeat ((first | refine tk1 ?_ | refine tk2 ?_ | refine tk3 ?_ | refine tk12 (fun _ => ?_) | refine tk4 ?_ | refine tk5 ?_ | refine tk6 ?_ | refine tk7 ?_ | refine tk8 ?_ | refine tk9 ?_ | refine tk10 (fun _ _ => ?_) | refine tk11 (fun _ => ?_) | refine tk13 ?_ | refine tk14 ?_); (conv => whnf))
      refine CallK.fnR hstr ⟨(hRQ _).ok, trivial⟩ ?_
      rw [hs]
      (conv => whnf); repeat ((first | refine tk1 ?_ | refine tk2 ?_ | refine tk3 ?_ | refine tk12 (fun _ => ?_) | refine tk4 ?_ | refine tk5 ?_ | refine tk6 ?_ | refine tk7 ?_ | refine tk8 ?_ | refine tk9 ?_ | refine tk10 (fun _ _ => ?_) | refine tk11 (fun _ => ?_) | refine tk13 ?_ | refine tk14 ?_); (conv => whnf))
      try (refine CallK.fn hbare ?_; rw [hb])
      try ((conv => whnf); repeat ((first | refine tk1 ?_ | refine tk2 ?_ | refine tk3 ?_ | refine tk12 (fun _ => ?_) | refine tk4 ?_ | refine tk5 ?_ | refine tk6 ?_ | refine tk7 ?_ | refine tk8 ?_ | refine tk9 ?_ | refine tk10 (fun _ _ => ?_) | refine tk11 (fun _ => ?_) | refine tk13 ?_ | refine tk14 ?_); (conv => whnf)))
      rename_i b12
      refine CallK.into (G := .box b12 [.slice none 0 0, .slice none 0 0] 95 :: .row (.slice none 0 0) 5 1 0 [] :: [.box b4 [.int .i64 st, .slice FA F.length Fc, .slice QA ps.length Qc, .int .u8 cd.toNat, str tag, .bool press] 47]) (Into.trans (Into.nilRow (e := 5) (sz := 1) Into.refl) (Cv.into (by (try dsimp only); repeat' (first | with_reducible exact Cv.refl | with_reducible exact Cv.left | with_reducible exact Cv.right | with_reducible exact Cv.nil | (with_reducible apply Cv.cons; focus ((repeat (first | with_reducible exact Pick.here | with_reducible apply Pick.skip)); done)) | (apply Cv.cons; focus ((repeat (first | exact Pick.here | apply Pick.skip)); done)) | exact Cv.nil | exact Cv.refl | exact Cv.left | exact Cv.right | refine Cv.skip ?_)))) ?_
      refine head_k hou (l := []) (X := [.box b4 [.int .i64 st, .slice FA F.length Fc, .slice QA ps.length Qc, .int .u8 cd.toNat, str tag, .bool press] 47]) st FA Fc F QA Qc ps cd tag press _ _ hRF hRQ hPQ hF (by omega) (by omega) (by simp) hst.2.2 hst.1 hst.2.1 (fun _ A1 c1 L hL => ?_)
      rw [List.nil_append] at hL
      have hL : L = headR st F (ps.map pure1) cd.toNat ch cl := by rw [hch', hcl']; exact hL
      rw [← hL] at hLz ⊢
      (conv => whnf); repeat ((first | refine tk1 ?_ | refine tk2 ?_ | refine tk3 ?_ | refine tk12 (fun _ => ?_) | refine tk4 ?_ | refine tk5 ?_ | refine tk6 ?_ | refine tk7 ?_ | refine tk8 ?_ | refine tk9 ?_ | refine tk10 (fun _ _ => ?_) | refine tk11 (fun _ => ?_) | refine tk13 ?_ | refine tk14 ?_); (conv => whnf))
      obtain ⟨bd, hbd⟩ : ∃ bd, bodyR ch (ps.map pure1) = bd := ⟨_, rfl⟩
      rw [hbd]
      have hbdt : total bd ≤ 200000 := by
        rw [← hbd]
        have := total_bodyR ch (ps.map pure1) (fun p hp => by have := total_mem2 hp; omega)
        rw [List.length_map] at this
        exact Nat.le_trans (this) (by omega)
      have hbdl : bd.length = ps.length := by rw [← hbd]; unfold bodyR; rw [List.length_map, List.length_map]
      refine LoopS.lpT tys_ok (fun (x : WL) u => [u 0, u 1, u 2, u 3, u 4, u 5, u 6, u 7, u 8, .bool cl, u 10, u 11, .pointer (some ⟨b12, 0, none⟩), .bool ch, u 14, u 15, u 16, u 17, u 18, u 19, u 20, u 21, u 22, u 23, u 24, u 25, u 26, u 27, u 28, u 29, u 30, u 31, u 32, u 33, u 34, u 35, u 36, u 37, u 38, u 39, u 40, u 41, u 42, u 43, u 44, u 45, u 46, u 47, u 48, u 49, u 50, u 51, u 52, u 53, u 54, .slice QA ps.length Qc, .int .i64 ps.length, .int .i64 (x.k : Nat), u 58, u 59, u 60, u 61, u 62, u 63, u 64, u 65, u 66, u 67, u 68, u 69, u 70, u 71, u 72, u 73, u 74, u 75, u 76, u 77, u 78, u 79, u 80, u 81, u 82, u 83, u 84, u 85, u 86, u 87, u 88])
        (fun x => .box b12 [.slice x.A x.o.length x.c, .slice x.D x.d.length x.dc] 95 :: .row (.slice x.D x.d.length x.dc) 53 2 x.d.length (pcells x.d) :: .row (.slice x.A x.o.length x.c) 5 1 x.o.length (x.o.map byteV) :: ([] ++ rowsP 5 x.d)) (fun x => x.k ≤ ps.length ∧ x.o = (stG ((L, false) :: bd.take x.k)).1 ∧ x.d.map pure1 = (stG ((L, false) :: bd.take x.k)).2) (fun x => ps.length - x.k) ⟨0, A1, L, c1, none, [], 0⟩ ⟨Nat.zero_le _, by simp [stG, stepG], by simp [stG, stepG]⟩ (by rw [hch', hcl']; rfl) (Into.trans (Into.nilRow (e := 53) (sz := 2) Into.refl) (Cv.into (by (try dsimp only); repeat' (first | with_reducible exact Cv.refl | with_reducible exact Cv.left | with_reducible exact Cv.right | with_reducible exact Cv.nil | (with_reducible apply Cv.cons; focus ((repeat (first | with_reducible exact Pick.here | with_reducible apply Pick.skip)); done)) | (apply Cv.cons; focus ((repeat (first | exact Pick.here | apply Pick.skip)); done)) | exact Cv.nil | exact Cv.refl | exact Cv.left | exact Cv.right | refine Cv.skip ?_)))) ?_
      rintro ⟨k, oA, o, oc, D, d, dc⟩ u ⟨hk, ho, hd⟩
      dsimp only at hk ho hd ⊢
      have hsg : stG ((L, false) :: bd.take k) = (o, d.map pure1) := Prod.ext ho.symm hd.symm
      have hts := total_stG ((L, false) :: bd.take k)
      have htt := total_take bd k
      have hstl := stG_length ((L, false) :: bd.take k)
      rw [hsg] at hts hstl
      dsimp only at hts hstl
      rw [total] at hts
      dsimp only at hts
      rw [List.length_map, List.length_cons, List.length_take] at hstl
      by_cases hlt : k < ps.length
      · as_aux_lemma =>
        have h2 := (pcells_at ps k hlt).2.2
        have hqm := List.getElem_mem hlt
        have hx := bodyR_at ch ps k hlt
        rw [hbd] at hx
        generalize ps[k] = q at *
        have hpl := hps q hqm
        have hwl := wrapG_long q.l (by omega)
        have hqc := hq q hqm
        have hRq1 := hRq q hqm
        have hwr := AWrap_f (gI := gI) q.A q.cp q.l hpl hqc
        obtain ⟨pc, hpc⟩ : ∃ pc, (if ch then wrapG q.l else q.l) = pc := ⟨_, rfl⟩
        rw [hpc] at hx
        have hstep : stG ((L, false) :: bd.take (k + 1)) = stepG (o, d.map pure1) (pc, q.f) := by rw [hx, ← List.cons_append, stG_snoc, hsg]
        rw [hch'] at hpc
        have hpz : pc.length ≤ 140000 := by rw [← hpc]; simp; omega
        simp only [Bool.false_eq_true, if_true, if_false] at hpc
        subst hpc
        simp only [hch', hcl']
        (conv => whnf); repeat ((first | refine tk1 ?_ | refine tk2 ?_ | refine tk3 ?_ | refine tk12 (fun _ => ?_) | refine tk4 ?_ | refine tk5 ?_ | refine tk6 ?_ | refine tk7 ?_ | refine tk8 ?_ | refine tk9 ?_ | refine tk10 (fun _ _ => ?_) | refine tk11 (fun _ => ?_) | refine tk13 ?_ | refine tk14 ?_); (conv => whnf))
        refine IdxA.tc (xs := pcells ps) (by rw [pcells_length]; omega) (by omega) (by omega) ?_
        (conv => whnf); repeat ((first | refine tk1 ?_ | refine tk2 ?_ | refine tk3 ?_ | refine tk12 (fun _ => ?_) | refine tk4 ?_ | refine tk5 ?_ | refine tk6 ?_ | refine tk7 ?_ | refine tk8 ?_ | refine tk9 ?_ | refine tk10 (fun _ _ => ?_) | refine tk11 (fun _ => ?_) | refine tk13 ?_ | refine tk14 ?_); (conv => whnf))
        refine Ld.taN h2 rfl ?_
        (conv => whnf); repeat ((first | refine tk1 ?_ | refine tk2 ?_ | refine tk3 ?_ | refine tk12 (fun _ => ?_) | refine tk4 ?_ | refine tk5 ?_ | refine tk6 ?_ | refine tk7 ?_ | refine tk8 ?_ | refine tk9 ?_ | refine tk10 (fun _ _ => ?_) | refine tk11 (fun _ => ?_) | refine tk13 ?_ | refine tk14 ?_); (conv => whnf))
        try (refine CallK.fnS hwr ⟨(hRq1 _).ok, trivial⟩ (fun WA wc => ?_))
        try ((conv => whnf); repeat ((first | refine tk1 ?_ | refine tk2 ?_ | refine tk3 ?_ | refine tk12 (fun _ => ?_) | refine tk4 ?_ | refine tk5 ?_ | refine tk6 ?_ | refine tk7 ?_ | refine tk8 ?_ | refine tk9 ?_ | refine tk10 (fun _ _ => ?_) | refine tk11 (fun _ => ?_) | refine tk13 ?_ | refine tk14 ?_); (conv => whnf)))
        first
          | refine B2S.tc (xs := (wrapG q.l).map byteV) (l := wrapG q.l) rfl rfl ?_
          | refine B2S.rd (l := q.l) (hRq1 _).ok rfl ?_
        (conv => whnf); repeat ((first | refine tk1 ?_ | refine tk2 ?_ | refine tk3 ?_ | refine tk12 (fun _ => ?_) | refine tk4 ?_ | refine tk5 ?_ | refine tk6 ?_ | refine tk7 ?_ | refine tk8 ?_ | refine tk9 ?_ | refine tk10 (fun _ _ => ?_) | refine tk11 (fun _ => ?_) | refine tk13 ?_ | refine tk14 ?_); (conv => whnf))
        rename_i b15 sb
        obtain ⟨pc, hpc⟩ : ∃ pc, (if ch then wrapG q.l else q.l) = pc := ⟨_, rfl⟩
        rw [hch'] at hpc
        simp only [Bool.false_eq_true, if_true, if_false] at hpc
        simp only [hpc] at hstep hpz
        refine CallK.into (G := .row (.slice (some ⟨sb, 0, none⟩) 1 1) 9 1 1 ([pc].map str) :: .box b12 [.slice oA o.length oc, .slice D d.length dc] 95 :: .row (.slice oA o.length oc) 5 1 o.length (o.map byteV) :: (.box b15 [.slice q.A q.l.length q.cp, .bool q.f] 53 :: .row (.slice D d.length dc) 53 2 d.length (pcells d) :: rowsP 5 d)) (by subst hpc; exact Cv.into (by (try dsimp only); repeat' (first | with_reducible exact Cv.refl | with_reducible exact Cv.left | with_reducible exact Cv.right | with_reducible exact Cv.nil | (with_reducible apply Cv.cons; focus ((repeat (first | with_reducible exact Pick.here | with_reducible apply Pick.skip)); done)) | (apply Cv.cons; focus ((repeat (first | exact Pick.here | apply Pick.skip)); done)) | exact Cv.nil | exact Cv.refl | exact Cv.left | exact Cv.right | refine Cv.skip ?_))) ?_
        refine write_k hou (ts := [pc]) (X := .box b15 [.slice q.A q.l.length q.cp, .bool q.f] 53 :: .row (.slice D d.length dc) 53 2 d.length (pcells d) :: rowsP 5 d) (by simp; omega) (by simp) (fun _ A3 c3 => ?_)
        rw [show [pc].flatten = pc by simp]
        have hopl : (o ++ pc).length ≤ 9000000 := by rw [List.length_append]; omega
        clear hpc
        (conv => whnf); repeat ((first | refine tk1 ?_ | refine tk2 ?_ | refine tk3 ?_ | refine tk12 (fun _ => ?_) | refine tk4 ?_ | refine tk5 ?_ | refine tk6 ?_ | refine tk7 ?_ | refine tk8 ?_ | refine tk9 ?_ | refine tk10 (fun _ _ => ?_) | refine tk11 (fun _ => ?_) | refine tk13 ?_ | refine tk14 ?_); (conv => whnf))
        cases hqf : q.f
        · rw [hqf] at hstep
          (conv => whnf); repeat ((first | refine tk1 ?_ | refine tk2 ?_ | refine tk3 ?_ | refine tk12 (fun _ => ?_) | refine tk4 ?_ | refine tk5 ?_ | refine tk6 ?_ | refine tk7 ?_ | refine tk8 ?_ | refine tk9 ?_ | refine tk10 (fun _ _ => ?_) | refine tk11 (fun _ => ?_) | refine tk13 ?_ | refine tk14 ?_); (conv => whnf))
          exact ⟨⟨k + 1, A3, o ++ pc, c3, D, d, dc⟩, ⟨by dsimp only; omega, by dsimp only; rw [hstep]; rfl, by dsimp only; rw [hstep]; rfl⟩, rfl, Cv.into (by (try dsimp only); repeat' (first | with_reducible exact Cv.refl | with_reducible exact Cv.left | with_reducible exact Cv.right | with_reducible exact Cv.nil | (with_reducible apply Cv.cons; focus ((repeat (first | with_reducible exact Pick.here | with_reducible apply Pick.skip)); done)) | (apply Cv.cons; focus ((repeat (first | exact Pick.here | apply Pick.skip)); done)) | exact Cv.nil | exact Cv.refl | exact Cv.left | exact Cv.right | refine Cv.skip ?_)), by dsimp only; omega⟩
        · rw [hqf] at hstep
          (conv => whnf); repeat ((first | refine tk1 ?_ | refine tk2 ?_ | refine tk3 ?_ | refine tk12 (fun _ => ?_) | refine tk4 ?_ | refine tk5 ?_ | refine tk6 ?_ | refine tk7 ?_ | refine tk8 ?_ | refine tk9 ?_ | refine tk10 (fun _ _ => ?_) | refine tk11 (fun _ => ?_) | refine tk13 ?_ | refine tk14 ?_); (conv => whnf))
          refine CallK.into (G := .box b12 [.slice A3 (o ++ pc).length c3, .slice D d.length dc] 95 :: .row (.slice D d.length dc) 53 2 d.length (pcells d) :: .row (.slice A3 (o ++ pc).length c3) 5 1 (o ++ pc).length ((o ++ pc).map byteV) :: ([] ++ rowsP 5 d)) (Cv.into (by (try dsimp only); repeat' (first | with_reducible exact Cv.refl | with_reducible exact Cv.left | with_reducible exact Cv.right | with_reducible exact Cv.nil | (with_reducible apply Cv.cons; focus ((repeat (first | with_reducible exact Pick.here | with_reducible apply Pick.skip)); done)) | (apply Cv.cons; focus ((repeat (first | exact Pick.here | apply Pick.skip)); done)) | exact Cv.nil | exact Cv.refl | exact Cv.left | exact Cv.right | refine Cv.skip ?_))) ?_
          refine cut_k hou (f := true) (ps := d) (by omega) (by omega) (fun _ D3 dc3 d3 hd3 => ?_)
          (conv => whnf); repeat ((first | refine tk1 ?_ | refine tk2 ?_ | refine tk3 ?_ | refine tk12 (fun _ => ?_) | refine tk4 ?_ | refine tk5 ?_ | refine tk6 ?_ | refine tk7 ?_ | refine tk8 ?_ | refine tk9 ?_ | refine tk10 (fun _ _ => ?_) | refine tk11 (fun _ => ?_) | refine tk13 ?_ | refine tk14 ?_); (conv => whnf))
          exact ⟨⟨k + 1, none, [], 0, D3, d3, dc3⟩, ⟨by dsimp only; omega, by dsimp only; rw [hstep]; rfl, by dsimp only; rw [hd3, hstep]; rfl⟩, rfl, Cv.into (by (try dsimp only); repeat' (first | with_reducible exact Cv.refl | with_reducible exact Cv.left | with_reducible exact Cv.right | with_reducible exact Cv.nil | (with_reducible apply Cv.cons; focus ((repeat (first | with_reducible exact Pick.here | with_reducible apply Pick.skip)); done)) | (apply Cv.cons; focus ((repeat (first | exact Pick.here | apply Pick.skip)); done)) | exact Cv.nil | exact Cv.refl | exact Cv.left | exact Cv.right | refine Cv.skip ?_)), by dsimp only; omega⟩
      obtain rfl : k = ps.length := by omega
      rw [List.take_of_length_le (show bd.length ≤ ps.length by omega)] at hsg
      simp only [hch', hcl', if_true, if_false, Bool.false_eq_true]
      (conv => whnf); repeat ((first | refine tk1 ?_ | refine tk2 ?_ | refine tk3 ?_ | refine tk12 (fun _ => ?_) | refine tk4 ?_ | refine tk5 ?_ | refine tk6 ?_ | refine tk7 ?_ | refine tk8 ?_ | refine tk9 ?_ | refine tk10 (fun _ _ => ?_) | refine tk11 (fun _ => ?_) | refine tk13 ?_ | refine tk14 ?_); (conv => whnf))
      try (refine CallK.fnT Last_f (fun _ _ => trivial) ?_; rintro ⟨lb, lo⟩ hlo; have hRl : ∀ H, RdA (mkC Tryz.prog gI w hG) (.obj lb lo :: H) (some ⟨lb, 0, none⟩) _ := hlo.rd; dsimp only [List.cons_append, List.nil_append, List.append_nil])
      try ((conv => whnf); repeat ((first | refine tk1 ?_ | refine tk2 ?_ | refine tk3 ?_ | refine tk12 (fun _ => ?_) | refine tk4 ?_ | refine tk5 ?_ | refine tk6 ?_ | refine tk7 ?_ | refine tk8 ?_ | refine tk9 ?_ | refine tk10 (fun _ _ => ?_) | refine tk11 (fun _ => ?_) | refine tk13 ?_ | refine tk14 ?_); (conv => whnf)))
      have hfin1 : partsG ((L, false) :: (bd ++ [(lastC, false)])) = close1 (o ++ lastC) false (d.map pure1) := by unfold partsG; rw [← List.cons_append, stG_snoc, hsg]; rfl
      have hfin2 : partsG ((L, false) :: (bd ++ [])) = close1 o false (d.map pure1) := by rw [List.append_nil]; unfold partsG; rw [hsg]
      have hl5 : lastC.length = 5 := rfl
      first
        | (refine B2S.tc (xs := lastC.map byteV) (l := lastC) rfl rfl ?_
           (conv => whnf); repeat ((first | refine tk1 ?_ | refine tk2 ?_ | refine tk3 ?_ | refine tk12 (fun _ => ?_) | refine tk4 ?_ | refine tk5 ?_ | refine tk6 ?_ | refine tk7 ?_ | refine tk8 ?_ | refine tk9 ?_ | refine tk10 (fun _ _ => ?_) | refine tk11 (fun _ => ?_) | refine tk13 ?_ | refine tk14 ?_); (conv => whnf))
           rename_i sb
           refine CallK.into (G := .row (.slice (some ⟨sb, 0, none⟩) 1 1) 9 1 1 ([lastC].map str) :: .box b12 [.slice oA o.length oc, .slice D d.length dc] 95 :: .row (.slice oA o.length oc) 5 1 o.length (o.map byteV) :: (.row (.slice D d.length dc) 53 2 d.length (pcells d) :: rowsP 5 d)) (Cv.into (by (try dsimp only); repeat' (first | with_reducible exact Cv.refl | with_reducible exact Cv.left | with_reducible exact Cv.right | with_reducible exact Cv.nil | (with_reducible apply Cv.cons; focus ((repeat (first | with_reducible exact Pick.here | with_reducible apply Pick.skip)); done)) | (apply Cv.cons; focus ((repeat (first | exact Pick.here | apply Pick.skip)); done)) | exact Cv.nil | exact Cv.refl | exact Cv.left | exact Cv.right | refine Cv.skip ?_))) ?_
           refine write_k hou (ts := [lastC]) (X := .row (.slice D d.length dc) 53 2 d.length (pcells d) :: rowsP 5 d) (by simp; omega) (by simp) (fun _ A3 c3 => ?_)
           rw [show [lastC].flatten = lastC by simp]
           have hopl : (o ++ lastC).length ≤ 9000000 := by rw [List.length_append]; omega
           (conv => whnf); repeat ((first | refine tk1 ?_ | refine tk2 ?_ | refine tk3 ?_ | refine tk12 (fun _ => ?_) | refine tk4 ?_ | refine tk5 ?_ | refine tk6 ?_ | refine tk7 ?_ | refine tk8 ?_ | refine tk9 ?_ | refine tk10 (fun _ _ => ?_) | refine tk11 (fun _ => ?_) | refine tk13 ?_ | refine tk14 ?_); (conv => whnf))
           refine CallK.into (G := .box b12 [.slice A3 (o ++ lastC).length c3, .slice D d.length dc] 95 :: .row (.slice D d.length dc) 53 2 d.length (pcells d) :: .row (.slice A3 (o ++ lastC).length c3) 5 1 (o ++ lastC).length ((o ++ lastC).map byteV) :: ([] ++ rowsP 5 d)) (Cv.into (by (try dsimp only); repeat' (first | with_reducible exact Cv.refl | with_reducible exact Cv.left | with_reducible exact Cv.right | with_reducible exact Cv.nil | (with_reducible apply Cv.cons; focus ((repeat (first | with_reducible exact Pick.here | with_reducible apply Pick.skip)); done)) | (apply Cv.cons; focus ((repeat (first | exact Pick.here | apply Pick.skip)); done)) | exact Cv.nil | exact Cv.refl | exact Cv.left | exact Cv.right | refine Cv.skip ?_))) ?_
           refine cut_k hou (f := false) (ps := d) (by omega) (by omega) (fun _ D3 dc3 d3 hd3 => ?_)
           (conv => whnf); repeat ((first | refine tk1 ?_ | refine tk2 ?_ | refine tk3 ?_ | refine tk12 (fun _ => ?_) | refine tk4 ?_ | refine tk5 ?_ | refine tk6 ?_ | refine tk7 ?_ | refine tk8 ?_ | refine tk9 ?_ | refine tk10 (fun _ _ => ?_) | refine tk11 (fun _ => ?_) | refine tk13 ?_ | refine tk14 ?_); (conv => whnf))
           exact fun w' hw' => ⟨⟨D3, dc3, d3⟩, rfl, hd3.trans hfin1.symm, newH.into hw' (Cv.into (by (try dsimp only); repeat' (first | with_reducible exact Cv.refl | with_reducible exact Cv.left | with_reducible exact Cv.right | with_reducible exact Cv.nil | (with_reducible apply Cv.cons; focus ((repeat (first | with_reducible exact Pick.here | with_reducible apply Pick.skip)); done)) | (apply Cv.cons; focus ((repeat (first | exact Pick.here | apply Pick.skip)); done)) | exact Cv.nil | exact Cv.refl | exact Cv.left | exact Cv.right | refine Cv.skip ?_)))⟩)
        | (refine CallK.into (G := .box b12 [.slice oA o.length oc, .slice D d.length dc] 95 :: .row (.slice D d.length dc) 53 2 d.length (pcells d) :: .row (.slice oA o.length oc) 5 1 o.length (o.map byteV) :: ([] ++ rowsP 5 d)) (Cv.into (by (try dsimp only); repeat' (first | with_reducible exact Cv.refl | with_reducible exact Cv.left | with_reducible exact Cv.right | with_reducible exact Cv.nil | (with_reducible apply Cv.cons; focus ((repeat (first | with_reducible exact Pick.here | with_reducible apply Pick.skip)); done)) | (apply Cv.cons; focus ((repeat (first | exact Pick.here | apply Pick.skip)); done)) | exact Cv.nil | exact Cv.refl | exact Cv.left | exact Cv.right | refine Cv.skip ?_))) ?_
           refine cut_k hou (f := false) (ps := d) (by omega) (by omega) (fun _ D3 dc3 d3 hd3 => ?_)
           (conv => whnf); repeat ((first | refine tk1 ?_ | refine tk2 ?_ | refine tk3 ?_ | refine tk12 (fun _ => ?_) | refine tk4 ?_ | refine tk5 ?_ | refine tk6 ?_ | refine tk7 ?_ | refine tk8 ?_ | refine tk9 ?_ | refine tk10 (fun _ _ => ?_) | refine tk11 (fun _ => ?_) | refine tk13 ?_ | refine tk14 ?_); (conv => whnf))
           exact fun w' hw' => ⟨⟨D3, dc3, d3⟩, rfl, hd3.trans hfin2.symm, newH.into hw' (Cv.into (by (try dsimp only); repeat' (first | with_reducible exact Cv.refl | with_reducible exact Cv.left | with_reducible exact Cv.right | with_reducible exact Cv.nil | (with_reducible apply Cv.cons; focus ((repeat (first | with_reducible exact Pick.here | with_reducible apply Pick.skip)); done)) | (apply Cv.cons; focus ((repeat (first | exact Pick.here | apply Pick.skip)); done)) | exact Cv.nil | exact Cv.refl | exact Cv.left | exact Cv.right | refine Cv.skip ?_)))⟩)
  · cases last <;> rcases hways with ⟨rfl, hs⟩ | ⟨rfl, hs⟩ | ⟨rfl, hs⟩ | ⟨rfl, hs, hb⟩ | ⟨rfl, hs, hb⟩ <;> rw [hs] at hch <;> (try rw [hb] at hch) <;> have hch' := hch.symm <;> have hcl' := hcl.symm <;> simp at hch' hcl'
    all_goals as_aux_lemma =>
      (conv => whnf); repeat ((first | refine tk1 ?_ | refine tk2 ?_ | refine tk3 ?_ | refine tk12 (fun _ => ?_) | refine tk4 ?_ | refine tk5 ?_ | refine tk6 ?_ | refine tk7 ?_ | refine tk8 ?_ | refine tk9 ?_ | refine tk10 (fun _ _ => ?_) | refine tk11 (fun _ => ?_) | refine tk13 ?_ | refine tk14 ?_); (conv => whnf))
      refine CallK.fnR hstr ⟨(hRQ _).ok, trivial⟩ ?_
      rw [hs]
      (conv => whnf); repeat ((first | refine tk1 ?_ | refine tk2 ?_ | refine tk3 ?_ | refine tk12 (fun _ => ?_) | refine tk4 ?_ | refine tk5 ?_ | refine tk6 ?_ | refine tk7 ?_ | refine tk8 ?_ | refine tk9 ?_ | refine tk10 (fun _ _ => ?_) | refine tk11 (fun _ => ?_) | refine tk13 ?_ | refine tk14 ?_); (conv => whnf))
      try (refine CallK.fn hbare ?_; rw [hb])
      try ((conv => whnf); repeat ((first | refine tk1 ?_ | refine tk2 ?_ | refine tk3 ?_ | refine tk12 (fun _ => ?_) | refine tk4 ?_ | refine tk5 ?_ | refine tk6 ?_ | refine tk7 ?_ | refine tk8 ?_ | refine tk9 ?_ | refine tk10 (fun _ _ => ?_) | refine tk11 (fun _ => ?_) | refine tk13 ?_ | refine tk14 ?_); (conv => whnf)))
      rename_i b12
      refine CallK.into (G := .box b12 [.slice none 0 0, .slice none 0 0] 95 :: .row (.slice none 0 0) 5 1 0 [] :: [.box b4 [.int .i64 st, .slice FA F.length Fc, .slice QA ps.length Qc, .int .u8 cd.toNat, str tag, .bool press] 47]) (Into.trans (Into.nilRow (e := 5) (sz := 1) Into.refl) (Cv.into (by (try dsimp only); repeat' (first | with_reducible exact Cv.refl | with_reducible exact Cv.left | with_reducible exact Cv.right | with_reducible exact Cv.nil | (with_reducible apply Cv.cons; focus ((repeat (first | with_reducible exact Pick.here | with_reducible apply Pick.skip)); done)) | (apply Cv.cons; focus ((repeat (first | exact Pick.here | apply Pick.skip)); done)) | exact Cv.nil | exact Cv.refl | exact Cv.left | exact Cv.right | refine Cv.skip ?_)))) ?_
      refine head_k hou (l := []) (X := [.box b4 [.int .i64 st, .slice FA F.length Fc, .slice QA ps.length Qc, .int .u8 cd.toNat, str tag, .bool press] 47]) st FA Fc F QA Qc ps cd tag press _ _ hRF hRQ hPQ hF (by omega) (by omega) (by simp) hst.2.2 hst.1 hst.2.1 (fun _ A1 c1 L hL => ?_)
      rw [List.nil_append] at hL
      have hL : L = headR st F (ps.map pure1) cd.toNat ch cl := by rw [hch', hcl']; exact hL
      rw [← hL] at hLz ⊢
      (conv => whnf); repeat ((first | refine tk1 ?_ | refine tk2 ?_ | refine tk3 ?_ | refine tk12 (fun _ => ?_) | refine tk4 ?_ | refine tk5 ?_ | refine tk6 ?_ | refine tk7 ?_ | refine tk8 ?_ | refine tk9 ?_ | refine tk10 (fun _ _ => ?_) | refine tk11 (fun _ => ?_) | refine tk13 ?_ | refine tk14 ?_); (conv => whnf))
      refine CallK.into (G := .box b12 [.slice A1 L.length c1, .slice none 0 0] 95 :: .row (.slice none 0 0) 53 2 0 [] :: .row (.slice A1 L.length c1) 5 1 L.length (L.map byteV) :: ([] ++ rowsP 5 [])) (Into.trans (Into.nilRow (e := 53) (sz := 2) Into.refl) (Cv.into (by (try dsimp only); repeat' (first | with_reducible exact Cv.refl | with_reducible exact Cv.left | with_reducible exact Cv.right | with_reducible exact Cv.nil | (with_reducible apply Cv.cons; focus ((repeat (first | with_reducible exact Pick.here | with_reducible apply Pick.skip)); done)) | (apply Cv.cons; focus ((repeat (first | exact Pick.here | apply Pick.skip)); done)) | exact Cv.nil | exact Cv.refl | exact Cv.left | exact Cv.right | refine Cv.skip ?_)))) ?_
      refine cut_k hou (ps := []) (by omega) (by simp) (fun _ D2 dc2 ps2 hps2 => ?_)
      (conv => whnf); repeat ((first | refine tk1 ?_ | refine tk2 ?_ | refine tk3 ?_ | refine tk12 (fun _ => ?_) | refine tk4 ?_ | refine tk5 ?_ | refine tk6 ?_ | refine tk7 ?_ | refine tk8 ?_ | refine tk9 ?_ | refine tk10 (fun _ _ => ?_) | refine tk11 (fun _ => ?_) | refine tk13 ?_ | refine tk14 ?_); (conv => whnf))
      simp only [hch', hcl', if_true]
      exact fun w' hw' => ⟨⟨D2, dc2, ps2⟩, rfl, hps2, newH.into hw' (Cv.into (by (try dsimp only); repeat' (first | with_reducible exact Cv.refl | with_reducible exact Cv.left | with_reducible exact Cv.right | with_reducible exact Cv.nil | (with_reducible apply Cv.cons; focus ((repeat (first | with_reducible exact Pick.here | with_reducible apply Pick.skip)); done)) | (apply Cv.cons; focus ((repeat (first | exact Pick.here | apply Pick.skip)); done)) | exact Cv.nil | exact Cv.refl | exact Cv.left | exact Cv.right | refine Cv.skip ?_)))⟩
end Go.Proofs.YtnaeeklnlddcaaaGreatDoor.Vex
/- Whether an answer is great, reckoned. -/
namespace Go.Proofs.YtnaeeklnlddcaaaGreatDoor.Vex
open Go Go.RowKit
set_option maxRecDepth 100000
set_option linter.unusedSectionVars false
variable {gI : GI} [HasMax gI] [HasPow gI]

def pw (p : List UInt8 × Bool) : Nat := 1 + min p.1.length 10000
def gp : Prs → Nat
  | [] => 0
  | p :: r => pw p + gp r
theorem gp_add : ∀ a b : Prs, gp (a ++ b) = gp a + gp b
  | [], b => by simp [gp]
  | p :: a, b => by simp [gp, gp_add a b]; omega
theorem gp_take (l : Prs) (k : Nat) (h : k < l.length) : gp (l.take (k + 1)) = gp (l.take k) + pw l[k] := by
  rw [List.take_succ_eq_append_getElem h, gp_add]; simp [gp]
theorem gp_total : ∀ l : Prs, gp l ≤ 5000 → total l ≤ 5000 ∧ total l ≤ gp l
  | [], _ => by simp [total, gp]
  | p :: r, h => by
    have h' : pw p + gp r ≤ 5000 := h
    have hr := (gp_total r (by omega)).2
    have : total (p :: r) = p.1.length + total r := rfl
    unfold pw at h'
    have hgp : gp (p :: r) = pw p + gp r := rfl
    unfold pw at hgp
    omega
def greatR (F : List Fld) (ps : Prs) : Bool := decide (100 < ps.length) || (decide (5000 < gp (ps.take 200)) || (decide (90 < F.length) || decide (3000 < gs (F.take 1000))))

theorem gs_fsum : ∀ l : List Fld, gs l ≤ 3000 → fsum l ≤ gs l + 2 * l.length ∧ (∀ f ∈ l, f.1.length + f.2.length ≤ 3000)
  | [], _ => ⟨by simp [gs, fsum], fun f h => by cases h⟩
  | p :: r, h => by
    have e : gs (p :: r) = fw p + gs r := rfl
    rw [e] at h ⊢
    unfold fw at h ⊢
    have ih := gs_fsum r (by omega)
    rw [fsum_cons, List.length_cons]
    refine ⟨by omega, fun f hf => ?_⟩
    rcases List.mem_cons.1 hf with rfl | hf
    · omega
    · exact ih.2 f hf
/-- What an answer that is not great has. -/
theorem greatR_le {F : List Fld} {ps : Prs} (h : greatR F ps = false) : fsum F ≤ 4000 ∧ F.length ≤ 90 ∧ ps.length ≤ 100 ∧ total ps ≤ 5000 ∧ (∀ f ∈ F, f.1.length + f.2.length ≤ 3000) := by
  unfold greatR at h
  simp only [Bool.or_eq_false_iff, decide_eq_false_iff_not] at h
  obtain ⟨h1, h2, h3, h4⟩ := h
  rw [List.take_of_length_le (by omega)] at h2 h4
  have h5 := gs_fsum F (by omega)
  exact ⟨by omega, by omega, by omega, (gp_total _ (by omega)).1, h5.2⟩

set_option maxHeartbeats 4000000 in
theorem Great29_r (st : Int) (FA : Option Addr) (Fc : Nat) (F : List Fld) (QA : Option Addr) (Qc : Nat) (ps : List Prt) (cd : UInt8) (tag : List UInt8) (press : Bool) :
    FnR Tryz.prog gI 19 [.agg ⟨[.int .i64 st, .slice FA F.length Fc, .slice QA ps.length Qc, .int .u8 cd.toNat, str tag, .bool press]⟩] [(FA, fcells F), (QA, pcells ps)] (.bool (greatR F (ps.map pure1))) := by
  refine FnE.of tys_ok Tryz.func19 rfl (by kernel_rfl) rfl rfl ?_; intro w hG hP
  have hRF : ∀ H, RdA (mkC Tryz.prog gI w hG) H FA (fcells F) := fun H => ⟨hP.1.now⟩
  have hRQ : ∀ H, RdA (mkC Tryz.prog gI w hG) H QA (pcells ps) := fun H => ⟨hP.2.1.now⟩
  clear hP
  (conv => whnf); repeat ((first | refine tk1 ?_ | refine tk2 ?_ | refine tk3 ?_ | refine tk12 (fun _ => ?_) | refine tk4 ?_ | refine tk5 ?_ | refine tk6 ?_ | refine tk7 ?_ | refine tk8 ?_ | refine tk9 ?_ | refine tk10 (fun _ _ => ?_) | refine tk11 (fun _ => ?_) | refine tk13 ?_ | refine tk14 ?_); (conv => whnf))
  rename_i b
  refine LoopS.lp tys_ok (fun (k : Nat) u => [u 0, .pointer (some ⟨b, 0, none⟩), u 2, .int .i64 (gp ((ps.map pure1).take k) : Nat), .int .i64 (k : Nat), u 5, u 6, u 7, u 8, u 9, u 10, u 11, u 12, u 13, u 14, u 15, u 16, u 17, u 18, u 19, u 20, u 21, u 22, u 23, u 24, u 25, u 26, u 27, u 28, u 29, u 30, u 31, u 32, u 33, u 34, u 35, u 36, u 37, u 38, u 39, u 40, u 41, u 42, u 43, u 44, u 45]) (fun _ => [.box b [.int .i64 st, .slice FA F.length Fc, .slice QA ps.length Qc, .int .u8 cd.toNat, str tag, .bool press] 47])
    (fun k => k ≤ ps.length ∧ k ≤ 200 ∧ gp ((ps.map pure1).take k) ≤ k * 10001) (fun k => ps.length - k) 0 ⟨Nat.zero_le _, Nat.zero_le _, Nat.zero_le _⟩ rfl (by repeat' (first | exact List.Sublist.refl _ | exact List.nil_sublist _ | apply List.Sublist.cons_cons | apply List.Sublist.cons)) ?_
  intro k u ⟨hk, hk2, hz⟩
  (conv => whnf); repeat ((first | refine tk1 ?_ | refine tk2 ?_ | refine tk3 ?_ | refine tk12 (fun _ => ?_) | refine tk4 ?_ | refine tk5 ?_ | refine tk6 ?_ | refine tk7 ?_ | refine tk8 ?_ | refine tk9 ?_ | refine tk10 (fun _ _ => ?_) | refine tk11 (fun _ => ?_) | refine tk13 ?_ | refine tk14 ?_); (conv => whnf))
  refine Cmp.cases (fun hlt => ?_) (fun hlt => ?_)
  · (conv => whnf); repeat ((first | refine tk1 ?_ | refine tk2 ?_ | refine tk3 ?_ | refine tk12 (fun _ => ?_) | refine tk4 ?_ | refine tk5 ?_ | refine tk6 ?_ | refine tk7 ?_ | refine tk8 ?_ | refine tk9 ?_ | refine tk10 (fun _ _ => ?_) | refine tk11 (fun _ => ?_) | refine tk13 ?_ | refine tk14 ?_); (conv => whnf))
    refine Cmp.cases (fun h2 => ?_) (fun h2 => ?_)
    · have hlt' : k < ps.length := by omega
      have hkp : k < (ps.map pure1).length := by rw [List.length_map]; exact hlt'
      have g2 := (pcells_at ps k hlt').1
      have hnx := gp_take (ps.map pure1) k hkp
      rw [List.getElem_map] at hnx
      generalize ps[k] = q at *
      have hpw : pw (pure1 q) = 1 + min q.l.length 10000 := rfl
      rw [hpw] at hnx
      (conv => whnf); repeat ((first | refine tk1 ?_ | refine tk2 ?_ | refine tk3 ?_ | refine tk12 (fun _ => ?_) | refine tk4 ?_ | refine tk5 ?_ | refine tk6 ?_ | refine tk7 ?_ | refine tk8 ?_ | refine tk9 ?_ | refine tk10 (fun _ _ => ?_) | refine tk11 (fun _ => ?_) | refine tk13 ?_ | refine tk14 ?_); (conv => whnf))
      refine IdxA.tc (xs := pcells ps) (by rw [pcells_length]; omega) (by omega) (by omega) ?_
      (conv => whnf); repeat ((first | refine tk1 ?_ | refine tk2 ?_ | refine tk3 ?_ | refine tk12 (fun _ => ?_) | refine tk4 ?_ | refine tk5 ?_ | refine tk6 ?_ | refine tk7 ?_ | refine tk8 ?_ | refine tk9 ?_ | refine tk10 (fun _ _ => ?_) | refine tk11 (fun _ => ?_) | refine tk13 ?_ | refine tk14 ?_); (conv => whnf))
      refine Ld.taF (xs := pcells ps) (v := .slice q.A q.l.length q.cp) (by rw [Int.toNat_natCast]; exact g2) ?_
      (conv => whnf); repeat ((first | refine tk1 ?_ | refine tk2 ?_ | refine tk3 ?_ | refine tk12 (fun _ => ?_) | refine tk4 ?_ | refine tk5 ?_ | refine tk6 ?_ | refine tk7 ?_ | refine tk8 ?_ | refine tk9 ?_ | refine tk10 (fun _ _ => ?_) | refine tk11 (fun _ => ?_) | refine tk13 ?_ | refine tk14 ?_); (conv => whnf))
      refine OthP.min2 (min (q.l.length : Int) 10000) rfl rfl rfl ?_
      (conv => whnf); repeat ((first | refine tk1 ?_ | refine tk2 ?_ | refine tk3 ?_ | refine tk12 (fun _ => ?_) | refine tk4 ?_ | refine tk5 ?_ | refine tk6 ?_ | refine tk7 ?_ | refine tk8 ?_ | refine tk9 ?_ | refine tk10 (fun _ _ => ?_) | refine tk11 (fun _ => ?_) | refine tk13 ?_ | refine tk14 ?_); (conv => whnf))
      exact ⟨k + 1, ⟨by omega, by omega, by omega⟩, by dsimp only; rw [show ((gp ((ps.map pure1).take (k + 1)) : Nat) : Int) = (gp ((ps.map pure1).take k) : Nat) + 1 + min (q.l.length : Int) 10000 by rw [hnx]; omega]; rfl, (by repeat' (first | exact List.Sublist.refl _ | exact List.nil_sublist _ | apply List.Sublist.cons_cons | apply List.Sublist.cons)), by dsimp only; omega⟩
    · have ht : gp ((ps.map pure1).take k) = gp ((ps.map pure1).take 200) := by
        first
          | rw [show k = 200 by omega]
          | rw [List.take_of_length_le (by rw [List.length_map]; omega), List.take_of_length_le (by rw [List.length_map]; omega)]
      unfold greatR
      rw [ht, List.length_map]
      rw [ht] at hz
      (conv => whnf); repeat ((first | refine tk1 ?_ | refine tk2 ?_ | refine tk3 ?_ | refine tk12 (fun _ => ?_) | refine tk4 ?_ | refine tk5 ?_ | refine tk6 ?_ | refine tk7 ?_ | refine tk8 ?_ | refine tk9 ?_ | refine tk10 (fun _ _ => ?_) | refine tk11 (fun _ => ?_) | refine tk13 ?_ | refine tk14 ?_); (conv => whnf))
      exact fun w' _ => by rw [decide_eq_true (show 100 < ps.length by omega)]; rfl
  · have ht : gp ((ps.map pure1).take k) = gp ((ps.map pure1).take 200) := by
      first
        | rw [show k = 200 by omega]
        | rw [List.take_of_length_le (by rw [List.length_map]; omega), List.take_of_length_le (by rw [List.length_map]; omega)]
    unfold greatR
    rw [ht, List.length_map]
    rw [ht] at hz
    (conv => whnf); repeat ((first | refine tk1 ?_ | refine tk2 ?_ | refine tk3 ?_ | refine tk12 (fun _ => ?_) | refine tk4 ?_ | refine tk5 ?_ | refine tk6 ?_ | refine tk7 ?_ | refine tk8 ?_ | refine tk9 ?_ | refine tk10 (fun _ _ => ?_) | refine tk11 (fun _ => ?_) | refine tk13 ?_ | refine tk14 ?_); (conv => whnf))
    refine Cmp.cases (fun c1 => ?_) (fun c1 => ?_)
    · (conv => whnf); repeat ((first | refine tk1 ?_ | refine tk2 ?_ | refine tk3 ?_ | refine tk12 (fun _ => ?_) | refine tk4 ?_ | refine tk5 ?_ | refine tk6 ?_ | refine tk7 ?_ | refine tk8 ?_ | refine tk9 ?_ | refine tk10 (fun _ _ => ?_) | refine tk11 (fun _ => ?_) | refine tk13 ?_ | refine tk14 ?_); (conv => whnf))
      exact fun w' _ => by rw [decide_eq_true (show 100 < ps.length by omega)]; rfl
    rw [decide_eq_false (show ¬ 100 < ps.length by omega), Bool.false_or]
    (conv => whnf); repeat ((first | refine tk1 ?_ | refine tk2 ?_ | refine tk3 ?_ | refine tk12 (fun _ => ?_) | refine tk4 ?_ | refine tk5 ?_ | refine tk6 ?_ | refine tk7 ?_ | refine tk8 ?_ | refine tk9 ?_ | refine tk10 (fun _ _ => ?_) | refine tk11 (fun _ => ?_) | refine tk13 ?_ | refine tk14 ?_); (conv => whnf))
    refine Cmp.cases (fun c2 => ?_) (fun c2 => ?_)
    · (conv => whnf); repeat ((first | refine tk1 ?_ | refine tk2 ?_ | refine tk3 ?_ | refine tk12 (fun _ => ?_) | refine tk4 ?_ | refine tk5 ?_ | refine tk6 ?_ | refine tk7 ?_ | refine tk8 ?_ | refine tk9 ?_ | refine tk10 (fun _ _ => ?_) | refine tk11 (fun _ => ?_) | refine tk13 ?_ | refine tk14 ?_); (conv => whnf))
      exact fun w' _ => by rw [decide_eq_true (show 5000 < gp ((ps.map pure1).take 200) by omega)]; rfl
    rw [decide_eq_false (show ¬ 5000 < gp ((ps.map pure1).take 200) by omega), Bool.false_or]
    (conv => whnf); repeat ((first | refine tk1 ?_ | refine tk2 ?_ | refine tk3 ?_ | refine tk12 (fun _ => ?_) | refine tk4 ?_ | refine tk5 ?_ | refine tk6 ?_ | refine tk7 ?_ | refine tk8 ?_ | refine tk9 ?_ | refine tk10 (fun _ _ => ?_) | refine tk11 (fun _ => ?_) | refine tk13 ?_ | refine tk14 ?_); (conv => whnf))
    refine Cmp.cases (fun c3 => ?_) (fun c3 => ?_)
    · (conv => whnf); repeat ((first | refine tk1 ?_ | refine tk2 ?_ | refine tk3 ?_ | refine tk12 (fun _ => ?_) | refine tk4 ?_ | refine tk5 ?_ | refine tk6 ?_ | refine tk7 ?_ | refine tk8 ?_ | refine tk9 ?_ | refine tk10 (fun _ _ => ?_) | refine tk11 (fun _ => ?_) | refine tk13 ?_ | refine tk14 ?_); (conv => whnf))
      exact fun w' _ => by rw [decide_eq_true (show 90 < F.length by omega)]; rfl
    rw [decide_eq_false (show ¬ 90 < F.length by omega), Bool.false_or]
    (conv => whnf); repeat ((first | refine tk1 ?_ | refine tk2 ?_ | refine tk3 ?_ | refine tk12 (fun _ => ?_) | refine tk4 ?_ | refine tk5 ?_ | refine tk6 ?_ | refine tk7 ?_ | refine tk8 ?_ | refine tk9 ?_ | refine tk10 (fun _ _ => ?_) | refine tk11 (fun _ => ?_) | refine tk13 ?_ | refine tk14 ?_); (conv => whnf))
    refine CallK.fnR (Great_r (gI := gI) FA Fc F) ⟨(hRF _).ok, trivial⟩ ?_
    (conv => whnf); repeat ((first | refine tk1 ?_ | refine tk2 ?_ | refine tk3 ?_ | refine tk12 (fun _ => ?_) | refine tk4 ?_ | refine tk5 ?_ | refine tk6 ?_ | refine tk7 ?_ | refine tk8 ?_ | refine tk9 ?_ | refine tk10 (fun _ _ => ?_) | refine tk11 (fun _ => ?_) | refine tk13 ?_ | refine tk14 ?_); (conv => whnf))
    exact fun w' _ => rfl
end Go.Proofs.YtnaeeklnlddcaaaGreatDoor.Vex
/- What is great in layer 27, reckoned: it tells something of any argument. -/
namespace Go.Proofs.YtnaeeklnlddcaaaGreatDoor.Vex
open Go Go.RowKit
set_option maxRecDepth 100000
set_option linter.unusedSectionVars false
variable {gI : GI} [HasMax gI]

theorem mul_bound {a b : Int} (h1 : 0 ≤ a) (h2 : a ≤ 2000) (h3 : 0 ≤ b) (h4 : b ≤ 200) : 0 ≤ a * b ∧ a * b ≤ 400000 :=
  ⟨Int.mul_nonneg h1 h3, Int.le_trans (Int.mul_le_mul h2 h4 h3 (by decide)) (by decide)⟩
end Go.Proofs.YtnaeeklnlddcaaaGreatDoor.Vex
/- Plain laws on pages: where flushes cut a body. No program in sight. -/
namespace Go.Proofs.YtnaeeklnlddcaaaGreatDoor.Vex

/-- How many bytes stand up to the end of each part. -/
def cumG (n : Nat) : Prs → List Nat
  | [] => []
  | p :: r => (n + p.1.length) :: cumG (n + p.1.length) r
def cumE (d : Prs) : List Nat := cumG 0 d
theorem cumG_length : ∀ (d : Prs) (n : Nat), (cumG n d).length = d.length
  | [], _ => rfl
  | p :: r, n => by simp only [cumG, List.length_cons, cumG_length r]
theorem cumG_snoc (p : List UInt8 × Bool) : ∀ (d : Prs) (n : Nat), cumG n (d ++ [p]) = cumG n d ++ [n + total d + p.1.length]
  | [], n => by simp [cumG, total]
  | q :: r, n => by
    simp only [List.cons_append, cumG, cumG_snoc p r, total]
    congr 3
    omega
theorem cumG_at : ∀ (d : Prs) (n i : Nat), i < d.length → (cumG n d)[i]? = some (n + total (d.take (i + 1)))
  | [], _, i, h => by simp at h
  | p :: r, n, 0, _ => by simp [cumG, total]
  | p :: r, n, i + 1, h => by
    simp only [cumG, List.getElem?_cons_succ, List.take_succ_cons, total]
    rw [cumG_at r _ i (by simpa using h)]
    congr 1
    omega
theorem cumE_length (d : Prs) : (cumE d).length = d.length := cumG_length d 0
theorem cumE_at (d : Prs) (i : Nat) (h : i < d.length) : (cumE d)[i]? = some (total (d.take (i + 1))) := by
  have := cumG_at d 0 i h
  rw [Nat.zero_add] at this
  exact this
theorem cumE_last (d : Prs) (h : d ≠ []) : (cumE d)[d.length - 1]? = some (total d) := by
  have h1 := List.length_pos_iff.2 h
  rw [cumE_at d _ (by omega), show d.length - 1 + 1 = d.length by omega, List.take_length]
/-- What the ends are when a piece more is told. -/
theorem ends_none (l : Prs) (x : List UInt8 × Bool) (h : x.2 = false) : cumE (stG (l ++ [x])).2 = cumE (stG l).2 := by
  rw [stG_snoc]; unfold stepG; rw [h]; rfl
theorem ends_step (l : Prs) (x : List UInt8 × Bool) (h : x.2 = true) :
    cumE (stG (l ++ [x])).2 = if 0 < total (l ++ [x]) ∧ ((stG l).2 = [] ∨ total (stG l).2 < total (l ++ [x])) then cumE (stG l).2 ++ [total (l ++ [x])] else cumE (stG l).2 := by
  have h1 := total_stG l
  have h2 := total_snoc l x
  have h3 : total (stG l).2 = 0 → (stG l).2 = [] := fun h0 => by
    have := length_le_total (stG l).2 fun p hp => (whole_stG l p hp).1
    exact List.eq_nil_of_length_eq_zero (by omega)
  rw [stG_snoc]
  unfold stepG
  rw [h]
  simp only [if_true]
  unfold close1
  by_cases hz : (stG l).1 ++ x.1 = []
  · have hz' := congrArg List.length hz
    rw [List.length_append, List.length_nil] at hz'
    rw [if_pos hz, if_neg]
    rintro ⟨h4, h5⟩
    rcases h5 with h5 | h5
    · rw [h5] at h1
      simp only [total] at h1
      omega
    · omega
  · have hz' : 0 < ((stG l).1 ++ x.1).length := List.length_pos_iff.2 hz
    rw [List.length_append] at hz'
    rw [if_neg hz, if_pos ⟨by omega, .inr (by omega)⟩]
    unfold cumE
    rw [cumG_snoc, List.length_append]
    congr 2
    omega
/-- The parts, and those among them that have a flush. -/
theorem parts_cases (l : Prs) : ((stG l).1 = [] ∧ partsG l = (stG l).2) ∨ ((stG l).1 ≠ [] ∧ partsG l = (stG l).2 ++ [((stG l).1, false)]) := by
  unfold partsG close1
  by_cases h : (stG l).1 = []
  · exact .inl ⟨h, by rw [if_pos h]⟩
  · exact .inr ⟨h, by rw [if_neg h]⟩
theorem parts_at (l : Prs) (i : Nat) (h : i < (partsG l).length) : ((partsG l)[i].1 ≠ []) ∧
    (((i < (stG l).2.length) ∧ (partsG l)[i].2 = true ∧ (cumE (stG l).2)[i]? = some (total ((partsG l).take (i + 1)))) ∨ (i = (stG l).2.length ∧ (partsG l)[i].2 = false ∧ i + 1 = (partsG l).length)) := by
  have hw := whole_stG l
  rcases parts_cases l with ⟨h0, h1⟩ | ⟨h0, h1⟩
  · have h2 : i < (stG l).2.length := by rw [← h1]; exact h
    have h3 : (partsG l)[i] = (stG l).2[i] := by simp only [h1]
    have h4 := hw _ (List.getElem_mem h2)
    rw [h3]
    exact ⟨h4.1, .inl ⟨h2, h4.2, by rw [cumE_at _ _ h2, h1]⟩⟩
  · have h5 : (partsG l).length = (stG l).2.length + 1 := by rw [h1]; simp
    by_cases h2 : i < (stG l).2.length
    · have h3 : (partsG l)[i] = (stG l).2[i] := by simp only [h1]; rw [List.getElem_append_left h2]
      have h4 := hw _ (List.getElem_mem h2)
      rw [h3]
      exact ⟨h4.1, .inl ⟨h2, h4.2, by rw [cumE_at _ _ h2, h1, List.take_append_of_le_length (by omega)]⟩⟩
    · have h6 : i = (stG l).2.length := by omega
      have h3 : (partsG l)[i] = ((stG l).1, false) := by simp only [h1]; rw [List.getElem_append_right (by omega)]; simp [h6]
      rw [h3]
      exact ⟨h0, .inr ⟨h6, rfl, by omega⟩⟩
theorem parts_length (l : Prs) : (partsG l).length ≤ l.length ∧ (stG l).2.length ≤ (partsG l).length ∧ (partsG l).length ≤ (stG l).2.length + 1 := by
  have key : ∀ l : Prs, (stG l).2.length + (if (stG l).1 = [] then 0 else 1) ≤ l.length := fun l => by
    refine snoc_ind (p := fun l => (stG l).2.length + (if (stG l).1 = [] then 0 else 1) ≤ l.length) (Nat.le_refl _) (fun l x ih => ?_) l
    have h9 := stG_length l
    rw [stG_snoc, List.length_append]
    unfold stepG close1
    by_cases hx : x.2 = true
    · rw [if_pos hx]
      dsimp only
      split
      · simp; omega
      · simp; omega
    · rw [if_neg hx]
      dsimp only
      split
      · simp; omega
      · simp; omega
  have h := key l
  rcases parts_cases l with ⟨h0, h1⟩ | ⟨h0, h1⟩
  · rw [if_pos h0] at h
    rw [h1]
    omega
  · rw [if_neg h0] at h
    rw [h1]
    simp
    omega
theorem parts_one (x : List UInt8 × Bool) : partsG [x] = if x.1 = [] then [] else [x] := by
  obtain ⟨s, f⟩ := x
  unfold partsG stG stepG close1
  cases f <;> by_cases h : s = [] <;> simp [h]
end Go.Proofs.YtnaeeklnlddcaaaGreatDoor.Vex
/- The statements' own first example, reckoned: answers, alive. -/
namespace Go.Proofs.YtnaeeklnlddcaaaGreatDoor.Vex
open Go Go.RowKit
set_option maxRecDepth 100000
set_option linter.unusedSectionVars false
variable {gI : GI} [HasMax gI]

theorem prtsOk_st {c : Ctx} {H : Hp} {A : Option Addr} {ps : List Prt} (h1 : RdS c H A (pcells ps)) (h2 : ∀ q ∈ ps, RdS c H q.A (q.l.map byteV)) : ∀ w, St c H w → PrtsOk w A ps :=
  fun w hw => ⟨h1 w hw, fun q hq => h2 q hq w hw⟩
theorem answers_ps_le {st : Int} {fs : List Fld} {tag : List UInt8} {press : Bool} {Q : List Pce} {B q : List UInt8} {pm : List Fld} {a : Ans} {e : Int} (h : answerOf st fs tag press Q B q pm = (a, e)) : a.ps.length ≤ Q.length ∧ total a.ps ≤ 131072 ∧ a.fs.length ≤ fs.length + 1 := by
  unfold answerOf at h
  split at h
  · split at h
    · rename_i h2
      obtain ⟨rfl, rfl⟩ := Prod.mk.inj h
      refine ⟨?_, ?_, ?_⟩
      · have := (parts_length (told B q pm Q)).1
        unfold told at this
        rw [List.length_map] at this
        exact this
      · show total (partsG _) ≤ _
        rw [← total_bodyOf, bodyOf_parts, total_bodyOf]
        exact h2
      · show (ansF tag fs).length ≤ _
        unfold ansF
        split
        · omega
        · simp
    · obtain ⟨rfl, rfl⟩ := Prod.mk.inj h
      exact ⟨Nat.zero_le _, Nat.zero_le _, Nat.zero_le _⟩
  · obtain ⟨rfl, rfl⟩ := Prod.mk.inj h
    exact ⟨Nat.zero_le _, Nat.zero_le _, Nat.zero_le _⟩
def pm2 : List Fld := [([120], [49]), ([120], [50])]
def aliveL : List Pce := [⟨1, [97, 98], 2, false⟩, ⟨2, [120], 0, true⟩, ⟨3, [], 0, false⟩]
end Go.Proofs.YtnaeeklnlddcaaaGreatDoor.Vex
/- How long what is told of an answer is. No program in sight. -/
namespace Go.Proofs.YtnaeeklnlddcaaaGreatDoor.Vex
open Go Go.RowKit

theorem writeR_le (st : Int) (F : List Fld) (ps : Prs) (cd : Nat) (minor : Int) (head last : Bool) (hF : fsum F ≤ 1048576) (hn : ps.length ≤ 100) (ht : total ps ≤ 5000) : (writeR st F ps cd minor head last).l.length ≤ 4000000 ∧ total (writeR st F ps cd minor head last).l ≤ 9000000 := by
  unfold writeR
  split
  · rename_i hok
    split
    · dsimp only
      have hst : 200 ≤ st ∧ st ≤ 599 := by
        unfold anOK anST at hok
        simp only [Bool.and_eq_true, decide_eq_true_eq] at hok
        exact ⟨hok.1.1, hok.1.2.1⟩
      have h1 := headR_le st F ps cd (chunkB st ps cd minor) (last || decide (minor = 0)) hF hst.1 hst.2 (by omega)
      have h2 := total_bodyR (chunkB st ps cd minor) ps (fun p hp => Nat.lt_of_le_of_lt (total_mem2 hp) (by omega))
      have h3 : (bodyR (chunkB st ps cd minor) ps).length ≤ ps.length := by unfold bodyR; split <;> simp
      have hpt : ∀ l : Prs, total (partsG l) = total l := fun l => by rw [← total_bodyOf, bodyOf_parts, total_bodyOf]
      rw [hpt]
      have h4 := (parts_length (piecesR st F ps cd minor head last)).1
      have h5 : lastC.length = 5 := rfl
      have h6 : (piecesR st F ps cd minor head last).length ≤ 200 ∧ total (piecesR st F ps cd minor head last) ≤ 9000000 := by
        have hc : ∀ (p : List UInt8 × Bool) (r : Prs), total (p :: r) = p.1.length + total r := fun _ _ => rfl
        have hnil : total ([] : Prs) = 0 := rfl
        clear h4
        unfold piecesR
        generalize headR st F ps cd (chunkB st ps cd minor) (last || decide (minor = 0)) = Hh at h1 ⊢
        generalize bodyR (chunkB st ps cd minor) ps = B at h2 h3 ⊢
        generalize chunkB st ps cd minor = ch
        cases head <;> cases ch <;> simp only [Bool.false_eq_true, if_true, if_false, hc, total_append, hnil, List.length_cons, List.length_append, List.length_nil, h5] <;> omega
      exact ⟨by omega, h6.2⟩
    · exact ⟨Nat.zero_le _, Nat.zero_le _⟩
  · exact ⟨Nat.zero_le _, Nat.zero_le _⟩
end Go.Proofs.YtnaeeklnlddcaaaGreatDoor.Vex
/- The statements on answers as bytes, reckoned: the chapter's answer is told, and read. -/
namespace Go.Proofs.YtnaeeklnlddcaaaGreatDoor.Vex
open Go Go.RowKit
set_option maxRecDepth 100000
set_option linter.unusedSectionVars false
variable {gI : GI} [HasMax gI] [HasUtf gI] [HasErr gI] [HasPow gI] [HasTz gI]

def twoP : Prs := [([97], true), ([98], false)]
def twoT : List UInt8 := firstR ++ [50, 48, 48, 32, 13, 10] ++ lineR teN chunkedN ++ [13, 10] ++ [49, 13, 10, 97, 13, 10, 49, 13, 10, 98, 13, 10, 48, 13, 10, 13, 10]
theorem two_ok : anOK 200 [] twoP 0 = true := by decide +kernel
theorem itoa_200 : Lib.itoa 200 = [50, 48, 48] := by decide +kernel
theorem two_text : bodyOf (piecesR 200 [] twoP 0 1 false false) = twoT := by decide +kernel
theorem two_read : parseR (twoT ++ [120]) false false = ⟨200, [(teN, chunkedN)], [97, 98], false, twoT.length, 0⟩ := by
  have h := back_law 200 [] twoP 0 1 false false [120] two_ok (.inr rfl) (Nat.zero_le _) (fun f hf => by cases hf) (by decide) (by decide) (by rw [two_text]; decide)
  rw [two_text] at h
  exact h
theorem two_write : writeR 200 [] twoP 0 1 false false = ⟨partsG (piecesR 200 [] twoP 0 1 false false), false, 0⟩ := by
  unfold writeR
  rw [two_ok, if_pos rfl, if_pos (.inr rfl)]
  rfl
theorem two_body : bodyOf (writeR 200 [] twoP 0 1 false false).l = twoT := by
  rw [two_write]
  dsimp only
  rw [bodyOf_parts, two_text]
/-- The chapter's answer, in memory. -/
structure TwoM where
  q : Nat
  b1 : Nat
  o1 : Obj
  b2 : Nat
  o2 : Obj
def TwoM.ps (x : TwoM) : List Prt := [⟨some ⟨x.b1, 0, none⟩, 1, [97], true⟩, ⟨some ⟨x.b2, 0, none⟩, 1, [98], false⟩]
def TwoM.val (x : TwoM) : Value := .agg ⟨[.int .i64 200, .slice none 0 0, .slice (some ⟨x.q, 0, none⟩) 2 2, .int .u8 0, str [], .bool false]⟩
theorem two_f : FnT Tryz.prog gI 24 [] (fun _ => True) TwoM.val (fun x => RowO x.o1 [byteV 97] ∧ RowO x.o2 [byteV 98]) (fun x => [.row (.slice (some ⟨x.q, 0, none⟩) 2 2) 53 2 2 (pcells x.ps)]) (fun x => [.obj x.b1 x.o1, .obj x.b2 x.o2]) := by
  refine FnE.of tys_ok Tryz.func24 rfl (by kernel_rfl) rfl rfl ?_; intro w hG hP
  (conv => whnf); repeat ((first | refine tk1 ?_ | refine tk2 ?_ | refine tk3 ?_ | refine tk12 (fun _ => ?_) | refine tk4 ?_ | refine tk5 ?_ | refine tk6 ?_ | refine tk7 ?_ | refine tk8 ?_ | refine tk9 ?_ | refine tk10 (fun _ _ => ?_) | refine tk11 (fun _ => ?_) | refine tk13 ?_ | refine tk14 ?_); (conv => whnf))
  rename_i b1
  refine Oth.same tys_ok rfl rfl rfl (fun o1 ho1 => ?_)
  (conv => whnf); repeat ((first | refine tk1 ?_ | refine tk2 ?_ | refine tk3 ?_ | refine tk12 (fun _ => ?_) | refine tk4 ?_ | refine tk5 ?_ | refine tk6 ?_ | refine tk7 ?_ | refine tk8 ?_ | refine tk9 ?_ | refine tk10 (fun _ _ => ?_) | refine tk11 (fun _ => ?_) | refine tk13 ?_ | refine tk14 ?_); (conv => whnf))
  rename_i b2
  refine Oth.same tys_ok rfl rfl rfl (fun o2 ho2 => ?_)
  (conv => whnf); repeat ((first | refine tk1 ?_ | refine tk2 ?_ | refine tk3 ?_ | refine tk12 (fun _ => ?_) | refine tk4 ?_ | refine tk5 ?_ | refine tk6 ?_ | refine tk7 ?_ | refine tk8 ?_ | refine tk9 ?_ | refine tk10 (fun _ _ => ?_) | refine tk11 (fun _ => ?_) | refine tk13 ?_ | refine tk14 ?_); (conv => whnf))
  exact fun w' hw' => ⟨⟨_, b1, o1, b2, o2⟩, rfl, ⟨ho1, ho2⟩, newH.into hw' (Cv.into (by (try dsimp only); repeat' (first | with_reducible exact Cv.refl | with_reducible exact Cv.left | with_reducible exact Cv.right | with_reducible exact Cv.nil | (with_reducible apply Cv.cons; focus ((repeat (first | with_reducible exact Pick.here | with_reducible apply Pick.skip)); done)) | (apply Cv.cons; focus ((repeat (first | exact Pick.here | apply Pick.skip)); done)) | exact Cv.nil | exact Cv.refl | exact Cv.left | exact Cv.right | refine Cv.skip ?_)))⟩
theorem TwoM.prts {c : Ctx} (x : TwoM) (_h : RowO x.o1 [byteV 97] ∧ RowO x.o2 [byteV 98]) {H : Hp} (h1 : RdA c H (some ⟨x.q, 0, none⟩) (pcells x.ps)) (h2 : RdS c H (some ⟨x.b1, 0, none⟩) [byteV 97]) (h3 : RdS c H (some ⟨x.b2, 0, none⟩) [byteV 98]) : ∀ w, St c H w → PrtsOk w (some ⟨x.q, 0, none⟩) x.ps :=
  prtsOk_st h1.ok (fun q hq => by
    unfold TwoM.ps at hq
    rcases List.mem_cons.1 hq with rfl | hq
    · exact h2
    · rw [List.mem_singleton.1 hq]; exact h3)
/-- What is told of an answer, as one text; or a mark. -/
def toldT (st : Int) (F : List Fld) (ps : Prs) (cd : Nat) (minor : Int) : List UInt8 := if (writeR st F ps cd minor false false).e = 0 then bodyOf (writeR st F ps cd minor false false).l else [63]
theorem two_told : toldT 200 [] twoP 0 1 = twoT := by
  unfold toldT
  rw [two_body, two_write]
  rfl
theorem told_f (st : Int) (FA : Option Addr) (Fc : Nat) (F : List Fld) (QA : Option Addr) (Qc : Nat) (ps : List Prt) (cd : UInt8) (tag : List UInt8) (press : Bool) (minor : Int) (hF : fsum F ≤ 1048576) (hn : ps.length ≤ 100) (htl : total (ps.map pure1) ≤ 5000) (hq : ∀ q ∈ ps, q.l.length ≤ q.cp) :
    FnE Tryz.prog gI 26 [.agg ⟨[.int .i64 st, .slice FA F.length Fc, .slice QA ps.length Qc, .int .u8 cd.toNat, str tag, .bool press]⟩, .int .i64 minor] (fun w => Rdw w FA (fcells F) ∧ PrtsOk w QA ps) fun _ v _ => v = str (toldT st F (ps.map pure1) cd.toNat minor) := by
  have hw := AWrite_f (gI := gI) st FA Fc F QA Qc ps cd tag press minor false false hF (by omega) (by omega) hq
  have hle := writeR_le st F (ps.map pure1) cd.toNat minor false false hF (by rw [List.length_map]; exact hn) htl
  refine FnE.of tys_ok Tryz.func26 rfl (by kernel_rfl) rfl rfl ?_; intro w hG hP
  have hRF : ∀ H, RdA (mkC Tryz.prog gI w hG) H FA (fcells F) := fun H => ⟨hP.1.now⟩
  have hRQ : ∀ H, RdA (mkC Tryz.prog gI w hG) H QA (pcells ps) := fun H => ⟨hP.2.1.now⟩
  have hRq : ∀ q ∈ ps, ∀ H, RdA (mkC Tryz.prog gI w hG) H q.A (q.l.map byteV) := fun q hm H => ⟨(hP.2.2 q hm).now⟩
  have hPQ : ∀ H w', St (mkC Tryz.prog gI w hG) H w' → PrtsOk w' QA ps := fun H w' hw' => ⟨(hRQ H).ok w' hw', fun q hm => (hRq q hm H).ok w' hw'⟩
  clear hP
  unfold toldT
  generalize writeR st F (ps.map pure1) cd.toNat minor false false = W at *
  obtain ⟨Wl, Wc, We⟩ := W
  dsimp only at hw hle ⊢
  (conv => whnf); repeat ((first | refine tk1 ?_ | refine tk2 ?_ | refine tk3 ?_ | refine tk12 (fun _ => ?_) | refine tk4 ?_ | refine tk5 ?_ | refine tk6 ?_ | refine tk7 ?_ | refine tk8 ?_ | refine tk9 ?_ | refine tk10 (fun _ _ => ?_) | refine tk11 (fun _ => ?_) | refine tk13 ?_ | refine tk14 ?_); (conv => whnf))
  refine CallK.fnT hw (fun w1 hw1 => ⟨(hRF _).ok w1 hw1, hPQ _ w1 hw1⟩) ?_
  rintro x hx
  have hx' : x.ps.map pure1 = Wl := hx
  have hxl : x.ps.length = Wl.length := by rw [← hx', List.length_map]
  dsimp only [PV.hd, List.cons_append, List.nil_append]
  by_cases he : We = 0
  · rw [if_pos he]
    (conv => whnf); repeat ((first | refine tk1 ?_ | refine tk2 ?_ | refine tk3 ?_ | refine tk12 (fun _ => ?_) | refine tk4 ?_ | refine tk5 ?_ | refine tk6 ?_ | refine tk7 ?_ | refine tk8 ?_ | refine tk9 ?_ | refine tk10 (fun _ _ => ?_) | refine tk11 (fun _ => ?_) | refine tk13 ?_ | refine tk14 ?_); (conv => whnf))
    refine CallK.fnG (G := id) (Body_f x.D x.dc x.ps (by omega) (by rw [hx']; omega)) (fun w1 hw1 => (prtsOk_st RdA.ok (fun q hq => RdS.sub (Prt.rd (e := 5) hq) (by repeat' (first | exact List.Sublist.refl _ | exact List.sublist_append_right _ _ | exact List.sublist_append_left _ _ | refine List.Sublist.trans ?_ (List.sublist_append_left _ _) | apply List.Sublist.cons)))) w1 hw1) (fun dA dc hdc => ?_)
    rw [hx']
    (conv => whnf); repeat ((first | refine tk1 ?_ | refine tk2 ?_ | refine tk3 ?_ | refine tk12 (fun _ => ?_) | refine tk4 ?_ | refine tk5 ?_ | refine tk6 ?_ | refine tk7 ?_ | refine tk8 ?_ | refine tk9 ?_ | refine tk10 (fun _ _ => ?_) | refine tk11 (fun _ => ?_) | refine tk13 ?_ | refine tk14 ?_); (conv => whnf))
    refine B2S.tc (xs := (bodyOf Wl).map byteV) (l := bodyOf Wl) rfl rfl ?_
    (conv => whnf); repeat ((first | refine tk1 ?_ | refine tk2 ?_ | refine tk3 ?_ | refine tk12 (fun _ => ?_) | refine tk4 ?_ | refine tk5 ?_ | refine tk6 ?_ | refine tk7 ?_ | refine tk8 ?_ | refine tk9 ?_ | refine tk10 (fun _ _ => ?_) | refine tk11 (fun _ => ?_) | refine tk13 ?_ | refine tk14 ?_); (conv => whnf))
    exact fun w' _ => rfl
  · rw [if_neg he]
    (conv => whnf); repeat ((first | refine tk1 ?_ | refine tk2 ?_ | refine tk3 ?_ | refine tk12 (fun _ => ?_) | refine tk4 ?_ | refine tk5 ?_ | refine tk6 ?_ | refine tk7 ?_ | refine tk8 ?_ | refine tk9 ?_ | refine tk10 (fun _ _ => ?_) | refine tk11 (fun _ => ?_) | refine tk13 ?_ | refine tk14 ?_); (conv => whnf))
    exact fun w' _ => rfl
theorem alive29_f : Fn Tryz.prog gI 18 [] (.bool true) := by
  refine Fn.of tys_ok Tryz.func18 rfl (by kernel_rfl) rfl rfl ?_; intro w hG
  (conv => whnf); repeat ((first | refine tk1 ?_ | refine tk2 ?_ | refine tk3 ?_ | refine tk12 (fun _ => ?_) | refine tk4 ?_ | refine tk5 ?_ | refine tk6 ?_ | refine tk7 ?_ | refine tk8 ?_ | refine tk9 ?_ | refine tk10 (fun _ _ => ?_) | refine tk11 (fun _ => ?_) | refine tk13 ?_ | refine tk14 ?_); (conv => whnf))
  refine CallK.fnT two_f (fun _ _ => trivial) ?_
  rintro ⟨q, b1, o1, b2, o2⟩ ⟨ho1, ho2⟩
  have hR1 : ∀ H, RdA (mkC Tryz.prog gI w hG) (.obj b1 o1 :: H) (some ⟨b1, 0, none⟩) _ := ho1.rd
  have hR2 : ∀ H, RdA (mkC Tryz.prog gI w hG) (.obj b2 o2 :: H) (some ⟨b2, 0, none⟩) _ := ho2.rd
  dsimp only [TwoM.val, TwoM.ps, List.cons_append, List.nil_append, List.append_nil]
  (conv => whnf); repeat ((first | refine tk1 ?_ | refine tk2 ?_ | refine tk3 ?_ | refine tk12 (fun _ => ?_) | refine tk4 ?_ | refine tk5 ?_ | refine tk6 ?_ | refine tk7 ?_ | refine tk8 ?_ | refine tk9 ?_ | refine tk10 (fun _ _ => ?_) | refine tk11 (fun _ => ?_) | refine tk13 ?_ | refine tk14 ?_); (conv => whnf))
  refine CallK.fnEV (told_f (gI := gI) 200 none 0 [] (some ⟨q, 0, none⟩) 2 (TwoM.ps ⟨q, b1, o1, b2, o2⟩) 0 [] false 1 (by decide) (by show 2 ≤ 100; decide) (by show 2 ≤ 5000; decide) (by intro p hp; unfold TwoM.ps at hp; rcases List.mem_cons.1 hp with rfl | hp; exact Nat.le_refl _; rw [List.mem_singleton.1 hp]; exact Nat.le_refl _)) (fun w1 hw1 => ⟨fun j u hj => by simp [fcells] at hj, TwoM.prts ⟨q, b1, o1, b2, o2⟩ ⟨ho1, ho2⟩ (by unfold TwoM.ps; infer_instance) RdA.ok RdA.ok w1 hw1⟩) ?_
  rw [show toldT 200 [] (List.map pure1 (TwoM.ps ⟨q, b1, o1, b2, o2⟩)) (UInt8.toNat 0) 1 = twoT from two_told]
  have hpr := fun A cp => RParse_f (gI := gI) A cp (twoT ++ [120]) false false (by decide)
  rw [two_read] at hpr
  obtain ⟨Lx, hLx⟩ : ∃ Lx, twoT ++ [120] = Lx := ⟨_, rfl⟩
  have hLl : Lx.length ≤ 1000 := by rw [← hLx]; decide
  rw [hLx] at hpr
  (conv => whnf); repeat ((first | refine tk1 ?_ | refine tk2 ?_ | refine tk3 ?_ | refine tk12 (fun _ => ?_) | refine tk4 ?_ | refine tk5 ?_ | refine tk6 ?_ | refine tk7 ?_ | refine tk8 ?_ | refine tk9 ?_ | refine tk10 (fun _ _ => ?_) | refine tk11 (fun _ => ?_) | refine tk13 ?_ | refine tk14 ?_); (conv => whnf))
  refine CatS.at (by decide) ?_
  rw [hLx]
  (conv => whnf); repeat ((first | refine tk1 ?_ | refine tk2 ?_ | refine tk3 ?_ | refine tk12 (fun _ => ?_) | refine tk4 ?_ | refine tk5 ?_ | refine tk6 ?_ | refine tk7 ?_ | refine tk8 ?_ | refine tk9 ?_ | refine tk10 (fun _ _ => ?_) | refine tk11 (fun _ => ?_) | refine tk13 ?_ | refine tk14 ?_); (conv => whnf))
  rename_i sb scp
  refine CallK.fnT (hpr _ _) (fun w1 hw1 => ⟨RdA.ok (xs := Lx.map byteV) w1 hw1, row_cap (A := some ⟨sb, 0, none⟩) (e := 5) (sz := 1) (n' := Lx.length) (xs := Lx.map byteV) hw1⟩) ?_
  rintro ⟨fA, fc, oA, oc⟩ _
  dsimp only [ParV, ParH, repC, List.cons_append, List.nil_append, List.append_nil]
  (conv => whnf); repeat ((first | refine tk1 ?_ | refine tk2 ?_ | refine tk3 ?_ | refine tk12 (fun _ => ?_) | refine tk4 ?_ | refine tk5 ?_ | refine tk6 ?_ | refine tk7 ?_ | refine tk8 ?_ | refine tk9 ?_ | refine tk10 (fun _ _ => ?_) | refine tk11 (fun _ => ?_) | refine tk13 ?_ | refine tk14 ?_); (conv => whnf))
  refine B2S.tc (xs := ([97, 98] : List UInt8).map byteV) (l := [97, 98]) rfl rfl ?_
  (conv => whnf); repeat ((first | refine tk1 ?_ | refine tk2 ?_ | refine tk3 ?_ | refine tk12 (fun _ => ?_) | refine tk4 ?_ | refine tk5 ?_ | refine tk6 ?_ | refine tk7 ?_ | refine tk8 ?_ | refine tk9 ?_ | refine tk10 (fun _ _ => ?_) | refine tk11 (fun _ => ?_) | refine tk13 ?_ | refine tk14 ?_); (conv => whnf))
end Go.Proofs.YtnaeeklnlddcaaaGreatDoor.Vex
/- The statement ReplyBack, reckoned. -/
namespace Go.Proofs.YtnaeeklnlddcaaaGreatDoor.Vex
open Go Go.RowKit
set_option maxRecDepth 100000
set_option linter.unusedSectionVars false
variable {gI : GI} [HasMax gI] [HasUtf gI] [HasErr gI] [HasPow gI] [HasTz gI]

theorem text_le (st : Int) (F : List Fld) (ps : Prs) (cd : Nat) (minor : Int) (head last : Bool) (hF : fsum F ≤ 4000) (hst : 200 ≤ st) (hst2 : st ≤ 599) (hn : ps.length ≤ 100) (ht : total ps ≤ 5000) : (bodyOf (piecesR st F ps cd minor head last)).length ≤ 100000 := by
  rw [body_pieces, List.length_append]
  obtain ⟨ch, hch⟩ : ∃ ch, chunkB st ps cd minor = ch := ⟨_, rfl⟩
  obtain ⟨cl, hcl⟩ : ∃ cl, (last || decide (minor = 0)) = cl := ⟨_, rfl⟩
  rw [hch, hcl]
  have h1 := Lib.itoa_length_le st (by omega) (by omega)
  have h2 := Lib.itoa_length_le (total ps : Nat) (by omega) (by omega)
  have h3 := linesR_le F
  have h4 := fsum_length F
  have h5 : (codNm cd).length ≤ 20 := by unfold codNm; split <;> (try split) <;> decide
  have h6 : (if cd = 0 then [] else lineR ceN (codNm cd)).length ≤ 100 := by
    split
    · simp
    · simp [lineR, ceN]; omega
  have h7 : (lengthR st ps cd ch).length ≤ 100 := by
    unfold lengthR
    split
    · simp
    split
    · decide
    split
    · simp
    · simp [lineR, clN]; omega
  have h8 : (if cl then lineR coN closeN else []).length ≤ 100 := by cases cl <;> decide
  have hH : (headR st F ps cd ch cl).length ≤ 90000 := by
    unfold headR
    simp only [List.length_append]
    have h9 : firstR.length = 9 := rfl
    simp only [List.length_cons, List.length_nil]
    omega
  have hb1 := total_bodyR true ps (fun p hp => Nat.lt_of_le_of_lt (total_mem2 hp) (by omega))
  have hb2 : (wrapL (ps.map (·.1))).length = total (bodyR true ps) := by
    rw [← total_bodyOf]
    unfold bodyOf bodyR wrapL
    simp only [if_true]
    rw [List.flatMap_map, List.map_map]
    rfl
  have hb3 := total_bodyOf ps
  have h5c : lastC.length = 5 := rfl
  cases head
  · cases ch
    · simp only [Bool.false_eq_true, if_false]
      omega
    · simp only [Bool.false_eq_true, if_false, if_true, List.length_append]
      omega
  · simp only [if_true, List.length_nil]
    omega
theorem writeR_bad (st : Int) (F : List Fld) (ps : Prs) (cd : Nat) (minor : Int) (head last : Bool) (h : (writeR st F ps cd minor head last).e ≠ 0) : (writeR st F ps cd minor head last).l = [] ∧ (writeR st F ps cd minor head last).c = false := by
  unfold writeR at h ⊢
  split
  · rename_i h1
    rw [if_pos h1] at h
    split
    · rename_i h2
      rw [if_pos h2] at h
      exact absurd rfl h
    · exact ⟨rfl, rfl⟩
  · exact ⟨rfl, rfl⟩
theorem writeR_good (st : Int) (F : List Fld) (ps : Prs) (cd : Nat) (minor : Int) (head last : Bool) (h : (writeR st F ps cd minor head last).e = 0) : anOK st F ps cd = true ∧ (minor = 0 ∨ minor = 1) ∧ writeR st F ps cd minor head last = ⟨partsG (piecesR st F ps cd minor head last), last || decide (minor = 0), 0⟩ := by
  unfold writeR at h ⊢
  split
  · rename_i h1
    rw [if_pos h1] at h
    split
    · rename_i h2
      exact ⟨h1, h2, rfl⟩
    · rename_i h2
      rw [if_neg h2] at h
      cases h
  · rename_i h1
    rw [if_neg h1] at h
    cases h
end Go.Proofs.YtnaeeklnlddcaaaGreatDoor.Vex
/- Plain laws on answers: what stands ahead of a flush. No program in sight. -/
namespace Go.Proofs.YtnaeeklnlddcaaaGreatDoor.Vex

/-- The parts that come behind an open one. -/
def pf : List UInt8 → Prs → Prs
  | o, [] => if o = [] then [] else [(o, false)]
  | o, p :: r => if p.2 then (if o ++ p.1 = [] then pf [] r else (o ++ p.1, true) :: pf [] r) else pf (o ++ p.1) r
theorem step_is (o : List UInt8) (d : Prs) (p : List UInt8 × Bool) : stepG (o, d) p = if p.2 then ([], close1 (o ++ p.1) true d) else (o ++ p.1, d) := rfl
theorem pf_is : ∀ (L : Prs) (o : List UInt8) (d : Prs), close1 (L.foldl stepG (o, d)).1 false (L.foldl stepG (o, d)).2 = d ++ pf o L
  | [], o, d => by
    rw [List.foldl_nil]
    unfold close1 pf
    dsimp only
    by_cases h : o = []
    · rw [if_pos h, if_pos h, List.append_nil]
    · rw [if_neg h, if_neg h]
  | p :: r, o, d => by
    rw [List.foldl_cons, pf, step_is]
    by_cases hp : p.2 = true
    · rw [if_pos hp, if_pos hp, pf_is r]
      unfold close1
      by_cases h : o ++ p.1 = []
      · rw [if_pos h, if_pos h]
      · rw [if_neg h, if_neg h, List.append_assoc]
        rfl
    · rw [if_neg hp, if_neg hp, pf_is r]
theorem parts_pf (L : Prs) : partsG L = pf [] L := by
  have := pf_is L [] []
  rw [List.nil_append] at this
  exact this
/-- The parts up to so many flushes. -/
def upP : Nat → Prs → Prs
  | 0, _ => []
  | _ + 1, [] => []
  | m + 1, p :: r => p :: upP (if p.2 then m else m + 1) r
theorem pf_noflush : ∀ (L : Prs) (o : List UInt8), (∀ p ∈ L, p.2 = false) → ∀ q ∈ pf o L, q.2 = false
  | [], o, _, q, hq => by
    unfold pf at hq
    split at hq
    · cases hq
    · rw [List.mem_singleton.1 hq]
  | p :: r, o, h, q, hq => by
    unfold pf at hq
    rw [if_neg (by rw [h p (List.mem_cons_self ..)]; simp)] at hq
    exact pf_noflush r _ (fun x hx => h x (List.mem_cons_of_mem _ hx)) q hq
/-- What stands ahead of a flush. -/
theorem pf_flush : ∀ (B tail : Prs) (o : List UInt8) (k : Nat) (x : List UInt8 × Bool), (∀ p ∈ B, p.1 ≠ []) → (∀ p ∈ tail, p.2 = false) → (pf o (B ++ tail))[k]? = some x → x.2 = true →
    bodyOf ((pf o (B ++ tail)).take (k + 1)) = o ++ bodyOf (upP (k + 1) B) ∧ ∃ p ∈ B, p.2 = true
  | [], tail, o, k, x, _, ht, hx, hx2 => by
    exfalso
    rw [List.nil_append] at hx
    have := pf_noflush tail o ht x (List.mem_of_getElem? hx)
    rw [this] at hx2
    cases hx2
  | p :: r, tail, o, k, x, hB, ht, hx, hx2 => by
    have hp1 := hB p (List.mem_cons_self ..)
    have hB2 := fun q hq => hB q (List.mem_cons_of_mem p hq)
    rw [List.cons_append, pf] at hx ⊢
    rw [upP]
    by_cases hp : p.2 = true
    · have hne : ¬ o ++ p.1 = [] := fun h => hp1 (List.append_eq_nil_iff.1 h).2
      rw [if_pos hp, if_neg hne] at hx ⊢
      rw [if_pos hp]
      refine ⟨?_, p, List.mem_cons_self .., hp⟩
      cases k with
      | zero =>
        unfold bodyOf
        cases r with
        | nil => simp [upP]
        | cons q t => simp [upP]
      | succ k =>
        rw [List.getElem?_cons_succ] at hx
        have ih := (pf_flush r tail [] k x hB2 ht hx hx2).1
        rw [List.take_succ_cons]
        unfold bodyOf at ih ⊢
        rw [List.flatMap_cons, ih, List.flatMap_cons, List.append_assoc]
        rfl
    · rw [if_neg hp] at hx ⊢
      rw [if_neg hp]
      obtain ⟨ih, q, hq, hq2⟩ := pf_flush r tail (o ++ p.1) k x hB2 ht hx hx2
      refine ⟨?_, q, List.mem_cons_of_mem _ hq, hq2⟩
      rw [ih]
      unfold bodyOf
      rw [List.flatMap_cons, List.append_assoc]
theorem upP_map (ch : Bool) : ∀ (ps : Prs) (m : Nat), upP m (bodyR ch ps) = bodyR ch (upP m ps)
  | ps, 0 => by cases ps <;> rfl
  | [], m + 1 => rfl
  | p :: r, m + 1 => by
    have e : bodyR ch (p :: r) = (if ch then wrapG p.1 else p.1, p.2) :: bodyR ch r := rfl
    rw [e, upP, upP]
    dsimp only
    rw [upP_map ch r]
    rfl
theorem upP_mem : ∀ (ps : Prs) (m : Nat) (p : List UInt8 × Bool), p ∈ upP m ps → p ∈ ps
  | ps, 0, p, h => by cases ps <;> cases h
  | [], m + 1, p, h => by cases h
  | q :: r, m + 1, p, h => by
    rw [upP] at h
    rcases List.mem_cons.1 h with rfl | h
    · exact List.mem_cons_self ..
    · exact List.mem_cons_of_mem _ (upP_mem r _ p h)
theorem upP_total : ∀ (ps : Prs) (m : Nat), total (upP m ps) ≤ total ps ∧ (upP m ps).length ≤ ps.length
  | ps, 0 => by cases ps <;> exact ⟨Nat.zero_le _, Nat.zero_le _⟩
  | [], m + 1 => ⟨Nat.le_refl _, Nat.le_refl _⟩
  | q :: r, m + 1 => by
    rw [upP]
    have ih := upP_total r (if q.2 then m else m + 1)
    have e1 : total (q :: r) = q.1.length + total r := rfl
    have e2 : ∀ t, total (q :: t) = q.1.length + total t := fun _ => rfl
    rw [e1, e2, List.length_cons, List.length_cons]
    omega
theorem prs_ne : ∀ (n : Nat) (l : Prs), prsOK n l = true → ∀ p ∈ l, p.1 ≠ []
  | n, p :: r, h, q, hq => by
    unfold prsOK at h
    simp only [Bool.and_eq_true, Bool.not_eq_true', decide_eq_false_iff_not] at h
    rcases List.mem_cons.1 hq with rfl | hq
    · exact h.1
    · exact prs_ne _ r h.2.2 q hq
/-- THE LAW: behind a flush the bytes up to there are a head, and whole chunks. -/
theorem flush_law (st : Int) (F : List Fld) (ps : Prs) (cd : Nat) (last : Bool) (k : Nat) (x : List UInt8 × Bool) (hok : anOK st F ps cd = true) (hx : (partsG (piecesR st F ps cd 1 false last))[k]? = some x) (hx2 : x.2 = true) :
    chunkB st ps cd 1 = true ∧ bodyOf ((partsG (piecesR st F ps cd 1 false last)).take (k + 1)) = headR st F ps cd true last ++ wrapL ((upP (k + 1) ps).map (·.1)) ∧
    bodyOf (partsG (piecesR st F ps cd 1 true last)) = headR st F ps cd true last := by
  have hok2 := hok
  unfold anOK anST at hok2
  simp only [Bool.and_eq_true, decide_eq_true_eq] at hok2
  obtain ⟨⟨_, _, _, hbare⟩, _, hpr⟩ := hok2
  have hne := prs_ne 0 ps hpr
  have hcl : (last || decide ((1 : Int) = 0)) = last := by simp
  have hpieces : piecesR st F ps cd 1 false last = (headR st F ps cd (chunkB st ps cd 1) last, false) :: (bodyR (chunkB st ps cd 1) ps ++ if chunkB st ps cd 1 then [(lastC, false)] else []) := by
    unfold piecesR
    rw [hcl]
    rfl
  rw [hpieces, parts_pf, pf, if_neg (by simp), List.nil_append] at hx
  rw [hpieces, parts_pf, pf, if_neg (by simp), List.nil_append]
  have hBne : ∀ p ∈ bodyR (chunkB st ps cd 1) ps, p.1 ≠ [] := fun p hp => by
    unfold bodyR at hp
    obtain ⟨q, hq, rfl⟩ := List.mem_map.1 hp
    have := hne q hq
    dsimp only
    split
    · unfold wrapG
      rw [if_neg this]
      simp
    · exact this
  have hfl := pf_flush (bodyR (chunkB st ps cd 1) ps) (if chunkB st ps cd 1 then [(lastC, false)] else []) (headR st F ps cd (chunkB st ps cd 1) last) k x hBne (fun p hp => by
    split at hp
    · rw [List.mem_singleton.1 hp]
    · cases hp) hx hx2
  obtain ⟨h1, p, hp, hp2⟩ := hfl
  have hch : chunkB st ps cd 1 = true := by
    unfold bodyR at hp
    obtain ⟨q, hq, rfl⟩ := List.mem_map.1 hp
    have hq2 : q.2 = true := hp2
    have hs : streamB ps cd = true := by
      unfold streamB
      cases ps with
      | nil => cases hq
      | cons a r =>
        cases r with
        | nil => rw [List.mem_singleton.1 hq] at hq2; simp [hq2]
        | cons b t => simp
    have hb : bareB st = false := by
      cases hb : bareB st with
      | false => rfl
      | true =>
        rw [hb] at hbare
        simp at hbare
        rw [hbare.1] at hq
        cases hq
    unfold chunkB
    rw [hs, hb]
    rfl
  refine ⟨hch, ?_, ?_⟩
  · rw [h1, upP_map, hch]
    congr 1
    unfold bodyOf bodyR wrapL
    simp only [if_true]
    rw [List.flatMap_map, List.map_map]
    rfl
  · rw [bodyOf_parts]
    unfold piecesR bodyOf
    rw [hcl, hch]
    simp
end Go.Proofs.YtnaeeklnlddcaaaGreatDoor.Vex
/- The statement ReplyFlushes, reckoned. -/
namespace Go.Proofs.YtnaeeklnlddcaaaGreatDoor.Vex
open Go Go.RowKit
set_option maxRecDepth 100000
set_option linter.unusedSectionVars false
variable {gI : GI} [HasMax gI] [HasUtf gI] [HasErr gI] [HasPow gI] [HasTz gI]

theorem pcells_take : ∀ (ps : List Prt) (n : Nat), pcells (ps.take n) = (pcells ps).take (n * 2)
  | [], n => by simp [pcells]
  | q :: r, 0 => by simp [pcells]
  | q :: r, n + 1 => by
    rw [List.take_succ_cons, pcells, pcells, pcells_take r n, show (n + 1) * 2 = n * 2 + 1 + 1 by omega, List.take_succ_cons, List.take_succ_cons]
theorem prtsOk_take {w : World} {A : Option Addr} {ps : List Prt} (n : Nat) (h : PrtsOk w A ps) : PrtsOk w A (ps.take n) :=
  ⟨fun j u hj => by
    rw [pcells_take, List.getElem?_take] at hj
    split at hj
    · exact h.1 j u hj
    · exact absurd hj (by simp), fun q hq => h.2 q (List.mem_of_mem_take hq)⟩
theorem upP_nil (m : Nat) : upP m [] = [] := by cases m <;> rfl
structure FhS where
  i : Nat
  f : Nat
  t : List UInt8
set_option maxHeartbeats 8000000 in
theorem ReplyFlushes_v (st : Int) (FA : Option Addr) (Fc : Nat) (F : List Fld) (QA : Option Addr) (Qc : Nat) (ps : List Prt) (cd : UInt8) (tag : List UInt8) (press : Bool) (last : Bool) (k : Int) (hq : ∀ q ∈ ps, q.l.length ≤ q.cp) :
    FnE Tryz.prog gI 5 [.agg ⟨[.int .i64 st, .slice FA F.length Fc, .slice QA ps.length Qc, .int .u8 cd.toNat, str tag, .bool press]⟩, .bool last, .int .i64 k] (fun w => Rdw w FA (fcells F) ∧ PrtsOk w QA ps) fun _ v _ => v = .bool true := by
  refine FnE.of tys_ok Tryz.func5 rfl (by kernel_rfl) rfl rfl ?_; intro w hG hP
  have hRF : ∀ H, RdA (mkC Tryz.prog gI w hG) H FA (fcells F) := fun H => ⟨hP.1.now⟩
  have hRQ : ∀ H, RdA (mkC Tryz.prog gI w hG) H QA (pcells ps) := fun H => ⟨hP.2.1.now⟩
  have hRq : ∀ q ∈ ps, ∀ H, RdA (mkC Tryz.prog gI w hG) H q.A (q.l.map byteV) := fun q hm H => ⟨(hP.2.2 q hm).now⟩
  have hPQ : ∀ H w', St (mkC Tryz.prog gI w hG) H w' → PrtsOk w' QA ps := fun H w' hw' => ⟨(hRQ H).ok w' hw', fun q hm => (hRq q hm H).ok w' hw'⟩
  clear hP
  (conv => whnf); repeat ((first | refine tk1 ?_ | refine tk2 ?_ | refine tk3 ?_ | refine tk12 (fun _ => ?_) | refine tk4 ?_ | refine tk5 ?_ | refine tk6 ?_ | refine tk7 ?_ | refine tk8 ?_ | refine tk9 ?_ | refine tk10 (fun _ _ => ?_) | refine tk11 (fun _ => ?_) | refine tk13 ?_ | refine tk14 ?_); (conv => whnf))
  rename_i b3
  refine CallK.fn alive29_f ?_
  (conv => whnf); repeat ((first | refine tk1 ?_ | refine tk2 ?_ | refine tk3 ?_ | refine tk12 (fun _ => ?_) | refine tk4 ?_ | refine tk5 ?_ | refine tk6 ?_ | refine tk7 ?_ | refine tk8 ?_ | refine tk9 ?_ | refine tk10 (fun _ _ => ?_) | refine tk11 (fun _ => ?_) | refine tk13 ?_ | refine tk14 ?_); (conv => whnf))
  refine CallK.fnR (Great29_r (gI := gI) st FA Fc F QA Qc ps cd tag press) ⟨(hRF _).ok, (hRQ _).ok, trivial⟩ ?_
  cases hg : greatR F (ps.map pure1)
  rotate_left
  · (conv => whnf); repeat ((first | refine tk1 ?_ | refine tk2 ?_ | refine tk3 ?_ | refine tk12 (fun _ => ?_) | refine tk4 ?_ | refine tk5 ?_ | refine tk6 ?_ | refine tk7 ?_ | refine tk8 ?_ | refine tk9 ?_ | refine tk10 (fun _ _ => ?_) | refine tk11 (fun _ => ?_) | refine tk13 ?_ | refine tk14 ?_); (conv => whnf))
    exact fun w' _ => rfl
  obtain ⟨hF, hFn, hn, ht, hfl⟩ := greatR_le hg
  rw [List.length_map] at hn
  have hw1 := AWrite_f (gI := gI) st FA Fc F QA Qc ps cd tag press 1 false last (by omega) (by omega) (by omega) hq
  have hw2 := AWrite_f (gI := gI) st FA Fc F QA Qc ps cd tag press 1 true last (by omega) (by omega) (by omega) hq
  have hgood := writeR_good st F (ps.map pure1) cd.toNat 1 false last
  have hgood2 : anOK st F (ps.map pure1) cd.toNat = true → writeR st F (ps.map pure1) cd.toNat 1 true last = ⟨partsG (piecesR st F (ps.map pure1) cd.toNat 1 true last), last || decide ((1 : Int) = 0), 0⟩ := fun h => by
    unfold writeR
    rw [if_pos h, if_pos (.inr rfl)]
  obtain ⟨W, hW⟩ : ∃ W, writeR st F (ps.map pure1) cd.toNat 1 false last = W := ⟨_, rfl⟩
  rw [hW] at hw1 hgood
  clear hW
  obtain ⟨Wl, Wc, We⟩ := W
  dsimp only at hw1 hgood
  (conv => whnf); repeat ((first | refine tk1 ?_ | refine tk2 ?_ | refine tk3 ?_ | refine tk12 (fun _ => ?_) | refine tk4 ?_ | refine tk5 ?_ | refine tk6 ?_ | refine tk7 ?_ | refine tk8 ?_ | refine tk9 ?_ | refine tk10 (fun _ _ => ?_) | refine tk11 (fun _ => ?_) | refine tk13 ?_ | refine tk14 ?_); (conv => whnf))
  refine CallK.fnT hw1 (fun w1 hw1 => ⟨(hRF _).ok w1 hw1, hPQ _ w1 hw1⟩) ?_
  rintro x hx
  have hx' : x.ps.map pure1 = Wl := hx
  dsimp only [PV.hd, List.cons_append, List.nil_append]
  by_cases he : We = 0
  rotate_left
  · (conv => whnf); repeat ((first | refine tk1 ?_ | refine tk2 ?_ | refine tk3 ?_ | refine tk12 (fun _ => ?_) | refine tk4 ?_ | refine tk5 ?_ | refine tk6 ?_ | refine tk7 ?_ | refine tk8 ?_ | refine tk9 ?_ | refine tk10 (fun _ _ => ?_) | refine tk11 (fun _ => ?_) | refine tk13 ?_ | refine tk14 ?_); (conv => whnf))
    exact fun w' _ => rfl
  obtain ⟨hok, _, hWW⟩ := hgood he
  subst he
  by_cases hk0 : k < 0
  · (conv => whnf); repeat ((first | refine tk1 ?_ | refine tk2 ?_ | refine tk3 ?_ | refine tk12 (fun _ => ?_) | refine tk4 ?_ | refine tk5 ?_ | refine tk6 ?_ | refine tk7 ?_ | refine tk8 ?_ | refine tk9 ?_ | refine tk10 (fun _ _ => ?_) | refine tk11 (fun _ => ?_) | refine tk13 ?_ | refine tk14 ?_); (conv => whnf))
    exact fun w' _ => rfl
  by_cases hk1 : (x.ps.length : Int) ≤ k
  · (conv => whnf); repeat ((first | refine tk1 ?_ | refine tk2 ?_ | refine tk3 ?_ | refine tk12 (fun _ => ?_) | refine tk4 ?_ | refine tk5 ?_ | refine tk6 ?_ | refine tk7 ?_ | refine tk8 ?_ | refine tk9 ?_ | refine tk10 (fun _ _ => ?_) | refine tk11 (fun _ => ?_) | refine tk13 ?_ | refine tk14 ?_); (conv => whnf))
    exact fun w' _ => rfl
  obtain ⟨j, rfl⟩ : ∃ j : Nat, k = j := ⟨k.toNat, by omega⟩
  have hlt : j < x.ps.length := by omega
  have ga := pcells_at x.ps j hlt
  have hxj : Wl[j]? = some (pure1 x.ps[j]) := by rw [← hx', List.getElem?_map, List.getElem?_eq_getElem hlt]; rfl
  generalize x.ps[j] = q at *
  (conv => whnf); repeat ((first | refine tk1 ?_ | refine tk2 ?_ | refine tk3 ?_ | refine tk12 (fun _ => ?_) | refine tk4 ?_ | refine tk5 ?_ | refine tk6 ?_ | refine tk7 ?_ | refine tk8 ?_ | refine tk9 ?_ | refine tk10 (fun _ _ => ?_) | refine tk11 (fun _ => ?_) | refine tk13 ?_ | refine tk14 ?_); (conv => whnf))
  refine IdxA.tc (xs := pcells x.ps) (by rw [pcells_length]; omega) (by omega) (by omega) ?_
  (conv => whnf); repeat ((first | refine tk1 ?_ | refine tk2 ?_ | refine tk3 ?_ | refine tk12 (fun _ => ?_) | refine tk4 ?_ | refine tk5 ?_ | refine tk6 ?_ | refine tk7 ?_ | refine tk8 ?_ | refine tk9 ?_ | refine tk10 (fun _ _ => ?_) | refine tk11 (fun _ => ?_) | refine tk13 ?_ | refine tk14 ?_); (conv => whnf))
  refine Ld.taF (xs := pcells x.ps) (v := .bool q.f) (by rw [Int.toNat_natCast]; exact ga.2.1) ?_
  cases hqf : q.f
  · (conv => whnf); repeat ((first | refine tk1 ?_ | refine tk2 ?_ | refine tk3 ?_ | refine tk12 (fun _ => ?_) | refine tk4 ?_ | refine tk5 ?_ | refine tk6 ?_ | refine tk7 ?_ | refine tk8 ?_ | refine tk9 ?_ | refine tk10 (fun _ _ => ?_) | refine tk11 (fun _ => ?_) | refine tk13 ?_ | refine tk14 ?_); (conv => whnf))
    exact fun w' _ => rfl
  have hlaw := flush_law st F (ps.map pure1) cd.toNat last j (pure1 q) hok (by cases hWW; exact hxj) hqf
  obtain ⟨hch, hl1, hl2⟩ := hlaw
  rw [hgood2 hok] at hw2
  cases hWW
  (conv => whnf); repeat ((first | refine tk1 ?_ | refine tk2 ?_ | refine tk3 ?_ | refine tk12 (fun _ => ?_) | refine tk4 ?_ | refine tk5 ?_ | refine tk6 ?_ | refine tk7 ?_ | refine tk8 ?_ | refine tk9 ?_ | refine tk10 (fun _ _ => ?_) | refine tk11 (fun _ => ?_) | refine tk13 ?_ | refine tk14 ?_); (conv => whnf))
  refine CallK.fnT hw2 (fun w1 hw1 => ⟨(hRF _).ok w1 hw1, hPQ _ w1 hw1⟩) ?_
  rintro z hz
  have hz' : z.ps.map pure1 = partsG (piecesR st F (ps.map pure1) cd.toNat 1 true last) := hz
  dsimp only [PV.hd, List.cons_append, List.nil_append]
  have hst : 200 ≤ st ∧ st ≤ 599 := by
    unfold anOK anST at hok
    simp only [Bool.and_eq_true, decide_eq_true_eq] at hok
    exact ⟨hok.1.1, hok.1.2.1⟩
  have hTl := text_le st F (ps.map pure1) cd.toNat 1 false last hF hst.1 hst.2 (by rw [List.length_map]; exact hn) ht
  have hpn : x.ps.length ≤ 1000 := by
    have h1 := (parts_length (piecesR st F (ps.map pure1) cd.toNat 1 false last)).1
    have h2 : (piecesR st F (ps.map pure1) cd.toNat 1 false last).length ≤ 200 := by
      unfold piecesR bodyR
      cases chunkB st (ps.map pure1) cd.toNat 1 <;> simp <;> omega
    have h3 := congrArg List.length hx'
    rw [List.length_map] at h3
    omega
  have hxt : total (x.ps.map pure1) ≤ 100000 := by rw [hx', ← total_bodyOf, bodyOf_parts]; exact hTl
  have hzn : z.ps.length ≤ 1000 := by
    have h1 := (parts_length (piecesR st F (ps.map pure1) cd.toNat 1 true last)).1
    have h2 : (piecesR st F (ps.map pure1) cd.toNat 1 true last).length ≤ 200 := by unfold piecesR; simp
    have h3 := congrArg List.length hz'
    rw [List.length_map] at h3
    omega
  have htk : total ((x.ps.take (j + 1)).map pure1) ≤ 100000 := by rw [List.map_take]; exact Nat.le_trans (total_take _ _) hxt
  have hb1 : bodyOf ((x.ps.take (j + 1)).map pure1) = headR st F (ps.map pure1) cd.toNat true last ++ wrapL ((upP (j + 1) (ps.map pure1)).map (·.1)) := by rw [List.map_take, hx']; exact hl1
  have hb2 : bodyOf (z.ps.map pure1) = headR st F (ps.map pure1) cd.toNat true last := by rw [hz']; exact hl2
  have hzt : total (z.ps.map pure1) ≤ 100000 := by
    have := congrArg List.length hb1
    rw [List.length_append, total_bodyOf] at this
    have := congrArg List.length hb2
    rw [total_bodyOf] at this
    omega
  have hjl : (x.ps.take (j + 1)).length = j + 1 := by rw [List.length_take]; omega
  (conv => whnf); repeat ((first | refine tk1 ?_ | refine tk2 ?_ | refine tk3 ?_ | refine tk12 (fun _ => ?_) | refine tk4 ?_ | refine tk5 ?_ | refine tk6 ?_ | refine tk7 ?_ | refine tk8 ?_ | refine tk9 ?_ | refine tk10 (fun _ _ => ?_) | refine tk11 (fun _ => ?_) | refine tk13 ?_ | refine tk14 ?_); (conv => whnf))
  refine SlcV.to (h := ((j : Int) + 1)) ?_ ?_ ?_
  · omega
  · omega
  rw [show ((j : Int) + 1).toNat = (x.ps.take (j + 1)).length by rw [hjl]; omega]
  (conv => whnf); repeat ((first | refine tk1 ?_ | refine tk2 ?_ | refine tk3 ?_ | refine tk12 (fun _ => ?_) | refine tk4 ?_ | refine tk5 ?_ | refine tk6 ?_ | refine tk7 ?_ | refine tk8 ?_ | refine tk9 ?_ | refine tk10 (fun _ _ => ?_) | refine tk11 (fun _ => ?_) | refine tk13 ?_ | refine tk14 ?_); (conv => whnf))
  refine CallK.fnG (G := fun v => v) (Body_f x.D x.dc (x.ps.take (j + 1)) (by omega) (by omega)) (fun w1 hw1 => prtsOk_take (j + 1) ((prtsOk_st RdA.ok (fun q hq => RdS.sub (Prt.rd (e := 5) hq) (by repeat' (first | exact List.Sublist.refl _ | exact List.sublist_append_right _ _ | exact List.sublist_append_left _ _ | refine List.Sublist.trans ?_ (List.sublist_append_left _ _) | apply List.Sublist.cons)))) w1 hw1)) (fun bA bc hbc => ?_)
  rw [hb1]
  (conv => whnf); repeat ((first | refine tk1 ?_ | refine tk2 ?_ | refine tk3 ?_ | refine tk12 (fun _ => ?_) | refine tk4 ?_ | refine tk5 ?_ | refine tk6 ?_ | refine tk7 ?_ | refine tk8 ?_ | refine tk9 ?_ | refine tk10 (fun _ _ => ?_) | refine tk11 (fun _ => ?_) | refine tk13 ?_ | refine tk14 ?_); (conv => whnf))
  refine CallK.fnG (G := fun v => v) (Body_f z.D z.dc z.ps (by omega) (by omega)) (fun w1 hw1 => (prtsOk_st RdA.ok (fun q hq => RdS.sub (Prt.rd (e := 5) hq) (by repeat' (first | exact List.Sublist.refl _ | exact List.sublist_append_right _ _ | exact List.sublist_append_left _ _ | refine List.Sublist.trans ?_ (List.sublist_append_left _ _) | apply List.Sublist.cons)))) w1 hw1) (fun hA hc hhc => ?_)
  rw [hb2]
  obtain ⟨P, hP⟩ : ∃ P, (upP (j + 1) (ps.map pure1)).map (·.1) = P := ⟨_, rfl⟩
  have hPm : ∀ b ∈ P, b.length < 16777216 := fun b hb => by
    rw [← hP] at hb
    obtain ⟨p, hp, rfl⟩ := List.mem_map.1 hb
    have := total_mem2 (upP_mem _ _ p hp)
    omega
  have hPf : P.flatten = bodyOf (upP (j + 1) (ps.map pure1)) := by rw [bodyOf_flat, hP]
  have hbl := congrArg List.length hb1
  rw [List.length_append, total_bodyOf, hP] at hbl
  have hfeed := feed_pieces P hPm (by omega)
  rw [hP] at hb1 ⊢
  clear hl1 hl2 hz' hw1 hw2 hgood2
  generalize headR st F (ps.map pure1) cd.toNat true last = Hd at *
  obtain ⟨Wp, hWp⟩ : ∃ Wp, wrapL P = Wp := ⟨_, rfl⟩
  rw [hWp] at hb1 hbl hfeed ⊢
  have hfd := fun (A2 : Option Addr) (c2 : Nat) => Feed_f (gI := gI) cst0 none 0 A2 c2 Wp (by decide) (by omega)
  rw [hfeed] at hfd
  obtain ⟨BB, hBB⟩ : ∃ BB, Hd ++ Wp = BB := ⟨_, rfl⟩
  have hBl : BB.length = Hd.length + Wp.length := by rw [← hBB, List.length_append]
  rw [hBB]
  (conv => whnf); repeat ((first | refine tk1 ?_ | refine tk2 ?_ | refine tk3 ?_ | refine tk12 (fun _ => ?_) | refine tk4 ?_ | refine tk5 ?_ | refine tk6 ?_ | refine tk7 ?_ | refine tk8 ?_ | refine tk9 ?_ | refine tk10 (fun _ _ => ?_) | refine tk11 (fun _ => ?_) | refine tk13 ?_ | refine tk14 ?_); (conv => whnf))
  refine DrawS.go [(0, true), (1, true), (2, true), (3, true), (4, true), (5, true), (6, true), (7, true), (8, true), (9, true), (10, true), (11, true), (12, true), (13, true), (14, false), (15, true), (16, true), (17, true)] tys_ok mixed (by kernel_rfl) ?_
  (conv => whnf); repeat ((first | refine tk1 ?_ | refine tk2 ?_ | refine tk3 ?_ | refine tk12 (fun _ => ?_) | refine tk4 ?_ | refine tk5 ?_ | refine tk6 ?_ | refine tk7 ?_ | refine tk8 ?_ | refine tk9 ?_ | refine tk10 (fun _ _ => ?_) | refine tk11 (fun _ => ?_) | refine tk13 ?_ | refine tk14 ?_); (conv => whnf))
  refine SlcV.to (h := (Hd.length : Int)) ?_ ?_ ?_
  · omega
  · omega
  rw [Int.toNat_natCast]
  have hcut : ∀ (H : Hp) (A : Option Addr), RdS (mkC Tryz.prog gI w hG) H A (BB.map byteV) → RdS (mkC Tryz.prog gI w hG) H A (Hd.map byteV) := fun H A h => by
    rw [← hBB, List.map_append] at h
    have h2 := RdS.take h (Hd.map byteV).length
    rw [List.take_left] at h2
    exact h2
  (conv => whnf); repeat ((first | refine tk1 ?_ | refine tk2 ?_ | refine tk3 ?_ | refine tk12 (fun _ => ?_) | refine tk4 ?_ | refine tk5 ?_ | refine tk6 ?_ | refine tk7 ?_ | refine tk8 ?_ | refine tk9 ?_ | refine tk10 (fun _ _ => ?_) | refine tk11 (fun _ => ?_) | refine tk13 ?_ | refine tk14 ?_); (conv => whnf))
  refine B2S.rd (l := Hd) (hcut _ _ RdA.ok) rfl ?_
  (conv => whnf); repeat ((first | refine tk1 ?_ | refine tk2 ?_ | refine tk3 ?_ | refine tk12 (fun _ => ?_) | refine tk4 ?_ | refine tk5 ?_ | refine tk6 ?_ | refine tk7 ?_ | refine tk8 ?_ | refine tk9 ?_ | refine tk10 (fun _ _ => ?_) | refine tk11 (fun _ => ?_) | refine tk13 ?_ | refine tk14 ?_); (conv => whnf))
  refine CallK.fnG (G := fun v => v) (Body_f z.D z.dc z.ps (by omega) (by omega)) (fun w1 hw1 => (prtsOk_st RdA.ok (fun q hq => RdS.sub (Prt.rd (e := 5) hq) (by repeat' (first | exact List.Sublist.refl _ | exact List.sublist_append_right _ _ | exact List.sublist_append_left _ _ | refine List.Sublist.trans ?_ (List.sublist_append_left _ _) | apply List.Sublist.cons)))) w1 hw1) (fun gA gc hgc => ?_)
  rw [hb2]
  (conv => whnf); repeat ((first | refine tk1 ?_ | refine tk2 ?_ | refine tk3 ?_ | refine tk12 (fun _ => ?_) | refine tk4 ?_ | refine tk5 ?_ | refine tk6 ?_ | refine tk7 ?_ | refine tk8 ?_ | refine tk9 ?_ | refine tk10 (fun _ _ => ?_) | refine tk11 (fun _ => ?_) | refine tk13 ?_ | refine tk14 ?_); (conv => whnf))
  refine B2S.tc (xs := Hd.map byteV) (l := Hd) rfl rfl ?_
  (conv => whnf); repeat ((first | refine tk1 ?_ | refine tk2 ?_ | refine tk3 ?_ | refine tk12 (fun _ => ?_) | refine tk4 ?_ | refine tk5 ?_ | refine tk6 ?_ | refine tk7 ?_ | refine tk8 ?_ | refine tk9 ?_ | refine tk10 (fun _ _ => ?_) | refine tk11 (fun _ => ?_) | refine tk13 ?_ | refine tk14 ?_); (conv => whnf))
  refine Cmp.f (fun h => h rfl) ?_
  (conv => whnf); repeat ((first | refine tk1 ?_ | refine tk2 ?_ | refine tk3 ?_ | refine tk12 (fun _ => ?_) | refine tk4 ?_ | refine tk5 ?_ | refine tk6 ?_ | refine tk7 ?_ | refine tk8 ?_ | refine tk9 ?_ | refine tk10 (fun _ _ => ?_) | refine tk11 (fun _ => ?_) | refine tk13 ?_ | refine tk14 ?_); (conv => whnf))
  refine SlcV.from (lo := (Hd.length : Int)) ?_ ?_ ?_
  · omega
  · omega
  rw [show BB.length - ((Hd.length : Nat) : Int).toNat = Wp.length by omega]
  have hrest : ∀ (H : Hp), BB.length ≤ bc → RdS (mkC Tryz.prog gI w hG) H bA (BB.map byteV) → RdS (mkC Tryz.prog gI w hG) H (if (bc : Int) = ((Hd.length : Nat) : Int) then bA else bA.map fun x => x.add (((Hd.length : Nat) : Int).toNat * 1)) (Wp.map byteV) := fun H hcap h => by
    have h2 := RdS.piece (cp := bc) (sz := 1) (lo := ((Hd.length : Nat) : Int)) h (by omega) (fun e => by rw [List.length_map]; omega)
    have e : (BB.map byteV).drop (((Hd.length : Nat) : Int).toNat * 1) = Wp.map byteV := by
      rw [Int.toNat_natCast, Nat.mul_one, ← hBB, ← List.map_drop, List.drop_left]
    rw [e] at h2
    exact h2
  (conv => whnf); repeat ((first | refine tk1 ?_ | refine tk2 ?_ | refine tk3 ?_ | refine tk12 (fun _ => ?_) | refine tk4 ?_ | refine tk5 ?_ | refine tk6 ?_ | refine tk7 ?_ | refine tk8 ?_ | refine tk9 ?_ | refine tk10 (fun _ _ => ?_) | refine tk11 (fun _ => ?_) | refine tk13 ?_ | refine tk14 ?_); (conv => whnf))
  refine CallK.fnT (hfd _ _) (fun w1 hw1 => ⟨⟨fun j u hj => absurd hj (by simp [cst0]), hrest _ (row_cap (A := bA) (e := 5) (sz := 1) (n' := BB.length) (xs := BB.map byteV) hw1) RdA.ok w1 hw1, trivial⟩, Nat.le_refl _, by have := row_cap (A := bA) (e := 5) (sz := 1) (n' := BB.length) (xs := BB.map byteV) hw1; omega⟩) ?_
  rintro ⟨lA, lc, dA, dc⟩ _
  dsimp only [FeedV, FeedH, cV, cst0, List.length_nil, List.map_nil, List.cons_append, List.nil_append, List.append_nil]
  clear hfeed hfd hTl
  (conv => whnf); repeat ((first | refine tk1 ?_ | refine tk2 ?_ | refine tk3 ?_ | refine tk12 (fun _ => ?_) | refine tk4 ?_ | refine tk5 ?_ | refine tk6 ?_ | refine tk7 ?_ | refine tk8 ?_ | refine tk9 ?_ | refine tk10 (fun _ _ => ?_) | refine tk11 (fun _ => ?_) | refine tk13 ?_ | refine tk14 ?_); (conv => whnf))
  rename_i b16
  refine LoopS.lpT tys_ok (fun (y : FhS) u => [u 0, u 1, .int .i64 (j : Nat), .pointer (some ⟨b3, 0, none⟩), u 4, u 5, u 6, .bool true, u 8, u 9, u 10, u 11, u 12, u 13, .slice bA BB.length bc, .int .i64 (Hd.length : Nat), .pointer (some ⟨b16, 0, none⟩), .slice dA P.flatten.length dc, .int .i64 (Wp.length : Nat), .int .i64 0, str y.t, .int .i64 (y.f : Nat), .int .i64 (y.i : Nat), u 23, u 24, u 25, u 26, u 27, u 28, u 29, u 30, u 31, u 32, u 33, u 34, u 35, u 36, u 37, u 38, u 39, u 40, u 41, u 42, u 43, u 44, u 45, u 46, u 47, u 48, u 49, u 50, u 51, u 52, u 53, u 54, u 55, u 56, u 57, u 58, u 59, u 60, u 61, u 62, u 63, u 64, u 65, u 66, u 67, u 68, u 69, u 70, u 71, u 72, u 73, u 74, u 75, u 76, u 77, u 78, u 79, u 80, u 81, u 82, u 83, u 84, u 85, u 86, u 87, u 88, u 89, u 90, u 91, u 92, u 93, u 94, u 95, u 96, u 97, u 98, u 99, u 100, u 101, u 102, u 103, u 104, u 105, u 106, u 107, u 108, u 109, u 110, u 111, u 112, u 113, u 114, u 115, u 116, u 117, u 118, u 119, u 120, u 121, u 122, u 123, u 124, u 125, u 126, u 127, u 128, u 129, u 130, u 131, u 132, u 133, u 134, u 135, u 136, u 137, u 138, u 139, u 140, u 141, u 142, u 143, u 144, u 145, u 146, u 147, u 148, u 149, u 150, u 151, u 152, u 153, u 154, u 155, u 156, u 157, u 158, u 159, u 160])
    (fun _ => [.box b16 [.int .u8 (0 : Nat), .int .i64 0, .slice lA 0 lc, .int .i64 0] 56, .row (.slice dA P.flatten.length dc) 5 1 P.flatten.length (P.flatten.map byteV), .box b3 [.int .i64 st, .slice FA F.length Fc, .slice QA ps.length Qc, .int .u8 cd.toNat, str tag, .bool press] 47])
    (fun y => y.i ≤ ps.length ∧ y.f ≤ j + 1 ∧ y.t.length ≤ y.i * 5000 ∧ y.t ++ bodyOf (upP (j + 1 - y.f) ((ps.drop y.i).map pure1)) = P.flatten) (fun y => ps.length - y.i) ⟨0, 0, []⟩ ⟨Nat.zero_le _, Nat.zero_le _, Nat.zero_le _, hPf.symm⟩ rfl (Cv.into (by (try dsimp only); repeat' (first | with_reducible exact Cv.refl | with_reducible exact Cv.left | with_reducible exact Cv.right | with_reducible exact Cv.nil | (with_reducible apply Cv.cons; focus ((repeat (first | with_reducible exact Pick.here | with_reducible apply Pick.skip)); done)) | (apply Cv.cons; focus ((repeat (first | exact Pick.here | apply Pick.skip)); done)) | exact Cv.nil | exact Cv.refl | exact Cv.left | exact Cv.right | refine Cv.skip ?_))) ?_
  rintro ⟨i, f, t⟩ u ⟨hi, hf, htl, hI⟩
  dsimp only at hi hf htl hI ⊢
  by_cases hil : i < ps.length
  rotate_left
  · as_aux_lemma =>
    rw [List.drop_eq_nil_of_le (by omega), List.map_nil, upP_nil] at hI
    have hI : t ++ [] = P.flatten := hI
    rw [List.append_nil] at hI
    subst hI
    (conv => whnf); repeat ((first | refine tk1 ?_ | refine tk2 ?_ | refine tk3 ?_ | refine tk12 (fun _ => ?_) | refine tk4 ?_ | refine tk5 ?_ | refine tk6 ?_ | refine tk7 ?_ | refine tk8 ?_ | refine tk9 ?_ | refine tk10 (fun _ _ => ?_) | refine tk11 (fun _ => ?_) | refine tk13 ?_ | refine tk14 ?_); (conv => whnf))
    refine B2S.tc (xs := P.flatten.map byteV) (l := P.flatten) rfl rfl ?_
    (conv => whnf); repeat ((first | refine tk1 ?_ | refine tk2 ?_ | refine tk3 ?_ | refine tk12 (fun _ => ?_) | refine tk4 ?_ | refine tk5 ?_ | refine tk6 ?_ | refine tk7 ?_ | refine tk8 ?_ | refine tk9 ?_ | refine tk10 (fun _ _ => ?_) | refine tk11 (fun _ => ?_) | refine tk13 ?_ | refine tk14 ?_); (conv => whnf))
    refine Cmp.t rfl ?_
    (conv => whnf); repeat ((first | refine tk1 ?_ | refine tk2 ?_ | refine tk3 ?_ | refine tk12 (fun _ => ?_) | refine tk4 ?_ | refine tk5 ?_ | refine tk6 ?_ | refine tk7 ?_ | refine tk8 ?_ | refine tk9 ?_ | refine tk10 (fun _ _ => ?_) | refine tk11 (fun _ => ?_) | refine tk13 ?_ | refine tk14 ?_); (conv => whnf))
    exact fun w' _ => rfl
  by_cases hfj : f ≤ j
  rotate_left
  · as_aux_lemma =>
    rw [show j + 1 - f = 0 by omega] at hI
    have hI : t ++ [] = P.flatten := by
      rw [← hI]
      congr 1
      cases (ps.drop i).map pure1 <;> rfl
    rw [List.append_nil] at hI
    subst hI
    (conv => whnf); repeat ((first | refine tk1 ?_ | refine tk2 ?_ | refine tk3 ?_ | refine tk12 (fun _ => ?_) | refine tk4 ?_ | refine tk5 ?_ | refine tk6 ?_ | refine tk7 ?_ | refine tk8 ?_ | refine tk9 ?_ | refine tk10 (fun _ _ => ?_) | refine tk11 (fun _ => ?_) | refine tk13 ?_ | refine tk14 ?_); (conv => whnf))
    refine B2S.tc (xs := P.flatten.map byteV) (l := P.flatten) rfl rfl ?_
    (conv => whnf); repeat ((first | refine tk1 ?_ | refine tk2 ?_ | refine tk3 ?_ | refine tk12 (fun _ => ?_) | refine tk4 ?_ | refine tk5 ?_ | refine tk6 ?_ | refine tk7 ?_ | refine tk8 ?_ | refine tk9 ?_ | refine tk10 (fun _ _ => ?_) | refine tk11 (fun _ => ?_) | refine tk13 ?_ | refine tk14 ?_); (conv => whnf))
    refine Cmp.t rfl ?_
    (conv => whnf); repeat ((first | refine tk1 ?_ | refine tk2 ?_ | refine tk3 ?_ | refine tk12 (fun _ => ?_) | refine tk4 ?_ | refine tk5 ?_ | refine tk6 ?_ | refine tk7 ?_ | refine tk8 ?_ | refine tk9 ?_ | refine tk10 (fun _ _ => ?_) | refine tk11 (fun _ => ?_) | refine tk13 ?_ | refine tk14 ?_); (conv => whnf))
    exact fun w' _ => rfl
  as_aux_lemma =>
  obtain ⟨m, hm⟩ : ∃ m, j + 1 - f = m + 1 := ⟨j - f, by omega⟩
  obtain ⟨p1, p2, _⟩ := pcells_at ps i hil
  have hqm : ps[i] ∈ ps := List.getElem_mem hil
  rw [List.drop_eq_getElem_cons hil, hm] at hI
  have hql := total_mem2 (List.mem_map_of_mem (f := pure1) hqm)
  have hqr := fun H => hRq ps[i] hqm H
  generalize ps[i] = q at *
  have hql : q.l.length ≤ 5000 := by
    have h5 : (pure1 q).1.length = q.l.length := rfl
    omega
  have hI : t ++ (q.l ++ bodyOf (upP (if q.f then m else m + 1) ((ps.drop (i + 1)).map pure1))) = P.flatten := hI
  rw [← List.append_assoc] at hI
  (conv => whnf); repeat ((first | refine tk1 ?_ | refine tk2 ?_ | refine tk3 ?_ | refine tk12 (fun _ => ?_) | refine tk4 ?_ | refine tk5 ?_ | refine tk6 ?_ | refine tk7 ?_ | refine tk8 ?_ | refine tk9 ?_ | refine tk10 (fun _ _ => ?_) | refine tk11 (fun _ => ?_) | refine tk13 ?_ | refine tk14 ?_); (conv => whnf))
  refine IdxA.tc (xs := pcells ps) (by rw [pcells_length]; omega) (by omega) (by omega) ?_
  (conv => whnf); repeat ((first | refine tk1 ?_ | refine tk2 ?_ | refine tk3 ?_ | refine tk12 (fun _ => ?_) | refine tk4 ?_ | refine tk5 ?_ | refine tk6 ?_ | refine tk7 ?_ | refine tk8 ?_ | refine tk9 ?_ | refine tk10 (fun _ _ => ?_) | refine tk11 (fun _ => ?_) | refine tk13 ?_ | refine tk14 ?_); (conv => whnf))
  refine Ld.taF (xs := pcells ps) (v := .slice q.A q.l.length q.cp) (by rw [Int.toNat_natCast]; exact p1) ?_
  (conv => whnf); repeat ((first | refine tk1 ?_ | refine tk2 ?_ | refine tk3 ?_ | refine tk12 (fun _ => ?_) | refine tk4 ?_ | refine tk5 ?_ | refine tk6 ?_ | refine tk7 ?_ | refine tk8 ?_ | refine tk9 ?_ | refine tk10 (fun _ _ => ?_) | refine tk11 (fun _ => ?_) | refine tk13 ?_ | refine tk14 ?_); (conv => whnf))
  refine B2S.rd (l := q.l) (hqr _).ok rfl ?_
  (conv => whnf); repeat ((first | refine tk1 ?_ | refine tk2 ?_ | refine tk3 ?_ | refine tk12 (fun _ => ?_) | refine tk4 ?_ | refine tk5 ?_ | refine tk6 ?_ | refine tk7 ?_ | refine tk8 ?_ | refine tk9 ?_ | refine tk10 (fun _ _ => ?_) | refine tk11 (fun _ => ?_) | refine tk13 ?_ | refine tk14 ?_); (conv => whnf))
  refine CatS.at (by omega) ?_
  (conv => whnf); repeat ((first | refine tk1 ?_ | refine tk2 ?_ | refine tk3 ?_ | refine tk12 (fun _ => ?_) | refine tk4 ?_ | refine tk5 ?_ | refine tk6 ?_ | refine tk7 ?_ | refine tk8 ?_ | refine tk9 ?_ | refine tk10 (fun _ _ => ?_) | refine tk11 (fun _ => ?_) | refine tk13 ?_ | refine tk14 ?_); (conv => whnf))
  refine IdxA.tc (xs := pcells ps) (by rw [pcells_length]; omega) (by omega) (by omega) ?_
  (conv => whnf); repeat ((first | refine tk1 ?_ | refine tk2 ?_ | refine tk3 ?_ | refine tk12 (fun _ => ?_) | refine tk4 ?_ | refine tk5 ?_ | refine tk6 ?_ | refine tk7 ?_ | refine tk8 ?_ | refine tk9 ?_ | refine tk10 (fun _ _ => ?_) | refine tk11 (fun _ => ?_) | refine tk13 ?_ | refine tk14 ?_); (conv => whnf))
  refine Ld.taF (xs := pcells ps) (v := .bool q.f) (by rw [Int.toNat_natCast]; exact p2) ?_
  cases hqf : q.f
  · rw [hqf] at hI
    (conv => whnf); repeat ((first | refine tk1 ?_ | refine tk2 ?_ | refine tk3 ?_ | refine tk12 (fun _ => ?_) | refine tk4 ?_ | refine tk5 ?_ | refine tk6 ?_ | refine tk7 ?_ | refine tk8 ?_ | refine tk9 ?_ | refine tk10 (fun _ _ => ?_) | refine tk11 (fun _ => ?_) | refine tk13 ?_ | refine tk14 ?_); (conv => whnf))
    exact ⟨⟨i + 1, f, t ++ q.l⟩, ⟨by dsimp only; omega, hf, by dsimp only; rw [List.length_append]; omega, by dsimp only; rw [hm]; exact hI⟩, rfl, Cv.into (by (try dsimp only); repeat' (first | with_reducible exact Cv.refl | with_reducible exact Cv.left | with_reducible exact Cv.right | with_reducible exact Cv.nil | (with_reducible apply Cv.cons; focus ((repeat (first | with_reducible exact Pick.here | with_reducible apply Pick.skip)); done)) | (apply Cv.cons; focus ((repeat (first | exact Pick.here | apply Pick.skip)); done)) | exact Cv.nil | exact Cv.refl | exact Cv.left | exact Cv.right | refine Cv.skip ?_)), by dsimp only; omega⟩
  · rw [hqf] at hI
    (conv => whnf); repeat ((first | refine tk1 ?_ | refine tk2 ?_ | refine tk3 ?_ | refine tk12 (fun _ => ?_) | refine tk4 ?_ | refine tk5 ?_ | refine tk6 ?_ | refine tk7 ?_ | refine tk8 ?_ | refine tk9 ?_ | refine tk10 (fun _ _ => ?_) | refine tk11 (fun _ => ?_) | refine tk13 ?_ | refine tk14 ?_); (conv => whnf))
    exact ⟨⟨i + 1, f + 1, t ++ q.l⟩, ⟨by dsimp only; omega, by dsimp only; omega, by dsimp only; rw [List.length_append]; omega, by dsimp only; rw [show j + 1 - (f + 1) = m by omega]; exact hI⟩, rfl, Cv.into (by (try dsimp only); repeat' (first | with_reducible exact Cv.refl | with_reducible exact Cv.left | with_reducible exact Cv.right | with_reducible exact Cv.nil | (with_reducible apply Cv.cons; focus ((repeat (first | with_reducible exact Pick.here | with_reducible apply Pick.skip)); done)) | (apply Cv.cons; focus ((repeat (first | exact Pick.here | apply Pick.skip)); done)) | exact Cv.nil | exact Cv.refl | exact Cv.left | exact Cv.right | refine Cv.skip ?_)), by dsimp only; omega⟩
end Go.Proofs.YtnaeeklnlddcaaaGreatDoor.Vex
/- Arguments that are bodies under way. -/
namespace Go.Proofs.YtnaeeklnlddcaaaGreatDoor.Vex
open Go Go.RowKit Go.ChangeShapes Go.WideShapes Go.Deep
set_option maxRecDepth 100000

structure ChA where
  ph : UInt8
  left : Int
  L : Sl UInt8
  trail : Int
def ChA.cells (x : ChA) : List Value := [byteV x.ph, .int .i64 x.left, .slice x.L.A x.L.l.length x.L.cp, .int .i64 x.trail]
def ChA.st (x : ChA) : CSt := ⟨x.ph.toNat, x.left, x.L.l, x.trail⟩
abbrev chShape : Shape := ⟨ChA, 4, ChA.cells, fun w x => bytesShape.ok w x.L ∧ (-9223372036854775808 ≤ x.left ∧ x.left ≤ 9223372036854775807) ∧ -9223372036854775808 ≤ x.trail ∧ x.trail ≤ 9223372036854775807, fun x => 3 + bytesShape.wt x.L⟩
theorem opens_chunks : Opens Tryz.prog 56 chShape := by
  have h := opens_struct Tryz.underlying56 (by kernel_rfl) (opensL_cons rfl opens_u8 (opensL_cons rfl opens_i64 (opensL_cons rfl opens_bytes (opensL_cons rfl opens_i64 (opensL_nil _)))))
  exact opens_map h (fun x => ChA.mk x.1 x.2.1 x.2.2.1 x.2.2.2.1) rfl (fun _ _ _ => rfl) (fun _ _ h => ⟨h.2.2.1, h.2.1, h.2.2.2.1⟩) (fun _ _ _ => by dsimp only; omega)
abbrev cptShape : Shape := ⟨CPt, 1, fun x => [x.v], fun w x => x.l.length ≤ x.cp ∧ Rdw w x.A (x.l.map byteV), fun x => x.l.length⟩
theorem wt_bytes (l : List UInt8) : (l.map byteShape.wt).sum = l.length := by
  induction l with
  | nil => rfl
  | cons a r ih => rw [List.map_cons, List.sum_cons, ih, List.length_cons]; exact Nat.add_comm 1 _
theorem opens_cpt : Opens Tryz.prog 51 cptShape :=
  opens_map opens_bytes (fun x => CPt.mk x.A x.cp x.l) rfl (fun _ _ _ => rfl) (fun _ _ h => ⟨h.1, rd_bytes h⟩) (fun _ x _ => by show x.l.length ≤ (x.l.map byteShape.wt).sum + 1; rw [wt_bytes]; omega)
theorem opens_bytess : Opens Tryz.prog 214 (sliceShape cptShape) := opens_slice Tryz.underlying214 (by kernel_rfl) opens_cpt
theorem flat_cpts (l : List CPt) : l.flatMap (fun b => [b.v]) = l.map CPt.v := by
  induction l with
  | nil => rfl
  | cons a r ih => rw [List.flatMap_cons, ih]; rfl
theorem rd_cpts {W : World} {x : Sl CPt} (h : (sliceShape cptShape).ok W x) : Rdw W x.A (x.l.map CPt.v) ∧ ∀ e ∈ x.l, Rdw W e.A (e.l.map byteV) := ⟨flat_cpts x.l ▸ h.2.1, fun e he => (h.2.2 e he).2⟩
theorem bytes_wt (x : Sl UInt8) : x.l.length ≤ bytesShape.wt x := by show x.l.length ≤ (x.l.map byteShape.wt).sum + 1; rw [wt_bytes]; omega
end Go.Proofs.YtnaeeklnlddcaaaGreatDoor.Vex
/- Arguments that are answers. -/
namespace Go.Proofs.YtnaeeklnlddcaaaGreatDoor.Vex
open Go Go.RowKit Go.ChangeShapes Go.WideShapes Go.Deep
set_option maxRecDepth 100000

theorem flat_prts (l : List Prt) : l.flatMap (fun q => [.slice q.A q.l.length q.cp, .bool q.f]) = pcells l := by
  induction l with
  | nil => rfl
  | cons a r ih => rw [List.flatMap_cons, ih]; rfl
abbrev prtShape : Shape := ⟨Prt, 2, fun q => [.slice q.A q.l.length q.cp, .bool q.f], fun W q => q.l.length ≤ q.cp ∧ Rdw W q.A (q.l.map byteV), fun q => q.l.length + 1⟩
theorem opens_prt : Opens Tryz.prog 53 prtShape := by
  have h := opens_struct Tryz.underlying53 (by kernel_rfl) (opensL_cons rfl opens_bytes (opensL_cons rfl opens_tf (opensL_nil _)))
  exact opens_map h (fun x => Prt.mk x.1.A x.1.cp x.1.l x.2.1) rfl (fun _ _ _ => rfl) (fun _ _ h => ⟨h.1.1, rd_bytes h.1⟩) (fun _ x _ => by
    show x.1.l.length + 1 ≤ ((x.1.l.map byteShape.wt).sum + 1 + _) + 1
    rw [wt_bytes]; omega)
abbrev prtsShape : Shape := sliceShape prtShape
theorem opens_prts : Opens Tryz.prog 45 prtsShape := opens_slice Tryz.underlying45 (by kernel_rfl) opens_prt
/-- An answer that came in. -/
structure An where
  st : Int
  F : Sl Fld
  Ps : Sl Prt
  cd : UInt8
  tag : List UInt8
  press : Bool
def An.cells (x : An) : List Value := [.int .i64 x.st, .slice x.F.A x.F.l.length x.F.cp, .slice x.Ps.A x.Ps.l.length x.Ps.cp, .int .u8 x.cd.toNat, str x.tag, .bool x.press]
abbrev anShape : Shape := ⟨An, 6, An.cells, fun w x => (-9223372036854775808 ≤ x.st ∧ x.st ≤ 9223372036854775807) ∧ fieldsShape.ok w x.F ∧ prtsShape.ok w x.Ps ∧ x.tag.length ≤ 9223372036854775807,
  fun x => x.tag.length + fieldsShape.wt x.F + prtsShape.wt x.Ps⟩
theorem opens_answer : Opens Tryz.prog 47 anShape := by
  have h := opens_struct Tryz.underlying47 (by kernel_rfl) (opensL_cons rfl opens_i64 (opensL_cons rfl opens_fields (opensL_cons rfl opens_prts (opensL_cons rfl opens_u8 (opensL_cons rfl opens_string (opensL_cons rfl opens_tf (opensL_nil _)))))))
  exact opens_map h (fun x => An.mk x.1 x.2.1 x.2.2.1 x.2.2.2.1 x.2.2.2.2.1 x.2.2.2.2.2.1) rfl (fun _ _ _ => rfl) (fun _ _ h => ⟨h.1, h.2.1, h.2.2.1, h.2.2.2.2.1⟩) (fun _ _ _ => by dsimp only; omega)
theorem rd_prts {W : World} {x : Sl Prt} (h : prtsShape.ok W x) : PrtsOk W x.A x.l := ⟨flat_prts x.l ▸ h.2.1, fun q hm => (h.2.2 q hm).2⟩
end Go.Proofs.YtnaeeklnlddcaaaGreatDoor.Vex
namespace Go.Proofs.YtnaeeklnlddcaaaGreatDoor.replyFlushes
open Go.ChangeShapes Go.WideShapes Go.ChangeAt Go.RowKit

set_option maxRecDepth 100000 in
theorem contract (H : Type) (enc : TypeId × Value → H) (W : World) (base : Nat) (args : Array Value) (ds gs : List (DataW H)) (before : List MemPlace)
    (hval : ∀ (j : Nat) t v, Tryz.f5.params[j]? = some t → args[j]? = some v → Value.okWide Tryz.prog W .any base t v)
    (hW : DataW.Whole enc Tryz.prog Tryz.f5.params.toList Rows.replyFlushesSpec.vars false W args.toList ds gs before) (hL : laidMetH Tryz.prog Rows.replyFlushesRow.laid W) (hS : W.ShapedOpen Tryz.prog) :
    Calls Tryz.prog 5 args W fun e W' => ∃ v, e = .returned v ∧ Rows.replyFlushesSpec.post enc Tryz.prog Tryz.f5 false true false false W args v W' := by
  have hW' := hW
  obtain ⟨p, q, hA, hV, rfl, hfz, hnd⟩ := hW
  rw [Tryz.params5] at hA hval
  obtain ⟨v0, vs0, d0, ds0, p0, q0, hargs, rfl, rfl, h0, r0⟩ := trodAll_cons hA
  obtain ⟨v1, vs1, d1, ds1, p1, q1, rfl, rfl, rfl, h1, r1⟩ := trodAll_cons r0
  obtain ⟨v2, vs2, d2, ds2, p2, q2, rfl, rfl, rfl, h2, r2⟩ := trodAll_cons r1
  obtain ⟨rfl, rfl, rfl⟩ := trodAll_nil r2
  obtain rfl : args = #[v0, v1, v2] := by rw [← Array.toList_inj]; exact hargs
  obtain ⟨rfl, rfl⟩ := trodVars_none hV
  obtain ⟨x0, rfl, k0, z0⟩ := Vex.open_whole Vex.opens_answer Tryz.underlying47 (hval 0 47 v0 rfl rfl) h0
  obtain ⟨x1, e1, k1, z1⟩ := Vex.open_cell Vex.opens_tf (by rw [Tryz.underlying4]) (hval 1 4 v1 rfl rfl) h1
  obtain rfl := (List.cons.inj e1).1
  obtain ⟨x2, e2, k2, z2⟩ := Vex.open_cell Vex.opens_i64 (by rw [Tryz.underlying3]) (hval 2 3 v2 rfl rfl) h2
  obtain rfl := (List.cons.inj e2).1
  have hG := Vex.gV_of hL hS (by kernel_rfl) (List.mem_of_getElem? (i := 5) rfl) (List.mem_of_getElem? (i := 4) rfl) (List.mem_of_getElem? (i := 2) rfl) (List.mem_of_getElem? (i := 6) rfl) (List.mem_of_getElem? (i := 3) rfl) (List.mem_of_getElem? (i := 1) rfl)
  refine (Vex.done_E (Vex.ReplyFlushes_v x0.st x0.F.A x0.F.cp x0.F.l x0.Ps.A x0.Ps.cp x0.Ps.l x0.cd x0.tag x0.press x1 x2 (fun q hm => (k0.2.2.1.2.2 q hm).1)) hG ⟨Vex.rd_fields k0.2.1, Vex.rd_prts k0.2.2.1⟩).mono fun e W' ⟨he, hb⟩ => ?_
  exact ⟨_, he, law_post laidOut rfl hW' (by kernel_rfl) (by kernel_rfl) Tryz.underlying4 (by kernel_rfl) hb⟩

abbrev start : Array Value := #[.agg #[.int .i64 0, .slice none 0 0, .slice none 0 0, .int .u8 0, .string ⟨#[]⟩, .bool false], .bool false, .int .i64 0]
theorem laid_met (os : Os) : laidMet Tryz.prog Rows.replyFlushesRow.laid ((laidWorld os start).forCall (fun _ _ => 0) ⟨#[], start, []⟩).memory :=
  laidMet_of_run' 8 (by kernel_rfl) (by kernel_rfl)
theorem reads (os : Os) {H : Type} (enc : TypeId × Value → H) : ∃ places, DataW.whole enc Tryz.prog ((laidWorld os start).forCall (fun _ _ => 0) ⟨#[], start, []⟩).memory Tryz.f5.params.toList Rows.replyFlushesSpec.vars false start.toList 8 = some ([.agg [.lit (.int .i64 0), .nil, .nil, .lit (.int .u8 0), .lit (.string []), .lit (.bool false)], .lit (.bool false), .lit (.int .i64 0)], [], places) :=
  ⟨[], by kernel_rfl⟩

set_option maxRecDepth 100000 in
theorem lifted (os : Os) (started : os.Started) (H : Type) (enc : TypeId × Value → H) (F : Stop.Interp) :
    ReturnsInHanded {} Tryz.checked os 5 .any ((OpenSpec.ofChange Rows.replyFlushesSpec).preRow enc Tryz.prog Tryz.f5 Rows.replyFlushesRow.domain false Rows.replyFlushesRow.laid) (((OpenSpec.ofChange Rows.replyFlushesSpec).at F).post enc Tryz.prog Tryz.f5 false true false false) := by
  obtain ⟨places, hx⟩ := reads os enc
  refine returnsInHanded_of_row (C := Tryz.checked) (s := OpenSpec.ofChange Rows.replyFlushesSpec) own started (by kernel_rfl) Tryz.func5
    (witness_row_atRef (enc := enc) (C := Tryz.checked) false (laidWorld os start) start rfl (by kernel_rfl) (by kernel_rfl) (by kernel_rfl)
      (OpenSpec.preRow_of_cond 8 hx (by kernel_rfl) (fun k hk => by cases hk) (by kernel_rfl) (laid_met os))) ?_
  intro W base args ds gs before hval hW _ _ _ hL hS _
  exact contract H enc W base args ds gs before hval hW hL hS

theorem said : Rows.ReplyFlushesSaid :=
  OpenClaim.holds_of_cond 5 Tryz.f5 rfl rfl rfl rfl rfl rfl rfl ⟨rfl, rfl, rfl, rfl, rfl⟩ rfl rfl rfl rfl rfl (by kernel_rfl) Tryz.func5 (by kernel_rfl)
    (of_decide_eq_true (by kernel_rfl)) (by unfold Func.isWrapper; first | (rw [if_pos (by decide +kernel)]; kernel_rfl) | (rw [if_neg (by decide +kernel)]; exact ⟨rfl, rfl⟩))
    (fun os started H enc _ F => by rw [OpenClaim.pre_eq_preRow]; exact lifted os started H enc F)

/-- No parameter wants a stand-in; the program's own looks. -/
theorem plain (f : FuncId) (fn : Func) (hf : Tryz.pinned.checked.prog.funcNamed "bellows/bellowslaw29.ReplyFlushes" = some f) (hfn : Tryz.pinned.checked.prog.funcs[f]? = some fn) :
    true = Tryz.pinned.checked.prog.looks [] ∧ ∀ (j : Nat) t, fn.params[j]? = some t → Tryz.pinned.checked.prog.wantsStandIn t = false := by
  obtain rfl : f = 5 := Option.some.inj ((show Tryz.prog.funcNamed "bellows/bellowslaw29.ReplyFlushes" = some 5 by kernel_rfl).symm.trans hf) |>.symm
  obtain rfl : fn = Tryz.f5 := (Option.some.inj (Tryz.func5.symm.trans hfn)).symm
  refine ⟨by kernel_rfl, fun j t ht => ?_⟩
  have hall : (Tryz.f5.params.toList.all fun t => !Tryz.prog.wantsStandIn t) = true := by kernel_rfl
  have := List.all_eq_true.1 hall t (Array.mem_toList_iff.2 (Array.mem_of_getElem? ht))
  exact (show Tryz.prog.wantsStandIn t = false by simpa using this)

theorem proved : Rows.ReplyFlushesCardSaid :=
  Claim7.holds_tied_plain_at .later [] _ _ _ _ said (fun _ h => by cases h) (by kernel_rfl) (fun _ h => by cases h) replyFlushes_row_tie rfl ⟨rfl, rfl⟩ (by kernel_rfl) rfl plain (by kernel_rfl)
end Go.Proofs.YtnaeeklnlddcaaaGreatDoor.replyFlushes
