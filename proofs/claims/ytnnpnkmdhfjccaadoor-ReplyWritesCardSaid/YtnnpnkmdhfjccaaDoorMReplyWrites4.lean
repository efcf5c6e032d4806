/- The program's functions on answers as bytes, reckoned: write, a field's line, cut. -/
import Derived.Test.YtnnpnkmdhfjccaaDoorMReplyWrites3
import Derived.Lib.Repeat
import Derived.Lib.ItoaLen
import Derived.Laws.MakeOwn
import Derived.Laws.CopyRow
import Derived.Lib.Bytealg
import Derived.Laws.Runes
import Derived.Lib.ItoaNum
import Derived.Lib.ItoaMem
import Derived.Shelf.Spec.DecodeRune
import Derived.Lib.LaidU8T
namespace Go.Proofs.YtnnpnkmdhfjccaaDoor.Vex
open Go Go.RowKit
set_option maxRecDepth 100000
set_option linter.unusedSectionVars false
variable {gI : GI} [HasMax gI]

theorem str_one (l : List (List UInt8)) : ∀ u ∈ l.map str, u.oneCell' = true := fun u hu => by
  obtain ⟨y, _, rfl⟩ := List.mem_map.1 hu
  rfl
theorem flat_one (ts : List (List UInt8)) (k : Nat) (h : k < ts.length) : (ts.take (k + 1)).flatten = (ts.take k).flatten ++ ts[k] := by
  rw [List.take_succ_eq_append_getElem h, List.flatten_append]
  simp
theorem flat_le (ts : List (List UInt8)) (k : Nat) : (ts.take k).flatten.length ≤ ts.flatten.length := by
  conv => rhs; rw [← List.take_append_drop k ts, List.flatten_append, List.length_append]
  omega
/-- Texts are put behind. -/
theorem write_k {c : Ctx} (hc : Ours Tryd.prog gI c) {b : Nat} {A : Option Addr} {cp : Nat} {l : List UInt8} {Dn : Option Addr} {dn dc : Nat} {SA : Option Addr} {sc : Nat} {ts : List (List UInt8)} {X : Hp} {K : Value → Hp → Prop} (hl : l.length + ts.flatten.length ≤ 4000000000) (ht : ts.length ≤ 1000000)
    (k : ∀ v A' cp', K v (.box b [.slice A' (l ++ ts.flatten).length cp', .slice Dn dn dc] 54 :: .row (.slice A' (l ++ ts.flatten).length cp') 5 1 (l ++ ts.flatten).length ((l ++ ts.flatten).map byteV) :: X)) :
    CallK c false 22 [.pointer (some ⟨b, 0, none⟩), .slice SA ts.length sc] (.row (.slice SA ts.length sc) 9 1 ts.length (ts.map str) :: .box b [.slice A l.length cp, .slice Dn dn dc] 54 :: .row (.slice A l.length cp) 5 1 l.length (l.map byteV) :: X) K := by
  obtain ⟨P, g, w0, M, hM, hG⟩ := c
  obtain ⟨rfl, rfl⟩ := hc
  refine CallK.post ?_
  refine CallK.inl tys_ok Tryd.func22 rfl (by kernel_rfl) rfl rfl ?_
  (conv => whnf); repeat ((first | refine tk1 ?_ | refine tk2 ?_ | refine tk3 ?_ | refine tk12 (fun _ => ?_) | refine tk4 ?_ | refine tk5 ?_ | refine tk6 ?_ | refine tk7 ?_ | refine tk8 ?_ | refine tk9 ?_ | refine tk10 (fun _ _ => ?_) | refine tk11 (fun _ => ?_) | refine tk13 ?_ | refine tk14 ?_); (conv => whnf))
  refine LoopS.lpT tys_ok (fun (x : Nat × Option Addr × Nat) u => [.pointer (some ⟨b, 0, none⟩), u 1, u 2, u 3, u 4, u 5, .slice SA ts.length sc, .int .i64 ts.length, .int .i64 (x.1 : Nat), u 9, u 10, u 11, u 12, u 13, u 14, u 15, u 16, u 17, u 18, u 19, u 20, u 21])
    (fun x => .row (.slice SA ts.length sc) 9 1 ts.length (ts.map str) :: .box b [.slice x.2.1 (l ++ (ts.take x.1).flatten).length x.2.2, .slice Dn dn dc] 54 :: .row (.slice x.2.1 (l ++ (ts.take x.1).flatten).length x.2.2) 5 1 (l ++ (ts.take x.1).flatten).length ((l ++ (ts.take x.1).flatten).map byteV) :: X)
    (fun x => x.1 ≤ ts.length) (fun x => ts.length - x.1) (0, A, cp) (Nat.zero_le _) (by simp only [List.take_zero, List.flatten_nil, List.append_nil]; rfl) (by simp only [List.take_zero, List.flatten_nil, List.append_nil]; exact Into.refl) ?_
  rintro ⟨i, A', cp'⟩ u hi
  dsimp only at hi ⊢
  by_cases hlt : i < ts.length
  · have hx : (ts.map str)[((i : Nat) : Int).toNat * 1]? = some (str ts[i]) := by rw [Int.toNat_natCast, Nat.mul_one, List.getElem?_map, List.getElem?_eq_getElem hlt]; rfl
    have hfo := flat_one ts i hlt
    have hfl := flat_le ts (i + 1)
    rw [hfo, List.length_append] at hfl
    generalize ts[i] = t at *
    have hll : (l ++ (ts.take i).flatten).length = l.length + (ts.take i).flatten.length := List.length_append
    (conv => whnf); repeat ((first | refine tk1 ?_ | refine tk2 ?_ | refine tk3 ?_ | refine tk12 (fun _ => ?_) | refine tk4 ?_ | refine tk5 ?_ | refine tk6 ?_ | refine tk7 ?_ | refine tk8 ?_ | refine tk9 ?_ | refine tk10 (fun _ _ => ?_) | refine tk11 (fun _ => ?_) | refine tk13 ?_ | refine tk14 ?_); (conv => whnf))
    refine IdxA.tc (xs := ts.map str) (by rw [List.length_map]; omega) (by omega) (by omega) ?_
    (conv => whnf); repeat ((first | refine tk1 ?_ | refine tk2 ?_ | refine tk3 ?_ | refine tk12 (fun _ => ?_) | refine tk4 ?_ | refine tk5 ?_ | refine tk6 ?_ | refine tk7 ?_ | refine tk8 ?_ | refine tk9 ?_ | refine tk10 (fun _ _ => ?_) | refine tk11 (fun _ => ?_) | refine tk13 ?_ | refine tk14 ?_); (conv => whnf))
    refine Ld.ta (xs := ts.map str) hx ?_
    (conv => whnf); repeat ((first | refine tk1 ?_ | refine tk2 ?_ | refine tk3 ?_ | refine tk12 (fun _ => ?_) | refine tk4 ?_ | refine tk5 ?_ | refine tk6 ?_ | refine tk7 ?_ | refine tk8 ?_ | refine tk9 ?_ | refine tk10 (fun _ _ => ?_) | refine tk11 (fun _ => ?_) | refine tk13 ?_ | refine tk14 ?_); (conv => whnf))
    refine AppS.tc (m := t.length) (news := t.map byteV) (SrcK.str t) (by simp) (bytes_one _) (by decide) (by omega) (by omega) (zs := ((l ++ (ts.take i).flatten) ++ t).map byteV) List.map_append.symm (fun B2 c2 => ?_)
    rw [← List.length_append]
    (conv => whnf); repeat ((first | refine tk1 ?_ | refine tk2 ?_ | refine tk3 ?_ | refine tk12 (fun _ => ?_) | refine tk4 ?_ | refine tk5 ?_ | refine tk6 ?_ | refine tk7 ?_ | refine tk8 ?_ | refine tk9 ?_ | refine tk10 (fun _ _ => ?_) | refine tk11 (fun _ => ?_) | refine tk13 ?_ | refine tk14 ?_); (conv => whnf))
    exact ⟨(i + 1, B2, c2), by dsimp only; omega, by dsimp only; rfl, by dsimp only; rw [hfo, ← List.append_assoc]; exact Cv.into (by (try dsimp only); repeat' (first | with_reducible exact Cv.refl | with_reducible exact Cv.left | with_reducible exact Cv.right | with_reducible exact Cv.nil | (with_reducible apply Cv.cons; focus ((repeat (first | with_reducible exact Pick.here | with_reducible apply Pick.skip)); done)) | (apply Cv.cons; focus ((repeat (first | exact Pick.here | apply Pick.skip)); done)) | exact Cv.nil | exact Cv.refl | exact Cv.left | exact Cv.right | refine Cv.skip ?_)), by dsimp only; omega⟩
  · obtain rfl : i = ts.length := by omega
    rw [List.take_length]
    (conv => whnf); repeat ((first | refine tk1 ?_ | refine tk2 ?_ | refine tk3 ?_ | refine tk12 (fun _ => ?_) | refine tk4 ?_ | refine tk5 ?_ | refine tk6 ?_ | refine tk7 ?_ | refine tk8 ?_ | refine tk9 ?_ | refine tk10 (fun _ _ => ?_) | refine tk11 (fun _ => ?_) | refine tk13 ?_ | refine tk14 ?_); (conv => whnf))
    exact ⟨_, Cv.into (Cv.skip Cv.refl), k _ A' cp'⟩
end Go.Proofs.YtnnpnkmdhfjccaaDoor.Vex
/- The program's functions on answers as bytes, reckoned: a field's line, cut, streamed, bare, own, wrap. -/
namespace Go.Proofs.YtnnpnkmdhfjccaaDoor.Vex
open Go Go.RowKit
set_option maxRecDepth 100000
set_option linter.unusedSectionVars false
variable {gI : GI} [HasMax gI]

/-- A field's line is put behind. -/
theorem line_c {c : Ctx} (hc : Ours Tryd.prog gI c) {q b : Nat} {A : Option Addr} {cp : Nat} {l : List UInt8} {Dn : Option Addr} {dn dc : Nat} {X : Hp} {K : Value → Hp → Prop} (n v : List UInt8) (hl : l.length + n.length + v.length ≤ 3000000000)
    (k : ∀ v' A' cp', K v' (.box q [.pointer (some ⟨b, 0, none⟩)] 52 :: .box b [.slice A' (l ++ lineR n v).length cp', .slice Dn dn dc] 54 :: .row (.slice A' (l ++ lineR n v).length cp') 5 1 (l ++ lineR n v).length ((l ++ lineR n v).map byteV) :: X)) :
    CallK c false 38 [str n, str v, .pointer (some ⟨q, 0, none⟩)] (.box q [.pointer (some ⟨b, 0, none⟩)] 52 :: .box b [.slice A l.length cp, .slice Dn dn dc] 54 :: .row (.slice A l.length cp) 5 1 l.length (l.map byteV) :: X) K := by
  obtain ⟨P, g, w0, M, hM, hG⟩ := c
  have hc' := hc
  obtain ⟨rfl, rfl⟩ := hc
  refine CallK.post ?_
  refine CallK.inl tys_ok Tryd.func38 rfl (by kernel_rfl) rfl rfl ?_
  have hfl : [n, [58, 32], v, [13, 10]].flatten = lineR n v := by simp [lineR]
  have hfn : [n, [58, 32], v, [13, 10]].flatten.length = n.length + v.length + 4 := by rw [hfl]; simp [lineR]; omega
  (conv => whnf); repeat ((first | refine tk1 ?_ | refine tk2 ?_ | refine tk3 ?_ | refine tk12 (fun _ => ?_) | refine tk4 ?_ | refine tk5 ?_ | refine tk6 ?_ | refine tk7 ?_ | refine tk8 ?_ | refine tk9 ?_ | refine tk10 (fun _ _ => ?_) | refine tk11 (fun _ => ?_) | refine tk13 ?_ | refine tk14 ?_); (conv => whnf))
  rename_i sb
  refine CallK.into (G := .row (.slice (some ⟨sb, 0, none⟩) 4 4) 9 1 4 ([n, [58, 32], v, [13, 10]].map str) :: .box b [.slice A l.length cp, .slice Dn dn dc] 54 :: .row (.slice A l.length cp) 5 1 l.length (l.map byteV) :: .box q [.pointer (some ⟨b, 0, none⟩)] 52 :: X) (Cv.into (by (try dsimp only); repeat' (first | with_reducible exact Cv.refl | with_reducible exact Cv.left | with_reducible exact Cv.right | with_reducible exact Cv.nil | (with_reducible apply Cv.cons; focus ((repeat (first | with_reducible exact Pick.here | with_reducible apply Pick.skip)); done)) | (apply Cv.cons; focus ((repeat (first | exact Pick.here | apply Pick.skip)); done)) | exact Cv.nil | exact Cv.refl | exact Cv.left | exact Cv.right | refine Cv.skip ?_))) ?_
  refine write_k hc' (ts := [n, [58, 32], v, [13, 10]]) (X := .box q [.pointer (some ⟨b, 0, none⟩)] 52 :: X) (by omega) (by simp) (fun v' A' cp' => ?_)
  rw [hfl]
  (conv => whnf); repeat ((first | refine tk1 ?_ | refine tk2 ?_ | refine tk3 ?_ | refine tk12 (fun _ => ?_) | refine tk4 ?_ | refine tk5 ?_ | refine tk6 ?_ | refine tk7 ?_ | refine tk8 ?_ | refine tk9 ?_ | refine tk10 (fun _ _ => ?_) | refine tk11 (fun _ => ?_) | refine tk13 ?_ | refine tk14 ?_); (conv => whnf))
  exact ⟨_, Cv.into (by (try dsimp only); repeat' (first | with_reducible exact Cv.refl | with_reducible exact Cv.left | with_reducible exact Cv.right | with_reducible exact Cv.nil | (with_reducible apply Cv.cons; focus ((repeat (first | with_reducible exact Pick.here | with_reducible apply Pick.skip)); done)) | (apply Cv.cons; focus ((repeat (first | exact Pick.here | apply Pick.skip)); done)) | exact Cv.nil | exact Cv.refl | exact Cv.left | exact Cv.right | refine Cv.skip ?_)), k _ A' cp'⟩
/-- The open part is cut: it stands behind the others if it has bytes. -/
theorem cut_k {c : Ctx} (hc : Ours Tryd.prog gI c) {f : Bool} {b : Nat} {A : Option Addr} {cp : Nat} {l : List UInt8} {D : Option Addr} {dc : Nat} {ps : List Prt} {X : Hp} {K : Value → Hp → Prop} (hl : l.length ≤ 4000000000) (hd : ps.length ≤ 4000000000)
    (k : ∀ v D' dc' ps', ps'.map pure1 = close1 l f (ps.map pure1) → K v (.box b [.slice none 0 0, .slice D' ps'.length dc'] 54 :: .row (.slice D' ps'.length dc') 37 2 ps'.length (pcells ps') :: .row (.slice none 0 0) 5 1 0 [] :: (X ++ rowsP 5 ps'))) :
    CallK c false 23 [.pointer (some ⟨b, 0, none⟩), .bool f] (.box b [.slice A l.length cp, .slice D ps.length dc] 54 :: .row (.slice D ps.length dc) 37 2 ps.length (pcells ps) :: .row (.slice A l.length cp) 5 1 l.length (l.map byteV) :: (X ++ rowsP 5 ps)) K := by
  obtain ⟨P, g, w0, M, hM, hG⟩ := c
  obtain ⟨rfl, rfl⟩ := hc
  refine CallK.post ?_
  refine CallK.inl tys_ok Tryd.func23 rfl (by kernel_rfl) rfl rfl ?_
  (conv => whnf); repeat ((first | refine tk1 ?_ | refine tk2 ?_ | refine tk3 ?_ | refine tk12 (fun _ => ?_) | refine tk4 ?_ | refine tk5 ?_ | refine tk6 ?_ | refine tk7 ?_ | refine tk8 ?_ | refine tk9 ?_ | refine tk10 (fun _ _ => ?_) | refine tk11 (fun _ => ?_) | refine tk13 ?_ | refine tk14 ?_); (conv => whnf))
  refine Cmp.cases (fun h1 => ?_) (fun h1 => ?_)
  · have hne : l ≠ [] := fun h => by rw [h] at h1; simp at h1
    (conv => whnf); repeat ((first | refine tk1 ?_ | refine tk2 ?_ | refine tk3 ?_ | refine tk12 (fun _ => ?_) | refine tk4 ?_ | refine tk5 ?_ | refine tk6 ?_ | refine tk7 ?_ | refine tk8 ?_ | refine tk9 ?_ | refine tk10 (fun _ _ => ?_) | refine tk11 (fun _ => ?_) | refine tk13 ?_ | refine tk14 ?_); (conv => whnf))
    refine DrawS.go [(0, true), (1, true), (2, true), (3, true), (4, true), (5, true), (6, true), (7, true), (8, true), (9, true), (10, true), (11, false), (12, false), (13, true), (14, true), (15, false)] tys_ok mixed (by kernel_rfl) ?_
    (conv => whnf); repeat ((first | refine tk1 ?_ | refine tk2 ?_ | refine tk3 ?_ | refine tk12 (fun _ => ?_) | refine tk4 ?_ | refine tk5 ?_ | refine tk6 ?_ | refine tk7 ?_ | refine tk8 ?_ | refine tk9 ?_ | refine tk10 (fun _ _ => ?_) | refine tk11 (fun _ => ?_) | refine tk13 ?_ | refine tk14 ?_); (conv => whnf))
    refine AppS.tc (m := 1) (news := [.slice A l.length cp, .bool f]) SrcK.tc rfl (by simp [Value.oneCell']) (by decide) (by omega) (by omega) (zs := pcells (ps ++ [⟨A, cp, l, f⟩])) (by rw [pcells_append]; rfl) (fun D' dc' => ?_)
    rw [show ps.length + 1 = (ps ++ [(⟨A, cp, l, f⟩ : Prt)]).length by simp]
    (conv => whnf); repeat ((first | refine tk1 ?_ | refine tk2 ?_ | refine tk3 ?_ | refine tk12 (fun _ => ?_) | refine tk4 ?_ | refine tk5 ?_ | refine tk6 ?_ | refine tk7 ?_ | refine tk8 ?_ | refine tk9 ?_ | refine tk10 (fun _ _ => ?_) | refine tk11 (fun _ => ?_) | refine tk13 ?_ | refine tk14 ?_); (conv => whnf))
    refine ⟨_, ?_, k _ D' dc' (ps ++ [⟨A, cp, l, f⟩]) (by rw [List.map_append]; unfold close1; rw [if_neg hne]; rfl)⟩
    exact Into.trans (Into.nilRow (e := 5) (sz := 1) Into.refl) (Cv.into (by repeat' (first | exact Cv.nil | exact Cv.refl | exact Cv.close (q := ⟨A, cp, l, f⟩) | refine Cv.cons (by first | exact Pick.here | exact Pick.here.skip | exact Pick.here.skip.skip | exact Pick.here.skip.skip.skip | exact Pick.here.skip.skip.skip.skip | exact Pick.here.skip.skip.skip.skip.skip | exact Pick.here.skip.skip.skip.skip.skip.skip | exact Pick.here.skip.skip.skip.skip.skip.skip.skip | exact Pick.here.skip.skip.skip.skip.skip.skip.skip.skip | exact Pick.here.skip.skip.skip.skip.skip.skip.skip.skip.skip | exact Pick.here.skip.skip.skip.skip.skip.skip.skip.skip.skip.skip | exact Pick.here.skip.skip.skip.skip.skip.skip.skip.skip.skip.skip.skip) ?_ | refine Cv.skip ?_)))
  · have hne : l = [] := List.eq_nil_of_length_eq_zero (by omega)
    subst hne
    (conv => whnf); repeat ((first | refine tk1 ?_ | refine tk2 ?_ | refine tk3 ?_ | refine tk12 (fun _ => ?_) | refine tk4 ?_ | refine tk5 ?_ | refine tk6 ?_ | refine tk7 ?_ | refine tk8 ?_ | refine tk9 ?_ | refine tk10 (fun _ _ => ?_) | refine tk11 (fun _ => ?_) | refine tk13 ?_ | refine tk14 ?_); (conv => whnf))
    refine ⟨_, ?_, k _ D dc ps (by unfold close1; rw [if_pos rfl])⟩
    exact Into.trans (Into.nilRow (e := 5) (sz := 1) Into.refl) (Cv.into (by repeat' (first | exact Cv.nil | exact Cv.refl | refine Cv.cons (by first | exact Pick.here | exact Pick.here.skip | exact Pick.here.skip.skip | exact Pick.here.skip.skip.skip | exact Pick.here.skip.skip.skip.skip | exact Pick.here.skip.skip.skip.skip.skip | exact Pick.here.skip.skip.skip.skip.skip.skip | exact Pick.here.skip.skip.skip.skip.skip.skip.skip | exact Pick.here.skip.skip.skip.skip.skip.skip.skip.skip | exact Pick.here.skip.skip.skip.skip.skip.skip.skip.skip.skip | exact Pick.here.skip.skip.skip.skip.skip.skip.skip.skip.skip.skip | exact Pick.here.skip.skip.skip.skip.skip.skip.skip.skip.skip.skip.skip) ?_ | refine Cv.skip ?_)))
theorem bare_f (st : Int) : Fn Tryd.prog gI 19 [.int .i64 st] (.bool (bareB st)) := by
  refine Fn.of tys_ok Tryd.func19 rfl (by kernel_rfl) rfl rfl ?_; intro w hG
  unfold bareB
  (conv => whnf); repeat ((first | refine tk1 ?_ | refine tk2 ?_ | refine tk3 ?_ | refine tk12 (fun _ => ?_) | refine tk4 ?_ | refine tk5 ?_ | refine tk6 ?_ | refine tk7 ?_ | refine tk8 ?_ | refine tk9 ?_ | refine tk10 (fun _ _ => ?_) | refine tk11 (fun _ => ?_) | refine tk13 ?_ | refine tk14 ?_); (conv => whnf))
  refine Cmp.cases (fun c1 => ?_) (fun c1 => ?_)
  · rw [decide_eq_true c1]
    (conv => whnf); repeat ((first | refine tk1 ?_ | refine tk2 ?_ | refine tk3 ?_ | refine tk12 (fun _ => ?_) | refine tk4 ?_ | refine tk5 ?_ | refine tk6 ?_ | refine tk7 ?_ | refine tk8 ?_ | refine tk9 ?_ | refine tk10 (fun _ _ => ?_) | refine tk11 (fun _ => ?_) | refine tk13 ?_ | refine tk14 ?_); (conv => whnf))
    try rfl
  · rw [decide_eq_false c1]
    (conv => whnf); repeat ((first | refine tk1 ?_ | refine tk2 ?_ | refine tk3 ?_ | refine tk12 (fun _ => ?_) | refine tk4 ?_ | refine tk5 ?_ | refine tk6 ?_ | refine tk7 ?_ | refine tk8 ?_ | refine tk9 ?_ | refine tk10 (fun _ _ => ?_) | refine tk11 (fun _ => ?_) | refine tk13 ?_ | refine tk14 ?_); (conv => whnf))
    refine Cmp.of (decide (st = 304)) (by simp) ?_
    (conv => whnf); repeat ((first | refine tk1 ?_ | refine tk2 ?_ | refine tk3 ?_ | refine tk12 (fun _ => ?_) | refine tk4 ?_ | refine tk5 ?_ | refine tk6 ?_ | refine tk7 ?_ | refine tk8 ?_ | refine tk9 ?_ | refine tk10 (fun _ _ => ?_) | refine tk11 (fun _ => ?_) | refine tk13 ?_ | refine tk14 ?_); (conv => whnf))
    try rfl
end Go.Proofs.YtnnpnkmdhfjccaaDoor.Vex
/- The program's functions on pages, reckoned: tells, what pieces tell, close. -/
namespace Go.Proofs.YtnnpnkmdhfjccaaDoor.Vex
open Go Go.RowKit
set_option maxRecDepth 100000
set_option linter.unusedSectionVars false
variable {gI : GI} [HasMax gI]

abbrev u8V (n : Int) : Value := .int .u8 n
theorem pieceOK_kind {x : Pce} (h : pieceOK x = true) : x.k.toNat = 1 ∨ x.k.toNat = 2 ∨ x.k.toNat = 3 ∨ x.k.toNat = 4 := by
  unfold pieceOK at h
  split at h
  · exact .inl (by assumption)
  · split at h
    · exact .inr (.inl (by assumption))
    · simp only [Bool.and_eq_true, Bool.or_eq_true, decide_eq_true_eq] at h
      exact .inr (.inr h.1)
theorem times_rep (s : List UInt8) : ∀ n, times n s = Lib.repeatL s n
  | 0 => rfl
  | n + 1 => by rw [times, times_rep s n, Lib.repeatL_add, Lib.repeatL_one]
/-- What is told by one piece. -/
abbrev toldV (rm rp rq : List UInt8) (rv : Int) (rf : Value) (BA : Option Addr) (Bn Bc : Nat) (PA : Option Addr) (Pn Pc : Nat) : Value := .agg ⟨[str rm, str rp, str rq, .int .i64 rv, rf, .slice BA Bn Bc, .slice PA Pn Pc]⟩
end Go.Proofs.YtnnpnkmdhfjccaaDoor.Vex
/- The program's functions on pages, reckoned: Answer, Body. -/
namespace Go.Proofs.YtnnpnkmdhfjccaaDoor.Vex
open Go Go.RowKit
set_option maxRecDepth 100000
set_option linter.unusedSectionVars false
variable {gI : GI} [HasMax gI]

/-- The memory of an answer. -/
structure AnsV where
  fA : Option Addr
  fc : Nat
  pA : Option Addr
  pc : Nat
  ps : List Prt
def AnsV.val (a : Ans) (x : AnsV) : Value := .agg ⟨[.int .i64 a.st, .slice x.fA a.fs.length x.fc, .slice x.pA x.ps.length x.pc, .int .u8 0, str a.tag, .bool a.press]⟩
def AnsV.hd (a : Ans) (x : AnsV) : Hp := [.row (.slice x.fA a.fs.length x.fc) 63 2 a.fs.length (fcells a.fs), .row (.slice x.pA x.ps.length x.pc) 37 2 x.ps.length (pcells x.ps)]
def AnsV.is (a : Ans) (x : AnsV) : Prop := x.ps.map pure1 = a.ps
def AnsV.tl (x : AnsV) : Hp := rowsP 5 x.ps
/-- .. behind an error. -/
def AnsV.nil : AnsV := ⟨none, 0, none, 0, []⟩

structure AL where
  k : Nat
  oA : Option Addr
  oc : Nat
  o : List UInt8
  dA : Option Addr
  dc : Nat
  ps : List Prt
theorem stG_take (l : Prs) (k : Nat) (h : k < l.length) : stG (l.take (k + 1)) = stepG (stG (l.take k)) l[k] := by
  rw [List.take_succ_eq_append_getElem h, stG_snoc]
theorem total_take_succ (l : Prs) (k : Nat) (h : k < l.length) : total (l.take (k + 1)) = total (l.take k) + l[k].1.length := by
  rw [List.take_succ_eq_append_getElem h, total_snoc]

end Go.Proofs.YtnnpnkmdhfjccaaDoor.Vex
/- Body, SameParts and Great of layer 27, reckoned. -/
namespace Go.Proofs.YtnnpnkmdhfjccaaDoor.Vex
open Go Go.RowKit
set_option maxRecDepth 100000
set_option linter.unusedSectionVars false
variable {gI : GI} [HasMax gI]

/-- Parts that can be read. -/
def PrtsOk (w : World) (A : Option Addr) (ps : List Prt) : Prop := Rdw w A (pcells ps) ∧ ∀ q ∈ ps, Rdw w q.A (q.l.map byteV)
theorem Body_f (A : Option Addr) (cp : Nat) (ps : List Prt) (hn : ps.length ≤ 4000000) (ht : total (ps.map pure1) ≤ 4000000) :
    FnE Tryd.prog gI 40 [.slice A ps.length cp] (fun w => PrtsOk w A ps) fun w v w' => ∃ u, v = u ∧ rowPost 5 1 (bodyOf (ps.map pure1)).length ((bodyOf (ps.map pure1)).map byteV) w u w' := by
  refine FnE.of tys_ok Tryd.func40 rfl (by kernel_rfl) rfl rfl ?_; intro w hG hP
  have hR : ∀ H, RdA (mkC Tryd.prog gI w hG) H A (pcells ps) := fun H => ⟨hP.1.now⟩
  (conv => whnf); repeat ((first | refine tk1 ?_ | refine tk2 ?_ | refine tk3 ?_ | refine tk12 (fun _ => ?_) | refine tk4 ?_ | refine tk5 ?_ | refine tk6 ?_ | refine tk7 ?_ | refine tk8 ?_ | refine tk9 ?_ | refine tk10 (fun _ _ => ?_) | refine tk11 (fun _ => ?_) | refine tk13 ?_ | refine tk14 ?_); (conv => whnf))
  refine LoopS.nilRow 5 1 ?_
  refine LoopS.lp tys_ok (fun (x : Nat × Option Addr × Nat) u => [u 0, u 1, .slice x.2.1 (bodyOf ((ps.map pure1).take x.1)).length x.2.2, u 3, u 4, .slice A ps.length cp, .int .i64 ps.length, .int .i64 (x.1 : Nat), u 8, u 9, u 10, u 11, u 12, u 13, u 14, u 15, u 16])
    (fun x => [.row (.slice x.2.1 (bodyOf ((ps.map pure1).take x.1)).length x.2.2) 5 1 (bodyOf ((ps.map pure1).take x.1)).length ((bodyOf ((ps.map pure1).take x.1)).map byteV)])
    (fun x => x.1 ≤ ps.length) (fun x => ps.length - x.1) (0, none, 0) (Nat.zero_le _) rfl (by repeat' (first | exact List.Sublist.refl _ | exact List.nil_sublist _ | apply List.Sublist.cons_cons | apply List.Sublist.cons)) ?_
  rintro ⟨k, B, cq⟩ u hk
  dsimp only at hk ⊢
  (conv => whnf); repeat ((first | refine tk1 ?_ | refine tk2 ?_ | refine tk3 ?_ | refine tk12 (fun _ => ?_) | refine tk4 ?_ | refine tk5 ?_ | refine tk6 ?_ | refine tk7 ?_ | refine tk8 ?_ | refine tk9 ?_ | refine tk10 (fun _ _ => ?_) | refine tk11 (fun _ => ?_) | refine tk13 ?_ | refine tk14 ?_); (conv => whnf))
  refine Cmp.cases (fun hlt => ?_) (fun hlt => ?_)
  · have hlt' : k < ps.length := by omega
    have hkp : k < (ps.map pure1).length := by rw [List.length_map]; exact hlt'
    obtain ⟨q, hq⟩ : ∃ q, ps[k] = q := ⟨_, rfl⟩
    have hqm : q ∈ ps := hq ▸ List.getElem_mem hlt'
    have hRq : ∀ H, RdA (mkC Tryd.prog gI w hG) H q.A (q.l.map byteV) := fun H => ⟨(hP.2 q hqm).now⟩
    have h2 := (pcells_at ps k hlt').2.2
    have e1 : bodyOf ((ps.map pure1).take (k + 1)) = bodyOf ((ps.map pure1).take k) ++ q.l := by
      rw [List.take_succ_eq_append_getElem hkp, bodyOf_snoc, List.getElem_map, hq]; rfl
    have e2 := total_take (ps.map pure1) (k + 1)
    rw [← total_bodyOf, e1, List.length_append] at e2
    rw [hq] at h2
    (conv => whnf); repeat ((first | refine tk1 ?_ | refine tk2 ?_ | refine tk3 ?_ | refine tk12 (fun _ => ?_) | refine tk4 ?_ | refine tk5 ?_ | refine tk6 ?_ | refine tk7 ?_ | refine tk8 ?_ | refine tk9 ?_ | refine tk10 (fun _ _ => ?_) | refine tk11 (fun _ => ?_) | refine tk13 ?_ | refine tk14 ?_); (conv => whnf))
    refine IdxA.tc (by rw [pcells_length]; omega) (by omega) (by omega) ?_
    (conv => whnf); repeat ((first | refine tk1 ?_ | refine tk2 ?_ | refine tk3 ?_ | refine tk12 (fun _ => ?_) | refine tk4 ?_ | refine tk5 ?_ | refine tk6 ?_ | refine tk7 ?_ | refine tk8 ?_ | refine tk9 ?_ | refine tk10 (fun _ _ => ?_) | refine tk11 (fun _ => ?_) | refine tk13 ?_ | refine tk14 ?_); (conv => whnf))
    refine Ld.taN h2 rfl ?_
    (conv => whnf); repeat ((first | refine tk1 ?_ | refine tk2 ?_ | refine tk3 ?_ | refine tk12 (fun _ => ?_) | refine tk4 ?_ | refine tk5 ?_ | refine tk6 ?_ | refine tk7 ?_ | refine tk8 ?_ | refine tk9 ?_ | refine tk10 (fun _ _ => ?_) | refine tk11 (fun _ => ?_) | refine tk13 ?_ | refine tk14 ?_); (conv => whnf))
    refine AppS.tc (m := q.l.length) (news := q.l.map byteV) SrcK.tc (by simp) (by intro u hu; obtain ⟨y, _, rfl⟩ := List.mem_map.1 hu; rfl) (by decide) (by omega) (by omega) (zs := (bodyOf ((ps.map pure1).take (k + 1))).map byteV) (by rw [e1, List.map_append]) (fun B' cq' => ?_)
    rw [show (bodyOf ((ps.map pure1).take k)).length + q.l.length = (bodyOf ((ps.map pure1).take (k + 1))).length by rw [e1, List.length_append]]
    (conv => whnf); repeat ((first | refine tk1 ?_ | refine tk2 ?_ | refine tk3 ?_ | refine tk12 (fun _ => ?_) | refine tk4 ?_ | refine tk5 ?_ | refine tk6 ?_ | refine tk7 ?_ | refine tk8 ?_ | refine tk9 ?_ | refine tk10 (fun _ _ => ?_) | refine tk11 (fun _ => ?_) | refine tk13 ?_ | refine tk14 ?_); (conv => whnf))
    exact ⟨(k + 1, B', cq'), by dsimp only; omega, rfl, (by repeat' (first | exact List.Sublist.refl _ | exact List.nil_sublist _ | apply List.Sublist.cons_cons | apply List.Sublist.cons)), by dsimp only; omega⟩
  · rw [List.take_of_length_le (show (ps.map pure1).length ≤ k by rw [List.length_map]; omega)]
    (conv => whnf); repeat ((first | refine tk1 ?_ | refine tk2 ?_ | refine tk3 ?_ | refine tk12 (fun _ => ?_) | refine tk4 ?_ | refine tk5 ?_ | refine tk6 ?_ | refine tk7 ?_ | refine tk8 ?_ | refine tk9 ?_ | refine tk10 (fun _ _ => ?_) | refine tk11 (fun _ => ?_) | refine tk13 ?_ | refine tk14 ?_); (conv => whnf))
    exact fun w' hw' => ⟨_, rfl, rowPost.of (List.mem_cons_self ..) w' hw'⟩
theorem SameParts_r (A B : Option Addr) (cp cq : Nat) (a b : List Prt) (ha : a.length ≤ 4000000) (hb : b.length ≤ 4000000) :
    FnE Tryd.prog gI 9 [.slice A a.length cp, .slice B b.length cq] (fun w => PrtsOk w A a ∧ PrtsOk w B b) fun _ v _ => v = .bool (decide (a.map pure1 = b.map pure1)) := by
  refine FnE.of tys_ok Tryd.func9 rfl (by kernel_rfl) rfl rfl ?_; intro w hG hP
  have hA : ∀ H, RdA (mkC Tryd.prog gI w hG) H A (pcells a) := fun H => ⟨hP.1.1.now⟩
  have hB : ∀ H, RdA (mkC Tryd.prog gI w hG) H B (pcells b) := fun H => ⟨hP.2.1.now⟩
  (conv => whnf); repeat ((first | refine tk1 ?_ | refine tk2 ?_ | refine tk3 ?_ | refine tk12 (fun _ => ?_) | refine tk4 ?_ | refine tk5 ?_ | refine tk6 ?_ | refine tk7 ?_ | refine tk8 ?_ | refine tk9 ?_ | refine tk10 (fun _ _ => ?_) | refine tk11 (fun _ => ?_) | refine tk13 ?_ | refine tk14 ?_); (conv => whnf))
  refine Cmp.cases (fun hz => ?_) (fun hz => ?_)
  · (conv => whnf); repeat ((first | refine tk1 ?_ | refine tk2 ?_ | refine tk3 ?_ | refine tk12 (fun _ => ?_) | refine tk4 ?_ | refine tk5 ?_ | refine tk6 ?_ | refine tk7 ?_ | refine tk8 ?_ | refine tk9 ?_ | refine tk10 (fun _ _ => ?_) | refine tk11 (fun _ => ?_) | refine tk13 ?_ | refine tk14 ?_); (conv => whnf))
    intro w' _
    rw [decide_eq_false (fun h => hz (by have := congrArg List.length h; rw [List.length_map, List.length_map] at this; rw [this]))]
  have hz' : a.length = b.length := by omega
  (conv => whnf); repeat ((first | refine tk1 ?_ | refine tk2 ?_ | refine tk3 ?_ | refine tk12 (fun _ => ?_) | refine tk4 ?_ | refine tk5 ?_ | refine tk6 ?_ | refine tk7 ?_ | refine tk8 ?_ | refine tk9 ?_ | refine tk10 (fun _ _ => ?_) | refine tk11 (fun _ => ?_) | refine tk13 ?_ | refine tk14 ?_); (conv => whnf))
  refine LoopS.lp tys_ok (fun (k : Nat) u => [.slice A a.length cp, .slice B b.length cq, u 2, u 3, u 4, .int .i64 (k : Nat), u 6, u 7, u 8, u 9, u 10, u 11, u 12, u 13, u 14, u 15, u 16, u 17, u 18, u 19, u 20, u 21, u 22, u 23, u 24, u 25, u 26, u 27, u 28, u 29, u 30, u 31, u 32, u 33, u 34, u 35, u 36, u 37, u 38, u 39, u 40, u 41, u 42]) (fun _ => [])
    (fun k => k ≤ a.length ∧ (a.map pure1).take k = (b.map pure1).take k) (fun k => a.length - k) 0 ⟨Nat.zero_le _, rfl⟩ rfl (by repeat' (first | exact List.Sublist.refl _ | exact List.nil_sublist _ | apply List.Sublist.cons_cons | apply List.Sublist.cons)) ?_
  intro k u ⟨hk, hI⟩
  (conv => whnf); repeat ((first | refine tk1 ?_ | refine tk2 ?_ | refine tk3 ?_ | refine tk12 (fun _ => ?_) | refine tk4 ?_ | refine tk5 ?_ | refine tk6 ?_ | refine tk7 ?_ | refine tk8 ?_ | refine tk9 ?_ | refine tk10 (fun _ _ => ?_) | refine tk11 (fun _ => ?_) | refine tk13 ?_ | refine tk14 ?_); (conv => whnf))
  refine Cmp.cases (fun hlt => ?_) (fun hlt => ?_)
  · have hka : k < a.length := by omega
    have hkb : k < b.length := by omega
    have hka' : k < (a.map pure1).length := by rw [List.length_map]; exact hka
    have hkb' : k < (b.map pure1).length := by rw [List.length_map]; exact hkb
    have ga := pcells_at a k hka
    have gb := pcells_at b k hkb
    have ea : (a.map pure1)[k] = pure1 a[k] := List.getElem_map ..
    have eb : (b.map pure1)[k] = pure1 b[k] := List.getElem_map ..
    obtain ⟨p, hp⟩ : ∃ p, a[k] = p := ⟨_, rfl⟩
    obtain ⟨q, hq⟩ : ∃ q, b[k] = q := ⟨_, rfl⟩
    have hpm : p ∈ a := hp ▸ List.getElem_mem hka
    have hqm : q ∈ b := hq ▸ List.getElem_mem hkb
    have hRp : ∀ H, RdA (mkC Tryd.prog gI w hG) H p.A (p.l.map byteV) := fun H => ⟨(hP.1.2 p hpm).now⟩
    have hRq : ∀ H, RdA (mkC Tryd.prog gI w hG) H q.A (q.l.map byteV) := fun H => ⟨(hP.2.2 q hqm).now⟩
    rw [hp] at ga ea
    rw [hq] at gb eb
    have hbad : pure1 p ≠ pure1 q → a.map pure1 ≠ b.map pure1 := fun hne h => hne (by rw [← ea, ← eb]; simp only [h])
    have hok : pure1 p = pure1 q → (a.map pure1).take (k + 1) = (b.map pure1).take (k + 1) := fun h => by rw [List.take_succ_eq_append_getElem hka', List.take_succ_eq_append_getElem hkb', hI, ea, eb, h]
    (conv => whnf); repeat ((first | refine tk1 ?_ | refine tk2 ?_ | refine tk3 ?_ | refine tk12 (fun _ => ?_) | refine tk4 ?_ | refine tk5 ?_ | refine tk6 ?_ | refine tk7 ?_ | refine tk8 ?_ | refine tk9 ?_ | refine tk10 (fun _ _ => ?_) | refine tk11 (fun _ => ?_) | refine tk13 ?_ | refine tk14 ?_); (conv => whnf))
    refine DrawS.go (qs 26) tys_ok mixed (by kernel_rfl) ?_
    (conv => whnf); repeat ((first | refine tk1 ?_ | refine tk2 ?_ | refine tk3 ?_ | refine tk12 (fun _ => ?_) | refine tk4 ?_ | refine tk5 ?_ | refine tk6 ?_ | refine tk7 ?_ | refine tk8 ?_ | refine tk9 ?_ | refine tk10 (fun _ _ => ?_) | refine tk11 (fun _ => ?_) | refine tk13 ?_ | refine tk14 ?_); (conv => whnf))
    refine IdxA.tc (by rw [pcells_length]; omega) (by omega) (by omega) ?_
    (conv => whnf); repeat ((first | refine tk1 ?_ | refine tk2 ?_ | refine tk3 ?_ | refine tk12 (fun _ => ?_) | refine tk4 ?_ | refine tk5 ?_ | refine tk6 ?_ | refine tk7 ?_ | refine tk8 ?_ | refine tk9 ?_ | refine tk10 (fun _ _ => ?_) | refine tk11 (fun _ => ?_) | refine tk13 ?_ | refine tk14 ?_); (conv => whnf))
    refine Ld.taF (v := .bool p.f) ga.2.1 ?_
    (conv => whnf); repeat ((first | refine tk1 ?_ | refine tk2 ?_ | refine tk3 ?_ | refine tk12 (fun _ => ?_) | refine tk4 ?_ | refine tk5 ?_ | refine tk6 ?_ | refine tk7 ?_ | refine tk8 ?_ | refine tk9 ?_ | refine tk10 (fun _ _ => ?_) | refine tk11 (fun _ => ?_) | refine tk13 ?_ | refine tk14 ?_); (conv => whnf))
    refine IdxA.tc (by rw [pcells_length]; omega) (by omega) (by omega) ?_
    (conv => whnf); repeat ((first | refine tk1 ?_ | refine tk2 ?_ | refine tk3 ?_ | refine tk12 (fun _ => ?_) | refine tk4 ?_ | refine tk5 ?_ | refine tk6 ?_ | refine tk7 ?_ | refine tk8 ?_ | refine tk9 ?_ | refine tk10 (fun _ _ => ?_) | refine tk11 (fun _ => ?_) | refine tk13 ?_ | refine tk14 ?_); (conv => whnf))
    refine Ld.taF (v := .bool q.f) gb.2.1 ?_
    (conv => whnf); repeat ((first | refine tk1 ?_ | refine tk2 ?_ | refine tk3 ?_ | refine tk12 (fun _ => ?_) | refine tk4 ?_ | refine tk5 ?_ | refine tk6 ?_ | refine tk7 ?_ | refine tk8 ?_ | refine tk9 ?_ | refine tk10 (fun _ _ => ?_) | refine tk11 (fun _ => ?_) | refine tk13 ?_ | refine tk14 ?_); (conv => whnf))
    refine Cmp.cases (fun hff => ?_) (fun hff => ?_)
    · rw [decide_eq_false (hbad fun h => hff (congrArg Prod.snd h))]
      (conv => whnf); repeat ((first | refine tk1 ?_ | refine tk2 ?_ | refine tk3 ?_ | refine tk12 (fun _ => ?_) | refine tk4 ?_ | refine tk5 ?_ | refine tk6 ?_ | refine tk7 ?_ | refine tk8 ?_ | refine tk9 ?_ | refine tk10 (fun _ _ => ?_) | refine tk11 (fun _ => ?_) | refine tk13 ?_ | refine tk14 ?_); (conv => whnf))
      exact fun w' _ => rfl
    (conv => whnf); repeat ((first | refine tk1 ?_ | refine tk2 ?_ | refine tk3 ?_ | refine tk12 (fun _ => ?_) | refine tk4 ?_ | refine tk5 ?_ | refine tk6 ?_ | refine tk7 ?_ | refine tk8 ?_ | refine tk9 ?_ | refine tk10 (fun _ _ => ?_) | refine tk11 (fun _ => ?_) | refine tk13 ?_ | refine tk14 ?_); (conv => whnf))
    refine IdxA.tc (by rw [pcells_length]; omega) (by omega) (by omega) ?_
    (conv => whnf); repeat ((first | refine tk1 ?_ | refine tk2 ?_ | refine tk3 ?_ | refine tk12 (fun _ => ?_) | refine tk4 ?_ | refine tk5 ?_ | refine tk6 ?_ | refine tk7 ?_ | refine tk8 ?_ | refine tk9 ?_ | refine tk10 (fun _ _ => ?_) | refine tk11 (fun _ => ?_) | refine tk13 ?_ | refine tk14 ?_); (conv => whnf))
    refine Ld.taF (v := .slice p.A p.l.length p.cp) ga.1 ?_
    (conv => whnf); repeat ((first | refine tk1 ?_ | refine tk2 ?_ | refine tk3 ?_ | refine tk12 (fun _ => ?_) | refine tk4 ?_ | refine tk5 ?_ | refine tk6 ?_ | refine tk7 ?_ | refine tk8 ?_ | refine tk9 ?_ | refine tk10 (fun _ _ => ?_) | refine tk11 (fun _ => ?_) | refine tk13 ?_ | refine tk14 ?_); (conv => whnf))
    refine B2S.tc (xs := p.l.map byteV) (l := p.l) rfl rfl ?_
    (conv => whnf); repeat ((first | refine tk1 ?_ | refine tk2 ?_ | refine tk3 ?_ | refine tk12 (fun _ => ?_) | refine tk4 ?_ | refine tk5 ?_ | refine tk6 ?_ | refine tk7 ?_ | refine tk8 ?_ | refine tk9 ?_ | refine tk10 (fun _ _ => ?_) | refine tk11 (fun _ => ?_) | refine tk13 ?_ | refine tk14 ?_); (conv => whnf))
    refine IdxA.tc (by rw [pcells_length]; omega) (by omega) (by omega) ?_
    (conv => whnf); repeat ((first | refine tk1 ?_ | refine tk2 ?_ | refine tk3 ?_ | refine tk12 (fun _ => ?_) | refine tk4 ?_ | refine tk5 ?_ | refine tk6 ?_ | refine tk7 ?_ | refine tk8 ?_ | refine tk9 ?_ | refine tk10 (fun _ _ => ?_) | refine tk11 (fun _ => ?_) | refine tk13 ?_ | refine tk14 ?_); (conv => whnf))
    refine Ld.taF (v := .slice q.A q.l.length q.cp) gb.1 ?_
    (conv => whnf); repeat ((first | refine tk1 ?_ | refine tk2 ?_ | refine tk3 ?_ | refine tk12 (fun _ => ?_) | refine tk4 ?_ | refine tk5 ?_ | refine tk6 ?_ | refine tk7 ?_ | refine tk8 ?_ | refine tk9 ?_ | refine tk10 (fun _ _ => ?_) | refine tk11 (fun _ => ?_) | refine tk13 ?_ | refine tk14 ?_); (conv => whnf))
    refine B2S.tc (xs := q.l.map byteV) (l := q.l) rfl rfl ?_
    (conv => whnf); repeat ((first | refine tk1 ?_ | refine tk2 ?_ | refine tk3 ?_ | refine tk12 (fun _ => ?_) | refine tk4 ?_ | refine tk5 ?_ | refine tk6 ?_ | refine tk7 ?_ | refine tk8 ?_ | refine tk9 ?_ | refine tk10 (fun _ _ => ?_) | refine tk11 (fun _ => ?_) | refine tk13 ?_ | refine tk14 ?_); (conv => whnf))
    refine Cmp.cases (fun hll => ?_) (fun hll => ?_)
    · rw [decide_eq_false (hbad fun h => hll (congrArg Prod.fst h))]
      (conv => whnf); repeat ((first | refine tk1 ?_ | refine tk2 ?_ | refine tk3 ?_ | refine tk12 (fun _ => ?_) | refine tk4 ?_ | refine tk5 ?_ | refine tk6 ?_ | refine tk7 ?_ | refine tk8 ?_ | refine tk9 ?_ | refine tk10 (fun _ _ => ?_) | refine tk11 (fun _ => ?_) | refine tk13 ?_ | refine tk14 ?_); (conv => whnf))
      exact fun w' _ => rfl
    have hn := hok (by unfold pure1; rw [Classical.not_not.1 hff, Classical.not_not.1 hll])
    (conv => whnf); repeat ((first | refine tk1 ?_ | refine tk2 ?_ | refine tk3 ?_ | refine tk12 (fun _ => ?_) | refine tk4 ?_ | refine tk5 ?_ | refine tk6 ?_ | refine tk7 ?_ | refine tk8 ?_ | refine tk9 ?_ | refine tk10 (fun _ _ => ?_) | refine tk11 (fun _ => ?_) | refine tk13 ?_ | refine tk14 ?_); (conv => whnf))
    exact ⟨k + 1, ⟨by omega, hn⟩, rfl, (by repeat' (first | exact List.Sublist.refl _ | exact List.nil_sublist _ | apply List.Sublist.cons_cons | apply List.Sublist.cons)), by dsimp only; omega⟩
  · (conv => whnf); repeat ((first | refine tk1 ?_ | refine tk2 ?_ | refine tk3 ?_ | refine tk12 (fun _ => ?_) | refine tk4 ?_ | refine tk5 ?_ | refine tk6 ?_ | refine tk7 ?_ | refine tk8 ?_ | refine tk9 ?_ | refine tk10 (fun _ _ => ?_) | refine tk11 (fun _ => ?_) | refine tk13 ?_ | refine tk14 ?_); (conv => whnf))
    intro w' _
    rw [List.take_of_length_le (by rw [List.length_map]; omega), List.take_of_length_le (by rw [List.length_map]; omega)] at hI
    rw [decide_eq_true hI]
end Go.Proofs.YtnnpnkmdhfjccaaDoor.Vex
/- The program's functions on answers as bytes, reckoned: own, Check. -/
namespace Go.Proofs.YtnnpnkmdhfjccaaDoor.Vex
open Go Go.RowKit
set_option maxRecDepth 100000
set_option linter.unusedSectionVars false
variable {gI : GI} [HasMax gI]

theorem OwnR_f : FnS Tryd.prog gI 29 [] [] 9 1 4 (ownR.map str) := by
  refine FnE.of tys_ok Tryd.func29 rfl (by kernel_rfl) rfl rfl ?_; intro w hG hP
  (conv => whnf); repeat ((first | refine tk1 ?_ | refine tk2 ?_ | refine tk3 ?_ | refine tk12 (fun _ => ?_) | refine tk4 ?_ | refine tk5 ?_ | refine tk6 ?_ | refine tk7 ?_ | refine tk8 ?_ | refine tk9 ?_ | refine tk10 (fun _ _ => ?_) | refine tk11 (fun _ => ?_) | refine tk13 ?_ | refine tk14 ?_); (conv => whnf))
  exact rowPost.of (List.mem_cons_self ..)
theorem anST_bad {st : Int} {n cd : Nat} (h : st < 200 ∨ 599 < st ∨ 2 < cd ∨ (bareB st = true ∧ (0 < n ∨ cd ≠ 0))) : anST st n cd = false := by
  unfold anST
  rw [Bool.eq_false_iff]
  simp only [ne_eq, Bool.and_eq_true, decide_eq_true_eq, Bool.or_eq_true, Bool.not_eq_true']
  rintro ⟨h1, h2, h3, h4⟩
  rcases h with h | h | h | ⟨h, h5⟩
  · omega
  · omega
  · omega
  · rcases h4 with h4 | h4
    · rw [h] at h4; cases h4
    · omega
theorem anST_good {st : Int} {n cd : Nat} (h1 : ¬ st < 200) (h2 : ¬ 599 < st) (h3 : ¬ 2 < cd) (h4 : bareB st = true → ¬ 0 < n ∧ cd = 0) : anST st n cd = true := by
  unfold anST
  cases hb : bareB st
  · simp only [Bool.and_eq_true, decide_eq_true_eq, Bool.not_false, Bool.true_or, and_true]; omega
  · have := h4 hb
    simp only [Bool.and_eq_true, decide_eq_true_eq, Bool.not_true, Bool.false_or]; omega
set_option maxHeartbeats 4000000 in
theorem ACheck_f (st : Int) (FA : Option Addr) (Fc : Nat) (F : List Fld) (QA : Option Addr) (Qc : Nat) (ps : List Prt) (cd : UInt8) (tag : List UInt8) (press : Bool) (hF : fsum F ≤ 1048576) (hn : ps.length ≤ 4000000) (htl : total (ps.map pure1) ≤ 4000000) :
    FnR Tryd.prog gI 10 [.agg ⟨[.int .i64 st, .slice FA F.length Fc, .slice QA ps.length Qc, .int .u8 cd.toNat, str tag, .bool press]⟩] [(FA, fcells F), (QA, pcells ps)] (.int .i64 (anE st F (ps.map pure1) cd.toNat)) := by
  have bad : anOK st F (ps.map pure1) cd.toNat = false → anE st F (ps.map pure1) cd.toNat = 8 := fun h => by unfold anE; rw [h]; rfl
  have bad1 : anST st ps.length cd.toNat = false → anE st F (ps.map pure1) cd.toNat = 8 := fun h => bad (by unfold anOK; rw [List.length_map, h]; rfl)
  have hFl := fsum_length F
  refine FnE.of tys_ok Tryd.func10 rfl (by kernel_rfl) rfl rfl ?_; intro w hG hP
  have hRF : ∀ H, RdA (mkC Tryd.prog gI w hG) H FA (fcells F) := fun H => ⟨hP.1.now⟩
  have hRQ : ∀ H, RdA (mkC Tryd.prog gI w hG) H QA (pcells ps) := fun H => ⟨hP.2.1.now⟩
  clear hP
  (conv => whnf); repeat ((first | refine tk1 ?_ | refine tk2 ?_ | refine tk3 ?_ | refine tk12 (fun _ => ?_) | refine tk4 ?_ | refine tk5 ?_ | refine tk6 ?_ | refine tk7 ?_ | refine tk8 ?_ | refine tk9 ?_ | refine tk10 (fun _ _ => ?_) | refine tk11 (fun _ => ?_) | refine tk13 ?_ | refine tk14 ?_); (conv => whnf))
  rename_i b
  refine Cmp.cases (fun c1 => ?_) (fun c1 => ?_)
  · rw [bad1 (anST_bad (by omega))]
    (conv => whnf); repeat ((first | refine tk1 ?_ | refine tk2 ?_ | refine tk3 ?_ | refine tk12 (fun _ => ?_) | refine tk4 ?_ | refine tk5 ?_ | refine tk6 ?_ | refine tk7 ?_ | refine tk8 ?_ | refine tk9 ?_ | refine tk10 (fun _ _ => ?_) | refine tk11 (fun _ => ?_) | refine tk13 ?_ | refine tk14 ?_); (conv => whnf))
    exact fun w' _ => rfl
  (conv => whnf); repeat ((first | refine tk1 ?_ | refine tk2 ?_ | refine tk3 ?_ | refine tk12 (fun _ => ?_) | refine tk4 ?_ | refine tk5 ?_ | refine tk6 ?_ | refine tk7 ?_ | refine tk8 ?_ | refine tk9 ?_ | refine tk10 (fun _ _ => ?_) | refine tk11 (fun _ => ?_) | refine tk13 ?_ | refine tk14 ?_); (conv => whnf))
  refine Cmp.cases (fun c2 => ?_) (fun c2 => ?_)
  · rw [bad1 (anST_bad (by omega))]
    (conv => whnf); repeat ((first | refine tk1 ?_ | refine tk2 ?_ | refine tk3 ?_ | refine tk12 (fun _ => ?_) | refine tk4 ?_ | refine tk5 ?_ | refine tk6 ?_ | refine tk7 ?_ | refine tk8 ?_ | refine tk9 ?_ | refine tk10 (fun _ _ => ?_) | refine tk11 (fun _ => ?_) | refine tk13 ?_ | refine tk14 ?_); (conv => whnf))
    exact fun w' _ => rfl
  (conv => whnf); repeat ((first | refine tk1 ?_ | refine tk2 ?_ | refine tk3 ?_ | refine tk12 (fun _ => ?_) | refine tk4 ?_ | refine tk5 ?_ | refine tk6 ?_ | refine tk7 ?_ | refine tk8 ?_ | refine tk9 ?_ | refine tk10 (fun _ _ => ?_) | refine tk11 (fun _ => ?_) | refine tk13 ?_ | refine tk14 ?_); (conv => whnf))
  refine Cmp.cases (fun c3 => ?_) (fun c3 => ?_)
  · rw [bad1 (anST_bad (by omega))]
    (conv => whnf); repeat ((first | refine tk1 ?_ | refine tk2 ?_ | refine tk3 ?_ | refine tk12 (fun _ => ?_) | refine tk4 ?_ | refine tk5 ?_ | refine tk6 ?_ | refine tk7 ?_ | refine tk8 ?_ | refine tk9 ?_ | refine tk10 (fun _ _ => ?_) | refine tk11 (fun _ => ?_) | refine tk13 ?_ | refine tk14 ?_); (conv => whnf))
    exact fun w' _ => rfl
  (conv => whnf); repeat ((first | refine tk1 ?_ | refine tk2 ?_ | refine tk3 ?_ | refine tk12 (fun _ => ?_) | refine tk4 ?_ | refine tk5 ?_ | refine tk6 ?_ | refine tk7 ?_ | refine tk8 ?_ | refine tk9 ?_ | refine tk10 (fun _ _ => ?_) | refine tk11 (fun _ => ?_) | refine tk13 ?_ | refine tk14 ?_); (conv => whnf))
  refine CallK.fn (bare_f st) ?_
  cases hbr : bareB st
  · have hst := anST_good (n := ps.length) (cd := cd.toNat) c1 c2 (by omega) (fun h => by rw [hbr] at h; cases h)
    clear c1 c2 c3 bad1
    (conv => whnf); repeat ((first | refine tk1 ?_ | refine tk2 ?_ | refine tk3 ?_ | refine tk12 (fun _ => ?_) | refine tk4 ?_ | refine tk5 ?_ | refine tk6 ?_ | refine tk7 ?_ | refine tk8 ?_ | refine tk9 ?_ | refine tk10 (fun _ _ => ?_) | refine tk11 (fun _ => ?_) | refine tk13 ?_ | refine tk14 ?_); (conv => whnf))
    refine LoopS.lp tys_ok (fun (k : Nat) u => [u 0, .pointer (some ⟨b, 0, none⟩), u 2, u 3, u 4, u 5, u 6, u 7, u 8, u 9, u 10, u 11, u 12, u 13, u 14, u 15, u 16, u 17, u 18, u 19, u 20, u 21, u 22, u 23, u 24, u 25, u 26, u 27, u 28, u 29, u 30, u 31, u 32, u 33, u 34, u 35, u 36, u 37, .slice FA F.length Fc, .int .i64 F.length, .int .i64 (k : Nat), u 41, u 42, u 43, u 44, u 45, u 46, u 47, u 48, u 49, u 50, u 51, u 52, u 53, u 54, u 55, u 56, u 57, u 58, u 59, u 60, u 61, u 62, u 63, u 64, u 65, u 66, u 67, u 68, u 69, u 70, u 71, u 72, u 73, u 74]) (fun _ => [.box b [.int .i64 st, .slice FA F.length Fc, .slice QA ps.length Qc, .int .u8 cd.toNat, str tag, .bool press] 25])
      (fun k => k ≤ F.length ∧ (F.take k).all fldR = true) (fun k => F.length - k) 0 ⟨Nat.zero_le _, rfl⟩ rfl (by repeat' (first | exact List.Sublist.refl _ | exact List.nil_sublist _ | apply List.Sublist.cons_cons | apply List.Sublist.cons)) ?_
    rintro k u ⟨hk, hI⟩
    (conv => whnf); repeat ((first | refine tk1 ?_ | refine tk2 ?_ | refine tk3 ?_ | refine tk12 (fun _ => ?_) | refine tk4 ?_ | refine tk5 ?_ | refine tk6 ?_ | refine tk7 ?_ | refine tk8 ?_ | refine tk9 ?_ | refine tk10 (fun _ _ => ?_) | refine tk11 (fun _ => ?_) | refine tk13 ?_ | refine tk14 ?_); (conv => whnf))
    refine Cmp.cases (fun hlt => ?_) (fun hlt => ?_)
    · have hlt' : k < F.length := by omega
      have hsn := all_snoc_take fldR F k hlt' hI
      have h2 := fcells_two F k hlt'
      have hm9 := List.getElem_mem hlt'
      obtain ⟨n, v, hf⟩ : ∃ n v, F[k] = (n, v) := ⟨_, _, rfl⟩
      rw [hf] at hsn h2 hm9
      have hz := fsum_mem hm9
      have badf : fldR (n, v) = false → anE st F (ps.map pure1) cd.toNat = 8 := fun h => bad (by unfold anOK; rw [all_bad hm9 h]; simp)
      (conv => whnf); repeat ((first | refine tk1 ?_ | refine tk2 ?_ | refine tk3 ?_ | refine tk12 (fun _ => ?_) | refine tk4 ?_ | refine tk5 ?_ | refine tk6 ?_ | refine tk7 ?_ | refine tk8 ?_ | refine tk9 ?_ | refine tk10 (fun _ _ => ?_) | refine tk11 (fun _ => ?_) | refine tk13 ?_ | refine tk14 ?_); (conv => whnf))
      refine IdxA.tc (by rw [fcells_length]; omega) (by omega) (by omega) ?_
      (conv => whnf); repeat ((first | refine tk1 ?_ | refine tk2 ?_ | refine tk3 ?_ | refine tk12 (fun _ => ?_) | refine tk4 ?_ | refine tk5 ?_ | refine tk6 ?_ | refine tk7 ?_ | refine tk8 ?_ | refine tk9 ?_ | refine tk10 (fun _ _ => ?_) | refine tk11 (fun _ => ?_) | refine tk13 ?_ | refine tk14 ?_); (conv => whnf))
      refine Ld.taN h2 rfl ?_
      (conv => whnf); repeat ((first | refine tk1 ?_ | refine tk2 ?_ | refine tk3 ?_ | refine tk12 (fun _ => ?_) | refine tk4 ?_ | refine tk5 ?_ | refine tk6 ?_ | refine tk7 ?_ | refine tk8 ?_ | refine tk9 ?_ | refine tk10 (fun _ _ => ?_) | refine tk11 (fun _ => ?_) | refine tk13 ?_ | refine tk14 ?_); (conv => whnf))
      refine DrawS.go [(0, true), (1, true), (2, true), (3, true), (5, true), (6, true), (4, false), (7, true), (8, true)] tys_ok mixed (by kernel_rfl) ?_
      (conv => whnf); repeat ((first | refine tk1 ?_ | refine tk2 ?_ | refine tk3 ?_ | refine tk12 (fun _ => ?_) | refine tk4 ?_ | refine tk5 ?_ | refine tk6 ?_ | refine tk7 ?_ | refine tk8 ?_ | refine tk9 ?_ | refine tk10 (fun _ _ => ?_) | refine tk11 (fun _ => ?_) | refine tk13 ?_ | refine tk14 ?_); (conv => whnf))
      refine CallQ.fn (Check_f n v (by dsimp only at hz; omega)) ?_
      cases hfo : fieldOK n v
      · rw [show fieldE n v = 3 by unfold fieldE; rw [hfo]; rfl, badf (by unfold fldR; rw [hfo]; rfl)]
        (conv => whnf); repeat ((first | refine tk1 ?_ | refine tk2 ?_ | refine tk3 ?_ | refine tk12 (fun _ => ?_) | refine tk4 ?_ | refine tk5 ?_ | refine tk6 ?_ | refine tk7 ?_ | refine tk8 ?_ | refine tk9 ?_ | refine tk10 (fun _ _ => ?_) | refine tk11 (fun _ => ?_) | refine tk13 ?_ | refine tk14 ?_); (conv => whnf))
        exact fun w' _ => rfl
      · rw [show fieldE n v = 0 by unfold fieldE; rw [hfo]; rfl]
        (conv => whnf); repeat ((first | refine tk1 ?_ | refine tk2 ?_ | refine tk3 ?_ | refine tk12 (fun _ => ?_) | refine tk4 ?_ | refine tk5 ?_ | refine tk6 ?_ | refine tk7 ?_ | refine tk8 ?_ | refine tk9 ?_ | refine tk10 (fun _ _ => ?_) | refine tk11 (fun _ => ?_) | refine tk13 ?_ | refine tk14 ?_); (conv => whnf))
        refine CallK.fnS OwnR_f trivial (fun A cp => ?_)
        (conv => whnf); repeat ((first | refine tk1 ?_ | refine tk2 ?_ | refine tk3 ?_ | refine tk12 (fun _ => ?_) | refine tk4 ?_ | refine tk5 ?_ | refine tk6 ?_ | refine tk7 ?_ | refine tk8 ?_ | refine tk9 ?_ | refine tk10 (fun _ _ => ?_) | refine tk11 (fun _ => ?_) | refine tk13 ?_ | refine tk14 ?_); (conv => whnf))
        refine CallQ.fnR (Contains_f A cp ownR n (by decide)) ⟨RdA.ok, trivial⟩ ?_
        cases hc : ownR.contains n
        · rw [show fldR (n, v) = true by unfold fldR; rw [hfo, hc]; rfl] at hsn
          (conv => whnf); repeat ((first | refine tk1 ?_ | refine tk2 ?_ | refine tk3 ?_ | refine tk12 (fun _ => ?_) | refine tk4 ?_ | refine tk5 ?_ | refine tk6 ?_ | refine tk7 ?_ | refine tk8 ?_ | refine tk9 ?_ | refine tk10 (fun _ _ => ?_) | refine tk11 (fun _ => ?_) | refine tk13 ?_ | refine tk14 ?_); (conv => whnf))
          exact ⟨k + 1, ⟨by omega, hsn⟩, rfl, (by repeat' (first | exact List.Sublist.refl _ | exact List.nil_sublist _ | apply List.Sublist.cons_cons | apply List.Sublist.cons)), by dsimp only; omega⟩
        · rw [badf (by unfold fldR; rw [hc]; simp)]
          (conv => whnf); repeat ((first | refine tk1 ?_ | refine tk2 ?_ | refine tk3 ?_ | refine tk12 (fun _ => ?_) | refine tk4 ?_ | refine tk5 ?_ | refine tk6 ?_ | refine tk7 ?_ | refine tk8 ?_ | refine tk9 ?_ | refine tk10 (fun _ _ => ?_) | refine tk11 (fun _ => ?_) | refine tk13 ?_ | refine tk14 ?_); (conv => whnf))
          exact fun w' _ => rfl
    have hFok : F.all fldR = true := by rw [List.take_of_length_le (by omega)] at hI; exact hI
    have hAE : anE st F (ps.map pure1) cd.toNat = if prsOK 0 (ps.map pure1) then 0 else 8 := by
      unfold anE anOK
      rw [List.length_map, hst, hFok]
      simp
    rw [hAE]
    clear hI hlt hk bad hAE
    (conv => whnf); repeat ((first | refine tk1 ?_ | refine tk2 ?_ | refine tk3 ?_ | refine tk12 (fun _ => ?_) | refine tk4 ?_ | refine tk5 ?_ | refine tk6 ?_ | refine tk7 ?_ | refine tk8 ?_ | refine tk9 ?_ | refine tk10 (fun _ _ => ?_) | refine tk11 (fun _ => ?_) | refine tk13 ?_ | refine tk14 ?_); (conv => whnf))
    refine LoopS.lp tys_ok (fun (k : Nat) u => [u 0, u 1, u 2, u 3, u 4, .int .i64 (total ((ps.map pure1).take k) : Nat), u 6, u 7, u 8, u 9, u 10, u 11, u 12, u 13, u 14, u 15, u 16, u 17, u 18, u 19, u 20, u 21, u 22, u 23, u 24, u 25, u 26, u 27, u 28, u 29, u 30, u 31, u 32, u 33, u 34, u 35, u 36, u 37, u 38, u 39, u 40, u 41, u 42, u 43, u 44, u 45, u 46, u 47, u 48, u 49, u 50, u 51, u 52, u 53, u 54, .slice QA ps.length Qc, .int .i64 ps.length, .int .i64 (k : Nat), u 58, u 59, u 60, u 61, u 62, u 63, u 64, u 65, u 66, u 67, u 68, u 69, u 70, u 71, u 72, u 73, u 74]) (fun _ => [])
      (fun k => k ≤ ps.length ∧ prsOK 0 (ps.map pure1) = prsOK (total ((ps.map pure1).take k)) ((ps.map pure1).drop k)) (fun k => ps.length - k) 0 ⟨Nat.zero_le _, rfl⟩ rfl (by repeat' (first | exact List.Sublist.refl _ | exact List.nil_sublist _ | apply List.Sublist.cons_cons | apply List.Sublist.cons)) ?_
    rintro k u ⟨hk, hI⟩
    (conv => whnf); repeat ((first | refine tk1 ?_ | refine tk2 ?_ | refine tk3 ?_ | refine tk12 (fun _ => ?_) | refine tk4 ?_ | refine tk5 ?_ | refine tk6 ?_ | refine tk7 ?_ | refine tk8 ?_ | refine tk9 ?_ | refine tk10 (fun _ _ => ?_) | refine tk11 (fun _ => ?_) | refine tk13 ?_ | refine tk14 ?_); (conv => whnf))
    refine Cmp.cases (fun hlt => ?_) (fun hlt => ?_)
    · have hlt' : k < ps.length := by omega
      have hkp : k < (ps.map pure1).length := by rw [List.length_map]; exact hlt'
      have h2 := (pcells_at ps k hlt').2.2
      have htk := total_take (ps.map pure1) (k + 1)
      have ht1 : total ((ps.map pure1).take (k + 1)) = total ((ps.map pure1).take k) + ps[k].l.length := by
        rw [List.take_succ_eq_append_getElem hkp, total_append, List.getElem_map]; simp [total, pure1]
      rw [ht1] at htk
      rw [List.drop_eq_getElem_cons hkp, List.getElem_map] at hI
      generalize ps[k] = q at *
      have hcons : prsOK (total ((ps.map pure1).take k)) (pure1 q :: (ps.map pure1).drop (k + 1)) = (!decide (q.l = []) && (decide (total ((ps.map pure1).take k) + q.l.length ≤ 262144) && prsOK (total ((ps.map pure1).take k) + q.l.length) ((ps.map pure1).drop (k + 1)))) := rfl
      rw [hcons] at hI
      clear hcons
      rw [show (prsOK (total ((ps.map pure1).take k) + q.l.length) ((ps.map pure1).drop (k + 1))) = prsOK (total ((ps.map pure1).take (k + 1))) ((ps.map pure1).drop (k + 1)) by rw [ht1]] at hI
      (conv => whnf); repeat ((first | refine tk1 ?_ | refine tk2 ?_ | refine tk3 ?_ | refine tk12 (fun _ => ?_) | refine tk4 ?_ | refine tk5 ?_ | refine tk6 ?_ | refine tk7 ?_ | refine tk8 ?_ | refine tk9 ?_ | refine tk10 (fun _ _ => ?_) | refine tk11 (fun _ => ?_) | refine tk13 ?_ | refine tk14 ?_); (conv => whnf))
      refine IdxA.tc (by rw [pcells_length]; omega) (by omega) (by omega) ?_
      (conv => whnf); repeat ((first | refine tk1 ?_ | refine tk2 ?_ | refine tk3 ?_ | refine tk12 (fun _ => ?_) | refine tk4 ?_ | refine tk5 ?_ | refine tk6 ?_ | refine tk7 ?_ | refine tk8 ?_ | refine tk9 ?_ | refine tk10 (fun _ _ => ?_) | refine tk11 (fun _ => ?_) | refine tk13 ?_ | refine tk14 ?_); (conv => whnf))
      refine Ld.taN h2 rfl ?_
      by_cases hq0 : q.l.length = 0
      · rw [show prsOK 0 (ps.map pure1) = false by rw [hI, decide_eq_true (List.eq_nil_of_length_eq_zero hq0)]; rfl]
        (conv => whnf); repeat ((first | refine tk1 ?_ | refine tk2 ?_ | refine tk3 ?_ | refine tk12 (fun _ => ?_) | refine tk4 ?_ | refine tk5 ?_ | refine tk6 ?_ | refine tk7 ?_ | refine tk8 ?_ | refine tk9 ?_ | refine tk10 (fun _ _ => ?_) | refine tk11 (fun _ => ?_) | refine tk13 ?_ | refine tk14 ?_); (conv => whnf))
        exact fun w' _ => rfl
      have hqn : q.l ≠ [] := fun h => hq0 (by rw [h]; rfl)
      by_cases hbig : total ((ps.map pure1).take k) + q.l.length ≤ 262144
      · rw [decide_eq_false hqn, decide_eq_true hbig] at hI
        simp only [Bool.not_false, Bool.true_and] at hI
        (conv => whnf); repeat ((first | refine tk1 ?_ | refine tk2 ?_ | refine tk3 ?_ | refine tk12 (fun _ => ?_) | refine tk4 ?_ | refine tk5 ?_ | refine tk6 ?_ | refine tk7 ?_ | refine tk8 ?_ | refine tk9 ?_ | refine tk10 (fun _ _ => ?_) | refine tk11 (fun _ => ?_) | refine tk13 ?_ | refine tk14 ?_); (conv => whnf))
        exact ⟨k + 1, ⟨by omega, hI⟩, by dsimp only; rw [ht1]; rfl, (by repeat' (first | exact List.Sublist.refl _ | exact List.nil_sublist _ | apply List.Sublist.cons_cons | apply List.Sublist.cons)), by dsimp only; omega⟩
      · rw [show prsOK 0 (ps.map pure1) = false by rw [hI, decide_eq_false hbig]; simp]
        (conv => whnf); repeat ((first | refine tk1 ?_ | refine tk2 ?_ | refine tk3 ?_ | refine tk12 (fun _ => ?_) | refine tk4 ?_ | refine tk5 ?_ | refine tk6 ?_ | refine tk7 ?_ | refine tk8 ?_ | refine tk9 ?_ | refine tk10 (fun _ _ => ?_) | refine tk11 (fun _ => ?_) | refine tk13 ?_ | refine tk14 ?_); (conv => whnf))
        exact fun w' _ => rfl
    · rw [show prsOK 0 (ps.map pure1) = true by rw [hI, List.drop_eq_nil_of_le (by rw [List.length_map]; omega)]; rfl]
      (conv => whnf); repeat ((first | refine tk1 ?_ | refine tk2 ?_ | refine tk3 ?_ | refine tk12 (fun _ => ?_) | refine tk4 ?_ | refine tk5 ?_ | refine tk6 ?_ | refine tk7 ?_ | refine tk8 ?_ | refine tk9 ?_ | refine tk10 (fun _ _ => ?_) | refine tk11 (fun _ => ?_) | refine tk13 ?_ | refine tk14 ?_); (conv => whnf))
      exact fun w' _ => rfl
  · (conv => whnf); repeat ((first | refine tk1 ?_ | refine tk2 ?_ | refine tk3 ?_ | refine tk12 (fun _ => ?_) | refine tk4 ?_ | refine tk5 ?_ | refine tk6 ?_ | refine tk7 ?_ | refine tk8 ?_ | refine tk9 ?_ | refine tk10 (fun _ _ => ?_) | refine tk11 (fun _ => ?_) | refine tk13 ?_ | refine tk14 ?_); (conv => whnf))
    refine Cmp.cases (fun c4 => ?_) (fun c4 => ?_)
    · rw [bad1 (anST_bad (.inr (.inr (.inr ⟨hbr, .inl (by omega)⟩))))]
      (conv => whnf); repeat ((first | refine tk1 ?_ | refine tk2 ?_ | refine tk3 ?_ | refine tk12 (fun _ => ?_) | refine tk4 ?_ | refine tk5 ?_ | refine tk6 ?_ | refine tk7 ?_ | refine tk8 ?_ | refine tk9 ?_ | refine tk10 (fun _ _ => ?_) | refine tk11 (fun _ => ?_) | refine tk13 ?_ | refine tk14 ?_); (conv => whnf))
      exact fun w' _ => rfl
    (conv => whnf); repeat ((first | refine tk1 ?_ | refine tk2 ?_ | refine tk3 ?_ | refine tk12 (fun _ => ?_) | refine tk4 ?_ | refine tk5 ?_ | refine tk6 ?_ | refine tk7 ?_ | refine tk8 ?_ | refine tk9 ?_ | refine tk10 (fun _ _ => ?_) | refine tk11 (fun _ => ?_) | refine tk13 ?_ | refine tk14 ?_); (conv => whnf))
    refine Cmp.cases (fun c5 => ?_) (fun c5 => ?_)
    · rw [bad1 (anST_bad (.inr (.inr (.inr ⟨hbr, .inr (by omega)⟩))))]
      (conv => whnf); repeat ((first | refine tk1 ?_ | refine tk2 ?_ | refine tk3 ?_ | refine tk12 (fun _ => ?_) | refine tk4 ?_ | refine tk5 ?_ | refine tk6 ?_ | refine tk7 ?_ | refine tk8 ?_ | refine tk9 ?_ | refine tk10 (fun _ _ => ?_) | refine tk11 (fun _ => ?_) | refine tk13 ?_ | refine tk14 ?_); (conv => whnf))
      exact fun w' _ => rfl
    have hst := anST_good (n := ps.length) (cd := cd.toNat) c1 c2 (by omega) (fun _ => ⟨by omega, by omega⟩)
    clear c1 c2 c3 c4 c5 bad1
    (conv => whnf); repeat ((first | refine tk1 ?_ | refine tk2 ?_ | refine tk3 ?_ | refine tk12 (fun _ => ?_) | refine tk4 ?_ | refine tk5 ?_ | refine tk6 ?_ | refine tk7 ?_ | refine tk8 ?_ | refine tk9 ?_ | refine tk10 (fun _ _ => ?_) | refine tk11 (fun _ => ?_) | refine tk13 ?_ | refine tk14 ?_); (conv => whnf))
    refine LoopS.lp tys_ok (fun (k : Nat) u => [u 0, .pointer (some ⟨b, 0, none⟩), u 2, u 3, u 4, u 5, u 6, u 7, u 8, u 9, u 10, u 11, u 12, u 13, u 14, u 15, u 16, u 17, u 18, u 19, u 20, u 21, u 22, u 23, u 24, u 25, u 26, u 27, u 28, u 29, u 30, u 31, u 32, u 33, u 34, u 35, u 36, u 37, .slice FA F.length Fc, .int .i64 F.length, .int .i64 (k : Nat), u 41, u 42, u 43, u 44, u 45, u 46, u 47, u 48, u 49, u 50, u 51, u 52, u 53, u 54, u 55, u 56, u 57, u 58, u 59, u 60, u 61, u 62, u 63, u 64, u 65, u 66, u 67, u 68, u 69, u 70, u 71, u 72, u 73, u 74]) (fun _ => [.box b [.int .i64 st, .slice FA F.length Fc, .slice QA ps.length Qc, .int .u8 cd.toNat, str tag, .bool press] 25])
      (fun k => k ≤ F.length ∧ (F.take k).all fldR = true) (fun k => F.length - k) 0 ⟨Nat.zero_le _, rfl⟩ rfl (by repeat' (first | exact List.Sublist.refl _ | exact List.nil_sublist _ | apply List.Sublist.cons_cons | apply List.Sublist.cons)) ?_
    rintro k u ⟨hk, hI⟩
    (conv => whnf); repeat ((first | refine tk1 ?_ | refine tk2 ?_ | refine tk3 ?_ | refine tk12 (fun _ => ?_) | refine tk4 ?_ | refine tk5 ?_ | refine tk6 ?_ | refine tk7 ?_ | refine tk8 ?_ | refine tk9 ?_ | refine tk10 (fun _ _ => ?_) | refine tk11 (fun _ => ?_) | refine tk13 ?_ | refine tk14 ?_); (conv => whnf))
    refine Cmp.cases (fun hlt => ?_) (fun hlt => ?_)
    · have hlt' : k < F.length := by omega
      have hsn := all_snoc_take fldR F k hlt' hI
      have h2 := fcells_two F k hlt'
      have hm9 := List.getElem_mem hlt'
      obtain ⟨n, v, hf⟩ : ∃ n v, F[k] = (n, v) := ⟨_, _, rfl⟩
      rw [hf] at hsn h2 hm9
      have hz := fsum_mem hm9
      have badf : fldR (n, v) = false → anE st F (ps.map pure1) cd.toNat = 8 := fun h => bad (by unfold anOK; rw [all_bad hm9 h]; simp)
      (conv => whnf); repeat ((first | refine tk1 ?_ | refine tk2 ?_ | refine tk3 ?_ | refine tk12 (fun _ => ?_) | refine tk4 ?_ | refine tk5 ?_ | refine tk6 ?_ | refine tk7 ?_ | refine tk8 ?_ | refine tk9 ?_ | refine tk10 (fun _ _ => ?_) | refine tk11 (fun _ => ?_) | refine tk13 ?_ | refine tk14 ?_); (conv => whnf))
      refine IdxA.tc (by rw [fcells_length]; omega) (by omega) (by omega) ?_
      (conv => whnf); repeat ((first | refine tk1 ?_ | refine tk2 ?_ | refine tk3 ?_ | refine tk12 (fun _ => ?_) | refine tk4 ?_ | refine tk5 ?_ | refine tk6 ?_ | refine tk7 ?_ | refine tk8 ?_ | refine tk9 ?_ | refine tk10 (fun _ _ => ?_) | refine tk11 (fun _ => ?_) | refine tk13 ?_ | refine tk14 ?_); (conv => whnf))
      refine Ld.taN h2 rfl ?_
      (conv => whnf); repeat ((first | refine tk1 ?_ | refine tk2 ?_ | refine tk3 ?_ | refine tk12 (fun _ => ?_) | refine tk4 ?_ | refine tk5 ?_ | refine tk6 ?_ | refine tk7 ?_ | refine tk8 ?_ | refine tk9 ?_ | refine tk10 (fun _ _ => ?_) | refine tk11 (fun _ => ?_) | refine tk13 ?_ | refine tk14 ?_); (conv => whnf))
      refine DrawS.go [(0, true), (1, true), (2, true), (3, true), (5, true), (6, true), (4, false), (7, true), (8, true)] tys_ok mixed (by kernel_rfl) ?_
      (conv => whnf); repeat ((first | refine tk1 ?_ | refine tk2 ?_ | refine tk3 ?_ | refine tk12 (fun _ => ?_) | refine tk4 ?_ | refine tk5 ?_ | refine tk6 ?_ | refine tk7 ?_ | refine tk8 ?_ | refine tk9 ?_ | refine tk10 (fun _ _ => ?_) | refine tk11 (fun _ => ?_) | refine tk13 ?_ | refine tk14 ?_); (conv => whnf))
      refine CallQ.fn (Check_f n v (by dsimp only at hz; omega)) ?_
      cases hfo : fieldOK n v
      · rw [show fieldE n v = 3 by unfold fieldE; rw [hfo]; rfl, badf (by unfold fldR; rw [hfo]; rfl)]
        (conv => whnf); repeat ((first | refine tk1 ?_ | refine tk2 ?_ | refine tk3 ?_ | refine tk12 (fun _ => ?_) | refine tk4 ?_ | refine tk5 ?_ | refine tk6 ?_ | refine tk7 ?_ | refine tk8 ?_ | refine tk9 ?_ | refine tk10 (fun _ _ => ?_) | refine tk11 (fun _ => ?_) | refine tk13 ?_ | refine tk14 ?_); (conv => whnf))
        exact fun w' _ => rfl
      · rw [show fieldE n v = 0 by unfold fieldE; rw [hfo]; rfl]
        (conv => whnf); repeat ((first | refine tk1 ?_ | refine tk2 ?_ | refine tk3 ?_ | refine tk12 (fun _ => ?_) | refine tk4 ?_ | refine tk5 ?_ | refine tk6 ?_ | refine tk7 ?_ | refine tk8 ?_ | refine tk9 ?_ | refine tk10 (fun _ _ => ?_) | refine tk11 (fun _ => ?_) | refine tk13 ?_ | refine tk14 ?_); (conv => whnf))
        refine CallK.fnS OwnR_f trivial (fun A cp => ?_)
        (conv => whnf); repeat ((first | refine tk1 ?_ | refine tk2 ?_ | refine tk3 ?_ | refine tk12 (fun _ => ?_) | refine tk4 ?_ | refine tk5 ?_ | refine tk6 ?_ | refine tk7 ?_ | refine tk8 ?_ | refine tk9 ?_ | refine tk10 (fun _ _ => ?_) | refine tk11 (fun _ => ?_) | refine tk13 ?_ | refine tk14 ?_); (conv => whnf))
        refine CallQ.fnR (Contains_f A cp ownR n (by decide)) ⟨RdA.ok, trivial⟩ ?_
        cases hc : ownR.contains n
        · rw [show fldR (n, v) = true by unfold fldR; rw [hfo, hc]; rfl] at hsn
          (conv => whnf); repeat ((first | refine tk1 ?_ | refine tk2 ?_ | refine tk3 ?_ | refine tk12 (fun _ => ?_) | refine tk4 ?_ | refine tk5 ?_ | refine tk6 ?_ | refine tk7 ?_ | refine tk8 ?_ | refine tk9 ?_ | refine tk10 (fun _ _ => ?_) | refine tk11 (fun _ => ?_) | refine tk13 ?_ | refine tk14 ?_); (conv => whnf))
          exact ⟨k + 1, ⟨by omega, hsn⟩, rfl, (by repeat' (first | exact List.Sublist.refl _ | exact List.nil_sublist _ | apply List.Sublist.cons_cons | apply List.Sublist.cons)), by dsimp only; omega⟩
        · rw [badf (by unfold fldR; rw [hc]; simp)]
          (conv => whnf); repeat ((first | refine tk1 ?_ | refine tk2 ?_ | refine tk3 ?_ | refine tk12 (fun _ => ?_) | refine tk4 ?_ | refine tk5 ?_ | refine tk6 ?_ | refine tk7 ?_ | refine tk8 ?_ | refine tk9 ?_ | refine tk10 (fun _ _ => ?_) | refine tk11 (fun _ => ?_) | refine tk13 ?_ | refine tk14 ?_); (conv => whnf))
          exact fun w' _ => rfl
    have hFok : F.all fldR = true := by rw [List.take_of_length_le (by omega)] at hI; exact hI
    have hAE : anE st F (ps.map pure1) cd.toNat = if prsOK 0 (ps.map pure1) then 0 else 8 := by
      unfold anE anOK
      rw [List.length_map, hst, hFok]
      simp
    rw [hAE]
    clear hI hlt hk bad hAE
    (conv => whnf); repeat ((first | refine tk1 ?_ | refine tk2 ?_ | refine tk3 ?_ | refine tk12 (fun _ => ?_) | refine tk4 ?_ | refine tk5 ?_ | refine tk6 ?_ | refine tk7 ?_ | refine tk8 ?_ | refine tk9 ?_ | refine tk10 (fun _ _ => ?_) | refine tk11 (fun _ => ?_) | refine tk13 ?_ | refine tk14 ?_); (conv => whnf))
    refine LoopS.lp tys_ok (fun (k : Nat) u => [u 0, u 1, u 2, u 3, u 4, .int .i64 (total ((ps.map pure1).take k) : Nat), u 6, u 7, u 8, u 9, u 10, u 11, u 12, u 13, u 14, u 15, u 16, u 17, u 18, u 19, u 20, u 21, u 22, u 23, u 24, u 25, u 26, u 27, u 28, u 29, u 30, u 31, u 32, u 33, u 34, u 35, u 36, u 37, u 38, u 39, u 40, u 41, u 42, u 43, u 44, u 45, u 46, u 47, u 48, u 49, u 50, u 51, u 52, u 53, u 54, .slice QA ps.length Qc, .int .i64 ps.length, .int .i64 (k : Nat), u 58, u 59, u 60, u 61, u 62, u 63, u 64, u 65, u 66, u 67, u 68, u 69, u 70, u 71, u 72, u 73, u 74]) (fun _ => [])
      (fun k => k ≤ ps.length ∧ prsOK 0 (ps.map pure1) = prsOK (total ((ps.map pure1).take k)) ((ps.map pure1).drop k)) (fun k => ps.length - k) 0 ⟨Nat.zero_le _, rfl⟩ rfl (by repeat' (first | exact List.Sublist.refl _ | exact List.nil_sublist _ | apply List.Sublist.cons_cons | apply List.Sublist.cons)) ?_
    rintro k u ⟨hk, hI⟩
    (conv => whnf); repeat ((first | refine tk1 ?_ | refine tk2 ?_ | refine tk3 ?_ | refine tk12 (fun _ => ?_) | refine tk4 ?_ | refine tk5 ?_ | refine tk6 ?_ | refine tk7 ?_ | refine tk8 ?_ | refine tk9 ?_ | refine tk10 (fun _ _ => ?_) | refine tk11 (fun _ => ?_) | refine tk13 ?_ | refine tk14 ?_); (conv => whnf))
    refine Cmp.cases (fun hlt => ?_) (fun hlt => ?_)
    · have hlt' : k < ps.length := by omega
      have hkp : k < (ps.map pure1).length := by rw [List.length_map]; exact hlt'
      have h2 := (pcells_at ps k hlt').2.2
      have htk := total_take (ps.map pure1) (k + 1)
      have ht1 : total ((ps.map pure1).take (k + 1)) = total ((ps.map pure1).take k) + ps[k].l.length := by
        rw [List.take_succ_eq_append_getElem hkp, total_append, List.getElem_map]; simp [total, pure1]
      rw [ht1] at htk
      rw [List.drop_eq_getElem_cons hkp, List.getElem_map] at hI
      generalize ps[k] = q at *
      have hcons : prsOK (total ((ps.map pure1).take k)) (pure1 q :: (ps.map pure1).drop (k + 1)) = (!decide (q.l = []) && (decide (total ((ps.map pure1).take k) + q.l.length ≤ 262144) && prsOK (total ((ps.map pure1).take k) + q.l.length) ((ps.map pure1).drop (k + 1)))) := rfl
      rw [hcons] at hI
      clear hcons
      rw [show (prsOK (total ((ps.map pure1).take k) + q.l.length) ((ps.map pure1).drop (k + 1))) = prsOK (total ((ps.map pure1).take (k + 1))) ((ps.map pure1).drop (k + 1)) by rw [ht1]] at hI
      (conv => whnf); repeat ((first | refine tk1 ?_ | refine tk2 ?_ | refine tk3 ?_ | refine tk12 (fun _ => ?_) | refine tk4 ?_ | refine tk5 ?_ | refine tk6 ?_ | refine tk7 ?_ | refine tk8 ?_ | refine tk9 ?_ | refine tk10 (fun _ _ => ?_) | refine tk11 (fun _ => ?_) | refine tk13 ?_ | refine tk14 ?_); (conv => whnf))
      refine IdxA.tc (by rw [pcells_length]; omega) (by omega) (by omega) ?_
      (conv => whnf); repeat ((first | refine tk1 ?_ | refine tk2 ?_ | refine tk3 ?_ | refine tk12 (fun _ => ?_) | refine tk4 ?_ | refine tk5 ?_ | refine tk6 ?_ | refine tk7 ?_ | refine tk8 ?_ | refine tk9 ?_ | refine tk10 (fun _ _ => ?_) | refine tk11 (fun _ => ?_) | refine tk13 ?_ | refine tk14 ?_); (conv => whnf))
      refine Ld.taN h2 rfl ?_
      by_cases hq0 : q.l.length = 0
      · rw [show prsOK 0 (ps.map pure1) = false by rw [hI, decide_eq_true (List.eq_nil_of_length_eq_zero hq0)]; rfl]
        (conv => whnf); repeat ((first | refine tk1 ?_ | refine tk2 ?_ | refine tk3 ?_ | refine tk12 (fun _ => ?_) | refine tk4 ?_ | refine tk5 ?_ | refine tk6 ?_ | refine tk7 ?_ | refine tk8 ?_ | refine tk9 ?_ | refine tk10 (fun _ _ => ?_) | refine tk11 (fun _ => ?_) | refine tk13 ?_ | refine tk14 ?_); (conv => whnf))
        exact fun w' _ => rfl
      have hqn : q.l ≠ [] := fun h => hq0 (by rw [h]; rfl)
      by_cases hbig : total ((ps.map pure1).take k) + q.l.length ≤ 262144
      · rw [decide_eq_false hqn, decide_eq_true hbig] at hI
        simp only [Bool.not_false, Bool.true_and] at hI
        (conv => whnf); repeat ((first | refine tk1 ?_ | refine tk2 ?_ | refine tk3 ?_ | refine tk12 (fun _ => ?_) | refine tk4 ?_ | refine tk5 ?_ | refine tk6 ?_ | refine tk7 ?_ | refine tk8 ?_ | refine tk9 ?_ | refine tk10 (fun _ _ => ?_) | refine tk11 (fun _ => ?_) | refine tk13 ?_ | refine tk14 ?_); (conv => whnf))
        exact ⟨k + 1, ⟨by omega, hI⟩, by dsimp only; rw [ht1]; rfl, (by repeat' (first | exact List.Sublist.refl _ | exact List.nil_sublist _ | apply List.Sublist.cons_cons | apply List.Sublist.cons)), by dsimp only; omega⟩
      · rw [show prsOK 0 (ps.map pure1) = false by rw [hI, decide_eq_false hbig]; simp]
        (conv => whnf); repeat ((first | refine tk1 ?_ | refine tk2 ?_ | refine tk3 ?_ | refine tk12 (fun _ => ?_) | refine tk4 ?_ | refine tk5 ?_ | refine tk6 ?_ | refine tk7 ?_ | refine tk8 ?_ | refine tk9 ?_ | refine tk10 (fun _ _ => ?_) | refine tk11 (fun _ => ?_) | refine tk13 ?_ | refine tk14 ?_); (conv => whnf))
        exact fun w' _ => rfl
    · rw [show prsOK 0 (ps.map pure1) = true by rw [hI, List.drop_eq_nil_of_le (by rw [List.length_map]; omega)]; rfl]
      (conv => whnf); repeat ((first | refine tk1 ?_ | refine tk2 ?_ | refine tk3 ?_ | refine tk12 (fun _ => ?_) | refine tk4 ?_ | refine tk5 ?_ | refine tk6 ?_ | refine tk7 ?_ | refine tk8 ?_ | refine tk9 ?_ | refine tk10 (fun _ _ => ?_) | refine tk11 (fun _ => ?_) | refine tk13 ?_ | refine tk14 ?_); (conv => whnf))
      exact fun w' _ => rfl
end Go.Proofs.YtnnpnkmdhfjccaaDoor.Vex
/- The program's functions on first lines, reckoned. -/
namespace Go.Proofs.YtnnpnkmdhfjccaaDoor.Vex
open Go Go.RowKit
set_option maxRecDepth 100000
set_option linter.unusedSectionVars false
variable {gI : GI} [HasMax gI] [HasErr gI]

theorem toErr_f (s : List UInt8) (bs k : Int) (hs : s.length ≤ 1000000000) (hk : k = 1 ∨ k = 2) : FnE Tryd.prog gI 125 [str [80, 97, 114, 115, 101, 85, 105, 110, 116], str s, .int .i64 16, .int .i64 bs, errV k] (fun _ => True) (fun _ v _ => ∃ te p, v = .iface te p) :=
  ⟨callable Tryd.func125 rfl (by kernel_rfl), fun w hG _ => by
    obtain ⟨⟨e1, c1, d1⟩, ⟨e2, c2, d2⟩⟩ := HasErr.ok w hG
    rcases hk with rfl | rfl
    · exact (Tryd.strconv_toError_range ⟨⟨_⟩⟩ ⟨⟨s⟩⟩ 16 bs e2 w (by show s.length ≤ _; omega) c2 d2).mono fun _ _ ⟨N, he, _, _, hb⟩ => ⟨_, he, ⟨_, _, rfl⟩, hb⟩
    · exact (Tryd.strconv_toError_syntax ⟨⟨_⟩⟩ ⟨⟨s⟩⟩ 16 bs e1 w (by show s.length ≤ _; omega) c1 d1).mono fun _ _ ⟨N, he, _, _, hb⟩ => ⟨_, he, ⟨_, _, rfl⟩, hb⟩⟩
theorem PU_f (l : List UInt8) (bs mx : Int) (hb : bs = 8 ∧ mx = 255 ∨ bs = 64 ∧ mx = 18446744073709551615) (hl : l.length ≤ 1000000000) :
    FnE Tryd.prog gI 109 [str l, .int .i64 16, .int .i64 bs] (fun _ => True) fun _ v _ => ((puV mx l).2 = 0 ∧ v = .tuple #[.int .u64 (puV mx l).1, .nilIface]) ∨ ((puV mx l).2 ≠ 0 ∧ ∃ te p, v = .tuple #[.int .u64 (puV mx l).1, .iface te p]) := by
  have hk : (puV mx l).2 = 0 ∨ (puV mx l).2 = 1 ∨ (puV mx l).2 = 2 := by
    unfold puV
    split
    · exact .inr (.inr rfl)
    · exact puGo_err mx l 0
  refine FnE.of tys_ok Tryd.func109 rfl (by kernel_rfl) rfl rfl ?_; intro w hG hP
  (conv => whnf); repeat ((first | refine tk1 ?_ | refine tk2 ?_ | refine tk3 ?_ | refine tk12 (fun _ => ?_) | refine tk4 ?_ | refine tk5 ?_ | refine tk6 ?_ | refine tk7 ?_ | refine tk8 ?_ | refine tk9 ?_ | refine tk10 (fun _ _ => ?_) | refine tk11 (fun _ => ?_) | refine tk13 ?_ | refine tk14 ?_); (conv => whnf))
  refine CallK.fn (Parse16_f l bs mx hb hl) ?_
  generalize hn : (puV mx l).1 = n at *
  generalize hq : (puV mx l).2 = k at *
  rcases hk with rfl | hk
  · (conv => whnf); repeat ((first | refine tk1 ?_ | refine tk2 ?_ | refine tk3 ?_ | refine tk12 (fun _ => ?_) | refine tk4 ?_ | refine tk5 ?_ | refine tk6 ?_ | refine tk7 ?_ | refine tk8 ?_ | refine tk9 ?_ | refine tk10 (fun _ _ => ?_) | refine tk11 (fun _ => ?_) | refine tk13 ?_ | refine tk14 ?_); (conv => whnf))
    refine OthP.ifNe tys_ok rfl rfl (v := errV 0) (b := true) rfl ?_
    (conv => whnf); repeat ((first | refine tk1 ?_ | refine tk2 ?_ | refine tk3 ?_ | refine tk12 (fun _ => ?_) | refine tk4 ?_ | refine tk5 ?_ | refine tk6 ?_ | refine tk7 ?_ | refine tk8 ?_ | refine tk9 ?_ | refine tk10 (fun _ _ => ?_) | refine tk11 (fun _ => ?_) | refine tk13 ?_ | refine tk14 ?_); (conv => whnf))
    exact fun w' _ => .inl ⟨rfl, rfl⟩
  · have hne : k ≠ 0 := by omega
    obtain ⟨tk, pk, he⟩ : ∃ tk pk, errV k = .iface tk pk := by rcases hk with rfl | rfl <;> exact ⟨_, _, rfl⟩
    have hte := toErr_f (gI := gI) l bs k hl hk
    rw [he] at hte ⊢
    (conv => whnf); repeat ((first | refine tk1 ?_ | refine tk2 ?_ | refine tk3 ?_ | refine tk12 (fun _ => ?_) | refine tk4 ?_ | refine tk5 ?_ | refine tk6 ?_ | refine tk7 ?_ | refine tk8 ?_ | refine tk9 ?_ | refine tk10 (fun _ _ => ?_) | refine tk11 (fun _ => ?_) | refine tk13 ?_ | refine tk14 ?_); (conv => whnf))
    refine OthP.ifNe tys_ok rfl rfl (v := .iface tk pk) rfl ?_
    (conv => whnf); repeat ((first | refine tk1 ?_ | refine tk2 ?_ | refine tk3 ?_ | refine tk12 (fun _ => ?_) | refine tk4 ?_ | refine tk5 ?_ | refine tk6 ?_ | refine tk7 ?_ | refine tk8 ?_ | refine tk9 ?_ | refine tk10 (fun _ _ => ?_) | refine tk11 (fun _ => ?_) | refine tk13 ?_ | refine tk14 ?_); (conv => whnf))
    refine CallK.fnE hte (fun _ _ => trivial) (fun w1 v w2 hs hv hr => ⟨_, hs.below hr, ?_⟩)
    obtain ⟨te, p, rfl⟩ := hv
    (conv => whnf); repeat ((first | refine tk1 ?_ | refine tk2 ?_ | refine tk3 ?_ | refine tk12 (fun _ => ?_) | refine tk4 ?_ | refine tk5 ?_ | refine tk6 ?_ | refine tk7 ?_ | refine tk8 ?_ | refine tk9 ?_ | refine tk10 (fun _ _ => ?_) | refine tk11 (fun _ => ?_) | refine tk13 ?_ | refine tk14 ?_); (conv => whnf))
    exact fun w' _ => .inr ⟨hne, te, p, rfl⟩
theorem plain_f (x : UInt8) (marks : List UInt8) : Fn Tryd.prog gI 105 [.int .u8 x.toNat, str marks] (.bool (plainB marks x)) := by
  have hi := idx_in x marks
  have hx : (((x.toNat : Nat) : Int).toNat.toUInt8) = x := by simp
  have hp : plainB marks x = (smallI x.toNat || greatI x.toNat || decide (0 ≤ Lib.indexByte marks x)) := by
    unfold plainB
    congr 1
    rw [Bool.eq_iff_iff, List.contains_iff_mem, decide_eq_true_iff, hi]
  have hf := IndexByte_f (gI := gI) marks x.toNat
  rw [hx] at hf
  rw [hp]
  refine Fn.of tys_ok Tryd.func105 rfl (by kernel_rfl) rfl rfl ?_; intro w hG
  (repeat' ((conv => whnf); first | (first | refine tk1 ?_ | refine tk2 ?_ | refine tk3 ?_ | refine tk12 (fun _ => ?_) | refine tk4 ?_ | refine tk5 ?_ | refine tk6 ?_ | refine tk7 ?_ | refine tk8 ?_ | refine tk9 ?_ | refine tk10 (fun _ _ => ?_) | refine tk11 (fun _ => ?_) | refine tk13 ?_ | refine tk14 ?_) | refine Cmp.cases (fun _ => ?_) (fun _ => ?_) | refine IdxS.nat (by omega) ?_ | refine IdxS.go (by omega) (by omega) (fun _ _ _ => ?_) | refine SlcS.at (by omega) (by omega) (by omega) ?_ | refine CatS.at (by simp only [List.length_append, List.length_cons, List.length_nil]; omega) ?_ | refine CallK.fn hf ?_)); all_goals (conv => whnf)
  all_goals first | rfl | (refine congrArg Value.bool ?_; first | (simp [smallI, greatI, *]; done) | (rw [Bool.eq_iff_iff]; simp [smallI, greatI]; omega) | (rw [Bool.eq_iff_iff]; simp [smallI, greatI, *]; omega))
def codeV : List UInt8 → UInt8 × Bool
  | a :: b :: _ => if hexB a && hexB b then (hexV a b, true) else (0, false)
  | _ => (0, false)
theorem pu_two (a b : UInt8) : puV 255 [a, b] = if hexB a && hexB b then (16 * digI a.toNat + digI b.toNat, 0) else (0, 2) := by
  have h1 := dig_range a
  have h2 := dig_range b
  have e1 : hexB a = decide (0 ≤ digI a.toNat) := rfl
  have e2 : hexB b = decide (0 ≤ digI b.toNat) := rfl
  unfold puV
  rw [if_neg (by simp)]
  simp only [puGo]
  by_cases ha : 0 ≤ digI a.toNat
  · by_cases hb : 0 ≤ digI b.toNat
    · rw [e1, e2, decide_eq_true ha, decide_eq_true hb]
      rw [if_neg (by omega), if_neg (by omega), if_neg (by omega), if_neg (by omega), if_neg (by omega), if_neg (by omega)]
      simp only [Bool.and_self, if_true]
      congr 1
      omega
    · rw [e1, e2, decide_eq_true ha, decide_eq_false hb]
      rw [if_neg (by omega), if_neg (by omega), if_neg (by omega), if_pos (by omega)]
      simp
  · rw [e1, decide_eq_false ha, if_pos (by omega)]
    simp
theorem code_f (s : List UInt8) (hs : s.length ≤ 1000000000) : Fn Tryd.prog gI 85 [str s] (.tuple #[.int .u8 (codeV s).1.toNat, .bool (codeV s).2]) := by
  refine Fn.of tys_ok Tryd.func85 rfl (by kernel_rfl) rfl rfl ?_; intro w hG
  match s with
  | [] => (conv => whnf); repeat ((first | refine tk1 ?_ | refine tk2 ?_ | refine tk3 ?_ | refine tk12 (fun _ => ?_) | refine tk4 ?_ | refine tk5 ?_ | refine tk6 ?_ | refine tk7 ?_ | refine tk8 ?_ | refine tk9 ?_ | refine tk10 (fun _ _ => ?_) | refine tk11 (fun _ => ?_) | refine tk13 ?_ | refine tk14 ?_); (conv => whnf)); rfl
  | [_] => (conv => whnf); repeat ((first | refine tk1 ?_ | refine tk2 ?_ | refine tk3 ?_ | refine tk12 (fun _ => ?_) | refine tk4 ?_ | refine tk5 ?_ | refine tk6 ?_ | refine tk7 ?_ | refine tk8 ?_ | refine tk9 ?_ | refine tk10 (fun _ _ => ?_) | refine tk11 (fun _ => ?_) | refine tk13 ?_ | refine tk14 ?_); (conv => whnf)); rfl
  | a :: b :: r =>
    have hl : (((a :: b :: r).length : Nat) : Int) = (r.length : Int) + 2 := by simp; omega
    have hpu := PU_f (gI := gI) [a, b] 8 255 (.inl ⟨rfl, rfl⟩) (by simp)
    rw [pu_two] at hpu
    (conv => whnf); repeat ((first | refine tk1 ?_ | refine tk2 ?_ | refine tk3 ?_ | refine tk12 (fun _ => ?_) | refine tk4 ?_ | refine tk5 ?_ | refine tk6 ?_ | refine tk7 ?_ | refine tk8 ?_ | refine tk9 ?_ | refine tk10 (fun _ _ => ?_) | refine tk11 (fun _ => ?_) | refine tk13 ?_ | refine tk14 ?_); (conv => whnf))
    refine SlcS.at (by omega) (by omega) (by rw [hl]; omega) ?_
    (conv => whnf); repeat ((first | refine tk1 ?_ | refine tk2 ?_ | refine tk3 ?_ | refine tk12 (fun _ => ?_) | refine tk4 ?_ | refine tk5 ?_ | refine tk6 ?_ | refine tk7 ?_ | refine tk8 ?_ | refine tk9 ?_ | refine tk10 (fun _ _ => ?_) | refine tk11 (fun _ => ?_) | refine tk13 ?_ | refine tk14 ?_); (conv => whnf))
    refine CallK.fnE hpu (fun _ _ => trivial) (fun w1 v w2 hs hv hr => ⟨_, hs.below hr, ?_⟩)
    cases hh : hexB a && hexB b
    · rw [hh] at hv
      simp only [Bool.false_eq_true, if_false] at hv
      rcases hv with ⟨h2, _⟩ | ⟨_, te, p, rfl⟩
      · exact absurd h2 (by decide)
      (conv => whnf); repeat ((first | refine tk1 ?_ | refine tk2 ?_ | refine tk3 ?_ | refine tk12 (fun _ => ?_) | refine tk4 ?_ | refine tk5 ?_ | refine tk6 ?_ | refine tk7 ?_ | refine tk8 ?_ | refine tk9 ?_ | refine tk10 (fun _ _ => ?_) | refine tk11 (fun _ => ?_) | refine tk13 ?_ | refine tk14 ?_); (conv => whnf))
      refine DrawS.go (qs 26) tys_ok mixed (by kernel_rfl) ?_
      (conv => whnf); repeat ((first | refine tk1 ?_ | refine tk2 ?_ | refine tk3 ?_ | refine tk12 (fun _ => ?_) | refine tk4 ?_ | refine tk5 ?_ | refine tk6 ?_ | refine tk7 ?_ | refine tk8 ?_ | refine tk9 ?_ | refine tk10 (fun _ _ => ?_) | refine tk11 (fun _ => ?_) | refine tk13 ?_ | refine tk14 ?_); (conv => whnf))
      refine Ar.in8 (by omega) (by omega) ?_
      (conv => whnf); repeat ((first | refine tk1 ?_ | refine tk2 ?_ | refine tk3 ?_ | refine tk12 (fun _ => ?_) | refine tk4 ?_ | refine tk5 ?_ | refine tk6 ?_ | refine tk7 ?_ | refine tk8 ?_ | refine tk9 ?_ | refine tk10 (fun _ _ => ?_) | refine tk11 (fun _ => ?_) | refine tk13 ?_ | refine tk14 ?_); (conv => whnf))
      refine OthP.ifEq tys_ok rfl rfl (v := .iface te p) rfl ?_
      (conv => whnf); repeat ((first | refine tk1 ?_ | refine tk2 ?_ | refine tk3 ?_ | refine tk12 (fun _ => ?_) | refine tk4 ?_ | refine tk5 ?_ | refine tk6 ?_ | refine tk7 ?_ | refine tk8 ?_ | refine tk9 ?_ | refine tk10 (fun _ _ => ?_) | refine tk11 (fun _ => ?_) | refine tk13 ?_ | refine tk14 ?_); (conv => whnf))
      simp [codeV, hh]
    · rw [hh] at hv
      simp only [if_true] at hv
      rcases hv with ⟨_, rfl⟩ | ⟨h2, _⟩
      rotate_left
      · exact absurd rfl h2
      rw [Bool.and_eq_true] at hh
      have hv := hexV_toNat a b hh.1 hh.2
      have ra := dig_range a
      have rb := dig_range b
      have ha0 := hh.1
      have hb0 := hh.2
      rw [hexB_iff] at ha0 hb0
      have na : ¬ (a.toNat : Int) = 43 ∧ ¬ (a.toNat : Int) = 45 ∧ ¬ (a.toNat : Int) = 95 := by
        refine ⟨?_, ?_, ?_⟩ <;> (intro e; rw [e] at ha0; revert ha0; decide)
      have nb : ¬ (b.toNat : Int) = 95 := by intro e; rw [e] at hb0; revert hb0; decide
      (conv => whnf); repeat ((first | refine tk1 ?_ | refine tk2 ?_ | refine tk3 ?_ | refine tk12 (fun _ => ?_) | refine tk4 ?_ | refine tk5 ?_ | refine tk6 ?_ | refine tk7 ?_ | refine tk8 ?_ | refine tk9 ?_ | refine tk10 (fun _ _ => ?_) | refine tk11 (fun _ => ?_) | refine tk13 ?_ | refine tk14 ?_); (conv => whnf))
      refine DrawS.go (qs 26) tys_ok mixed (by kernel_rfl) ?_
      (conv => whnf); repeat ((first | refine tk1 ?_ | refine tk2 ?_ | refine tk3 ?_ | refine tk12 (fun _ => ?_) | refine tk4 ?_ | refine tk5 ?_ | refine tk6 ?_ | refine tk7 ?_ | refine tk8 ?_ | refine tk9 ?_ | refine tk10 (fun _ _ => ?_) | refine tk11 (fun _ => ?_) | refine tk13 ?_ | refine tk14 ?_); (conv => whnf))
      refine Ar.in8 (by omega) (by omega) ?_
      (conv => whnf); repeat ((first | refine tk1 ?_ | refine tk2 ?_ | refine tk3 ?_ | refine tk12 (fun _ => ?_) | refine tk4 ?_ | refine tk5 ?_ | refine tk6 ?_ | refine tk7 ?_ | refine tk8 ?_ | refine tk9 ?_ | refine tk10 (fun _ _ => ?_) | refine tk11 (fun _ => ?_) | refine tk13 ?_ | refine tk14 ?_); (conv => whnf))
      refine OthP.ifEq tys_ok rfl rfl (v := .nilIface) rfl ?_
      (conv => whnf); repeat ((first | refine tk1 ?_ | refine tk2 ?_ | refine tk3 ?_ | refine tk12 (fun _ => ?_) | refine tk4 ?_ | refine tk5 ?_ | refine tk6 ?_ | refine tk7 ?_ | refine tk8 ?_ | refine tk9 ?_ | refine tk10 (fun _ _ => ?_) | refine tk11 (fun _ => ?_) | refine tk13 ?_ | refine tk14 ?_); (conv => whnf))
      refine IdxS.at a rfl (by omega) ?_
      (conv => whnf); repeat ((first | refine tk1 ?_ | refine tk2 ?_ | refine tk3 ?_ | refine tk12 (fun _ => ?_) | refine tk4 ?_ | refine tk5 ?_ | refine tk6 ?_ | refine tk7 ?_ | refine tk8 ?_ | refine tk9 ?_ | refine tk10 (fun _ _ => ?_) | refine tk11 (fun _ => ?_) | refine tk13 ?_ | refine tk14 ?_); (conv => whnf))
      refine IdxS.at a rfl (by omega) ?_
      (conv => whnf); repeat ((first | refine tk1 ?_ | refine tk2 ?_ | refine tk3 ?_ | refine tk12 (fun _ => ?_) | refine tk4 ?_ | refine tk5 ?_ | refine tk6 ?_ | refine tk7 ?_ | refine tk8 ?_ | refine tk9 ?_ | refine tk10 (fun _ _ => ?_) | refine tk11 (fun _ => ?_) | refine tk13 ?_ | refine tk14 ?_); (conv => whnf))
      refine IdxS.at a rfl (by omega) ?_
      (conv => whnf); repeat ((first | refine tk1 ?_ | refine tk2 ?_ | refine tk3 ?_ | refine tk12 (fun _ => ?_) | refine tk4 ?_ | refine tk5 ?_ | refine tk6 ?_ | refine tk7 ?_ | refine tk8 ?_ | refine tk9 ?_ | refine tk10 (fun _ _ => ?_) | refine tk11 (fun _ => ?_) | refine tk13 ?_ | refine tk14 ?_); (conv => whnf))
      refine IdxS.at b rfl (by omega) ?_
      (conv => whnf); repeat ((first | refine tk1 ?_ | refine tk2 ?_ | refine tk3 ?_ | refine tk12 (fun _ => ?_) | refine tk4 ?_ | refine tk5 ?_ | refine tk6 ?_ | refine tk7 ?_ | refine tk8 ?_ | refine tk9 ?_ | refine tk10 (fun _ _ => ?_) | refine tk11 (fun _ => ?_) | refine tk13 ?_ | refine tk14 ?_); (conv => whnf))
      simp [codeV, hh, hv]
theorem made_f (s marks : List UInt8) (h37 : marks.contains 37 = false) (hs : s.length ≤ 1000000000) : Fn Tryd.prog gI 83 [str s, str marks] (.bool (madeOf marks s)) := by
  refine Fn.of tys_ok Tryd.func83 rfl (by kernel_rfl) rfl rfl ?_; intro w hG
  (conv => whnf); repeat ((first | refine tk1 ?_ | refine tk2 ?_ | refine tk3 ?_ | refine tk12 (fun _ => ?_) | refine tk4 ?_ | refine tk5 ?_ | refine tk6 ?_ | refine tk7 ?_ | refine tk8 ?_ | refine tk9 ?_ | refine tk10 (fun _ _ => ?_) | refine tk11 (fun _ => ?_) | refine tk13 ?_ | refine tk14 ?_); (conv => whnf))
  refine LoopS.lp tys_ok (fun (i : Nat) u => [str s, str marks, u 2, u 3, u 4, .int .i64 (i : Nat), u 6, u 7, u 8, u 9, u 10, u 11, u 12, u 13, u 14, u 15, u 16, u 17, u 18, u 19, u 20, u 21, u 22, u 23, u 24, u 25, u 26, u 27, u 28, u 29, u 30, u 31, u 32, u 33, u 34]) (fun _ => [])
    (fun i => i ≤ s.length ∧ madeOf marks s = madeOf marks (s.drop i)) (fun i => s.length - i) 0 ⟨Nat.zero_le _, rfl⟩ rfl (by repeat' (first | exact List.Sublist.refl _ | exact List.nil_sublist _ | apply List.Sublist.cons_cons | apply List.Sublist.cons)) ?_
  intro i u ⟨hi, hI⟩
  (conv => whnf); repeat ((first | refine tk1 ?_ | refine tk2 ?_ | refine tk3 ?_ | refine tk12 (fun _ => ?_) | refine tk4 ?_ | refine tk5 ?_ | refine tk6 ?_ | refine tk7 ?_ | refine tk8 ?_ | refine tk9 ?_ | refine tk10 (fun _ _ => ?_) | refine tk11 (fun _ => ?_) | refine tk13 ?_ | refine tk14 ?_); (conv => whnf))
  refine Cmp.cases (fun hlt => ?_) (fun hlt => ?_)
  · have hlt' : i < s.length := by omega
    obtain ⟨x, hx⟩ : ∃ x, s[i] = x := ⟨_, rfl⟩
    have hd : s.drop i = x :: s.drop (i + 1) := by rw [← hx]; exact List.drop_eq_getElem_cons hlt'
    have hxi : s[(i : Int).toNat]? = some x := by rw [Int.toNat_natCast, List.getElem?_eq_getElem hlt', hx]
    rw [hd] at hI
    (conv => whnf); repeat ((first | refine tk1 ?_ | refine tk2 ?_ | refine tk3 ?_ | refine tk12 (fun _ => ?_) | refine tk4 ?_ | refine tk5 ?_ | refine tk6 ?_ | refine tk7 ?_ | refine tk8 ?_ | refine tk9 ?_ | refine tk10 (fun _ _ => ?_) | refine tk11 (fun _ => ?_) | refine tk13 ?_ | refine tk14 ?_); (conv => whnf))
    refine IdxS.at x hxi (by omega) ?_
    (conv => whnf); repeat ((first | refine tk1 ?_ | refine tk2 ?_ | refine tk3 ?_ | refine tk12 (fun _ => ?_) | refine tk4 ?_ | refine tk5 ?_ | refine tk6 ?_ | refine tk7 ?_ | refine tk8 ?_ | refine tk9 ?_ | refine tk10 (fun _ _ => ?_) | refine tk11 (fun _ => ?_) | refine tk13 ?_ | refine tk14 ?_); (conv => whnf))
    refine CallK.fnB (plain_f x marks) (fun hp => ?_) (fun hp => ?_)
    · have hx37 : x ≠ 37 := fun e => by subst e; rw [plain_not_37 h37] at hp; cases hp
      rw [made_cons marks x _ hx37, hp] at hI
      (conv => whnf); repeat ((first | refine tk1 ?_ | refine tk2 ?_ | refine tk3 ?_ | refine tk12 (fun _ => ?_) | refine tk4 ?_ | refine tk5 ?_ | refine tk6 ?_ | refine tk7 ?_ | refine tk8 ?_ | refine tk9 ?_ | refine tk10 (fun _ _ => ?_) | refine tk11 (fun _ => ?_) | refine tk13 ?_ | refine tk14 ?_); (conv => whnf))
      exact ⟨i + 1, ⟨by omega, hI⟩, rfl, (by repeat' (first | exact List.Sublist.refl _ | exact List.nil_sublist _ | apply List.Sublist.cons_cons | apply List.Sublist.cons)), by dsimp only; omega⟩
    · (conv => whnf); repeat ((first | refine tk1 ?_ | refine tk2 ?_ | refine tk3 ?_ | refine tk12 (fun _ => ?_) | refine tk4 ?_ | refine tk5 ?_ | refine tk6 ?_ | refine tk7 ?_ | refine tk8 ?_ | refine tk9 ?_ | refine tk10 (fun _ _ => ?_) | refine tk11 (fun _ => ?_) | refine tk13 ?_ | refine tk14 ?_); (conv => whnf))
      refine IdxS.at x hxi (by omega) ?_
      (conv => whnf); repeat ((first | refine tk1 ?_ | refine tk2 ?_ | refine tk3 ?_ | refine tk12 (fun _ => ?_) | refine tk4 ?_ | refine tk5 ?_ | refine tk6 ?_ | refine tk7 ?_ | refine tk8 ?_ | refine tk9 ?_ | refine tk10 (fun _ _ => ?_) | refine tk11 (fun _ => ?_) | refine tk13 ?_ | refine tk14 ?_); (conv => whnf))
      refine Cmp.cases (fun hq => ?_) (fun hq => ?_)
      · have hx37 : x ≠ 37 := fun e => by subst e; exact hq rfl
        rw [made_cons marks x _ hx37, hp] at hI
        (conv => whnf); repeat ((first | refine tk1 ?_ | refine tk2 ?_ | refine tk3 ?_ | refine tk12 (fun _ => ?_) | refine tk4 ?_ | refine tk5 ?_ | refine tk6 ?_ | refine tk7 ?_ | refine tk8 ?_ | refine tk9 ?_ | refine tk10 (fun _ _ => ?_) | refine tk11 (fun _ => ?_) | refine tk13 ?_ | refine tk14 ?_); (conv => whnf))
        rw [hI]; rfl
      · have hx37 : x = 37 := b8 (n := 37) (by decide) (by omega)
        subst hx37
        rw [made_37 marks h37] at hI
        (conv => whnf); repeat ((first | refine tk1 ?_ | refine tk2 ?_ | refine tk3 ?_ | refine tk12 (fun _ => ?_) | refine tk4 ?_ | refine tk5 ?_ | refine tk6 ?_ | refine tk7 ?_ | refine tk8 ?_ | refine tk9 ?_ | refine tk10 (fun _ _ => ?_) | refine tk11 (fun _ => ?_) | refine tk13 ?_ | refine tk14 ?_); (conv => whnf))
        refine SlcS.at (by omega) (by omega) (by omega) ?_
        rw [show (List.take (s.length : Int).toNat s).drop ((i : Int) + 1).toNat = s.drop (i + 1) by rw [Int.toNat_natCast, List.take_length]; congr 1]
        (conv => whnf); repeat ((first | refine tk1 ?_ | refine tk2 ?_ | refine tk3 ?_ | refine tk12 (fun _ => ?_) | refine tk4 ?_ | refine tk5 ?_ | refine tk6 ?_ | refine tk7 ?_ | refine tk8 ?_ | refine tk9 ?_ | refine tk10 (fun _ _ => ?_) | refine tk11 (fun _ => ?_) | refine tk13 ?_ | refine tk14 ?_); (conv => whnf))
        refine CallK.fn (code_f (s.drop (i + 1)) (by rw [List.length_drop]; omega)) ?_
        have hz : (s.drop (i + 1)).length = s.length - (i + 1) := List.length_drop
        match hr : s.drop (i + 1) with
        | [] =>
          rw [hr] at hI
          (conv => whnf); repeat ((first | refine tk1 ?_ | refine tk2 ?_ | refine tk3 ?_ | refine tk12 (fun _ => ?_) | refine tk4 ?_ | refine tk5 ?_ | refine tk6 ?_ | refine tk7 ?_ | refine tk8 ?_ | refine tk9 ?_ | refine tk10 (fun _ _ => ?_) | refine tk11 (fun _ => ?_) | refine tk13 ?_ | refine tk14 ?_); (conv => whnf))
          rw [hI]
        | [y] =>
          rw [hr] at hI
          (conv => whnf); repeat ((first | refine tk1 ?_ | refine tk2 ?_ | refine tk3 ?_ | refine tk12 (fun _ => ?_) | refine tk4 ?_ | refine tk5 ?_ | refine tk6 ?_ | refine tk7 ?_ | refine tk8 ?_ | refine tk9 ?_ | refine tk10 (fun _ _ => ?_) | refine tk11 (fun _ => ?_) | refine tk13 ?_ | refine tk14 ?_); (conv => whnf))
          rw [hI]
        | a :: b :: t =>
          rw [hr] at hI hz
          simp only [List.length_cons] at hz
          have ht : s.drop (i + 3) = t := by
            rw [show i + 3 = (i + 1) + 2 by omega, ← List.drop_drop, hr]; rfl
          cases hh : hexB a && hexB b
          · have hc : codeV (a :: b :: t) = (0, false) := by simp only [codeV, hh]; rfl
            rw [hc]
            simp only [hh, Bool.false_and] at hI
            (conv => whnf); repeat ((first | refine tk1 ?_ | refine tk2 ?_ | refine tk3 ?_ | refine tk12 (fun _ => ?_) | refine tk4 ?_ | refine tk5 ?_ | refine tk6 ?_ | refine tk7 ?_ | refine tk8 ?_ | refine tk9 ?_ | refine tk10 (fun _ _ => ?_) | refine tk11 (fun _ => ?_) | refine tk13 ?_ | refine tk14 ?_); (conv => whnf))
            rw [hI]
          · have hc : codeV (a :: b :: t) = (hexV a b, true) := by simp only [codeV, hh]; rfl
            rw [hc]
            simp only [hh, Bool.true_and] at hI
            (conv => whnf); repeat ((first | refine tk1 ?_ | refine tk2 ?_ | refine tk3 ?_ | refine tk12 (fun _ => ?_) | refine tk4 ?_ | refine tk5 ?_ | refine tk6 ?_ | refine tk7 ?_ | refine tk8 ?_ | refine tk9 ?_ | refine tk10 (fun _ _ => ?_) | refine tk11 (fun _ => ?_) | refine tk13 ?_ | refine tk14 ?_); (conv => whnf))
            exact ⟨i + 3, ⟨by omega, by rw [hI, ht]⟩, rfl, (by repeat' (first | exact List.Sublist.refl _ | exact List.nil_sublist _ | apply List.Sublist.cons_cons | apply List.Sublist.cons)), by dsimp only; omega⟩
  · (conv => whnf); repeat ((first | refine tk1 ?_ | refine tk2 ?_ | refine tk3 ?_ | refine tk12 (fun _ => ?_) | refine tk4 ?_ | refine tk5 ?_ | refine tk6 ?_ | refine tk7 ?_ | refine tk8 ?_ | refine tk9 ?_ | refine tk10 (fun _ _ => ?_) | refine tk11 (fun _ => ?_) | refine tk13 ?_ | refine tk14 ?_); (conv => whnf))
    rw [hI, List.drop_eq_nil_of_le (by omega)]; rfl
theorem head_prefix (s : List UInt8) : Lib.hasPrefix s [47] = (s.head? == some 47) := by
  cases s with
  | nil => rfl
  | cons x r => simp [Lib.hasPrefix, List.isPrefixOf, Bool.beq_comm]
theorem Path_f (s : List UInt8) (hs : s.length ≤ 1000000000) : Fn Tryd.prog gI 57 [str s] (.bool (pathOf s)) := by
  refine Fn.of tys_ok Tryd.func57 rfl (by kernel_rfl) rfl rfl ?_; intro w hG
  (conv => whnf); repeat ((first | refine tk1 ?_ | refine tk2 ?_ | refine tk3 ?_ | refine tk12 (fun _ => ?_) | refine tk4 ?_ | refine tk5 ?_ | refine tk6 ?_ | refine tk7 ?_ | refine tk8 ?_ | refine tk9 ?_ | refine tk10 (fun _ _ => ?_) | refine tk11 (fun _ => ?_) | refine tk13 ?_ | refine tk14 ?_); (conv => whnf))
  refine CallK.fn (HasPrefix_f s [47]) ?_
  rw [head_prefix]
  cases h : (s.head? == some 47)
  · (conv => whnf); repeat ((first | refine tk1 ?_ | refine tk2 ?_ | refine tk3 ?_ | refine tk12 (fun _ => ?_) | refine tk4 ?_ | refine tk5 ?_ | refine tk6 ?_ | refine tk7 ?_ | refine tk8 ?_ | refine tk9 ?_ | refine tk10 (fun _ _ => ?_) | refine tk11 (fun _ => ?_) | refine tk13 ?_ | refine tk14 ?_); (conv => whnf))
    unfold pathOf; rw [h]; rfl
  · (conv => whnf); repeat ((first | refine tk1 ?_ | refine tk2 ?_ | refine tk3 ?_ | refine tk12 (fun _ => ?_) | refine tk4 ?_ | refine tk5 ?_ | refine tk6 ?_ | refine tk7 ?_ | refine tk8 ?_ | refine tk9 ?_ | refine tk10 (fun _ _ => ?_) | refine tk11 (fun _ => ?_) | refine tk13 ?_ | refine tk14 ?_); (conv => whnf))
    refine CallK.fn (made_f s pathL path_37 hs) ?_
    (conv => whnf); repeat ((first | refine tk1 ?_ | refine tk2 ?_ | refine tk3 ?_ | refine tk12 (fun _ => ?_) | refine tk4 ?_ | refine tk5 ?_ | refine tk6 ?_ | refine tk7 ?_ | refine tk8 ?_ | refine tk9 ?_ | refine tk10 (fun _ _ => ?_) | refine tk11 (fun _ => ?_) | refine tk13 ?_ | refine tk14 ?_); (conv => whnf))
    unfold pathOf; rw [h]; rfl
def verV (s : List UInt8) : Int × Bool := match versionOf s with | some v => (v, true) | none => (0, false)
end Go.Proofs.YtnnpnkmdhfjccaaDoor.Vex
/- The program's functions on first lines, reckoned: Parse, Write, Quote, Segments. -/
namespace Go.Proofs.YtnnpnkmdhfjccaaDoor.Vex
open Go Go.RowKit
set_option maxRecDepth 100000
set_option linter.unusedSectionVars false
variable {gI : GI} [HasMax gI]

def rqV (r : Rq) : Value := .agg ⟨[str r.m, str r.p, str r.q, .int .i64 r.v, .slice none 0 0, .slice none 0 0]⟩
theorem Itoa_f [HasPow gI] (n : Int) (h0 : -9223372036854775808 ≤ n) (h1 : n ≤ 9223372036854775807) : Fn Tryd.prog gI 37 [.int .i64 n] (str (Lib.itoa n)) :=
  ⟨callable Tryd.func37 rfl (by kernel_rfl), fun w hG => (Tryd.strconv_Itoa n h0 h1 w (HasPow.ok w hG)).mono fun _ _ ⟨he, k, os, hw⟩ => ⟨he, by
    rw [hw]
    exact ⟨rfl, rfl, rfl, by simp [«Sort».grow, World.drewN], fun i hi => by
      show (w.heap ++ os)[i]? = w.heap[i]?
      exact Array.getElem?_append_left hi⟩⟩⟩
theorem itoa_01 {v : Int} (h : v = 0 ∨ v = 1) : Lib.itoa v = if v = 0 then [48] else [49] := by rcases h with rfl | rfl <;> decide +kernel
end Go.Proofs.YtnnpnkmdhfjccaaDoor.Vex
/- The program's functions on answers as bytes, reckoned: streamed, head. -/
namespace Go.Proofs.YtnnpnkmdhfjccaaDoor.Vex
open Go Go.RowKit
set_option maxRecDepth 100000
set_option linter.unusedSectionVars false
variable {gI : GI} [HasMax gI] [HasPow gI]

theorem anames_f : FnS Tryd.prog gI 65 [] [] 9 1 3 [str (codNm 0), str (codNm 1), str (codNm 2)] := by
  refine FnE.of tys_ok Tryd.func65 rfl (by kernel_rfl) rfl rfl ?_; intro w hG hP
  (conv => whnf); repeat ((first | refine tk1 ?_ | refine tk2 ?_ | refine tk3 ?_ | refine tk12 (fun _ => ?_) | refine tk4 ?_ | refine tk5 ?_ | refine tk6 ?_ | refine tk7 ?_ | refine tk8 ?_ | refine tk9 ?_ | refine tk10 (fun _ _ => ?_) | refine tk11 (fun _ => ?_) | refine tk13 ?_ | refine tk14 ?_); (conv => whnf))
  exact rowPost.of (List.mem_cons_self ..)
theorem AName_f (c : UInt8) (h : c.toNat ≤ 2) : Fn Tryd.prog gI 39 [.int .u8 c.toNat] (.tuple #[str (codNm c.toNat), .int .i64 0]) := by
  refine Fn.of tys_ok Tryd.func39 rfl (by kernel_rfl) rfl rfl ?_; intro w hG
  have hcn : [str (codNm 0), str (codNm 1), str (codNm 2)][c.toNat]? = some (str (codNm c.toNat)) := by
    rcases (show c.toNat = 0 ∨ c.toNat = 1 ∨ c.toNat = 2 by omega) with e | e | e <;> rw [e] <;> rfl
  (conv => whnf); repeat ((first | refine tk1 ?_ | refine tk2 ?_ | refine tk3 ?_ | refine tk12 (fun _ => ?_) | refine tk4 ?_ | refine tk5 ?_ | refine tk6 ?_ | refine tk7 ?_ | refine tk8 ?_ | refine tk9 ?_ | refine tk10 (fun _ _ => ?_) | refine tk11 (fun _ => ?_) | refine tk13 ?_ | refine tk14 ?_); (conv => whnf))
  refine CallK.fnS (anames_f (gI := gI)) trivial (fun A cp => ?_)
  (conv => whnf); repeat ((first | refine tk1 ?_ | refine tk2 ?_ | refine tk3 ?_ | refine tk12 (fun _ => ?_) | refine tk4 ?_ | refine tk5 ?_ | refine tk6 ?_ | refine tk7 ?_ | refine tk8 ?_ | refine tk9 ?_ | refine tk10 (fun _ _ => ?_) | refine tk11 (fun _ => ?_) | refine tk13 ?_ | refine tk14 ?_); (conv => whnf))
  refine IdxA.tc (xs := [str (codNm 0), str (codNm 1), str (codNm 2)]) (by simp) (by omega) (by omega) ?_
  (conv => whnf); repeat ((first | refine tk1 ?_ | refine tk2 ?_ | refine tk3 ?_ | refine tk12 (fun _ => ?_) | refine tk4 ?_ | refine tk5 ?_ | refine tk6 ?_ | refine tk7 ?_ | refine tk8 ?_ | refine tk9 ?_ | refine tk10 (fun _ _ => ?_) | refine tk11 (fun _ => ?_) | refine tk13 ?_ | refine tk14 ?_); (conv => whnf))
  refine Ld.ta (xs := [str (codNm 0), str (codNm 1), str (codNm 2)]) (v := str (codNm c.toNat)) (by simpa using hcn) ?_
  (conv => whnf); repeat ((first | refine tk1 ?_ | refine tk2 ?_ | refine tk3 ?_ | refine tk12 (fun _ => ?_) | refine tk4 ?_ | refine tk5 ?_ | refine tk6 ?_ | refine tk7 ?_ | refine tk8 ?_ | refine tk9 ?_ | refine tk10 (fun _ _ => ?_) | refine tk11 (fun _ => ?_) | refine tk13 ?_ | refine tk14 ?_); (conv => whnf))
theorem streamB_n {ps : List Prt} {cd : Nat} : streamB (ps.map pure1) cd = (!decide (cd = 0) || (decide (1 < ps.length) || (match ps with | [p] => p.f | _ => false))) := by
  unfold streamB
  rw [List.length_map]
  rcases ps with _ | ⟨p, _ | ⟨q, r⟩⟩ <;> rfl
theorem streamed_r (st : Int) (FA : Option Addr) (Fn Fc : Nat) (QA : Option Addr) (Qc : Nat) (ps : List Prt) (cd : UInt8) (tag : List UInt8) (press : Bool) (hn : ps.length ≤ 4000000) :
    FnR Tryd.prog gI 18 [.agg ⟨[.int .i64 st, .slice FA Fn Fc, .slice QA ps.length Qc, .int .u8 cd.toNat, str tag, .bool press]⟩] [(QA, pcells ps)] (.bool (streamB (ps.map pure1) cd.toNat)) := by
  refine FnE.of tys_ok Tryd.func18 rfl (by kernel_rfl) rfl rfl ?_; intro w hG hP
  have hRQ : ∀ H, RdA (mkC Tryd.prog gI w hG) H QA (pcells ps) := fun H => ⟨hP.1.now⟩
  clear hP
  rw [streamB_n]
  (conv => whnf); repeat ((first | refine tk1 ?_ | refine tk2 ?_ | refine tk3 ?_ | refine tk12 (fun _ => ?_) | refine tk4 ?_ | refine tk5 ?_ | refine tk6 ?_ | refine tk7 ?_ | refine tk8 ?_ | refine tk9 ?_ | refine tk10 (fun _ _ => ?_) | refine tk11 (fun _ => ?_) | refine tk13 ?_ | refine tk14 ?_); (conv => whnf))
  refine Cmp.cases (fun c1 => ?_) (fun c1 => ?_)
  · rw [decide_eq_false (show ¬ cd.toNat = 0 by omega)]
    (conv => whnf); repeat ((first | refine tk1 ?_ | refine tk2 ?_ | refine tk3 ?_ | refine tk12 (fun _ => ?_) | refine tk4 ?_ | refine tk5 ?_ | refine tk6 ?_ | refine tk7 ?_ | refine tk8 ?_ | refine tk9 ?_ | refine tk10 (fun _ _ => ?_) | refine tk11 (fun _ => ?_) | refine tk13 ?_ | refine tk14 ?_); (conv => whnf))
    exact fun w' _ => rfl
  rw [decide_eq_true (show cd.toNat = 0 by omega)]
  (conv => whnf); repeat ((first | refine tk1 ?_ | refine tk2 ?_ | refine tk3 ?_ | refine tk12 (fun _ => ?_) | refine tk4 ?_ | refine tk5 ?_ | refine tk6 ?_ | refine tk7 ?_ | refine tk8 ?_ | refine tk9 ?_ | refine tk10 (fun _ _ => ?_) | refine tk11 (fun _ => ?_) | refine tk13 ?_ | refine tk14 ?_); (conv => whnf))
  refine Cmp.cases (fun c2 => ?_) (fun c2 => ?_)
  · rw [decide_eq_true (show 1 < ps.length by omega)]
    (conv => whnf); repeat ((first | refine tk1 ?_ | refine tk2 ?_ | refine tk3 ?_ | refine tk12 (fun _ => ?_) | refine tk4 ?_ | refine tk5 ?_ | refine tk6 ?_ | refine tk7 ?_ | refine tk8 ?_ | refine tk9 ?_ | refine tk10 (fun _ _ => ?_) | refine tk11 (fun _ => ?_) | refine tk13 ?_ | refine tk14 ?_); (conv => whnf))
    exact fun w' _ => rfl
  rw [decide_eq_false (show ¬ 1 < ps.length by omega)]
  rcases ps with _ | ⟨p, _ | ⟨q, r⟩⟩
  · (conv => whnf); repeat ((first | refine tk1 ?_ | refine tk2 ?_ | refine tk3 ?_ | refine tk12 (fun _ => ?_) | refine tk4 ?_ | refine tk5 ?_ | refine tk6 ?_ | refine tk7 ?_ | refine tk8 ?_ | refine tk9 ?_ | refine tk10 (fun _ _ => ?_) | refine tk11 (fun _ => ?_) | refine tk13 ?_ | refine tk14 ?_); (conv => whnf))
    exact fun w' _ => rfl
  · (conv => whnf); repeat ((first | refine tk1 ?_ | refine tk2 ?_ | refine tk3 ?_ | refine tk12 (fun _ => ?_) | refine tk4 ?_ | refine tk5 ?_ | refine tk6 ?_ | refine tk7 ?_ | refine tk8 ?_ | refine tk9 ?_ | refine tk10 (fun _ _ => ?_) | refine tk11 (fun _ => ?_) | refine tk13 ?_ | refine tk14 ?_); (conv => whnf))
    refine IdxA.tc (xs := pcells [p]) (by simp [pcells]) (by decide) (by simp) ?_
    (conv => whnf); repeat ((first | refine tk1 ?_ | refine tk2 ?_ | refine tk3 ?_ | refine tk12 (fun _ => ?_) | refine tk4 ?_ | refine tk5 ?_ | refine tk6 ?_ | refine tk7 ?_ | refine tk8 ?_ | refine tk9 ?_ | refine tk10 (fun _ _ => ?_) | refine tk11 (fun _ => ?_) | refine tk13 ?_ | refine tk14 ?_); (conv => whnf))
    refine Ld.taF (xs := pcells [p]) (v := .bool p.f) rfl ?_
    dsimp only
    cases p.f
    · (conv => whnf); repeat ((first | refine tk1 ?_ | refine tk2 ?_ | refine tk3 ?_ | refine tk12 (fun _ => ?_) | refine tk4 ?_ | refine tk5 ?_ | refine tk6 ?_ | refine tk7 ?_ | refine tk8 ?_ | refine tk9 ?_ | refine tk10 (fun _ _ => ?_) | refine tk11 (fun _ => ?_) | refine tk13 ?_ | refine tk14 ?_); (conv => whnf))
      exact fun w' _ => rfl
    · (conv => whnf); repeat ((first | refine tk1 ?_ | refine tk2 ?_ | refine tk3 ?_ | refine tk12 (fun _ => ?_) | refine tk4 ?_ | refine tk5 ?_ | refine tk6 ?_ | refine tk7 ?_ | refine tk8 ?_ | refine tk9 ?_ | refine tk10 (fun _ _ => ?_) | refine tk11 (fun _ => ?_) | refine tk13 ?_ | refine tk14 ?_); (conv => whnf))
      exact fun w' _ => rfl
  · simp only [List.length_cons] at c2; omega
theorem linesR_take (F : List Fld) (k : Nat) (h : k < F.length) : linesR (F.take (k + 1)) = linesR (F.take k) ++ lineR F[k].1 F[k].2 := by
  unfold linesR
  rw [List.take_succ_eq_append_getElem h, List.flatMap_append]
  simp
theorem linesR_le (F : List Fld) : (linesR F).length ≤ 4 * F.length + fsum F := by
  induction F with
  | nil => simp [linesR]
  | cons a r ih =>
    have e : linesR (a :: r) = lineR a.1 a.2 ++ linesR r := rfl
    rw [e, List.length_append, List.length_cons, fsum_cons]
    simp only [lineR, List.length_append, List.length_cons, List.length_nil]
    omega
theorem linesR_take_le (F : List Fld) (k : Nat) : (linesR (F.take k)).length ≤ (linesR F).length := by
  conv => rhs; rw [← List.take_append_drop k F]
  unfold linesR
  rw [List.flatMap_append, List.length_append]
  omega
theorem write_q {c : Ctx} (hc : Ours Tryd.prog gI c) {q b : Nat} {vq : List Value} {tq : TypeId} {A : Option Addr} {cp : Nat} {l : List UInt8} {Dn : Option Addr} {dn dc : Nat} {SA : Option Addr} {sc : Nat} {ts : List (List UInt8)} {X : Hp} {K : Value → Hp → Prop} (hl : l.length + ts.flatten.length ≤ 4000000000) (ht : ts.length ≤ 1000000)
    (k : ∀ v A' cp', K v (.box b [.slice A' (l ++ ts.flatten).length cp', .slice Dn dn dc] 54 :: .row (.slice A' (l ++ ts.flatten).length cp') 5 1 (l ++ ts.flatten).length ((l ++ ts.flatten).map byteV) :: .box q vq tq :: X)) :
    CallK c false 22 [.pointer (some ⟨b, 0, none⟩), .slice SA ts.length sc] (.row (.slice SA ts.length sc) 9 1 ts.length (ts.map str) :: .box q vq tq :: .box b [.slice A l.length cp, .slice Dn dn dc] 54 :: .row (.slice A l.length cp) 5 1 l.length (l.map byteV) :: X) K :=
  CallK.into (Cv.into (by (try dsimp only); repeat' (first | with_reducible exact Cv.refl | with_reducible exact Cv.left | with_reducible exact Cv.right | with_reducible exact Cv.nil | (with_reducible apply Cv.cons; focus ((repeat (first | with_reducible exact Pick.here | with_reducible apply Pick.skip)); done)) | (apply Cv.cons; focus ((repeat (first | exact Pick.here | apply Pick.skip)); done)) | exact Cv.nil | exact Cv.refl | exact Cv.left | exact Cv.right | refine Cv.skip ?_))) (write_k hc (X := .box q vq tq :: X) hl ht k)
set_option maxHeartbeats 8000000 in
theorem head_k {c : Ctx} (hc : Ours Tryd.prog gI c) {b : Nat} {A : Option Addr} {cp : Nat} {l : List UInt8} {Dn : Option Addr} {dn dc : Nat} {X : Hp} {K : Value → Hp → Prop} (st : Int) (FA : Option Addr) (Fc : Nat) (F : List Fld) (QA : Option Addr) (Qc : Nat) (ps : List Prt) (cd : UInt8) (tag : List UInt8) (press ch cl : Bool)
    (hRF : ∀ H, RdA c H FA (fcells F)) (hRQ : ∀ H, RdA c H QA (pcells ps)) (hPQ : ∀ H w, St c H w → PrtsOk w QA ps) (hF : fsum F ≤ 1048576) (hn : ps.length ≤ 4000000) (htl : total (ps.map pure1) ≤ 4000000) (hl : l.length ≤ 1000000) (hcd : cd.toNat ≤ 2) (hst : 200 ≤ st) (hst2 : st ≤ 599)
    (k : ∀ v A' cp' L, L = l ++ headR st F (ps.map pure1) cd.toNat ch cl → K v (.box b [.slice A' L.length cp', .slice Dn dn dc] 54 :: .row (.slice A' L.length cp') 5 1 L.length (L.map byteV) :: X)) :
    CallK c false 20 [.pointer (some ⟨b, 0, none⟩), .agg ⟨[.int .i64 st, .slice FA F.length Fc, .slice QA ps.length Qc, .int .u8 cd.toNat, str tag, .bool press]⟩, .bool ch, .bool cl] (.box b [.slice A l.length cp, .slice Dn dn dc] 54 :: .row (.slice A l.length cp) 5 1 l.length (l.map byteV) :: X) K := by
  obtain ⟨P, g, w0, M, hM, hG⟩ := c
  have hc' := hc
  obtain ⟨rfl, rfl⟩ := hc
  have hll := linesR_le F
  have hFl := fsum_length F
  refine CallK.post ?_
  refine CallK.inl tys_ok Tryd.func20 rfl (by kernel_rfl) rfl rfl ?_
  (conv => whnf); repeat ((first | refine tk1 ?_ | refine tk2 ?_ | refine tk3 ?_ | refine tk12 (fun _ => ?_) | refine tk4 ?_ | refine tk5 ?_ | refine tk6 ?_ | refine tk7 ?_ | refine tk8 ?_ | refine tk9 ?_ | refine tk10 (fun _ _ => ?_) | refine tk11 (fun _ => ?_) | refine tk13 ?_ | refine tk14 ?_); (conv => whnf))
  rename_i q a5
  refine DrawS.goW [5] [(0, true), (1, true), (2, true), (3, true), (4, false), (5, false)] tys_ok mixed (by kernel_rfl) ?_
  (conv => whnf); repeat ((first | refine tk1 ?_ | refine tk2 ?_ | refine tk3 ?_ | refine tk12 (fun _ => ?_) | refine tk4 ?_ | refine tk5 ?_ | refine tk6 ?_ | refine tk7 ?_ | refine tk8 ?_ | refine tk9 ?_ | refine tk10 (fun _ _ => ?_) | refine tk11 (fun _ => ?_) | refine tk13 ?_ | refine tk14 ?_); (conv => whnf))
  refine CallQ.fn (Itoa_f st (by omega) (by omega)) ?_
  have hit := Lib.itoa_length_le st (by omega) (by omega)
  (conv => whnf); repeat ((first | refine tk1 ?_ | refine tk2 ?_ | refine tk3 ?_ | refine tk12 (fun _ => ?_) | refine tk4 ?_ | refine tk5 ?_ | refine tk6 ?_ | refine tk7 ?_ | refine tk8 ?_ | refine tk9 ?_ | refine tk10 (fun _ _ => ?_) | refine tk11 (fun _ => ?_) | refine tk13 ?_ | refine tk14 ?_); (conv => whnf))
  rename_i sb
  refine CallK.into (G := .row (.slice (some ⟨sb, 0, none⟩) 4 4) 9 1 4 ([firstR, Lib.itoa st, [32], [13, 10]].map str) :: .box b [.slice A l.length cp, .slice Dn dn dc] 54 :: .row (.slice A l.length cp) 5 1 l.length (l.map byteV) :: .box q [.pointer (some ⟨b, 0, none⟩)] 52 :: .box a5 [.int .i64 st, .slice FA F.length Fc, .slice QA ps.length Qc, .int .u8 cd.toNat, str tag, .bool press] 25 :: X) (Cv.into (by (try dsimp only); repeat' (first | with_reducible exact Cv.refl | with_reducible exact Cv.left | with_reducible exact Cv.right | with_reducible exact Cv.nil | (with_reducible apply Cv.cons; focus ((repeat (first | with_reducible exact Pick.here | with_reducible apply Pick.skip)); done)) | (apply Cv.cons; focus ((repeat (first | exact Pick.here | apply Pick.skip)); done)) | exact Cv.nil | exact Cv.refl | exact Cv.left | exact Cv.right | refine Cv.skip ?_))) ?_
  have hfl : [firstR, Lib.itoa st, [32], [13, 10]].flatten = firstR ++ Lib.itoa st ++ [32, 13, 10] := by simp
  have hfz : (firstR ++ Lib.itoa st ++ [32, 13, 10]).length ≤ 40 := by simp [firstR]; omega
  refine write_k hc' (ts := [firstR, Lib.itoa st, [32], [13, 10]]) (X := .box q [.pointer (some ⟨b, 0, none⟩)] 52 :: .box a5 [.int .i64 st, .slice FA F.length Fc, .slice QA ps.length Qc, .int .u8 cd.toNat, str tag, .bool press] 25 :: X) (by rw [hfl]; omega) (by simp) (fun _ A1 cp1 => ?_)
  rw [hfl]
  obtain ⟨l1, hl1⟩ : ∃ l1, l ++ (firstR ++ Lib.itoa st ++ [32, 13, 10]) = l1 := ⟨_, rfl⟩
  have hz1 : l1.length ≤ 1000040 := by rw [← hl1, List.length_append]; omega
  rw [hl1]
  (conv => whnf); repeat ((first | refine tk1 ?_ | refine tk2 ?_ | refine tk3 ?_ | refine tk12 (fun _ => ?_) | refine tk4 ?_ | refine tk5 ?_ | refine tk6 ?_ | refine tk7 ?_ | refine tk8 ?_ | refine tk9 ?_ | refine tk10 (fun _ _ => ?_) | refine tk11 (fun _ => ?_) | refine tk13 ?_ | refine tk14 ?_); (conv => whnf))
  refine LoopS.lpT tys_ok (fun (x : Nat × Option Addr × Nat) u => [u 0, u 1, .bool ch, .bool cl, .pointer (some ⟨q, 0, none⟩), .pointer (some ⟨a5, 0, none⟩), u 6, u 7, .func (.func 38) ⟨[]⟩ ⟨[.pointer (some ⟨q, 0, none⟩)]⟩, u 9, u 10, u 11, u 12, u 13, u 14, u 15, u 16, u 17, u 18, u 19, u 20, .slice FA F.length Fc, .int .i64 F.length, .int .i64 (x.1 : Nat), u 24, u 25, u 26, u 27, u 28, u 29, u 30, u 31, u 32, u 33, u 34, u 35, u 36, u 37, u 38, u 39, u 40, u 41, u 42, u 43, u 44, u 45, u 46, u 47, u 48, u 49, u 50, u 51, u 52, u 53, u 54, u 55, u 56, u 57, u 58, u 59, u 60, u 61, u 62, u 63, u 64, u 65, u 66, u 67, u 68, u 69, u 70])
    (fun x => .box q [.pointer (some ⟨b, 0, none⟩)] 52 :: .box b [.slice x.2.1 (l1 ++ linesR (F.take x.1)).length x.2.2, .slice Dn dn dc] 54 :: .row (.slice x.2.1 (l1 ++ linesR (F.take x.1)).length x.2.2) 5 1 (l1 ++ linesR (F.take x.1)).length ((l1 ++ linesR (F.take x.1)).map byteV) :: .box a5 [.int .i64 st, .slice FA F.length Fc, .slice QA ps.length Qc, .int .u8 cd.toNat, str tag, .bool press] 25 :: X)
    (fun x => x.1 ≤ F.length) (fun x => F.length - x.1) (0, A1, cp1) (Nat.zero_le _) rfl (by simp only [List.take_zero, linesR, List.flatMap_nil, List.append_nil]; exact Cv.into (by (try dsimp only); repeat' (first | with_reducible exact Cv.refl | with_reducible exact Cv.left | with_reducible exact Cv.right | with_reducible exact Cv.nil | (with_reducible apply Cv.cons; focus ((repeat (first | with_reducible exact Pick.here | with_reducible apply Pick.skip)); done)) | (apply Cv.cons; focus ((repeat (first | exact Pick.here | apply Pick.skip)); done)) | exact Cv.nil | exact Cv.refl | exact Cv.left | exact Cv.right | refine Cv.skip ?_))) ?_
  rintro ⟨i, A2, cp2⟩ u hi
  dsimp only at hi ⊢
  have hti := linesR_take_le F i
  have hz2 : (l1 ++ linesR (F.take i)).length ≤ 8000000 := by rw [List.length_append]; omega
  by_cases hlt : i < F.length
  · as_aux_lemma =>
    have h2 := fcells_two F i hlt
    have hm9 := List.getElem_mem hlt
    have hz := fsum_mem hm9
    have hnx := linesR_take F i hlt
    obtain ⟨n, v, hf⟩ : ∃ n v, F[i] = (n, v) := ⟨_, _, rfl⟩
    rw [hf] at h2 hz hnx
    dsimp only at hz hnx
    (conv => whnf); repeat ((first | refine tk1 ?_ | refine tk2 ?_ | refine tk3 ?_ | refine tk12 (fun _ => ?_) | refine tk4 ?_ | refine tk5 ?_ | refine tk6 ?_ | refine tk7 ?_ | refine tk8 ?_ | refine tk9 ?_ | refine tk10 (fun _ _ => ?_) | refine tk11 (fun _ => ?_) | refine tk13 ?_ | refine tk14 ?_); (conv => whnf))
    refine IdxA.tc (xs := fcells F) (by rw [fcells_length]; omega) (by omega) (by omega) ?_
    (conv => whnf); repeat ((first | refine tk1 ?_ | refine tk2 ?_ | refine tk3 ?_ | refine tk12 (fun _ => ?_) | refine tk4 ?_ | refine tk5 ?_ | refine tk6 ?_ | refine tk7 ?_ | refine tk8 ?_ | refine tk9 ?_ | refine tk10 (fun _ _ => ?_) | refine tk11 (fun _ => ?_) | refine tk13 ?_ | refine tk14 ?_); (conv => whnf))
    refine Ld.taN h2 rfl ?_
    (conv => whnf); repeat ((first | refine tk1 ?_ | refine tk2 ?_ | refine tk3 ?_ | refine tk12 (fun _ => ?_) | refine tk4 ?_ | refine tk5 ?_ | refine tk6 ?_ | refine tk7 ?_ | refine tk8 ?_ | refine tk9 ?_ | refine tk10 (fun _ _ => ?_) | refine tk11 (fun _ => ?_) | refine tk13 ?_ | refine tk14 ?_); (conv => whnf))
    refine CallK.into (G := .box q [.pointer (some ⟨b, 0, none⟩)] 52 :: .box b [.slice A2 (l1 ++ linesR (F.take i)).length cp2, .slice Dn dn dc] 54 :: .row (.slice A2 (l1 ++ linesR (F.take i)).length cp2) 5 1 (l1 ++ linesR (F.take i)).length ((l1 ++ linesR (F.take i)).map byteV) :: .box a5 [.int .i64 st, .slice FA F.length Fc, .slice QA ps.length Qc, .int .u8 cd.toNat, str tag, .bool press] 25 :: X) (Cv.into (by (try dsimp only); repeat' (first | with_reducible exact Cv.refl | with_reducible exact Cv.left | with_reducible exact Cv.right | with_reducible exact Cv.nil | (with_reducible apply Cv.cons; focus ((repeat (first | with_reducible exact Pick.here | with_reducible apply Pick.skip)); done)) | (apply Cv.cons; focus ((repeat (first | exact Pick.here | apply Pick.skip)); done)) | exact Cv.nil | exact Cv.refl | exact Cv.left | exact Cv.right | refine Cv.skip ?_))) ?_
    refine line_c hc' n v (by omega) (fun _ A3 cp3 => ?_)
    (conv => whnf); repeat ((first | refine tk1 ?_ | refine tk2 ?_ | refine tk3 ?_ | refine tk12 (fun _ => ?_) | refine tk4 ?_ | refine tk5 ?_ | refine tk6 ?_ | refine tk7 ?_ | refine tk8 ?_ | refine tk9 ?_ | refine tk10 (fun _ _ => ?_) | refine tk11 (fun _ => ?_) | refine tk13 ?_ | refine tk14 ?_); (conv => whnf))
    exact ⟨(i + 1, A3, cp3), by dsimp only; omega, rfl, by dsimp only; rw [hnx, ← List.append_assoc]; exact Cv.into (by (try dsimp only); repeat' (first | with_reducible exact Cv.refl | with_reducible exact Cv.left | with_reducible exact Cv.right | with_reducible exact Cv.nil | (with_reducible apply Cv.cons; focus ((repeat (first | with_reducible exact Pick.here | with_reducible apply Pick.skip)); done)) | (apply Cv.cons; focus ((repeat (first | exact Pick.here | apply Pick.skip)); done)) | exact Cv.nil | exact Cv.refl | exact Cv.left | exact Cv.right | refine Cv.skip ?_)), by dsimp only; omega⟩
  obtain rfl : i = F.length := by omega
  rw [List.take_length] at hz2 ⊢
  obtain ⟨l2, hl2⟩ : ∃ l2, l1 ++ linesR F = l2 := ⟨_, rfl⟩
  rw [hl2] at hz2 ⊢
  have hcn : (codNm cd.toNat).length ≤ 20 := by unfold codNm; split <;> (try split) <;> decide
  have hitl := Lib.itoa_length_le (total (ps.map pure1) : Nat) (by omega) (by omega)
  have hnm := AName_f (gI := g) cd hcd
  have e0 : l2 = l ++ (firstR ++ Lib.itoa st ++ [32, 13, 10]) ++ linesR F := by rw [← hl2, ← hl1]
  clear hi hlt hl1 hl2
  have hstr := streamed_r (gI := g) st FA F.length Fc QA Qc ps cd tag press hn
  by_cases c0 : cd.toNat = 0 <;> cases hb : bareB st <;> cases ch <;> cases hs : streamB (ps.map pure1) cd.toNat <;> cases cl
  all_goals as_aux_lemma =>
    (conv => whnf); repeat ((first | refine tk1 ?_ | refine tk2 ?_ | refine tk3 ?_ | refine tk12 (fun _ => ?_) | refine tk4 ?_ | refine tk5 ?_ | refine tk6 ?_ | refine tk7 ?_ | refine tk8 ?_ | refine tk9 ?_ | refine tk10 (fun _ _ => ?_) | refine tk11 (fun _ => ?_) | refine tk13 ?_ | refine tk14 ?_); (conv => whnf))
    try (refine CallK.fn hnm ?_)
    try ((conv => whnf); repeat ((first | refine tk1 ?_ | refine tk2 ?_ | refine tk3 ?_ | refine tk12 (fun _ => ?_) | refine tk4 ?_ | refine tk5 ?_ | refine tk6 ?_ | refine tk7 ?_ | refine tk8 ?_ | refine tk9 ?_ | refine tk10 (fun _ _ => ?_) | refine tk11 (fun _ => ?_) | refine tk13 ?_ | refine tk14 ?_); (conv => whnf)))
    try (refine line_c hc' ceN (codNm cd.toNat) (by simp [ceN]; omega) (fun _ _ _ => ?_))
    try ((conv => whnf); repeat ((first | refine tk1 ?_ | refine tk2 ?_ | refine tk3 ?_ | refine tk12 (fun _ => ?_) | refine tk4 ?_ | refine tk5 ?_ | refine tk6 ?_ | refine tk7 ?_ | refine tk8 ?_ | refine tk9 ?_ | refine tk10 (fun _ _ => ?_) | refine tk11 (fun _ => ?_) | refine tk13 ?_ | refine tk14 ?_); (conv => whnf)))
    refine CallK.fn (bare_f st) ?_
    rw [hb]
    (conv => whnf); repeat ((first | refine tk1 ?_ | refine tk2 ?_ | refine tk3 ?_ | refine tk12 (fun _ => ?_) | refine tk4 ?_ | refine tk5 ?_ | refine tk6 ?_ | refine tk7 ?_ | refine tk8 ?_ | refine tk9 ?_ | refine tk10 (fun _ _ => ?_) | refine tk11 (fun _ => ?_) | refine tk13 ?_ | refine tk14 ?_); (conv => whnf))
    try (refine line_c hc' teN chunkedN (by simp [lineR, teN, chunkedN, ceN]; omega) (fun _ _ _ => ?_))
    try ((conv => whnf); repeat ((first | refine tk1 ?_ | refine tk2 ?_ | refine tk3 ?_ | refine tk12 (fun _ => ?_) | refine tk4 ?_ | refine tk5 ?_ | refine tk6 ?_ | refine tk7 ?_ | refine tk8 ?_ | refine tk9 ?_ | refine tk10 (fun _ _ => ?_) | refine tk11 (fun _ => ?_) | refine tk13 ?_ | refine tk14 ?_); (conv => whnf)))
    try (refine CallK.fnR hstr ⟨(hRQ _).ok, trivial⟩ ?_; rw [hs])
    try ((conv => whnf); repeat ((first | refine tk1 ?_ | refine tk2 ?_ | refine tk3 ?_ | refine tk12 (fun _ => ?_) | refine tk4 ?_ | refine tk5 ?_ | refine tk6 ?_ | refine tk7 ?_ | refine tk8 ?_ | refine tk9 ?_ | refine tk10 (fun _ _ => ?_) | refine tk11 (fun _ => ?_) | refine tk13 ?_ | refine tk14 ?_); (conv => whnf)))
    try (refine CallK.fnG (G := fun v => v) (Body_f QA Qc ps hn htl) (fun w hw => hPQ _ w hw) (fun _ _ _ => ?_); rw [total_bodyOf])
    try ((conv => whnf); repeat ((first | refine tk1 ?_ | refine tk2 ?_ | refine tk3 ?_ | refine tk12 (fun _ => ?_) | refine tk4 ?_ | refine tk5 ?_ | refine tk6 ?_ | refine tk7 ?_ | refine tk8 ?_ | refine tk9 ?_ | refine tk10 (fun _ _ => ?_) | refine tk11 (fun _ => ?_) | refine tk13 ?_ | refine tk14 ?_); (conv => whnf)))
    try (refine CallK.fn (Itoa_f (total (ps.map pure1) : Nat) (by omega) (by omega)) ?_)
    try ((conv => whnf); repeat ((first | refine tk1 ?_ | refine tk2 ?_ | refine tk3 ?_ | refine tk12 (fun _ => ?_) | refine tk4 ?_ | refine tk5 ?_ | refine tk6 ?_ | refine tk7 ?_ | refine tk8 ?_ | refine tk9 ?_ | refine tk10 (fun _ _ => ?_) | refine tk11 (fun _ => ?_) | refine tk13 ?_ | refine tk14 ?_); (conv => whnf)))
    try (refine CallK.into (Into.skip Into.refl) ?_; refine line_c hc' clN (Lib.itoa (total (ps.map pure1) : Nat)) (by simp [lineR, clN, ceN]; omega) (fun _ _ _ => ?_))
    try ((conv => whnf); repeat ((first | refine tk1 ?_ | refine tk2 ?_ | refine tk3 ?_ | refine tk12 (fun _ => ?_) | refine tk4 ?_ | refine tk5 ?_ | refine tk6 ?_ | refine tk7 ?_ | refine tk8 ?_ | refine tk9 ?_ | refine tk10 (fun _ _ => ?_) | refine tk11 (fun _ => ?_) | refine tk13 ?_ | refine tk14 ?_); (conv => whnf)))
    try (refine line_c hc' coN closeN (by simp [lineR, coN, closeN, clN, ceN, teN, chunkedN]; omega) (fun _ _ _ => ?_))
    try ((conv => whnf); repeat ((first | refine tk1 ?_ | refine tk2 ?_ | refine tk3 ?_ | refine tk12 (fun _ => ?_) | refine tk4 ?_ | refine tk5 ?_ | refine tk6 ?_ | refine tk7 ?_ | refine tk8 ?_ | refine tk9 ?_ | refine tk10 (fun _ _ => ?_) | refine tk11 (fun _ => ?_) | refine tk13 ?_ | refine tk14 ?_); (conv => whnf)))
    refine write_q hc' (ts := [[13, 10]]) (by simp [lineR, coN, closeN, clN, ceN, teN, chunkedN]; omega) (by simp) (fun _ _ _ => ?_)
    (conv => whnf); repeat ((first | refine tk1 ?_ | refine tk2 ?_ | refine tk3 ?_ | refine tk12 (fun _ => ?_) | refine tk4 ?_ | refine tk5 ?_ | refine tk6 ?_ | refine tk7 ?_ | refine tk8 ?_ | refine tk9 ?_ | refine tk10 (fun _ _ => ?_) | refine tk11 (fun _ => ?_) | refine tk13 ?_ | refine tk14 ?_); (conv => whnf))
    have hs' := hs
    try rw [c0] at hs'
    exact ⟨_, Cv.into (by (try dsimp only); repeat' (first | with_reducible exact Cv.refl | with_reducible exact Cv.left | with_reducible exact Cv.right | with_reducible exact Cv.nil | (with_reducible apply Cv.cons; focus ((repeat (first | with_reducible exact Pick.here | with_reducible apply Pick.skip)); done)) | (apply Cv.cons; focus ((repeat (first | exact Pick.here | apply Pick.skip)); done)) | exact Cv.nil | exact Cv.refl | exact Cv.left | exact Cv.right | refine Cv.skip ?_)), k _ _ _ _ (by rw [e0]; simp [headR, lengthR, c0, hb, hs, hs'])⟩
end Go.Proofs.YtnnpnkmdhfjccaaDoor.Vex
/- A walk by reckoning, part twenty-one: arrays; slices made; copying; functions of the machine. No program in sight. -/
namespace Go.Proofs.YtnnpnkmdhfjccaaDoor.Vex
open Go Go.RowKit

section
variable {c : Ctx} {T : Ty} {H : Hp} {fr : Fr} {dst : Option Nat} {ty : TypeId} {pos : String} {after : Array Edge} {gd : Option (Nat × Bool)}
/-- An array's element, behind a pointer. -/
theorem OthP.idxArr {t e n : Nat} {x i : Operand} {b : Nat} {k : IntKind} {z : Int} {K : Value → Prop} (hT : TOk c.P T) (ht : (lookT T t).d = .array n e) (he : (lookT T e).d ≠ .invalid) (hs : (lookT T e).size = 1)
    (hx : evK fr x fun v => v = .pointer (some ⟨b, 0, none⟩)) (hi : evK fr i fun v => v = .int k z) (h0 : 0 ≤ z) (h1 : z < n) (kk : K (.pointer (some ⟨b, z.toNat, none⟩))) :
    OthP c ⟨dst, .indexAddr t x i, ty, pos, after, gd⟩ fr H K := ⟨⟨_, kk, fun w _ => by
  rw [evK_eq] at hx hi
  have hu := (lookT_ok hT (t := t) (by rw [ht]; intro h; cases h)).1
  rw [ht] at hu
  have hse := run_sizeOf (lookT_ok hT he) w
  rw [hs] at hse
  have hr : (Instr.indexAt t (.pointer (some ⟨b, 0, none⟩)) (.int k z)).run c.P w = .ok (.pointer (some ⟨b, z.toNat, none⟩)) w := by
    simp [Instr.indexAt, asIntOf, run_underlying hu, Instr.sureAddr, h0, h1, hse, Addr.add_lit]
  generalize (act fr).eval = ρ at *
  simp only [execOp, hx, hi, Sem.run_bind, hr, Result.andThen_ok, Sem.run_pure]⟩⟩
/-- An array, built of cells. -/
theorem OthP.mkArr {t e n : Nat} {ps : Array (Nat × Operand)} {z cs : List Value} {K : Value → Prop} (hT : TOk c.P T) (ht : (lookT T t).d = .array n e) (he : (lookT T e).d ≠ .invalid) (hs : (lookT T e).size = 1) (hz : (lookT T t).zero = .agg ⟨z⟩)
    (hf : evPK fr ps.toList fun ps => fillL ((List.range n).map fun i => (i * 1, 1)) ps z = some cs) (kk : K (.agg ⟨cs⟩)) :
    OthP c ⟨dst, .build t ps, ty, pos, after, gd⟩ fr H K := ⟨⟨_, kk, fun w _ => by
  rw [evPK_eq] at hf
  have hi := lookT_ok hT (t := t) (by rw [ht]; intro h; cases h)
  have hu := hi.1
  rw [ht] at hu
  have hse := run_sizeOf (lookT_ok hT he) w
  rw [hs] at hse
  have hzv := run_zeroValue hi w
  rw [hz] at hzv
  have hfill := fill_eq _ (fun i => some (i * 1, 1)) (fun i p hp => by
    rw [List.getElem?_map] at hp
    cases hr : (List.range n)[i]? with
    | none => rw [hr] at hp; cases hp
    | some j =>
      rw [hr] at hp
      obtain ⟨hj, he'⟩ := List.getElem?_eq_some_iff.1 hr
      simp at he'
      subst he'
      simpa using hp) _ _ cs hf
  have e2 : (Array.map (fun x => match x with | (i, x) => (i, (act fr).eval x)) ps).toList = ps.toList.map fun p => (p.1, (act fr).eval p.2) := by simp
  have hb : (Instr.build t (ps.map fun (i, x) => (i, (act fr).eval x))).run c.P w = .ok (.agg ⟨cs⟩) w := by
    unfold Instr.build
    simp only [Sem.run_bind, hzv, Result.andThen_ok, run_underlying hu, hse, Value.cells, e2, hfill, Sem.run_pure]
  simp only [execOp, Sem.run_bind, hb, Result.andThen_ok, Sem.run_pure]⟩⟩
/-- A slice of bytes, made: as a box. -/
theorem Oth.make {m : Bool} {t e : Nat} {x y : Operand} {n : Nat} {K : Value → Hp → Prop} (hT : TOk c.P T) (ht : (lookT T t).d = .slice e) (he : (lookT T e).d ≠ .invalid) (hz : (lookT T e).zero = .int .u8 0) (hs : (lookT T e).size = 1) (hb : (lookT T e).bytes = 1)
    (hx : evK fr x fun v => v = .int .i64 n) (hy : evK fr y fun v => v = .int .i64 n) (hn : n ≤ 1000000000) (k : ∀ b, K (.slice (some ⟨b, 0, none⟩) n n) (.box b (List.replicate n (.int .u8 0)) e :: H)) :
    Oth c m ⟨dst, .makeSlice t x y, ty, pos, after, gd⟩ fr H K := ⟨fun w hw => by
  rw [evK_eq] at hx hy
  have hu := (lookT_ok hT (t := t) (by rw [ht]; intro h; cases h)).1
  rw [ht] at hu
  have hi := (lookT_ok hT he).2.1
  obtain ⟨i, hi, hiz, his, hib⟩ : ∃ i, c.P.info? e = some i ∧ i.zero = some (.int .u8 0) ∧ i.size = 1 ∧ i.bytes = 1 := by
    cases h : c.P.info? e with
    | none => rw [h] at hi; cases hi
    | some i =>
      rw [h] at hi
      simp only [Option.map_some, Option.some.injEq, Prod.mk.injEq] at hi
      exact ⟨i, rfl, by rw [hi.1, hz], by rw [hi.2.1, hs], by rw [hi.2.2, hb]⟩
  have hr := run_make (P := c.P) w t e i _ hu hi hiz .i64 .i64 n n (by omega) (by omega) (by rw [hib]; omega) (by omega)
  have hc : madeCells (Value.int .u8 0).cells ((n : Int).toNat * i.size) = ⟨List.replicate n (.int .u8 0)⟩ := by
    rw [his, Nat.mul_one, Int.toNat_natCast, ← Array.toList_inj]
    apply List.ext_getElem
    · simp [madeCells]
    · intro j h1 h2
      simp [madeCells, Value.cells, Nat.mod_one]
  rw [hc] at hr
  simp only [Int.toNat_natCast] at hr
  refine ⟨_, _, _, ?_, hw.alloc (List.replicate n (.int .u8 0)) e, k _, fun _ => (Below.refl _ _).alloc (Nat.le_refl _) _⟩
  generalize (act fr).eval = ρ at *
  simp only [execOp, hx, hy, Sem.run_bind, hr, Result.andThen_ok, Sem.run_pure]⟩
/-- A box's cells are read as a slice. -/
theorem RdS.box {b : Nat} {vs : List Value} {t : TypeId} {f : List Value → Hp} [h : BoxAt b H vs t f] : RdS c H (some ⟨b, 0, none⟩) vs := fun w hw j u hj => by
  obtain ⟨H1, H2, rfl, _⟩ := h.ok
  have hg : w.heap[b]? = some (.cells ⟨vs⟩ t (0, 0)) := (hw.own (.box b vs t) (by simp)).1
  exact ⟨_, rfl, by rw [Addr.add_lit, Nat.zero_add, cell_of_row w b j ⟨vs⟩ t _ hg]; simpa using hj⟩
/-- A box is written over by bytes that lie elsewhere. -/
theorem Oth.copy {dT sT e : Nat} {x y : Operand} {b n cp cq j : Nat} {A : Option Addr} {vs news : List Value} {t : TypeId} {f : List Value → Hp} {K : Value → Hp → Prop} [h : BoxAt b H vs t f]
    (hT : TOk c.P T) (ht : (lookT T dT).d = .slice e) (he : (lookT T e).d ≠ .invalid) (hs : (lookT T e).size = 1)
    (hx : evK fr x fun v => v = .slice (some ⟨b, 0, none⟩) n cp) (hy : evK fr y fun v => v = .slice A j cq) (hr : RdS c H A news) (hv : vs.length = n) (hn : news.length = n) (h0 : 0 < n) (hj : n ≤ j) (h1 : ∀ u ∈ news, u.oneCell' = true) (k : K (.int .i64 n) (f news)) :
    Oth c false ⟨dst, .call ⟨.builtin .copy, #[x, y], #[dT, sT]⟩, ty, pos, after, gd⟩ fr H K := ⟨fun w hw => by
  rw [evK_eq] at hx hy
  obtain ⟨H1, H2, rfl, hf⟩ := h.ok
  rw [hf] at k
  have hu := (lookT_ok hT (t := dT) (by rw [ht]; intro h; cases h)).1
  rw [ht] at hu
  have hi : (c.P.info? e).map (·.size) = some 1 := by
    have hi := (lookT_ok hT he).2.1
    cases h : c.P.info? e with
    | none => rw [h] at hi; cases hi
    | some i =>
      rw [h] at hi
      simp only [Option.map_some, Option.some.injEq, Prod.mk.injEq] at hi ⊢
      rw [hi.2.1, hs]
  have hw1 := hw.perm (List.perm_middle (a := Ent.box b vs t))
  have hg : w.heap[b]? = some (.cells ⟨vs⟩ t (0, 0)) := (hw1.own _ (List.mem_cons_self ..)).1
  have hst := (hw1.setRow (vs' := news)).perm (List.perm_middle (a := Ent.box b news t)).symm
  obtain ⟨a, rfl, _⟩ := hr w hw 0 news[0] (by rw [List.getElem?_eq_getElem])
  have hrun := run_copy_row (P := c.P) w dT sT ty e b 0 n cp a j cq ⟨vs⟩ t news hu hi hg (by rw [hn]; exact (Nat.min_eq_right hj).symm) (fun i v hv => by
    obtain ⟨a', ha, hc⟩ := hr w hw i v hv
    cases ha
    exact hc) (by simp [hv, hn]) h1
  have hcs : (List.take 0 (⟨vs⟩ : Array Value).toList ++ news ++ List.drop (0 + news.length) (⟨vs⟩ : Array Value).toList).toArray = ⟨news⟩ := by
    rw [← Array.toList_inj]
    simp [List.drop_eq_nil_of_le (show vs.length ≤ news.length by omega)]
  rw [hcs, hn] at hrun
  refine ⟨_, _, _, ?_, hst, k, fun h => by cases h⟩
  have ea : (#[x, y] : Array Operand).map (act fr).eval = #[(act fr).eval x, (act fr).eval y] := by simp
  generalize (act fr).eval = ρ at *
  simp only [execOp, resolve, Sem.run_bind, Sem.run_pure, Result.andThen_ok, invoke, builtin, ea, hx, hy]
  rw [hrun]
  rfl⟩
/-- A function of the machine's own. -/
theorem CallK.ext {m : Bool} {f : Nat} {args : List Value} {v : Value} {K : Value → Hp → Prop} (h : ∀ w, c.g.G w → (callFunc f ⟨args⟩).run c.P w = .ok (.value v) w) (k : K v H) : CallK c m f args H K :=
  ⟨.inr fun w hw => ⟨v, w, H, h w hw.glob, hw, k, fun _ => R.refl _⟩⟩
theorem CallK.ext' {m : Bool} {f : Nat} {args : List Value} {v : Value} {K : Value → Hp → Prop} (h : ∀ w, St c H w → (callFunc f ⟨args⟩).run c.P w = .ok (.value v) w) (k : K v H) : CallK c m f args H K :=
  ⟨.inr fun w hw => ⟨v, w, H, h w hw, hw, k, fun _ => R.refl _⟩⟩
/-- What lay there before lies there still. -/
theorem St.old {p : Addr} {v : Value} {w : World} (hw : St c H w) (h : c.w0.cell? p = some v) (hM : p.block ∉ c.M) : w.cell? p = some v :=
  (World.cell?_of_block (hw.mod.block _ (World.block_lt_of_cell? _ _ h) hM)).trans h
/-- A rune, as a text. -/
theorem OthP.rune {src d : Nat} {x : Operand} {k : IntKind} {n : Int} {K : Value → Prop} (hT : TOk c.P T) (hs : (lookT T src).d ≠ .invalid) (hd : (lookT T d).d = .string) (hx : evK fr x fun v => v = .int k n) (kk : K (str (Utf8.encode n).data.toList)) :
    OthP c ⟨dst, .convert src d x, ty, pos, after, gd⟩ fr H K := ⟨⟨_, kk, fun w _ => by
  rw [evK_eq] at hx
  have hu := (lookT_ok hT (t := d) (by rw [hd]; intro h; cases h)).1
  rw [hd] at hu
  have hr := run_convert_int_string (P := c.P) w src d k n (by rw [(lookT_ok hT hs).1]; rfl) hu
  generalize (act fr).eval = ρ at *
  simp only [execOp, hx, Sem.run_bind, hr, Result.andThen_ok, Sem.run_pure]⟩⟩
theorem Ar.in32 {z : Int} {K : Value → Prop} (h : -2147483648 ≤ z) (h' : z ≤ 2147483647) (k : K (.int .i32 z)) : Ar .i32 z K :=
  ⟨z, by rw [IntKind.wrap]; simp [IntKind.bits, IntKind.signed]; omega, k⟩
/-- A slice's length is no more than its room. -/
theorem row_cap {A : Option Addr} {cp e sz n n' : Nat} {xs : List Value} {f : List Value → Hp} [h : RowAt A H cp e sz n n' xs f] {w : World} (hw : St c H w) : n ≤ cp := by
  obtain ⟨H1, H2, rfl, _⟩ := h.ok
  have hr : RowH w (.slice A n' cp) e sz n xs := (hw.own (.row (.slice A n' cp) e sz n xs) (by simp)).1
  obtain ⟨_, ⟨h1, h2⟩ | ⟨g, cap, cur, fz, h1, _, h2, _⟩⟩ := hr
  · omega
  · cases h1; exact h2
theorem SlcV.cut {A : Option Addr} {n cp sz : Nat} {h : Int} {K : Value → Prop} (h0 : 0 ≤ h) (h1 : h ≤ n) (hc : n ≤ cp) (k : K (.slice (if (cp : Int) = 0 then A else A.map (·.add (0 * sz))) h.toNat cp)) : SlcV c H A n cp 0 (some h) sz K :=
  ⟨Int.le_refl _, h0, fun h' e _ _ => by cases e; omega, k⟩
theorem run_ext {P : Program} {f : FuncId} {fn : Func} {args : List Value} {v : Value} {w : World} {e : Array Value → Sem Value} (hf : P.funcs[f]? = some fn) (hn : (fn.name == "runtime.NumGoroutine") = false) (hb : fn.body.isNone = true) (hx : Extern.findNext fn = none) (he : Extern.find fn = some e)
    (hr : (e ⟨args⟩).run P w = .ok v w) : (callFunc f ⟨args⟩).run P w = .ok (.value v) w := by
  simp only [callFunc, program, Sem.run, Sem.run_bind, Result.andThen_ok, hf, hn, hb, hx, he, mark]
  simp [hr, Sem.run, Result.andThen]
end
end Go.Proofs.YtnnpnkmdhfjccaaDoor.Vex
/- The number of a chunk's line, as the document reads it. No program in sight. -/
namespace Go.Proofs.YtnnpnkmdhfjccaaDoor.Vex

def blC (x : UInt8) : Bool := x == 32 || x == 9
def restC (s : List UInt8) : List UInt8 := (s.dropWhile hexB).dropWhile blC
def numR (s : List UInt8) : Int := if 1 ≤ (s.takeWhile hexB).length ∧ (s.takeWhile hexB).length ≤ 6 ∧ (restC s = [] ∨ (restC s).head? = some 59 ∧ (restC s).all valB = true) then hexN (s.takeWhile hexB) else -1

theorem drop_all {p : UInt8 → Bool} : ∀ (l : List UInt8), (∀ x ∈ l, p x = true) → l.dropWhile p = []
  | [], _ => rfl
  | x :: r, h => by rw [List.dropWhile_cons, h x (List.mem_cons_self ..)]; exact drop_all r fun y hy => h y (List.mem_cons_of_mem _ hy)
theorem rtrim_keep (a : List UInt8) (x : UInt8) (b : List UInt8) (hx : blC x = false) (hb : b.all blC = true) : ((a ++ [x] ++ b).reverse.dropWhile blC).reverse = a ++ [x] := by
  rw [List.reverse_append, List.dropWhile_append]
  have h0 : b.reverse.dropWhile blC = [] := drop_all _ fun y hy => List.all_eq_true.1 hb y (List.mem_reverse.1 hy)
  rw [h0]
  simp [hx]
theorem rtrim_mem (a : List UInt8) (x : UInt8) (b : List UInt8) (hx : blC x = false) : ∃ t, ((a ++ x :: b).reverse.dropWhile blC).reverse = a ++ x :: t := by
  have e : ((a ++ x :: b).reverse.dropWhile blC).reverse = a ++ x :: (b.reverse.dropWhile blC).reverse := by
    rw [List.reverse_append, List.reverse_cons, List.append_assoc, List.dropWhile_append]
    by_cases h0 : b.reverse.dropWhile blC = []
    · rw [h0]
      simp [hx]
    · have : (b.reverse.dropWhile blC).isEmpty = false := by simpa using h0
      rw [this]
      simp
  exact ⟨_, e⟩
theorem take_drop_hex (s : List UInt8) : s = s.takeWhile hexB ++ ((s.dropWhile hexB).takeWhile blC ++ restC s) := by
  unfold restC
  rw [List.takeWhile_append_dropWhile, List.takeWhile_append_dropWhile]
theorem all_take {p : UInt8 → Bool} : ∀ s : List UInt8, (s.takeWhile p).all p = true
  | [] => rfl
  | x :: r => by
    rw [List.takeWhile_cons]
    split
    · rename_i h; rw [List.all_cons, h, all_take r]; rfl
    · rfl
theorem drop_head {p : UInt8 → Bool} : ∀ (s : List UInt8) (x : UInt8) (r : List UInt8), s.dropWhile p = x :: r → p x = false
  | [], _, _, h => by cases h
  | y :: t, x, r, h => by
    rw [List.dropWhile_cons] at h
    split at h
    · exact drop_head t x r h
    · rename_i hy
      cases h
      simpa using hy
theorem value_dots (m : List UInt8) : valueOf ([46] ++ m ++ [46]) = m.all valB := by
  have h := valueOf_ends 46 (m ++ [46]) ([46] ++ m) 46 rfl
  rw [show ([46] ++ m ++ [46] : List UInt8) = 46 :: (m ++ [46]) from rfl, h]
  rw [List.all_cons, List.all_append]
  simp [show valB 46 = true by decide, show blankB 46 = false by decide]
theorem bl_no {b : List UInt8} (h : b.all blC = true) (x : UInt8) (hx : blC x = false) : x ∉ b := fun hm => by
  rw [List.all_eq_true] at h
  rw [h x hm] at hx
  cases hx
theorem numC_is (s : List UInt8) : numC s = numR s := by
  have hs := take_drop_hex s
  have h1 : (s.takeWhile hexB).all hexB = true := all_take s
  have h2 : ((s.dropWhile hexB).takeWhile blC).all blC = true := all_take _
  have h3 : ∀ x r, restC s = x :: r → blC x = false := fun x r h => drop_head _ x r h
  have h4 : ∀ x r, s.dropWhile hexB = x :: r → hexB x = false := fun x r h => drop_head _ x r h
  have h5 : s.dropWhile hexB = (s.dropWhile hexB).takeWhile blC ++ restC s := by unfold restC; rw [List.takeWhile_append_dropWhile]
  unfold numC numR
  generalize s.takeWhile hexB = d at *
  generalize (s.dropWhile hexB).takeWhile blC = bl at *
  generalize restC s = t at *
  have hd59 := hex_no h1 59 (by decide)
  have hb59 := bl_no h2 59 (by decide)
  have hall : ∀ a b : List UInt8, (a ++ b).all hexB = true → b.all hexB = true := fun a b h => by
    rw [List.all_append, Bool.and_eq_true] at h; exact h.2
  -- the digits, where a rest is none or begins with 59
  have hdig : ((d ++ bl).reverse.dropWhile blC).reverse = d := by
    rcases List.eq_nil_or_concat d with rfl | ⟨a, x, rfl⟩
    · rw [List.nil_append, List.reverse_eq_nil_iff]
      exact drop_all _ fun y hy => List.all_eq_true.1 h2 y (List.mem_reverse.1 hy)
    · rw [List.concat_eq_append] at h1 ⊢
      refine rtrim_keep a x bl ?_ h2
      have hx := hall _ _ h1
      simp only [List.all_cons, List.all_nil, Bool.and_true] at hx
      cases hb : blC x with
      | false => rfl
      | true =>
        unfold blC at hb
        simp only [Bool.or_eq_true, beq_iff_eq] at hb
        rcases hb with rfl | rfl <;> exact absurd hx (by decide)
  have hp : (fun x : UInt8 => x == 32 || x == 9) = blC := rfl
  cases t with
  | nil =>
    rw [List.append_nil] at hs
    have hc := cutB_none 59 s (by rw [hs, List.mem_append]; exact fun h => h.elim hd59 hb59)
    have e : digsOf s = d := by unfold digsOf; rw [hc, hp]; dsimp only; rw [hs]; exact hdig
    rw [e, hc, h1]
    simp [Bool.and_eq_true, and_assoc]
  | cons y m =>
    by_cases hy : y = 59
    · subst hy
      have hc : cutB 59 s = (d ++ bl, m, true) := by
        rw [hs, ← List.append_assoc]
        exact cutB_app 59 _ _ (by rw [List.mem_append]; exact fun h => h.elim hd59 hb59)
      have e : digsOf s = d := by unfold digsOf; rw [hc, hp]; exact hdig
      rw [e, hc, h1]
      dsimp only
      rw [value_dots]
      have hv : ((59 : UInt8) :: m).all valB = m.all valB := by rw [List.all_cons, show valB 59 = true by decide]; rfl
      rw [hv]
      simp [Bool.and_eq_true, and_assoc]
    · have hno : ¬ (1 ≤ d.length ∧ d.length ≤ 6 ∧ (y :: m = [] ∨ (y :: m).head? = some 59 ∧ (y :: m).all valB = true)) := by
        rintro ⟨_, _, h | ⟨h, _⟩⟩
        · cases h
        · exact hy (by simpa using h)
      rw [if_neg hno, if_neg]
      intro h
      simp only [Bool.and_eq_true, decide_eq_true_eq] at h
      have hdg := h.2.2.1
      -- y is among the digits, and what stands behind the hex digits is none
      have hcut : ∃ q, (cutB 59 s).1 = (d ++ bl) ++ y :: q := by
        rw [hs, ← List.append_assoc]
        have : ∀ (a : List UInt8) (r : List UInt8), 59 ∉ a → (cutB 59 (a ++ r)).1 = a ++ (cutB 59 r).1 := by
          intro a r ha
          induction a with
          | nil => rfl
          | cons z a ih =>
            rw [List.mem_cons, not_or] at ha
            rw [List.cons_append, cutB, if_neg (fun e => ha.1 e.symm)]
            dsimp only
            rw [ih ha.2]
            rfl
        rw [this _ _ (by rw [List.mem_append]; exact fun h => h.elim hd59 hb59), cutB, if_neg hy]
        exact ⟨_, rfl⟩
      obtain ⟨q, hq⟩ := hcut
      obtain ⟨r, hr⟩ := rtrim_mem (d ++ bl) y q (h3 y m rfl)
      have e : digsOf s = d ++ bl ++ y :: r := by unfold digsOf; rw [hp, hq]; exact hr
      rw [e, List.append_assoc] at hdg
      have hdg2 := hall _ _ hdg
      cases bl with
      | nil =>
        rw [List.nil_append, List.all_cons, Bool.and_eq_true] at hdg2
        have := h4 y m h5
        rw [hdg2.1] at this
        cases this
      | cons z b2 =>
        rw [List.cons_append, List.all_cons, Bool.and_eq_true] at hdg2
        have := h4 z (b2 ++ y :: m) h5
        rw [hdg2.1] at this
        cases this
end Go.Proofs.YtnnpnkmdhfjccaaDoor.Vex
/- line.Quote, line.unquoted, line.Segments, reckoned. -/
namespace Go.Proofs.YtnnpnkmdhfjccaaDoor.Vex
open Go Go.RowKit
set_option maxRecDepth 100000
set_option linter.unusedSectionVars false
variable {gI : GI} [HasMax gI] [HasErr gI]

theorem made_cut : ∀ (n : Nat) (a b : List UInt8), a.length ≤ n → madeOf pathL (a ++ 47 :: b) = true → madeOf pathL a = true ∧ madeOf pathL b = true
  | _, [], b, _, h => by
    rcases made_x pathL path_37 47 b h with ⟨_, _, h2⟩ | ⟨_, _, _, h, _⟩
    · exact ⟨rfl, h2⟩
    · cases h
  | 0, x :: r, _, hl, _ => by simp at hl
  | n + 1, x :: r, b, hl, h => by
    rcases made_x pathL path_37 x (r ++ 47 :: b) h with ⟨hx, h1, h2⟩ | ⟨p, q, t, rfl, hr, h1, h2, h3⟩
    · have ih := made_cut n r b (by simpa using hl) h2
      rw [made_cons pathL x _ hx, h1, ih.1]
      exact ⟨rfl, ih.2⟩
    · match r with
      | [] =>
        cases hr
        exact absurd h1 (by decide)
      | [y] =>
        cases hr
        exact absurd h2 (by decide)
      | y :: z :: r =>
        cases hr
        have ih := made_cut n r b (by simp at hl; omega) h3
        rw [made_37 pathL path_37]
        simp [h1, h2, ih.1, ih.2]
theorem quoteB_le (x : UInt8) : (quoteB x).length ≤ 3 := by unfold quoteB; split <;> simp
theorem quote_le (l : List UInt8) : (quoteOf l).length ≤ 3 * l.length := by
  induction l with
  | nil => simp [quoteOf]
  | cons x r ih =>
    have := quoteB_le x
    simp only [quoteOf, List.flatMap_cons, List.length_append, List.length_cons] at ih ⊢
    omega
theorem quote_take (s : List UInt8) (k : Nat) (h : k < s.length) : quoteOf (s.take (k + 1)) = quoteOf (s.take k) ++ quoteB s[k] := by
  unfold quoteOf
  rw [List.take_succ_eq_append_getElem h, List.flatMap_append]
  simp
def hexT : List UInt8 := [48, 49, 50, 51, 52, 53, 54, 55, 56, 57, 65, 66, 67, 68, 69, 70]
theorem hexT_at (n : Nat) (h : n < 16) : hexT[n]? = some (hexD n) := by
  have : ∀ n : Fin 16, hexT[n.val]? = some (hexD n.val) := by decide
  exact this ⟨n, h⟩
theorem and_15 (x : UInt8) : ((x.toNat % 16 : Nat) : Int) = bits .and .u8 x.toNat 15 := by
  have : ∀ n : Fin 256, ((n.val % 16 : Nat) : Int) = bits .and .u8 n.val 15 := by decide +kernel
  exact this ⟨x.toNat, x.toNat_lt⟩
theorem unq_f (s : List UInt8) (hs : s.length ≤ 1000000000) (hm : madeOf pathL s = true) : Fn Tryd.prog gI 59 [str s] (str (unq s)) := by
  refine Fn.of tys_ok Tryd.func59 rfl (by kernel_rfl) rfl rfl ?_; intro w hG
  (conv => whnf); repeat ((first | refine tk1 ?_ | refine tk2 ?_ | refine tk3 ?_ | refine tk12 (fun _ => ?_) | refine tk4 ?_ | refine tk5 ?_ | refine tk6 ?_ | refine tk7 ?_ | refine tk8 ?_ | refine tk9 ?_ | refine tk10 (fun _ _ => ?_) | refine tk11 (fun _ => ?_) | refine tk13 ?_ | refine tk14 ?_); (conv => whnf))
  refine LoopS.nilRow 5 1 ?_
  refine LoopS.lp tys_ok (fun (x : List UInt8 × List UInt8 × Option Addr × Nat) u => [str x.1, u 1, u 2, .slice x.2.2.1 x.2.1.length x.2.2.2, u 4, u 5, u 6, u 7, u 8, u 9, u 10, u 11, u 12, u 13, u 14, u 15, u 16, u 17, u 18, u 19, u 20, u 21, u 22, u 23, u 24, u 25, u 26, u 27])
    (fun x => [.row (.slice x.2.2.1 x.2.1.length x.2.2.2) 5 1 x.2.1.length (x.2.1.map byteV)])
    (fun x => x.2.1 ++ unq x.1 = unq s ∧ madeOf pathL x.1 = true ∧ x.2.1.length + x.1.length ≤ s.length) (fun x => x.1.length) (s, [], none, 0) ⟨rfl, hm, by simp⟩ rfl (by repeat' (first | exact List.Sublist.refl _ | exact List.nil_sublist _ | apply List.Sublist.cons_cons | apply List.Sublist.cons)) ?_
  rintro ⟨r, out, A, cp⟩ u ⟨hI, hr, hz⟩
  dsimp only at hI hr hz ⊢
  match r with
  | [] =>
    (conv => whnf); repeat ((first | refine tk1 ?_ | refine tk2 ?_ | refine tk3 ?_ | refine tk12 (fun _ => ?_) | refine tk4 ?_ | refine tk5 ?_ | refine tk6 ?_ | refine tk7 ?_ | refine tk8 ?_ | refine tk9 ?_ | refine tk10 (fun _ _ => ?_) | refine tk11 (fun _ => ?_) | refine tk13 ?_ | refine tk14 ?_); (conv => whnf))
    refine B2S.tc rfl rfl ?_
    (conv => whnf); repeat ((first | refine tk1 ?_ | refine tk2 ?_ | refine tk3 ?_ | refine tk12 (fun _ => ?_) | refine tk4 ?_ | refine tk5 ?_ | refine tk6 ?_ | refine tk7 ?_ | refine tk8 ?_ | refine tk9 ?_ | refine tk10 (fun _ _ => ?_) | refine tk11 (fun _ => ?_) | refine tk13 ?_ | refine tk14 ?_); (conv => whnf))
    rw [← hI]; simp [unq]
  | x :: t =>
    simp only [List.length_cons] at hz
    have hl : (((x :: t).length : Nat) : Int) = (t.length : Int) + 1 := by simp
    (conv => whnf); repeat ((first | refine tk1 ?_ | refine tk2 ?_ | refine tk3 ?_ | refine tk12 (fun _ => ?_) | refine tk4 ?_ | refine tk5 ?_ | refine tk6 ?_ | refine tk7 ?_ | refine tk8 ?_ | refine tk9 ?_ | refine tk10 (fun _ _ => ?_) | refine tk11 (fun _ => ?_) | refine tk13 ?_ | refine tk14 ?_); (conv => whnf))
    refine IdxS.at x rfl (by omega) ?_
    (conv => whnf); repeat ((first | refine tk1 ?_ | refine tk2 ?_ | refine tk3 ?_ | refine tk12 (fun _ => ?_) | refine tk4 ?_ | refine tk5 ?_ | refine tk6 ?_ | refine tk7 ?_ | refine tk8 ?_ | refine tk9 ?_ | refine tk10 (fun _ _ => ?_) | refine tk11 (fun _ => ?_) | refine tk13 ?_ | refine tk14 ?_); (conv => whnf))
    rcases made_x pathL path_37 x t hr with ⟨h37, _, h2⟩ | ⟨a, b, q, rfl, rfl, ha, hb, hq⟩
    · rw [unq_cons x t h37] at hI
      have hx : ¬ (x.toNat : Int) = 37 := fun e => h37 (b8 (n := 37) (by decide) (by omega))
      (conv => whnf); repeat ((first | refine tk1 ?_ | refine tk2 ?_ | refine tk3 ?_ | refine tk12 (fun _ => ?_) | refine tk4 ?_ | refine tk5 ?_ | refine tk6 ?_ | refine tk7 ?_ | refine tk8 ?_ | refine tk9 ?_ | refine tk10 (fun _ _ => ?_) | refine tk11 (fun _ => ?_) | refine tk13 ?_ | refine tk14 ?_); (conv => whnf))
      refine DrawS.go [(0, true), (1, true), (4, true), (5, true), (6, true), (2, false), (3, false), (7, true), (8, true)] tys_ok mixed (by kernel_rfl) ?_
      (conv => whnf); repeat ((first | refine tk1 ?_ | refine tk2 ?_ | refine tk3 ?_ | refine tk12 (fun _ => ?_) | refine tk4 ?_ | refine tk5 ?_ | refine tk6 ?_ | refine tk7 ?_ | refine tk8 ?_ | refine tk9 ?_ | refine tk10 (fun _ _ => ?_) | refine tk11 (fun _ => ?_) | refine tk13 ?_ | refine tk14 ?_); (conv => whnf))
      refine SlcS.at (by omega) (by rw [hl]; omega) (by omega) ?_
      rw [show ((x :: t).take ((x :: t).length : Int).toNat).drop (1 : Int).toNat = t by rw [Int.toNat_natCast, List.take_length]; rfl]
      (conv => whnf); repeat ((first | refine tk1 ?_ | refine tk2 ?_ | refine tk3 ?_ | refine tk12 (fun _ => ?_) | refine tk4 ?_ | refine tk5 ?_ | refine tk6 ?_ | refine tk7 ?_ | refine tk8 ?_ | refine tk9 ?_ | refine tk10 (fun _ _ => ?_) | refine tk11 (fun _ => ?_) | refine tk13 ?_ | refine tk14 ?_); (conv => whnf))
      refine AppS.tc SrcK.tc rfl (by simp [Value.oneCell']) (by decide) (by omega) (by omega) (zs := (out ++ [x]).map byteV) (by simp [byteV]) (fun A' cp' => ?_)
      rw [show out.length + 1 = (out ++ [x]).length by simp]
      (conv => whnf); repeat ((first | refine tk1 ?_ | refine tk2 ?_ | refine tk3 ?_ | refine tk12 (fun _ => ?_) | refine tk4 ?_ | refine tk5 ?_ | refine tk6 ?_ | refine tk7 ?_ | refine tk8 ?_ | refine tk9 ?_ | refine tk10 (fun _ _ => ?_) | refine tk11 (fun _ => ?_) | refine tk13 ?_ | refine tk14 ?_); (conv => whnf))
      exact ⟨(t, out ++ [x], A', cp'), ⟨by rw [← hI]; simp, h2, by simp; omega⟩, rfl, (by repeat' (first | exact List.Sublist.refl _ | exact List.nil_sublist _ | apply List.Sublist.cons_cons | apply List.Sublist.cons)), by dsimp only; simp⟩
    · rw [unq_37 a b q ha hb] at hI
      have hc : codeV (a :: b :: q) = (hexV a b, true) := by simp only [codeV, ha, hb]; rfl
      have hcf := code_f (gI := gI) (a :: b :: q) (by simp at hz ⊢; omega)
      rw [hc] at hcf
      simp only [List.length_cons] at hz
      (conv => whnf); repeat ((first | refine tk1 ?_ | refine tk2 ?_ | refine tk3 ?_ | refine tk12 (fun _ => ?_) | refine tk4 ?_ | refine tk5 ?_ | refine tk6 ?_ | refine tk7 ?_ | refine tk8 ?_ | refine tk9 ?_ | refine tk10 (fun _ _ => ?_) | refine tk11 (fun _ => ?_) | refine tk13 ?_ | refine tk14 ?_); (conv => whnf))
      refine SlcS.at (by omega) (by rw [hl]; omega) (by omega) ?_
      rw [show ((37 :: a :: b :: q).take ((37 :: a :: b :: q).length : Int).toNat).drop (1 : Int).toNat = a :: b :: q by rw [Int.toNat_natCast, List.take_length]; rfl]
      (conv => whnf); repeat ((first | refine tk1 ?_ | refine tk2 ?_ | refine tk3 ?_ | refine tk12 (fun _ => ?_) | refine tk4 ?_ | refine tk5 ?_ | refine tk6 ?_ | refine tk7 ?_ | refine tk8 ?_ | refine tk9 ?_ | refine tk10 (fun _ _ => ?_) | refine tk11 (fun _ => ?_) | refine tk13 ?_ | refine tk14 ?_); (conv => whnf))
      refine CallK.fn hcf ?_
      (conv => whnf); repeat ((first | refine tk1 ?_ | refine tk2 ?_ | refine tk3 ?_ | refine tk12 (fun _ => ?_) | refine tk4 ?_ | refine tk5 ?_ | refine tk6 ?_ | refine tk7 ?_ | refine tk8 ?_ | refine tk9 ?_ | refine tk10 (fun _ _ => ?_) | refine tk11 (fun _ => ?_) | refine tk13 ?_ | refine tk14 ?_); (conv => whnf))
      refine DrawS.go [(0, true), (1, true), (4, true), (5, true), (6, true), (2, false), (3, false), (7, true), (8, true)] tys_ok mixed (by kernel_rfl) ?_
      (conv => whnf); repeat ((first | refine tk1 ?_ | refine tk2 ?_ | refine tk3 ?_ | refine tk12 (fun _ => ?_) | refine tk4 ?_ | refine tk5 ?_ | refine tk6 ?_ | refine tk7 ?_ | refine tk8 ?_ | refine tk9 ?_ | refine tk10 (fun _ _ => ?_) | refine tk11 (fun _ => ?_) | refine tk13 ?_ | refine tk14 ?_); (conv => whnf))
      refine SlcS.at (by omega) (by rw [hl]; simp; omega) (by omega) ?_
      rw [show ((37 :: a :: b :: q).take ((37 :: a :: b :: q).length : Int).toNat).drop (3 : Int).toNat = q by rw [Int.toNat_natCast, List.take_length]; rfl]
      (conv => whnf); repeat ((first | refine tk1 ?_ | refine tk2 ?_ | refine tk3 ?_ | refine tk12 (fun _ => ?_) | refine tk4 ?_ | refine tk5 ?_ | refine tk6 ?_ | refine tk7 ?_ | refine tk8 ?_ | refine tk9 ?_ | refine tk10 (fun _ _ => ?_) | refine tk11 (fun _ => ?_) | refine tk13 ?_ | refine tk14 ?_); (conv => whnf))
      refine AppS.tc SrcK.tc rfl (by simp [Value.oneCell']) (by decide) (by omega) (by omega) (zs := (out ++ [hexV a b]).map byteV) (by simp [byteV]) (fun A' cp' => ?_)
      rw [show out.length + 1 = (out ++ [hexV a b]).length by simp]
      (conv => whnf); repeat ((first | refine tk1 ?_ | refine tk2 ?_ | refine tk3 ?_ | refine tk12 (fun _ => ?_) | refine tk4 ?_ | refine tk5 ?_ | refine tk6 ?_ | refine tk7 ?_ | refine tk8 ?_ | refine tk9 ?_ | refine tk10 (fun _ _ => ?_) | refine tk11 (fun _ => ?_) | refine tk13 ?_ | refine tk14 ?_); (conv => whnf))
      exact ⟨(q, out ++ [hexV a b], A', cp'), ⟨by rw [← hI]; simp, hq, by simp; omega⟩, rfl, (by repeat' (first | exact List.Sublist.refl _ | exact List.nil_sublist _ | apply List.Sublist.cons_cons | apply List.Sublist.cons)), by dsimp only; simp; omega⟩
def segPost (s : List UInt8) (w : World) (v : Value) (w' : World) : Prop := ∃ u, v = .tuple #[u, .int .i64 (segE s)] ∧ rowPost 9 1 (segO s).length ((segO s).map str) w u w'
theorem Segments_f (s : List UInt8) (hs : s.length ≤ 1000000000) : FnE Tryd.prog gI 32 [str s] (fun _ => True) (segPost s) := by
  refine FnE.ofX tys_ok Tryd.func32 rfl (by kernel_rfl) rfl rfl ?_; intro w hG hP
  (conv => whnf); repeat ((first | refine tk1 ?_ | refine tk2 ?_ | refine tk3 ?_ | refine tk12 (fun _ => ?_) | refine tk4 ?_ | refine tk5 ?_ | refine tk6 ?_ | refine tk7 ?_ | refine tk8 ?_ | refine tk9 ?_ | refine tk10 (fun _ _ => ?_) | refine tk11 (fun _ => ?_) | refine tk13 ?_ | refine tk14 ?_); (conv => whnf))
  refine CallK.fn (Path_f s (by omega)) ?_
  cases hp : pathOf s
  · have e1 : segO s = [] := by unfold segO; rw [hp]; rfl
    have e2 : segE s = 3 := by unfold segE; rw [hp]; rfl
    unfold segPost
    rw [e1, e2]
    (conv => whnf); repeat ((first | refine tk1 ?_ | refine tk2 ?_ | refine tk3 ?_ | refine tk12 (fun _ => ?_) | refine tk4 ?_ | refine tk5 ?_ | refine tk6 ?_ | refine tk7 ?_ | refine tk8 ?_ | refine tk9 ?_ | refine tk10 (fun _ _ => ?_) | refine tk11 (fun _ => ?_) | refine tk13 ?_ | refine tk14 ?_); (conv => whnf))
    exact fun w' hs => ⟨_, rfl, rowPost.nil _ _ w' hs⟩
  have e1 : segO s = segs s := by unfold segO; rw [hp]; rfl
  have e2 : segE s = 0 := by unfold segE; rw [hp]; rfl
  obtain ⟨l, rfl⟩ := path_head hp
  have hm : madeOf pathL l = true := by
    unfold pathOf at hp
    rw [Bool.and_eq_true] at hp
    rcases made_x pathL path_37 47 l hp.2 with ⟨_, _, h2⟩ | ⟨_, _, _, h, _⟩
    · exact h2
    · cases h
  have e3 : segs (47 :: l) = (splitB 47 l).map unq := rfl
  unfold segPost
  rw [e1, e2, e3]
  simp only [List.length_cons] at hs
  have hl : (((47 :: l).length : Nat) : Int) = (l.length : Int) + 1 := by simp
  (conv => whnf); repeat ((first | refine tk1 ?_ | refine tk2 ?_ | refine tk3 ?_ | refine tk12 (fun _ => ?_) | refine tk4 ?_ | refine tk5 ?_ | refine tk6 ?_ | refine tk7 ?_ | refine tk8 ?_ | refine tk9 ?_ | refine tk10 (fun _ _ => ?_) | refine tk11 (fun _ => ?_) | refine tk13 ?_ | refine tk14 ?_); (conv => whnf))
  refine SlcS.at (by omega) (by rw [hl]; omega) (by omega) ?_
  rw [show ((47 :: l).take ((47 :: l).length : Int).toNat).drop (1 : Int).toNat = l by rw [Int.toNat_natCast, List.take_length]; rfl]
  (conv => whnf); repeat ((first | refine tk1 ?_ | refine tk2 ?_ | refine tk3 ?_ | refine tk12 (fun _ => ?_) | refine tk4 ?_ | refine tk5 ?_ | refine tk6 ?_ | refine tk7 ?_ | refine tk8 ?_ | refine tk9 ?_ | refine tk10 (fun _ _ => ?_) | refine tk11 (fun _ => ?_) | refine tk13 ?_ | refine tk14 ?_); (conv => whnf))
  refine CallK.inl tys_ok Tryd.func58 rfl (by kernel_rfl) rfl rfl ?_
  (conv => whnf); repeat ((first | refine tk1 ?_ | refine tk2 ?_ | refine tk3 ?_ | refine tk12 (fun _ => ?_) | refine tk4 ?_ | refine tk5 ?_ | refine tk6 ?_ | refine tk7 ?_ | refine tk8 ?_ | refine tk9 ?_ | refine tk10 (fun _ _ => ?_) | refine tk11 (fun _ => ?_) | refine tk13 ?_ | refine tk14 ?_); (conv => whnf))
  refine CallK.inl tys_ok Tryd.func84 rfl (by kernel_rfl) rfl rfl ?_
  (conv => whnf); repeat ((first | refine tk1 ?_ | refine tk2 ?_ | refine tk3 ?_ | refine tk12 (fun _ => ?_) | refine tk4 ?_ | refine tk5 ?_ | refine tk6 ?_ | refine tk7 ?_ | refine tk8 ?_ | refine tk9 ?_ | refine tk10 (fun _ _ => ?_) | refine tk11 (fun _ => ?_) | refine tk13 ?_ | refine tk14 ?_); (conv => whnf))
  rename_i bo bs bp bk
  refine RngS.go tys_ok rfl Tryd.func106 rfl (by kernel_rfl) ?_
  intro fno D
  generalize hR : ready fno _ _ _ _ D = R
  have yl : ∀ (p r : List UInt8) (out : List (List UInt8)) (A : Option Addr) (cp : Nat) (K : Value → Hp → Prop), p.length ≤ 1000000000 → madeOf pathL p = true → out.length ≤ 5000000000 →
      (∀ A' cp', K (.bool true) [.obj (D + 1) (.loop R), .row (.slice A' (out ++ [unq p]).length cp') 9 1 (out ++ [unq p]).length ((out ++ [unq p]).map str), .obj D (.deferred (some [])), .box bk [.int .i64 0] 3, .box bp [str [47]] 9, .box bs [str r] 9, .box bo [.slice A' (out ++ [unq p]).length cp'] 66]) →
      YldK (mkC Tryd.prog gI w hG) (D + 1) [str p] [.obj (D + 1) (.loop R), .row (.slice A out.length cp) 9 1 out.length (out.map str), .obj D (.deferred (some [])), .box bk [.int .i64 0] 3, .box bp [str [47]] 9, .box bs [str r] 9, .box bo [.slice A out.length cp] 66] K := by
    intro p r out A cp K hz hmp hn hk
    subst hR
    refine YldK.run tys_ok .here rfl rfl rfl rfl ?_
    (conv => whnf); repeat ((first | refine tk1 ?_ | refine tk2 ?_ | refine tk3 ?_ | refine tk12 (fun _ => ?_) | refine tk4 ?_ | refine tk5 ?_ | refine tk6 ?_ | refine tk7 ?_ | refine tk8 ?_ | refine tk9 ?_ | refine tk10 (fun _ _ => ?_) | refine tk11 (fun _ => ?_) | refine tk13 ?_ | refine tk14 ?_); (conv => whnf))
    refine ⟨List.Perm.refl _, ?_⟩
    (conv => whnf); repeat ((first | refine tk1 ?_ | refine tk2 ?_ | refine tk3 ?_ | refine tk12 (fun _ => ?_) | refine tk4 ?_ | refine tk5 ?_ | refine tk6 ?_ | refine tk7 ?_ | refine tk8 ?_ | refine tk9 ?_ | refine tk10 (fun _ _ => ?_) | refine tk11 (fun _ => ?_) | refine tk13 ?_ | refine tk14 ?_); (conv => whnf))
    refine DrawS.go [(0, true), (1, true), (2, true), (3, false), (4, false), (5, false)] tys_ok mixed (by kernel_rfl) ?_
    (conv => whnf); repeat ((first | refine tk1 ?_ | refine tk2 ?_ | refine tk3 ?_ | refine tk12 (fun _ => ?_) | refine tk4 ?_ | refine tk5 ?_ | refine tk6 ?_ | refine tk7 ?_ | refine tk8 ?_ | refine tk9 ?_ | refine tk10 (fun _ _ => ?_) | refine tk11 (fun _ => ?_) | refine tk13 ?_ | refine tk14 ?_); (conv => whnf))
    refine CallQ.fn (unq_f p (by omega) hmp) ?_
    (conv => whnf); repeat ((first | refine tk1 ?_ | refine tk2 ?_ | refine tk3 ?_ | refine tk12 (fun _ => ?_) | refine tk4 ?_ | refine tk5 ?_ | refine tk6 ?_ | refine tk7 ?_ | refine tk8 ?_ | refine tk9 ?_ | refine tk10 (fun _ _ => ?_) | refine tk11 (fun _ => ?_) | refine tk13 ?_ | refine tk14 ?_); (conv => whnf))
    refine AppS.tc SrcK.tc rfl (by simp [Value.oneCell']) (by decide) (by omega) (by omega) (zs := (out ++ [unq p]).map str) (by simp) (fun A' cp' => ?_)
    (conv => whnf); repeat ((first | refine tk1 ?_ | refine tk2 ?_ | refine tk3 ?_ | refine tk12 (fun _ => ?_) | refine tk4 ?_ | refine tk5 ?_ | refine tk6 ?_ | refine tk7 ?_ | refine tk8 ?_ | refine tk9 ?_ | refine tk10 (fun _ _ => ?_) | refine tk11 (fun _ => ?_) | refine tk13 ?_ | refine tk14 ?_); (conv => whnf))
    have := hk A' cp'
    rw [List.length_append] at this
    exact ⟨_, _, (by first | exact Pick.here | exact Pick.here.skip | exact Pick.here.skip.skip | exact Pick.here.skip.skip.skip | exact Pick.here.skip.skip.skip.skip | exact Pick.here.skip.skip.skip.skip.skip | exact Pick.here.skip.skip.skip.skip.skip.skip | exact Pick.here.skip.skip.skip.skip.skip.skip.skip | exact Pick.here.skip.skip.skip.skip.skip.skip.skip.skip | exact Pick.here.skip.skip.skip.skip.skip.skip.skip.skip.skip | exact Pick.here.skip.skip.skip.skip.skip.skip.skip.skip.skip.skip | exact Pick.here.skip.skip.skip.skip.skip.skip.skip.skip.skip.skip.skip), (by repeat' (first | exact List.Sublist.refl _ | exact List.nil_sublist _ | apply List.Sublist.cons_cons | apply List.Sublist.cons)), this⟩
  (conv => whnf); repeat ((first | refine tk1 ?_ | refine tk2 ?_ | refine tk3 ?_ | refine tk12 (fun _ => ?_) | refine tk4 ?_ | refine tk5 ?_ | refine tk6 ?_ | refine tk7 ?_ | refine tk8 ?_ | refine tk9 ?_ | refine tk10 (fun _ _ => ?_) | refine tk11 (fun _ => ?_) | refine tk13 ?_ | refine tk14 ?_); (conv => whnf))
  refine LoopS.nilRow 9 1 (LoopS.perm (List.Perm.swap ..) ?_)
  refine LoopS.lp tys_ok (fun (x : List UInt8 × List (List UInt8) × Option Addr × Nat) u => [.func (.yield (D + 1)) ⟨[]⟩ ⟨[]⟩, .pointer (some ⟨bp, 0, none⟩), .pointer (some ⟨bs, 0, none⟩), .pointer (some ⟨bk, 0, none⟩), u 4, u 5, u 6, u 7, u 8, u 9, u 10, u 11, u 12, u 13, u 14, u 15, u 16, u 17, u 18, u 19, u 20, u 21, u 22, u 23, u 24, u 25, u 26, u 27, u 28, u 29, u 30, u 31, u 32, u 33, u 34, u 35, u 36, u 37, u 38, u 39, u 40, u 41, u 42, u 43, u 44, u 45, u 46, u 47, u 48, u 49, u 50, u 51])
    (fun x => [.obj (D + 1) (.loop R), .row (.slice x.2.2.1 x.2.1.length x.2.2.2) 9 1 x.2.1.length (x.2.1.map str), .obj D (.deferred (some [])), .box bk [.int .i64 0] 3, .box bp [str [47]] 9, .box bs [str x.1] 9, .box bo [.slice x.2.2.1 x.2.1.length x.2.2.2] 66])
    (fun x => x.2.1 ++ (splitB 47 x.1).map unq = (splitB 47 l).map unq ∧ x.1.length ≤ l.length ∧ madeOf pathL x.1 = true) (fun x => x.1.length) (l, [], none, 0) ⟨rfl, Nat.le_refl _, hm⟩ rfl (by repeat' (first | exact List.Sublist.refl _ | exact List.nil_sublist _ | apply List.Sublist.cons_cons | apply List.Sublist.cons)) ?_
  rintro ⟨r, out, A, cp⟩ u ⟨hI, hz, hmr⟩
  dsimp only at hI hz hmr ⊢
  have hn : out.length ≤ l.length + 1 := by
    have := splitB_length 47 l
    have h2 := congrArg List.length hI
    simp only [List.length_append, List.length_map] at h2
    omega
  (conv => whnf); repeat ((first | refine tk1 ?_ | refine tk2 ?_ | refine tk3 ?_ | refine tk12 (fun _ => ?_) | refine tk4 ?_ | refine tk5 ?_ | refine tk6 ?_ | refine tk7 ?_ | refine tk8 ?_ | refine tk9 ?_ | refine tk10 (fun _ _ => ?_) | refine tk11 (fun _ => ?_) | refine tk13 ?_ | refine tk14 ?_); (conv => whnf))
  refine CallK.fn (Index_f r [47] (by omega)) ?_
  rcases index_one 47 r with ⟨h1, h2⟩ | ⟨k, h1, h2, h3, h4⟩
  · rw [h1]
    (conv => whnf); repeat ((first | refine tk1 ?_ | refine tk2 ?_ | refine tk3 ?_ | refine tk12 (fun _ => ?_) | refine tk4 ?_ | refine tk5 ?_ | refine tk6 ?_ | refine tk7 ?_ | refine tk8 ?_ | refine tk9 ?_ | refine tk10 (fun _ _ => ?_) | refine tk11 (fun _ => ?_) | refine tk13 ?_ | refine tk14 ?_); (conv => whnf))
    refine yl r r out A cp _ (by omega) hmr (by omega) (fun A' cp' => ?_)
    have hf : out ++ [unq r] = (splitB 47 l).map unq := by rw [← hI, splitB_none 47 r h2]; rfl
    rw [hf]
    (conv => whnf); repeat ((first | refine tk1 ?_ | refine tk2 ?_ | refine tk3 ?_ | refine tk12 (fun _ => ?_) | refine tk4 ?_ | refine tk5 ?_ | refine tk6 ?_ | refine tk7 ?_ | refine tk8 ?_ | refine tk9 ?_ | refine tk10 (fun _ _ => ?_) | refine tk11 (fun _ => ?_) | refine tk13 ?_ | refine tk14 ?_); (conv => whnf))
    refine ⟨_, _, .here, ?_, ?_, ?_⟩
    · rw [← hR]; rfl
    · rw [← hR]; rfl
    (conv => whnf); repeat ((first | refine tk1 ?_ | refine tk2 ?_ | refine tk3 ?_ | refine tk12 (fun _ => ?_) | refine tk4 ?_ | refine tk5 ?_ | refine tk6 ?_ | refine tk7 ?_ | refine tk8 ?_ | refine tk9 ?_ | refine tk10 (fun _ _ => ?_) | refine tk11 (fun _ => ?_) | refine tk13 ?_ | refine tk14 ?_); (conv => whnf))
    refine ⟨_, _, rfl, (by first | exact Pick.here | exact Pick.here.skip | exact Pick.here.skip.skip | exact Pick.here.skip.skip.skip | exact Pick.here.skip.skip.skip.skip | exact Pick.here.skip.skip.skip.skip.skip | exact Pick.here.skip.skip.skip.skip.skip.skip | exact Pick.here.skip.skip.skip.skip.skip.skip.skip | exact Pick.here.skip.skip.skip.skip.skip.skip.skip.skip | exact Pick.here.skip.skip.skip.skip.skip.skip.skip.skip.skip | exact Pick.here.skip.skip.skip.skip.skip.skip.skip.skip.skip.skip | exact Pick.here.skip.skip.skip.skip.skip.skip.skip.skip.skip.skip.skip), ?_⟩
    (conv => whnf); repeat ((first | refine tk1 ?_ | refine tk2 ?_ | refine tk3 ?_ | refine tk12 (fun _ => ?_) | refine tk4 ?_ | refine tk5 ?_ | refine tk6 ?_ | refine tk7 ?_ | refine tk8 ?_ | refine tk9 ?_ | refine tk10 (fun _ _ => ?_) | refine tk11 (fun _ => ?_) | refine tk13 ?_ | refine tk14 ?_); (conv => whnf))
    exact fun w' hs => ⟨_, rfl, rowPost.of (by simp) w' hs⟩
  · rw [h1]
    have hr : r = r.take k ++ 47 :: r.drop (k + 1) := by
      have h5 := List.take_append_drop k r
      rw [List.drop_eq_getElem_cons h2] at h5
      rw [List.getElem?_eq_getElem h2] at h4
      rw [Option.some.inj h4] at h5
      exact h5.symm
    have hmc := made_cut (r.take k).length (r.take k) (r.drop (k + 1)) (Nat.le_refl _) (by rw [← hr]; exact hmr)
    (conv => whnf); repeat ((first | refine tk1 ?_ | refine tk2 ?_ | refine tk3 ?_ | refine tk12 (fun _ => ?_) | refine tk4 ?_ | refine tk5 ?_ | refine tk6 ?_ | refine tk7 ?_ | refine tk8 ?_ | refine tk9 ?_ | refine tk10 (fun _ _ => ?_) | refine tk11 (fun _ => ?_) | refine tk13 ?_ | refine tk14 ?_); (conv => whnf))
    refine SlcS.at (by omega) (by omega) (by omega) ?_
    (conv => whnf); repeat ((first | refine tk1 ?_ | refine tk2 ?_ | refine tk3 ?_ | refine tk12 (fun _ => ?_) | refine tk4 ?_ | refine tk5 ?_ | refine tk6 ?_ | refine tk7 ?_ | refine tk8 ?_ | refine tk9 ?_ | refine tk10 (fun _ _ => ?_) | refine tk11 (fun _ => ?_) | refine tk13 ?_ | refine tk14 ?_); (conv => whnf))
    rw [show (List.take ((k : Int) + 0).toNat r).drop (0 : Int).toNat = r.take k by simp]
    refine yl (r.take k) r out A cp _ (by rw [List.length_take]; omega) hmc.1 (by omega) (fun A' cp' => ?_)
    (conv => whnf); repeat ((first | refine tk1 ?_ | refine tk2 ?_ | refine tk3 ?_ | refine tk12 (fun _ => ?_) | refine tk4 ?_ | refine tk5 ?_ | refine tk6 ?_ | refine tk7 ?_ | refine tk8 ?_ | refine tk9 ?_ | refine tk10 (fun _ _ => ?_) | refine tk11 (fun _ => ?_) | refine tk13 ?_ | refine tk14 ?_); (conv => whnf))
    refine slc ?_
    (conv => whnf); repeat ((first | refine tk1 ?_ | refine tk2 ?_ | refine tk3 ?_ | refine tk12 (fun _ => ?_) | refine tk4 ?_ | refine tk5 ?_ | refine tk6 ?_ | refine tk7 ?_ | refine tk8 ?_ | refine tk9 ?_ | refine tk10 (fun _ _ => ?_) | refine tk11 (fun _ => ?_) | refine tk13 ?_ | refine tk14 ?_); (conv => whnf))
    refine ⟨(r.drop (k + 1), out ++ [unq (r.take k)], A', cp'), ⟨?_, by dsimp only; rw [List.length_drop]; omega, hmc.2⟩, rfl, ?_, by dsimp only; rw [List.length_drop]; omega⟩
    · dsimp only
      rw [List.append_assoc, ← hI, splitB_at 47 r k h3 h4]
      rfl
    · dsimp only
      rw [show (List.take (r.length : Int).toNat r).drop ((k : Int) + (([47] : List UInt8).length : Nat)).toNat = r.drop (k + 1) by rw [Int.toNat_natCast, List.take_length]; congr 1]
      exact List.Sublist.refl _
end Go.Proofs.YtnnpnkmdhfjccaaDoor.Vex
/- The references of the first line, reckoned: single bytes, quoted ones, paths, places. -/
namespace Go.Proofs.YtnnpnkmdhfjccaaDoor.Vex
open Go Go.RowKit
set_option maxRecDepth 100000
set_option linter.unusedSectionVars false
variable {gI : GI} [HasMax gI] [HasErr gI]

def allL : List UInt8 := [33, 36, 38, 39, 40, 41, 42, 43, 44, 59, 61, 58, 64, 47]
theorem plain_all (x : UInt8) : plainB pathL x = (plainB freeL x || allL.contains x) := by
  unfold plainB
  rw [show pathL = freeL ++ allL from rfl, List.contains_append, ← Bool.or_assoc]
theorem plain_query (x : UInt8) : plainB queryL x = (plainB pathL x || x == 63) := by
  unfold plainB
  rw [show queryL = pathL ++ [63] from rfl, List.contains_append, ← Bool.or_assoc]
  simp only [List.contains_cons, List.contains_nil, Bool.or_false]
/-- Does a quoted byte stand there? -/
def qB : List UInt8 → Bool
  | x :: a :: b :: _ => x == 37 && (hexB a && hexB b)
  | _ => false
theorem made_q {r : List UInt8} (h : qB (37 :: r) = false) : madeOf queryL (37 :: r) = false := by
  rw [made_37 queryL query_37]
  match r with
  | [] => rfl
  | [_] => rfl
  | a :: b :: t =>
    have h' : (hexB a && hexB b) = false := h
    simp only [h', Bool.false_and]
theorem made_63 : ∀ (n : Nat) (s : List UInt8), s.length ≤ n → 63 ∉ s → madeOf queryL s = madeOf pathL s
  | _, [], _, _ => rfl
  | 0, x :: r, hl, _ => by simp at hl
  | n + 1, x :: r, hl, h => by
    have hx : x ≠ 63 := fun e => h (by simp [e])
    have hr : 63 ∉ r := fun e => h (by simp [e])
    by_cases h37 : x = 37
    · subst h37
      rw [made_37 queryL query_37, made_37 pathL path_37]
      match r with
      | [] => rfl
      | [_] => rfl
      | a :: b :: t =>
        simp only
        rw [made_63 n t (by simp at hl; omega) (fun e => hr (by simp [e]))]
    · have hb : (x == 63) = false := by rw [beq_eq_false_iff_ne]; exact hx
      rw [made_cons queryL x r h37, made_cons pathL x r h37, plain_query, hb, Bool.or_false, made_63 n r (by simpa using hl) hr]
theorem path_63 (s : List UInt8) (h : pathOf s = true) : 63 ∉ s := (path_no h).2
end Go.Proofs.YtnnpnkmdhfjccaaDoor.Vex
/- The document's own answer for chunks, reckoned: plain, May, Check, Number, hex, Wrap, Last. -/
namespace Go.Proofs.YtnnpnkmdhfjccaaDoor.Vex
open Go Go.RowKit
set_option maxRecDepth 100000
set_option linter.unusedSectionVars false
variable {gI : GI}

/-! ## A line -/
def plainG (l : List UInt8) : Int × Bool := if noEnd (bare l) then (((bare l).length : Nat), true) else (0, false)
theorem pl_bad (l : List UInt8) (k : Nat) (hk : k < l.length) (h : l[k] = 10 ∨ (l[k] = 13 ∧ k < l.length - 1)) : noEnd (bare l) = false := by
  have hm : l[k] ∈ bare l := by
    unfold bare
    split
    · rename_i hc
      have hk2 : k < l.length - 1 := by
        rcases h with h | h
        · by_cases hkl : k = l.length - 1
          · exfalso
            unfold crB at hc
            rw [List.getLast?_eq_getElem?] at hc
            subst hkl
            rw [List.getElem?_eq_getElem (by omega)] at hc
            rw [beq_iff_eq, Option.some.injEq, h] at hc
            exact absurd hc (by decide)
          · omega
        · exact h.2
      have : l.dropLast[k]'(by rw [List.length_dropLast]; exact hk2) = l[k] := List.getElem_dropLast _
      rw [← this]
      exact List.getElem_mem _
    · exact List.getElem_mem hk
  unfold noEnd
  cases ha : (bare l).all fun x => !(x == 10) && !(x == 13) with
  | false => rfl
  | true =>
    have := List.all_eq_true.1 ha _ hm
    rcases h with h | h
    · rw [h] at this; exact absurd this (by decide)
    · rw [h.1] at this; exact absurd this (by decide)
theorem pl_good (l : List UInt8) (h : ∀ k (hk : k < l.length), ¬ (l[k] = 10 ∨ (l[k] = 13 ∧ k < l.length - 1))) : noEnd (bare l) = true := by
  unfold noEnd
  rw [List.all_eq_true]
  intro x hx
  obtain ⟨k, hk, rfl⟩ := List.getElem_of_mem hx
  have key : ∃ hk2 : k < l.length, (bare l)[k] = l[k] ∧ (l[k] = 13 → k < l.length - 1) := by
    by_cases hc : crB l = true
    · have hb : bare l = l.dropLast := by unfold bare; rw [hc]; rfl
      have hkl : k < l.dropLast.length := by rw [← hb]; exact hk
      have hk2 : k < l.length := by rw [List.length_dropLast] at hkl; omega
      refine ⟨hk2, ?_, fun _ => by rw [List.length_dropLast] at hkl; exact hkl⟩
      have : l.dropLast[k]'hkl = l[k] := List.getElem_dropLast _
      rw [← this]
      congr 1
    · have hc : crB l = false := by simpa using hc
      have hb := bare_no hc
      have hk2 : k < l.length := by rw [← hb]; exact hk
      refine ⟨hk2, by congr 1, fun h13 => ?_⟩
      by_cases hkl : k = l.length - 1
      · exfalso
        unfold crB at hc
        rw [List.getLast?_eq_getElem?] at hc
        subst hkl
        rw [List.getElem?_eq_getElem (by omega), h13] at hc
        exact absurd hc (by decide)
      · omega
  obtain ⟨hk2, e, h13⟩ := key
  have := h k hk2
  rw [e]
  rw [not_or] at this
  have h2 : l[k] ≠ 13 := fun e => this.2 ⟨e, h13 e⟩
  simp [this.1, h2]
theorem pl_last (l : List UInt8) (h : 0 < l.length) : crB l = decide ((l[l.length - 1]'(by omega)).toNat = 13) := by
  unfold crB
  rw [List.getLast?_eq_getElem?, List.getElem?_eq_getElem (by omega)]
  rw [Bool.eq_iff_iff]
  simp only [beq_iff_eq, Option.some.injEq, decide_eq_true_eq, ← UInt8.toNat_inj]
  rfl
theorem chMay_n (s : CSt) : chMay s = ((if s.ph = 0 then noEnd (bare s.line) && decide ((bare s.line).length ≤ 64) else if s.ph = 1 ∨ s.ph = 4 then decide (s.line.length = 0) else if s.ph = 2 then noEnd (bare s.line) && decide ((bare s.line).length = 0) else if s.ph = 3 then noEnd (bare s.line) && decide (s.line.length ≤ 256) else false) &&
    ((if s.ph = 1 then decide (1 ≤ s.left) && decide (s.left < 16777216) else decide (s.left = 0)) && (if s.ph = 3 then decide ((s.line.length : Int) ≤ s.trail) && decide (s.trail ≤ 256) else decide (s.trail = 0)))) := by
  unfold chMay lineMay leftMay trailMay
  simp only [List.length_eq_zero_iff]
end Go.Proofs.YtnnpnkmdhfjccaaDoor.Vex
/- The document's own answer for chunks, reckoned: Check, Number, hex, Wrapped, Last. -/
namespace Go.Proofs.YtnnpnkmdhfjccaaDoor.Vex
open Go Go.RowKit
set_option maxRecDepth 100000
set_option linter.unusedSectionVars false
variable {gI : GI} [HasMax gI]

theorem while_at {p : UInt8 → Bool} : ∀ (s : List UInt8) (k : Nat), k ≤ s.length → (s.take k).all p = true → (∀ x, s[k]? = some x → p x = false) → s.takeWhile p = s.take k ∧ s.dropWhile p = s.drop k
  | [], k, hk, _, _ => by
    obtain rfl : k = 0 := by simpa using hk
    exact ⟨rfl, rfl⟩
  | x :: r, 0, _, _, h => by
    have := h x rfl
    rw [List.takeWhile_cons, List.dropWhile_cons, this]
    exact ⟨rfl, rfl⟩
  | x :: r, k + 1, hk, ha, h => by
    rw [List.take_succ_cons, List.all_cons, Bool.and_eq_true] at ha
    have ih := while_at r k (by simpa using hk) ha.2 (fun y hy => h y (by simpa using hy))
    rw [List.takeWhile_cons, List.dropWhile_cons, ha.1]
    simp only [if_true, List.take_succ_cons, List.drop_succ_cons]
    exact ⟨by rw [ih.1], ih.2⟩
theorem while_long {p : UInt8 → Bool} : ∀ (s : List UInt8) (k : Nat), k ≤ s.length → (s.take k).all p = true → k ≤ (s.takeWhile p).length
  | _, 0, _, _ => Nat.zero_le _
  | [], k + 1, h, _ => by simp at h
  | x :: r, k + 1, h, ha => by
    rw [List.take_succ_cons, List.all_cons, Bool.and_eq_true] at ha
    have ih := while_long r k (by simpa using h) ha.2
    rw [List.takeWhile_cons, ha.1]
    simpa using ih
theorem hexN_bound (l : List UInt8) (h : l.all hexB = true) (h7 : l.length ≤ 7) : 0 ≤ hexN l ∧ hexN l < 268435456 := by
  have hb := hexN_lt l 0 h (Int.le_refl _)
  have hp : (16 : Int) ^ l.length ≤ 268435456 := by
    rcases (show l.length = 0 ∨ l.length = 1 ∨ l.length = 2 ∨ l.length = 3 ∨ l.length = 4 ∨ l.length = 5 ∨ l.length = 6 ∨ l.length = 7 by omega) with e | e | e | e | e | e | e | e <;> rw [e] <;> decide
  unfold hexN
  omega
theorem bl_is (x : UInt8) : (((x.toNat : Nat) : Int) == 32 || ((x.toNat : Nat) : Int) == 9) = blC x := by
  have : ∀ n : Fin 256, (((n.val : Nat) : Int) == 32 || ((n.val : Nat) : Int) == 9) = blC (UInt8.ofNat n.val) := by decide +kernel
  have h := this ⟨x.toNat, x.toNat_lt⟩
  rw [h]
  simp
def hexL : List UInt8 := [48, 49, 50, 51, 52, 53, 54, 55, 56, 57, 97, 98, 99, 100, 101, 102]
theorem hexL_at : ∀ k : Nat, k < 16 → (hexL.take (k + 1)).drop k = [hxD k] := by decide +kernel
theorem DivS.rem64 {x m : Nat} {K : Value → Prop} (hm : 0 < m) (k : K (.int .i64 ((x % m : Nat) : Int))) : DivS .rem .i64 (x : Nat) (m : Nat) K := ⟨by omega, .inr ⟨rfl, _, (Int.ofNat_tmod x m), k⟩⟩
theorem DivS.quo64 {x m : Nat} {K : Value → Prop} (hm : 0 < m) (h : x < 1000000000000) (k : K (.int .i64 ((x / m : Nat) : Int))) : DivS .quo .i64 (x : Nat) (m : Nat) K := ⟨by omega, .inl ⟨rfl, _, by
  have e : ((x : Int).tdiv (m : Int)) = ((x / m : Nat) : Int) := (Int.ofNat_tdiv x m).symm
  have h2 : x / m ≤ x := Nat.div_le_self _ _
  rw [e]
  generalize x / m = q at *
  rw [IntKind.wrap]
  simp [IntKind.bits, IntKind.signed]
  omega, k⟩⟩
theorem hexL_cut (n : Nat) (K : Value → Prop) (k : K (str [hxD (n % 16)])) : SlcS hexL ((n % 16 : Nat) : Int) (((n % 16 : Nat) : Int) + 1) K :=
  SlcS.at (by omega) (by omega) (by show ((n % 16 : Nat) : Int) + 1 ≤ 16; omega) (by
    rw [show (((n % 16 : Nat) : Int) + 1).toNat = n % 16 + 1 by omega, Int.toNat_natCast, hexL_at _ (Nat.mod_lt _ (by decide))]
    exact k)
theorem hex_r : ∀ (f n : Nat), n < 16 ^ (f + 1) → n < 1000000000000 → f ≤ 1000 → Fn Tryd.prog gI 96 [.int .i64 n] (str (hxF f n))
  | 0, n, hf, hn, _ => by
    have h16 : n < 16 := by simpa using hf
    have e : hxF 0 n = [hxD (n % 16)] := rfl
    rw [e]
    refine Fn.of tys_ok Tryd.func96 rfl (by kernel_rfl) rfl rfl ?_; intro w hG
    (conv => whnf); repeat ((first | refine tk1 ?_ | refine tk2 ?_ | refine tk3 ?_ | refine tk12 (fun _ => ?_) | refine tk4 ?_ | refine tk5 ?_ | refine tk6 ?_ | refine tk7 ?_ | refine tk8 ?_ | refine tk9 ?_ | refine tk10 (fun _ _ => ?_) | refine tk11 (fun _ => ?_) | refine tk13 ?_ | refine tk14 ?_); (conv => whnf))
    refine DivS.rem64 (m := 16) (by decide) ?_
    (conv => whnf); repeat ((first | refine tk1 ?_ | refine tk2 ?_ | refine tk3 ?_ | refine tk12 (fun _ => ?_) | refine tk4 ?_ | refine tk5 ?_ | refine tk6 ?_ | refine tk7 ?_ | refine tk8 ?_ | refine tk9 ?_ | refine tk10 (fun _ _ => ?_) | refine tk11 (fun _ => ?_) | refine tk13 ?_ | refine tk14 ?_); (conv => whnf))
    refine DivS.rem64 (m := 16) (by decide) ?_
    (conv => whnf); repeat ((first | refine tk1 ?_ | refine tk2 ?_ | refine tk3 ?_ | refine tk12 (fun _ => ?_) | refine tk4 ?_ | refine tk5 ?_ | refine tk6 ?_ | refine tk7 ?_ | refine tk8 ?_ | refine tk9 ?_ | refine tk10 (fun _ _ => ?_) | refine tk11 (fun _ => ?_) | refine tk13 ?_ | refine tk14 ?_); (conv => whnf))
    refine hexL_cut n _ ?_
    (conv => whnf); repeat ((first | refine tk1 ?_ | refine tk2 ?_ | refine tk3 ?_ | refine tk12 (fun _ => ?_) | refine tk4 ?_ | refine tk5 ?_ | refine tk6 ?_ | refine tk7 ?_ | refine tk8 ?_ | refine tk9 ?_ | refine tk10 (fun _ _ => ?_) | refine tk11 (fun _ => ?_) | refine tk13 ?_ | refine tk14 ?_); (conv => whnf))
    try rfl
  | f + 1, n, hf, hn, hf1 => by
    have ih := hex_r f (n / 16) (by rw [Nat.pow_succ] at hf; omega) (by omega) (by omega)
    have hlong := hxF_long f f (n / 16) (by rw [Nat.pow_succ] at hf; omega)
    have e : hxF (f + 1) n = if n < 16 then [hxD n] else hxF f (n / 16) ++ [hxD (n % 16)] := rfl
    rw [e]
    refine Fn.of tys_ok Tryd.func96 rfl (by kernel_rfl) rfl rfl ?_; intro w hG
    by_cases h16 : n < 16
    · rw [if_pos h16, show hxD n = hxD (n % 16) by rw [Nat.mod_eq_of_lt h16]]
      (conv => whnf); repeat ((first | refine tk1 ?_ | refine tk2 ?_ | refine tk3 ?_ | refine tk12 (fun _ => ?_) | refine tk4 ?_ | refine tk5 ?_ | refine tk6 ?_ | refine tk7 ?_ | refine tk8 ?_ | refine tk9 ?_ | refine tk10 (fun _ _ => ?_) | refine tk11 (fun _ => ?_) | refine tk13 ?_ | refine tk14 ?_); (conv => whnf))
      refine DivS.rem64 (m := 16) (by decide) ?_
      (conv => whnf); repeat ((first | refine tk1 ?_ | refine tk2 ?_ | refine tk3 ?_ | refine tk12 (fun _ => ?_) | refine tk4 ?_ | refine tk5 ?_ | refine tk6 ?_ | refine tk7 ?_ | refine tk8 ?_ | refine tk9 ?_ | refine tk10 (fun _ _ => ?_) | refine tk11 (fun _ => ?_) | refine tk13 ?_ | refine tk14 ?_); (conv => whnf))
      refine DivS.rem64 (m := 16) (by decide) ?_
      (conv => whnf); repeat ((first | refine tk1 ?_ | refine tk2 ?_ | refine tk3 ?_ | refine tk12 (fun _ => ?_) | refine tk4 ?_ | refine tk5 ?_ | refine tk6 ?_ | refine tk7 ?_ | refine tk8 ?_ | refine tk9 ?_ | refine tk10 (fun _ _ => ?_) | refine tk11 (fun _ => ?_) | refine tk13 ?_ | refine tk14 ?_); (conv => whnf))
      refine hexL_cut n _ ?_
      (conv => whnf); repeat ((first | refine tk1 ?_ | refine tk2 ?_ | refine tk3 ?_ | refine tk12 (fun _ => ?_) | refine tk4 ?_ | refine tk5 ?_ | refine tk6 ?_ | refine tk7 ?_ | refine tk8 ?_ | refine tk9 ?_ | refine tk10 (fun _ _ => ?_) | refine tk11 (fun _ => ?_) | refine tk13 ?_ | refine tk14 ?_); (conv => whnf))
      try rfl
    · rw [if_neg h16]
      (conv => whnf); repeat ((first | refine tk1 ?_ | refine tk2 ?_ | refine tk3 ?_ | refine tk12 (fun _ => ?_) | refine tk4 ?_ | refine tk5 ?_ | refine tk6 ?_ | refine tk7 ?_ | refine tk8 ?_ | refine tk9 ?_ | refine tk10 (fun _ _ => ?_) | refine tk11 (fun _ => ?_) | refine tk13 ?_ | refine tk14 ?_); (conv => whnf))
      refine DivS.rem64 (m := 16) (by decide) ?_
      (conv => whnf); repeat ((first | refine tk1 ?_ | refine tk2 ?_ | refine tk3 ?_ | refine tk12 (fun _ => ?_) | refine tk4 ?_ | refine tk5 ?_ | refine tk6 ?_ | refine tk7 ?_ | refine tk8 ?_ | refine tk9 ?_ | refine tk10 (fun _ _ => ?_) | refine tk11 (fun _ => ?_) | refine tk13 ?_ | refine tk14 ?_); (conv => whnf))
      refine DivS.rem64 (m := 16) (by decide) ?_
      (conv => whnf); repeat ((first | refine tk1 ?_ | refine tk2 ?_ | refine tk3 ?_ | refine tk12 (fun _ => ?_) | refine tk4 ?_ | refine tk5 ?_ | refine tk6 ?_ | refine tk7 ?_ | refine tk8 ?_ | refine tk9 ?_ | refine tk10 (fun _ _ => ?_) | refine tk11 (fun _ => ?_) | refine tk13 ?_ | refine tk14 ?_); (conv => whnf))
      refine hexL_cut n _ ?_
      (conv => whnf); repeat ((first | refine tk1 ?_ | refine tk2 ?_ | refine tk3 ?_ | refine tk12 (fun _ => ?_) | refine tk4 ?_ | refine tk5 ?_ | refine tk6 ?_ | refine tk7 ?_ | refine tk8 ?_ | refine tk9 ?_ | refine tk10 (fun _ _ => ?_) | refine tk11 (fun _ => ?_) | refine tk13 ?_ | refine tk14 ?_); (conv => whnf))
      refine DivS.quo64 (m := 16) (by decide) hn ?_
      (conv => whnf); repeat ((first | refine tk1 ?_ | refine tk2 ?_ | refine tk3 ?_ | refine tk12 (fun _ => ?_) | refine tk4 ?_ | refine tk5 ?_ | refine tk6 ?_ | refine tk7 ?_ | refine tk8 ?_ | refine tk9 ?_ | refine tk10 (fun _ _ => ?_) | refine tk11 (fun _ => ?_) | refine tk13 ?_ | refine tk14 ?_); (conv => whnf))
      refine CallK.fn ih ?_
      (conv => whnf); repeat ((first | refine tk1 ?_ | refine tk2 ?_ | refine tk3 ?_ | refine tk12 (fun _ => ?_) | refine tk4 ?_ | refine tk5 ?_ | refine tk6 ?_ | refine tk7 ?_ | refine tk8 ?_ | refine tk9 ?_ | refine tk10 (fun _ _ => ?_) | refine tk11 (fun _ => ?_) | refine tk13 ?_ | refine tk14 ?_); (conv => whnf))
      refine CatS.at (by simp; omega) ?_
      (conv => whnf); repeat ((first | refine tk1 ?_ | refine tk2 ?_ | refine tk3 ?_ | refine tk12 (fun _ => ?_) | refine tk4 ?_ | refine tk5 ?_ | refine tk6 ?_ | refine tk7 ?_ | refine tk8 ?_ | refine tk9 ?_ | refine tk10 (fun _ _ => ?_) | refine tk11 (fun _ => ?_) | refine tk13 ?_ | refine tk14 ?_); (conv => whnf))
      try rfl
theorem RLast_f : FnS Tryd.prog gI 49 [] [] 5 1 5 (lastC.map byteV) := by
  refine FnE.of tys_ok Tryd.func49 rfl (by kernel_rfl) rfl rfl ?_; intro w hG hP
  (conv => whnf); repeat ((first | refine tk1 ?_ | refine tk2 ?_ | refine tk3 ?_ | refine tk12 (fun _ => ?_) | refine tk4 ?_ | refine tk5 ?_ | refine tk6 ?_ | refine tk7 ?_ | refine tk8 ?_ | refine tk9 ?_ | refine tk10 (fun _ _ => ?_) | refine tk11 (fun _ => ?_) | refine tk13 ?_ | refine tk14 ?_); (conv => whnf))
  exact rowPost.of (by simp [lastC, byteV])
theorem Wrapped_f (A : Option Addr) (cp : Nat) (b : List UInt8) (hb : b.length ≤ 1000000000) : FnS Tryd.prog gI 75 [.slice A b.length cp] [(A, b.map byteV)] 5 1 (wrapG b).length ((wrapG b).map byteV) := by
  have hh := hex_r (gI := gI) 16 b.length (by omega) (by omega) (by omega)
  have hl : (hxF 16 b.length).length ≤ 8 := hxF_long 16 7 b.length (by omega)
  refine FnE.of tys_ok Tryd.func75 rfl (by kernel_rfl) rfl rfl ?_; intro w hG hP
  have hA : ∀ H, RdA (mkC Tryd.prog gI w hG) H A (b.map byteV) := fun H => ⟨hP.1.now⟩
  clear hP
  by_cases h0 : b.length = 0
  · obtain rfl : b = [] := List.eq_nil_of_length_eq_zero h0
    (conv => whnf); repeat ((first | refine tk1 ?_ | refine tk2 ?_ | refine tk3 ?_ | refine tk12 (fun _ => ?_) | refine tk4 ?_ | refine tk5 ?_ | refine tk6 ?_ | refine tk7 ?_ | refine tk8 ?_ | refine tk9 ?_ | refine tk10 (fun _ _ => ?_) | refine tk11 (fun _ => ?_) | refine tk13 ?_ | refine tk14 ?_); (conv => whnf))
    exact rowPost.nil _ _
  have hw : wrapG b = (hxF 16 b.length ++ [13, 10]) ++ b ++ [13, 10] := by unfold wrapG hxS; rw [if_neg (fun e => h0 (by rw [e]; rfl))]
  rw [hw]
  generalize hxF 16 b.length = hx at *
  have hl2 : (hx ++ [13, 10]).length ≤ 10 := by rw [List.length_append]; simp only [List.length_cons, List.length_nil]; omega
  (conv => whnf); repeat ((first | refine tk1 ?_ | refine tk2 ?_ | refine tk3 ?_ | refine tk12 (fun _ => ?_) | refine tk4 ?_ | refine tk5 ?_ | refine tk6 ?_ | refine tk7 ?_ | refine tk8 ?_ | refine tk9 ?_ | refine tk10 (fun _ _ => ?_) | refine tk11 (fun _ => ?_) | refine tk13 ?_ | refine tk14 ?_); (conv => whnf))
  refine CallK.fn hh ?_
  (conv => whnf); repeat ((first | refine tk1 ?_ | refine tk2 ?_ | refine tk3 ?_ | refine tk12 (fun _ => ?_) | refine tk4 ?_ | refine tk5 ?_ | refine tk6 ?_ | refine tk7 ?_ | refine tk8 ?_ | refine tk9 ?_ | refine tk10 (fun _ _ => ?_) | refine tk11 (fun _ => ?_) | refine tk13 ?_ | refine tk14 ?_); (conv => whnf))
  refine CatS.at (by simp; omega) ?_
  (conv => whnf); repeat ((first | refine tk1 ?_ | refine tk2 ?_ | refine tk3 ?_ | refine tk12 (fun _ => ?_) | refine tk4 ?_ | refine tk5 ?_ | refine tk6 ?_ | refine tk7 ?_ | refine tk8 ?_ | refine tk9 ?_ | refine tk10 (fun _ _ => ?_) | refine tk11 (fun _ => ?_) | refine tk13 ?_ | refine tk14 ?_); (conv => whnf))
  refine AppS.tc (m := b.length) (news := b.map byteV) (SrcK.rd (hA _).ok) (by simp) (bytes_one _) (by decide) (by omega) (by omega) (zs := ((hx ++ [13, 10]) ++ b).map byteV) List.map_append.symm (fun B2 c2 => ?_)
  rw [← List.length_append]
  have h4 : (hx ++ [13, 10] ++ b).length + 2 = (hx ++ [13, 10] ++ b ++ [13, 10]).length := by simp; omega
  have hl3 : (hx ++ [13, 10] ++ b).length ≤ 10 + b.length := by rw [List.length_append]; omega
  (conv => whnf); repeat ((first | refine tk1 ?_ | refine tk2 ?_ | refine tk3 ?_ | refine tk12 (fun _ => ?_) | refine tk4 ?_ | refine tk5 ?_ | refine tk6 ?_ | refine tk7 ?_ | refine tk8 ?_ | refine tk9 ?_ | refine tk10 (fun _ _ => ?_) | refine tk11 (fun _ => ?_) | refine tk13 ?_ | refine tk14 ?_); (conv => whnf))
  refine AppS.tc (m := 2) (news := ([13, 10] : List UInt8).map byteV) SrcK.tc (by simp) (bytes_one _) (by decide) (by omega) (by omega) (zs := (hx ++ [13, 10] ++ b ++ [13, 10]).map byteV) List.map_append.symm (fun B3 c3 => ?_)
  rw [h4]
  (conv => whnf); repeat ((first | refine tk1 ?_ | refine tk2 ?_ | refine tk3 ?_ | refine tk12 (fun _ => ?_) | refine tk4 ?_ | refine tk5 ?_ | refine tk6 ?_ | refine tk7 ?_ | refine tk8 ?_ | refine tk9 ?_ | refine tk10 (fun _ _ => ?_) | refine tk11 (fun _ => ?_) | refine tk13 ?_ | refine tk14 ?_); (conv => whnf))
  exact rowPost.of (by simp)
end Go.Proofs.YtnnpnkmdhfjccaaDoor.Vex
/- What is great in layer 27, reckoned: it tells something of any argument. -/
namespace Go.Proofs.YtnnpnkmdhfjccaaDoor.Vex
open Go Go.RowKit
set_option maxRecDepth 100000
set_option linter.unusedSectionVars false
variable {gI : GI} [HasMax gI]

theorem mul_bound {a b : Int} (h1 : 0 ≤ a) (h2 : a ≤ 2000) (h3 : 0 ≤ b) (h4 : b ≤ 200) : 0 ≤ a * b ∧ a * b ≤ 400000 :=
  ⟨Int.mul_nonneg h1 h3, Int.le_trans (Int.mul_le_mul h2 h4 h3 (by decide)) (by decide)⟩
end Go.Proofs.YtnnpnkmdhfjccaaDoor.Vex
/- Plain laws on pages: where flushes cut a body. No program in sight. -/
namespace Go.Proofs.YtnnpnkmdhfjccaaDoor.Vex

/-- How many bytes stand up to the end of each part. -/
def cumG (n : Nat) : Prs → List Nat
  | [] => []
  | p :: r => (n + p.1.length) :: cumG (n + p.1.length) r
def cumE (d : Prs) : List Nat := cumG 0 d
theorem cumG_length : ∀ (d : Prs) (n : Nat), (cumG n d).length = d.length
  | [], _ => rfl
  | p :: r, n => by simp only [cumG, List.length_cons, cumG_length r]
theorem cumG_snoc (p : List UInt8 × Bool) : ∀ (d : Prs) (n : Nat), cumG n (d ++ [p]) = cumG n d ++ [n + total d + p.1.length]
  | [], n => by simp [cumG, total]
  | q :: r, n => by
    simp only [List.cons_append, cumG, cumG_snoc p r, total]
    congr 3
    omega
theorem cumG_at : ∀ (d : Prs) (n i : Nat), i < d.length → (cumG n d)[i]? = some (n + total (d.take (i + 1)))
  | [], _, i, h => by simp at h
  | p :: r, n, 0, _ => by simp [cumG, total]
  | p :: r, n, i + 1, h => by
    simp only [cumG, List.getElem?_cons_succ, List.take_succ_cons, total]
    rw [cumG_at r _ i (by simpa using h)]
    congr 1
    omega
theorem cumE_length (d : Prs) : (cumE d).length = d.length := cumG_length d 0
theorem cumE_at (d : Prs) (i : Nat) (h : i < d.length) : (cumE d)[i]? = some (total (d.take (i + 1))) := by
  have := cumG_at d 0 i h
  rw [Nat.zero_add] at this
  exact this
theorem cumE_last (d : Prs) (h : d ≠ []) : (cumE d)[d.length - 1]? = some (total d) := by
  have h1 := List.length_pos_iff.2 h
  rw [cumE_at d _ (by omega), show d.length - 1 + 1 = d.length by omega, List.take_length]
/-- What the ends are when a piece more is told. -/
theorem ends_none (l : Prs) (x : List UInt8 × Bool) (h : x.2 = false) : cumE (stG (l ++ [x])).2 = cumE (stG l).2 := by
  rw [stG_snoc]; unfold stepG; rw [h]; rfl
theorem ends_step (l : Prs) (x : List UInt8 × Bool) (h : x.2 = true) :
    cumE (stG (l ++ [x])).2 = if 0 < total (l ++ [x]) ∧ ((stG l).2 = [] ∨ total (stG l).2 < total (l ++ [x])) then cumE (stG l).2 ++ [total (l ++ [x])] else cumE (stG l).2 := by
  have h1 := total_stG l
  have h2 := total_snoc l x
  have h3 : total (stG l).2 = 0 → (stG l).2 = [] := fun h0 => by
    have := length_le_total (stG l).2 fun p hp => (whole_stG l p hp).1
    exact List.eq_nil_of_length_eq_zero (by omega)
  rw [stG_snoc]
  unfold stepG
  rw [h]
  simp only [if_true]
  unfold close1
  by_cases hz : (stG l).1 ++ x.1 = []
  · have hz' := congrArg List.length hz
    rw [List.length_append, List.length_nil] at hz'
    rw [if_pos hz, if_neg]
    rintro ⟨h4, h5⟩
    rcases h5 with h5 | h5
    · rw [h5] at h1
      simp only [total] at h1
      omega
    · omega
  · have hz' : 0 < ((stG l).1 ++ x.1).length := List.length_pos_iff.2 hz
    rw [List.length_append] at hz'
    rw [if_neg hz, if_pos ⟨by omega, .inr (by omega)⟩]
    unfold cumE
    rw [cumG_snoc, List.length_append]
    congr 2
    omega
/-- The parts, and those among them that have a flush. -/
theorem parts_cases (l : Prs) : ((stG l).1 = [] ∧ partsG l = (stG l).2) ∨ ((stG l).1 ≠ [] ∧ partsG l = (stG l).2 ++ [((stG l).1, false)]) := by
  unfold partsG close1
  by_cases h : (stG l).1 = []
  · exact .inl ⟨h, by rw [if_pos h]⟩
  · exact .inr ⟨h, by rw [if_neg h]⟩
theorem parts_at (l : Prs) (i : Nat) (h : i < (partsG l).length) : ((partsG l)[i].1 ≠ []) ∧
    (((i < (stG l).2.length) ∧ (partsG l)[i].2 = true ∧ (cumE (stG l).2)[i]? = some (total ((partsG l).take (i + 1)))) ∨ (i = (stG l).2.length ∧ (partsG l)[i].2 = false ∧ i + 1 = (partsG l).length)) := by
  have hw := whole_stG l
  rcases parts_cases l with ⟨h0, h1⟩ | ⟨h0, h1⟩
  · have h2 : i < (stG l).2.length := by rw [← h1]; exact h
    have h3 : (partsG l)[i] = (stG l).2[i] := by simp only [h1]
    have h4 := hw _ (List.getElem_mem h2)
    rw [h3]
    exact ⟨h4.1, .inl ⟨h2, h4.2, by rw [cumE_at _ _ h2, h1]⟩⟩
  · have h5 : (partsG l).length = (stG l).2.length + 1 := by rw [h1]; simp
    by_cases h2 : i < (stG l).2.length
    · have h3 : (partsG l)[i] = (stG l).2[i] := by simp only [h1]; rw [List.getElem_append_left h2]
      have h4 := hw _ (List.getElem_mem h2)
      rw [h3]
      exact ⟨h4.1, .inl ⟨h2, h4.2, by rw [cumE_at _ _ h2, h1, List.take_append_of_le_length (by omega)]⟩⟩
    · have h6 : i = (stG l).2.length := by omega
      have h3 : (partsG l)[i] = ((stG l).1, false) := by simp only [h1]; rw [List.getElem_append_right (by omega)]; simp [h6]
      rw [h3]
      exact ⟨h0, .inr ⟨h6, rfl, by omega⟩⟩
theorem parts_length (l : Prs) : (partsG l).length ≤ l.length ∧ (stG l).2.length ≤ (partsG l).length ∧ (partsG l).length ≤ (stG l).2.length + 1 := by
  have key : ∀ l : Prs, (stG l).2.length + (if (stG l).1 = [] then 0 else 1) ≤ l.length := fun l => by
    refine snoc_ind (p := fun l => (stG l).2.length + (if (stG l).1 = [] then 0 else 1) ≤ l.length) (Nat.le_refl _) (fun l x ih => ?_) l
    have h9 := stG_length l
    rw [stG_snoc, List.length_append]
    unfold stepG close1
    by_cases hx : x.2 = true
    · rw [if_pos hx]
      dsimp only
      split
      · simp; omega
      · simp; omega
    · rw [if_neg hx]
      dsimp only
      split
      · simp; omega
      · simp; omega
  have h := key l
  rcases parts_cases l with ⟨h0, h1⟩ | ⟨h0, h1⟩
  · rw [if_pos h0] at h
    rw [h1]
    omega
  · rw [if_neg h0] at h
    rw [h1]
    simp
    omega
theorem parts_one (x : List UInt8 × Bool) : partsG [x] = if x.1 = [] then [] else [x] := by
  obtain ⟨s, f⟩ := x
  unfold partsG stG stepG close1
  cases f <;> by_cases h : s = [] <;> simp [h]
end Go.Proofs.YtnnpnkmdhfjccaaDoor.Vex
/- The statements' own first example, reckoned: answers, alive. -/
namespace Go.Proofs.YtnnpnkmdhfjccaaDoor.Vex
open Go Go.RowKit
set_option maxRecDepth 100000
set_option linter.unusedSectionVars false
variable {gI : GI} [HasMax gI]

theorem prtsOk_st {c : Ctx} {H : Hp} {A : Option Addr} {ps : List Prt} (h1 : RdS c H A (pcells ps)) (h2 : ∀ q ∈ ps, RdS c H q.A (q.l.map byteV)) : ∀ w, St c H w → PrtsOk w A ps :=
  fun w hw => ⟨h1 w hw, fun q hq => h2 q hq w hw⟩
theorem answers_ps_le {st : Int} {fs : List Fld} {tag : List UInt8} {press : Bool} {Q : List Pce} {B q : List UInt8} {pm : List Fld} {a : Ans} {e : Int} (h : answerOf st fs tag press Q B q pm = (a, e)) : a.ps.length ≤ Q.length ∧ total a.ps ≤ 131072 ∧ a.fs.length ≤ fs.length + 1 := by
  unfold answerOf at h
  split at h
  · split at h
    · rename_i h2
      obtain ⟨rfl, rfl⟩ := Prod.mk.inj h
      refine ⟨?_, ?_, ?_⟩
      · have := (parts_length (told B q pm Q)).1
        unfold told at this
        rw [List.length_map] at this
        exact this
      · show total (partsG _) ≤ _
        rw [← total_bodyOf, bodyOf_parts, total_bodyOf]
        exact h2
      · show (ansF tag fs).length ≤ _
        unfold ansF
        split
        · omega
        · simp
    · obtain ⟨rfl, rfl⟩ := Prod.mk.inj h
      exact ⟨Nat.zero_le _, Nat.zero_le _, Nat.zero_le _⟩
  · obtain ⟨rfl, rfl⟩ := Prod.mk.inj h
    exact ⟨Nat.zero_le _, Nat.zero_le _, Nat.zero_le _⟩
def pm2 : List Fld := [([120], [49]), ([120], [50])]
def aliveL : List Pce := [⟨1, [97, 98], 2, false⟩, ⟨2, [120], 0, true⟩, ⟨3, [], 0, false⟩]
end Go.Proofs.YtnnpnkmdhfjccaaDoor.Vex
/- The document's own answer for pages, reckoned: May, Check, Bytes. -/
namespace Go.Proofs.YtnnpnkmdhfjccaaDoor.Vex
open Go Go.RowKit
set_option maxRecDepth 100000
set_option linter.unusedSectionVars false
variable {gI : GI} [HasMax gI]

theorem Own_r (s : List UInt8) : Fn Tryd.prog gI 45 [str s] (.bool (ownL.contains s)) := by
  refine Fn.of tys_ok Tryd.func45 rfl (by kernel_rfl) rfl rfl ?_; intro w hG
  have key : ownL.contains s = (decide (s = clN) || (decide (s = teN) || (decide (s = coN) || (decide (s = ceN) || decide (s = etN))))) := by
    unfold ownL
    rw [Bool.eq_iff_iff]
    simp
  rw [key]
  (conv => whnf); repeat ((first | refine tk1 ?_ | refine tk2 ?_ | refine tk3 ?_ | refine tk12 (fun _ => ?_) | refine tk4 ?_ | refine tk5 ?_ | refine tk6 ?_ | refine tk7 ?_ | refine tk8 ?_ | refine tk9 ?_ | refine tk10 (fun _ _ => ?_) | refine tk11 (fun _ => ?_) | refine tk13 ?_ | refine tk14 ?_); (conv => whnf))
  refine Cmp.cases (fun c1 => ?_) (fun c1 => ?_)
  · rw [show decide (s = clN) = true from decide_eq_true c1]
    (conv => whnf); repeat ((first | refine tk1 ?_ | refine tk2 ?_ | refine tk3 ?_ | refine tk12 (fun _ => ?_) | refine tk4 ?_ | refine tk5 ?_ | refine tk6 ?_ | refine tk7 ?_ | refine tk8 ?_ | refine tk9 ?_ | refine tk10 (fun _ _ => ?_) | refine tk11 (fun _ => ?_) | refine tk13 ?_ | refine tk14 ?_); (conv => whnf))
    rfl
  rw [show decide (s = clN) = false from decide_eq_false c1]
  (conv => whnf); repeat ((first | refine tk1 ?_ | refine tk2 ?_ | refine tk3 ?_ | refine tk12 (fun _ => ?_) | refine tk4 ?_ | refine tk5 ?_ | refine tk6 ?_ | refine tk7 ?_ | refine tk8 ?_ | refine tk9 ?_ | refine tk10 (fun _ _ => ?_) | refine tk11 (fun _ => ?_) | refine tk13 ?_ | refine tk14 ?_); (conv => whnf))
  refine Cmp.cases (fun c2 => ?_) (fun c2 => ?_)
  · rw [show decide (s = teN) = true from decide_eq_true c2]
    (conv => whnf); repeat ((first | refine tk1 ?_ | refine tk2 ?_ | refine tk3 ?_ | refine tk12 (fun _ => ?_) | refine tk4 ?_ | refine tk5 ?_ | refine tk6 ?_ | refine tk7 ?_ | refine tk8 ?_ | refine tk9 ?_ | refine tk10 (fun _ _ => ?_) | refine tk11 (fun _ => ?_) | refine tk13 ?_ | refine tk14 ?_); (conv => whnf))
    rfl
  rw [show decide (s = teN) = false from decide_eq_false c2]
  (conv => whnf); repeat ((first | refine tk1 ?_ | refine tk2 ?_ | refine tk3 ?_ | refine tk12 (fun _ => ?_) | refine tk4 ?_ | refine tk5 ?_ | refine tk6 ?_ | refine tk7 ?_ | refine tk8 ?_ | refine tk9 ?_ | refine tk10 (fun _ _ => ?_) | refine tk11 (fun _ => ?_) | refine tk13 ?_ | refine tk14 ?_); (conv => whnf))
  refine Cmp.cases (fun c3 => ?_) (fun c3 => ?_)
  · rw [show decide (s = coN) = true from decide_eq_true c3]
    (conv => whnf); repeat ((first | refine tk1 ?_ | refine tk2 ?_ | refine tk3 ?_ | refine tk12 (fun _ => ?_) | refine tk4 ?_ | refine tk5 ?_ | refine tk6 ?_ | refine tk7 ?_ | refine tk8 ?_ | refine tk9 ?_ | refine tk10 (fun _ _ => ?_) | refine tk11 (fun _ => ?_) | refine tk13 ?_ | refine tk14 ?_); (conv => whnf))
    rfl
  rw [show decide (s = coN) = false from decide_eq_false c3]
  (conv => whnf); repeat ((first | refine tk1 ?_ | refine tk2 ?_ | refine tk3 ?_ | refine tk12 (fun _ => ?_) | refine tk4 ?_ | refine tk5 ?_ | refine tk6 ?_ | refine tk7 ?_ | refine tk8 ?_ | refine tk9 ?_ | refine tk10 (fun _ _ => ?_) | refine tk11 (fun _ => ?_) | refine tk13 ?_ | refine tk14 ?_); (conv => whnf))
  refine Cmp.cases (fun c4 => ?_) (fun c4 => ?_)
  · rw [show decide (s = ceN) = true from decide_eq_true c4]
    (conv => whnf); repeat ((first | refine tk1 ?_ | refine tk2 ?_ | refine tk3 ?_ | refine tk12 (fun _ => ?_) | refine tk4 ?_ | refine tk5 ?_ | refine tk6 ?_ | refine tk7 ?_ | refine tk8 ?_ | refine tk9 ?_ | refine tk10 (fun _ _ => ?_) | refine tk11 (fun _ => ?_) | refine tk13 ?_ | refine tk14 ?_); (conv => whnf))
    rfl
  rw [show decide (s = ceN) = false from decide_eq_false c4]
  (conv => whnf); repeat ((first | refine tk1 ?_ | refine tk2 ?_ | refine tk3 ?_ | refine tk12 (fun _ => ?_) | refine tk4 ?_ | refine tk5 ?_ | refine tk6 ?_ | refine tk7 ?_ | refine tk8 ?_ | refine tk9 ?_ | refine tk10 (fun _ _ => ?_) | refine tk11 (fun _ => ?_) | refine tk13 ?_ | refine tk14 ?_); (conv => whnf))
  refine Cmp.of (decide (s = etN)) (by simp; rfl) ?_
  (conv => whnf); repeat ((first | refine tk1 ?_ | refine tk2 ?_ | refine tk3 ?_ | refine tk12 (fun _ => ?_) | refine tk4 ?_ | refine tk5 ?_ | refine tk6 ?_ | refine tk7 ?_ | refine tk8 ?_ | refine tk9 ?_ | refine tk10 (fun _ _ => ?_) | refine tk11 (fun _ => ?_) | refine tk13 ?_ | refine tk14 ?_); (conv => whnf))
  rfl
end Go.Proofs.YtnnpnkmdhfjccaaDoor.Vex
/- The document's own answer for pages, reckoned, second part: May, Check, Bytes. -/
namespace Go.Proofs.YtnnpnkmdhfjccaaDoor.Vex
open Go Go.RowKit
set_option maxRecDepth 100000
set_option linter.unusedSectionVars false
variable {gI : GI} [HasMax gI]

theorem byte_one (l : List UInt8) : ∀ u ∈ l.map byteV, u.oneCell' = true := fun u hu => by
  obtain ⟨y, _, rfl⟩ := List.mem_map.1 hu
  rfl
end Go.Proofs.YtnnpnkmdhfjccaaDoor.Vex
/- The document's own answer for pages, reckoned, third part: Parts, Told, Answer. -/
namespace Go.Proofs.YtnnpnkmdhfjccaaDoor.Vex
open Go Go.RowKit
set_option maxRecDepth 100000
set_option linter.unusedSectionVars false
variable {gI : GI} [HasMax gI]

/-- The memory of parts. -/
structure PrV where
  A : Option Addr
  cp : Nat
  ps : List Prt
def PrV.val (x : PrV) : Value := .slice x.A x.ps.length x.cp
def PrV.hd (x : PrV) : Hp := [.row (.slice x.A x.ps.length x.cp) 37 2 x.ps.length (pcells x.ps)]
def PrV.tl (x : PrV) : Hp := rowsP 5 x.ps
theorem partsG_of (l : Prs) (o : List UInt8) (d : Prs) (h : (o, d) = stG l) (ho : o = []) : d = partsG l := by
  unfold partsG close1
  rw [← h, if_pos ho]
end Go.Proofs.YtnnpnkmdhfjccaaDoor.Vex
/- The document's own answer for pages, reckoned, fourth part: Told, Answer. -/
namespace Go.Proofs.YtnnpnkmdhfjccaaDoor.Vex
open Go Go.RowKit
set_option maxRecDepth 100000
set_option linter.unusedSectionVars false
variable {gI : GI} [HasMax gI]

end Go.Proofs.YtnnpnkmdhfjccaaDoor.Vex
/- An error's answer, and the statement PageNames, reckoned. -/
namespace Go.Proofs.YtnnpnkmdhfjccaaDoor.Vex
open Go Go.RowKit
set_option maxRecDepth 100000
set_option linter.unusedSectionVars false
variable {gI : GI} [HasMax gI] [HasPow gI]

def errorOf (st : Int) : Ans × Int := if st < 400 ∨ 599 < st then (ans0, 8) else (⟨st, [], [(Lib.itoa st ++ [10], false)], [], false⟩, 0)
end Go.Proofs.YtnnpnkmdhfjccaaDoor.Vex
/- An error's answer, as the document has it; Body and Same, reckoned. -/
namespace Go.Proofs.YtnnpnkmdhfjccaaDoor.Vex
open Go Go.RowKit
set_option maxRecDepth 100000
set_option linter.unusedSectionVars false
variable {gI : GI} [HasMax gI] [HasPow gI]

theorem Body_r (A : Option Addr) (cp : Nat) (ps : List Prt) (hn : ps.length ≤ 4000000) (ht : total (ps.map pure1) ≤ 4000000) :
    FnE Tryd.prog gI 74 [.slice A ps.length cp] (fun w => PrtsOk w A ps) fun w v w' => ∃ u, v = u ∧ rowPost 5 1 (bodyOf (ps.map pure1)).length ((bodyOf (ps.map pure1)).map byteV) w u w' := by
  refine FnE.of tys_ok Tryd.func74 rfl (by kernel_rfl) rfl rfl ?_; intro w hG hP
  have hR : ∀ H, RdA (mkC Tryd.prog gI w hG) H A (pcells ps) := fun H => ⟨hP.1.now⟩
  (conv => whnf); repeat ((first | refine tk1 ?_ | refine tk2 ?_ | refine tk3 ?_ | refine tk12 (fun _ => ?_) | refine tk4 ?_ | refine tk5 ?_ | refine tk6 ?_ | refine tk7 ?_ | refine tk8 ?_ | refine tk9 ?_ | refine tk10 (fun _ _ => ?_) | refine tk11 (fun _ => ?_) | refine tk13 ?_ | refine tk14 ?_); (conv => whnf))
  refine LoopS.nilRow 5 1 ?_
  refine LoopS.lp tys_ok (fun (x : Nat × Option Addr × Nat) u => [.slice A ps.length cp, u 1, u 2, .slice x.2.1 (bodyOf ((ps.map pure1).take x.1)).length x.2.2, .int .i64 (x.1 : Nat), u 5, u 6, u 7, u 8, u 9, u 10, u 11, u 12, u 13, u 14, u 15, u 16, u 17, u 18])
    (fun x => [.row (.slice x.2.1 (bodyOf ((ps.map pure1).take x.1)).length x.2.2) 5 1 (bodyOf ((ps.map pure1).take x.1)).length ((bodyOf ((ps.map pure1).take x.1)).map byteV)])
    (fun x => x.1 ≤ ps.length) (fun x => ps.length - x.1) (0, none, 0) (Nat.zero_le _) rfl (by repeat' (first | exact List.Sublist.refl _ | exact List.nil_sublist _ | apply List.Sublist.cons_cons | apply List.Sublist.cons)) ?_
  rintro ⟨k, B, cq⟩ u hk
  dsimp only at hk ⊢
  (conv => whnf); repeat ((first | refine tk1 ?_ | refine tk2 ?_ | refine tk3 ?_ | refine tk12 (fun _ => ?_) | refine tk4 ?_ | refine tk5 ?_ | refine tk6 ?_ | refine tk7 ?_ | refine tk8 ?_ | refine tk9 ?_ | refine tk10 (fun _ _ => ?_) | refine tk11 (fun _ => ?_) | refine tk13 ?_ | refine tk14 ?_); (conv => whnf))
  refine Cmp.cases (fun hlt => ?_) (fun hlt => ?_)
  · have hlt' : k < ps.length := by omega
    have hkp : k < (ps.map pure1).length := by rw [List.length_map]; exact hlt'
    have ga := pcells_at ps k hlt'
    have eg : (ps.map pure1)[k] = pure1 ps[k] := List.getElem_map ..
    obtain ⟨q, hq⟩ : ∃ q, ps[k] = q := ⟨_, rfl⟩
    have hqm : q ∈ ps := hq ▸ List.getElem_mem hlt'
    have hRq : ∀ H, RdA (mkC Tryd.prog gI w hG) H q.A (q.l.map byteV) := fun H => ⟨(hP.2 q hqm).now⟩
    have e1 : bodyOf ((ps.map pure1).take (k + 1)) = bodyOf ((ps.map pure1).take k) ++ q.l := by
      rw [List.take_succ_eq_append_getElem hkp, bodyOf_snoc, eg, hq]; rfl
    have e2 := total_take (ps.map pure1) (k + 1)
    rw [← total_bodyOf, e1, List.length_append] at e2
    rw [hq] at ga
    (conv => whnf); repeat ((first | refine tk1 ?_ | refine tk2 ?_ | refine tk3 ?_ | refine tk12 (fun _ => ?_) | refine tk4 ?_ | refine tk5 ?_ | refine tk6 ?_ | refine tk7 ?_ | refine tk8 ?_ | refine tk9 ?_ | refine tk10 (fun _ _ => ?_) | refine tk11 (fun _ => ?_) | refine tk13 ?_ | refine tk14 ?_); (conv => whnf))
    refine IdxA.tc (by rw [pcells_length]; omega) (by omega) (by omega) ?_
    (conv => whnf); repeat ((first | refine tk1 ?_ | refine tk2 ?_ | refine tk3 ?_ | refine tk12 (fun _ => ?_) | refine tk4 ?_ | refine tk5 ?_ | refine tk6 ?_ | refine tk7 ?_ | refine tk8 ?_ | refine tk9 ?_ | refine tk10 (fun _ _ => ?_) | refine tk11 (fun _ => ?_) | refine tk13 ?_ | refine tk14 ?_); (conv => whnf))
    refine Ld.taF (v := .slice q.A q.l.length q.cp) ga.1 ?_
    (conv => whnf); repeat ((first | refine tk1 ?_ | refine tk2 ?_ | refine tk3 ?_ | refine tk12 (fun _ => ?_) | refine tk4 ?_ | refine tk5 ?_ | refine tk6 ?_ | refine tk7 ?_ | refine tk8 ?_ | refine tk9 ?_ | refine tk10 (fun _ _ => ?_) | refine tk11 (fun _ => ?_) | refine tk13 ?_ | refine tk14 ?_); (conv => whnf))
    refine AppS.tc (m := q.l.length) (news := q.l.map byteV) SrcK.tc (by simp) (byte_one _) (by decide) (by omega) (by omega) (zs := (bodyOf ((ps.map pure1).take (k + 1))).map byteV) (by rw [e1, List.map_append]) (fun B' cq' => ?_)
    rw [show (bodyOf ((ps.map pure1).take k)).length + q.l.length = (bodyOf ((ps.map pure1).take (k + 1))).length by rw [e1, List.length_append]]
    (conv => whnf); repeat ((first | refine tk1 ?_ | refine tk2 ?_ | refine tk3 ?_ | refine tk12 (fun _ => ?_) | refine tk4 ?_ | refine tk5 ?_ | refine tk6 ?_ | refine tk7 ?_ | refine tk8 ?_ | refine tk9 ?_ | refine tk10 (fun _ _ => ?_) | refine tk11 (fun _ => ?_) | refine tk13 ?_ | refine tk14 ?_); (conv => whnf))
    exact ⟨(k + 1, B', cq'), by dsimp only; omega, rfl, (by repeat' (first | exact List.Sublist.refl _ | exact List.nil_sublist _ | apply List.Sublist.cons_cons | apply List.Sublist.cons)), by dsimp only; omega⟩
  · rw [List.take_of_length_le (show (ps.map pure1).length ≤ k by rw [List.length_map]; omega)]
    (conv => whnf); repeat ((first | refine tk1 ?_ | refine tk2 ?_ | refine tk3 ?_ | refine tk12 (fun _ => ?_) | refine tk4 ?_ | refine tk5 ?_ | refine tk6 ?_ | refine tk7 ?_ | refine tk8 ?_ | refine tk9 ?_ | refine tk10 (fun _ _ => ?_) | refine tk11 (fun _ => ?_) | refine tk13 ?_ | refine tk14 ?_); (conv => whnf))
    exact fun w' hw' => ⟨_, rfl, rowPost.of (List.mem_cons_self ..) w' hw'⟩
theorem DivS.rem10 {x : Nat} {K : Value → Prop} (k : K (.int .i64 ((x % 10 : Nat) : Int))) : DivS .rem .i64 (x : Nat) 10 K := ⟨by decide, .inr ⟨rfl, _, (Int.ofNat_tmod x 10), k⟩⟩
theorem DivS.quo10 {x : Nat} {K : Value → Prop} (h : x ≤ 9223372036854775807) (k : K (.int .i64 ((x / 10 : Nat) : Int))) : DivS .quo .i64 (x : Nat) 10 K := ⟨by decide, .inl ⟨rfl, _, by
  have e : ((x : Int).tdiv 10) = ((x / 10 : Nat) : Int) := (Int.ofNat_tdiv x 10).symm
  rw [e, IntKind.wrap]
  simp [IntKind.bits, IntKind.signed]
  omega, k⟩⟩
theorem DivS.quo100 {x : Nat} {K : Value → Prop} (h : x ≤ 9223372036854775807) (k : K (.int .i64 ((x / 100 : Nat) : Int))) : DivS .quo .i64 (x : Nat) 100 K := ⟨by decide, .inl ⟨rfl, _, by
  have e : ((x : Int).tdiv 100) = ((x / 100 : Nat) : Int) := (Int.ofNat_tdiv x 100).symm
  rw [e, IntKind.wrap]
  simp [IntKind.bits, IntKind.signed]
  omega, k⟩⟩
theorem itoa_three (n : Nat) (h0 : 400 ≤ n) (h1 : n ≤ 599) : ∃ c1 c2 c3 : UInt8, Lib.itoa (n : Int) = [c1, c2, c3] ∧ c1.toNat = 48 + n / 100 ∧ c2.toNat = 48 + n / 10 % 10 ∧ c3.toNat = 48 + n % 10 := by
  have key : ∀ n : Fin 200, Lib.itoa ((400 + n.val : Nat) : Int) = [UInt8.ofNat (48 + (400 + n.val) / 100), UInt8.ofNat (48 + (400 + n.val) / 10 % 10), UInt8.ofNat (48 + (400 + n.val) % 10)] := by decide +kernel
  have h := key ⟨n - 400, by omega⟩
  dsimp only at h
  rw [show 400 + (n - 400) = n by omega] at h
  exact ⟨_, _, _, h, UInt8.toNat_ofNat_of_lt' (by show _ < 256; omega), UInt8.toNat_ofNat_of_lt' (by show _ < 256; omega), UInt8.toNat_ofNat_of_lt' (by show _ < 256; omega)⟩
end Go.Proofs.YtnnpnkmdhfjccaaDoor.Vex
/- Decimal digits, read again. No program in sight. -/
namespace Go.Proofs.YtnnpnkmdhfjccaaDoor
open Go.Lib (decDigits)

theorem dec_digit (n : Nat) (h : n < 10) : digB (UInt8.ofNat (48 + n)) = true ∧ (UInt8.ofNat (48 + n)).toNat = 48 + n := by
  have h1 : (UInt8.ofNat (48 + n)).toNat = 48 + n := UInt8.toNat_ofNat_of_lt' (by show 48 + n < 256; omega)
  refine ⟨?_, h1⟩
  unfold digB
  rw [h1]
  simp
  omega
theorem dec_step (n : Nat) : decDigits n = (if n / 10 = 0 then [] else decDigits (n / 10)) ++ [UInt8.ofNat (48 + n % 10)] := by
  rw [decDigits]
  by_cases h : n < 10
  · rw [dif_pos h, if_pos (by omega), Nat.mod_eq_of_lt h]; rfl
  · rw [dif_neg h, if_neg (by omega)]
theorem dec_facts : ∀ (k n : Nat), n < 10 ^ (k + 1) → numF 0 (decDigits n) = n ∧ (decDigits n).all digB = true ∧ 1 ≤ (decDigits n).length ∧ (decDigits n).length ≤ k + 1 := by
  intro k
  induction k with
  | zero =>
    intro n h
    have h : n < 10 := by simpa using h
    rw [decDigits, dif_pos h]
    obtain ⟨h1, h2⟩ := dec_digit n h
    generalize UInt8.ofNat (48 + n) = d at *
    refine ⟨?_, by simp [h1], by simp, by simp⟩
    simp [numF, numStep, h2]
  | succ k ih =>
    intro n h
    by_cases h9 : n < 10
    · rw [decDigits, dif_pos h9]
      obtain ⟨h1, h2⟩ := dec_digit n h9
      generalize UInt8.ofNat (48 + n) = d at *
      refine ⟨?_, by simp [h1], by simp, by simp⟩
      simp [numF, numStep, h2]
    · have h8 : n / 10 < 10 ^ (k + 1) := by
        rw [Nat.div_lt_iff_lt_mul (by omega)]
        rw [Nat.pow_succ] at h
        exact h
      obtain ⟨i1, i2, i3, i4⟩ := ih (n / 10) h8
      obtain ⟨h1, h2⟩ := dec_digit (n % 10) (Nat.mod_lt _ (by omega))
      rw [decDigits, dif_neg h9]
      generalize UInt8.ofNat (48 + n % 10) = d at *
      refine ⟨?_, ?_, by rw [List.length_append]; omega, by rw [List.length_append]; simp; omega⟩
      · unfold numF at i1 ⊢
        rw [List.foldl_append, i1]
        simp only [List.foldl_cons, List.foldl_nil, numStep, h2]
        omega
      · rw [List.all_append, i2]
        simp [h1]
theorem dec_num {n : Nat} (h : n ≤ 999999999) : numOK (decDigits n) = true ∧ numN (decDigits n) = n := by
  obtain ⟨h1, h2, h3, h4⟩ := dec_facts 8 n (by omega)
  have hok : numOK (decDigits n) = true := by
    unfold numOK
    rw [h2, decide_eq_true h3, decide_eq_true h4]
    rfl
  refine ⟨hok, ?_⟩
  unfold numN
  rw [if_pos hok]
  unfold numV
  rw [h1]
theorem splitB_no (c : UInt8) : ∀ l : List UInt8, c ∉ l → splitB c l = [l]
  | [], _ => rfl
  | x :: r, h => by
    have h1 : ¬ x = c := fun e => h (by rw [e]; simp)
    have h2 := splitB_no c r (fun e => h (by simp [e]))
    unfold splitB
    rw [if_neg h1, h2]
theorem splitB_at2 (c : UInt8) : ∀ (a b : List UInt8), c ∉ a → splitB c (a ++ [c] ++ b) = a :: splitB c b
  | [], b, _ => by simp [splitB]
  | x :: r, b, h => by
    have h1 : ¬ x = c := fun e => h (by rw [e]; simp)
    have h2 := splitB_at2 c r b (fun e => h (by simp [e]))
    show splitB c (x :: (r ++ [c] ++ b)) = _
    rw [splitB, if_neg h1, h2]
theorem dig_plain {l : List UInt8} (h : l.all digB = true) : (44 : UInt8) ∉ l ∧ ∀ x ∈ l, ([32, 9] : List UInt8).contains x = false := by
  rw [List.all_eq_true] at h
  refine ⟨fun h1 => absurd (h _ h1) (by decide), fun x hx => ?_⟩
  have h2 := h x hx
  have : ∀ n : Fin 256, digB (UInt8.ofNat n.val) = true → ([32, 9] : List UInt8).contains (UInt8.ofNat n.val) = false := by decide +kernel
  have h3 := this ⟨x.toNat, x.toNat_lt⟩
  simp only [UInt8.ofNat_toNat] at h3
  exact h3 h2
theorem dropWhile_no (p : UInt8 → Bool) : ∀ l : List UInt8, (∀ x ∈ l, p x = false) → l.dropWhile p = l
  | [], _ => rfl
  | a :: r, h => by rw [List.dropWhile_cons, if_neg (by rw [h a (by simp)]; simp)]
theorem trimB_plain (l : List UInt8) (h : ∀ x ∈ l, ([32, 9] : List UInt8).contains x = false) : trimB l = l := by
  unfold trimB Lib.trimS Lib.trimLeftS Lib.trimRightS
  rw [dropWhile_no _ l.reverse (fun x hx => h x (List.mem_reverse.1 hx)), List.reverse_reverse, dropWhile_no _ l h]
theorem items_dig {a : List UInt8} (h : a.all digB = true) (h0 : 1 ≤ a.length) : itemsOf a = [a] := by
  obtain ⟨h1, h2⟩ := dig_plain h
  unfold itemsOf
  rw [splitB_no 44 a h1, List.map_cons, List.map_nil, trimB_plain a h2, List.filter_cons, if_pos]
  · rfl
  · cases a with
    | nil => simp at h0
    | cons => rfl
theorem items_two {a b : List UInt8} (h : a.all digB = true) (h0 : 1 ≤ a.length) (k : b.all digB = true) (k0 : 1 ≤ b.length) : itemsOf (a ++ [44] ++ b) = [a, b] := by
  obtain ⟨h1, h2⟩ := dig_plain h
  obtain ⟨k1, k2⟩ := dig_plain k
  unfold itemsOf
  have e1 : (!a.isEmpty) = true := by cases a with | nil => simp at h0 | cons => rfl
  have e2 : (!b.isEmpty) = true := by cases b with | nil => simp at k0 | cons => rfl
  rw [splitB_at2 44 a b h1, splitB_no 44 b k1, List.map_cons, List.map_cons, List.map_nil, trimB_plain a h2, trimB_plain b k2, List.filter_cons, if_pos e1, List.filter_cons, if_pos e2]
  rfl
theorem size_one (s : List UInt8) : sizeOf [(hostN, [104]), (lenN, s)] 1 = lenGo none (itemsOf s) := by
  have : sizeOf [(hostN, [104]), (lenN, s)] 1 = lenGo none (itemsOf s ++ []) := by kernel_rfl
  rw [this, List.append_nil]
theorem size_two (s t : List UInt8) : sizeOf [(hostN, [104]), (lenN, s), (lenN, t)] 1 = lenGo none (itemsOf s ++ itemsOf t) := by
  have : sizeOf [(hostN, [104]), (lenN, s), (lenN, t)] 1 = lenGo none (itemsOf s ++ (itemsOf t ++ [])) := by kernel_rfl
  rw [this, List.append_nil]
end Go.Proofs.YtnnpnkmdhfjccaaDoor
/- The document's own answer for answers as bytes, reckoned: bare, number, Named, Streamed, chunks. -/
namespace Go.Proofs.YtnnpnkmdhfjccaaDoor.Vex
open Go Go.RowKit
open Go.Lib (decDigits)
set_option maxRecDepth 100000
set_option linter.unusedSectionVars false
variable {gI : GI} [HasMax gI]

theorem bare_r (st : Int) : Fn Tryd.prog gI 43 [.int .i64 st] (.bool (bareB st)) := by
  refine Fn.of tys_ok Tryd.func43 rfl (by kernel_rfl) rfl rfl ?_; intro w hG
  unfold bareB
  (conv => whnf); repeat ((first | refine tk1 ?_ | refine tk2 ?_ | refine tk3 ?_ | refine tk12 (fun _ => ?_) | refine tk4 ?_ | refine tk5 ?_ | refine tk6 ?_ | refine tk7 ?_ | refine tk8 ?_ | refine tk9 ?_ | refine tk10 (fun _ _ => ?_) | refine tk11 (fun _ => ?_) | refine tk13 ?_ | refine tk14 ?_); (conv => whnf))
  refine Cmp.cases (fun c1 => ?_) (fun c1 => ?_)
  · rw [decide_eq_true c1]
    (conv => whnf); repeat ((first | refine tk1 ?_ | refine tk2 ?_ | refine tk3 ?_ | refine tk12 (fun _ => ?_) | refine tk4 ?_ | refine tk5 ?_ | refine tk6 ?_ | refine tk7 ?_ | refine tk8 ?_ | refine tk9 ?_ | refine tk10 (fun _ _ => ?_) | refine tk11 (fun _ => ?_) | refine tk13 ?_ | refine tk14 ?_); (conv => whnf))
    try rfl
  · rw [decide_eq_false c1]
    (conv => whnf); repeat ((first | refine tk1 ?_ | refine tk2 ?_ | refine tk3 ?_ | refine tk12 (fun _ => ?_) | refine tk4 ?_ | refine tk5 ?_ | refine tk6 ?_ | refine tk7 ?_ | refine tk8 ?_ | refine tk9 ?_ | refine tk10 (fun _ _ => ?_) | refine tk11 (fun _ => ?_) | refine tk13 ?_ | refine tk14 ?_); (conv => whnf))
    refine Cmp.of (decide (st = 304)) (by simp) ?_
    (conv => whnf); repeat ((first | refine tk1 ?_ | refine tk2 ?_ | refine tk3 ?_ | refine tk12 (fun _ => ?_) | refine tk4 ?_ | refine tk5 ?_ | refine tk6 ?_ | refine tk7 ?_ | refine tk8 ?_ | refine tk9 ?_ | refine tk10 (fun _ _ => ?_) | refine tk11 (fun _ => ?_) | refine tk13 ?_ | refine tk14 ?_); (conv => whnf))
    try rfl
theorem named_r (cd : UInt8) (h : cd.toNat ≤ 2) : Fn Tryd.prog gI 73 [.int .u8 cd.toNat] (str (codNm cd.toNat)) := by
  refine Fn.of tys_ok Tryd.func73 rfl (by kernel_rfl) rfl rfl ?_; intro w hG
  unfold codNm
  by_cases c1 : cd.toNat = 1
  · rw [if_pos c1]
    (conv => whnf); repeat ((first | refine tk1 ?_ | refine tk2 ?_ | refine tk3 ?_ | refine tk12 (fun _ => ?_) | refine tk4 ?_ | refine tk5 ?_ | refine tk6 ?_ | refine tk7 ?_ | refine tk8 ?_ | refine tk9 ?_ | refine tk10 (fun _ _ => ?_) | refine tk11 (fun _ => ?_) | refine tk13 ?_ | refine tk14 ?_); (conv => whnf))
    try rfl
  rw [if_neg c1]
  by_cases c2 : cd.toNat = 2
  · rw [if_pos c2]
    (conv => whnf); repeat ((first | refine tk1 ?_ | refine tk2 ?_ | refine tk3 ?_ | refine tk12 (fun _ => ?_) | refine tk4 ?_ | refine tk5 ?_ | refine tk6 ?_ | refine tk7 ?_ | refine tk8 ?_ | refine tk9 ?_ | refine tk10 (fun _ _ => ?_) | refine tk11 (fun _ => ?_) | refine tk13 ?_ | refine tk14 ?_); (conv => whnf))
    try rfl
  rw [if_neg c2]
  (conv => whnf); repeat ((first | refine tk1 ?_ | refine tk2 ?_ | refine tk3 ?_ | refine tk12 (fun _ => ?_) | refine tk4 ?_ | refine tk5 ?_ | refine tk6 ?_ | refine tk7 ?_ | refine tk8 ?_ | refine tk9 ?_ | refine tk10 (fun _ _ => ?_) | refine tk11 (fun _ => ?_) | refine tk13 ?_ | refine tk14 ?_); (conv => whnf))
  try rfl
theorem number_r (n : Nat) (hn : n < 1000000000000) : Fn Tryd.prog gI 72 [.int .i64 n] (str (Lib.itoa n)) := by
  rw [Lib.itoa_nonneg]
  have hlen := (dec_facts 17 n (by omega)).2.2.2
  refine Fn.of tys_ok Tryd.func72 rfl (by kernel_rfl) rfl rfl ?_; intro w hG
  (conv => whnf); repeat ((first | refine tk1 ?_ | refine tk2 ?_ | refine tk3 ?_ | refine tk12 (fun _ => ?_) | refine tk4 ?_ | refine tk5 ?_ | refine tk6 ?_ | refine tk7 ?_ | refine tk8 ?_ | refine tk9 ?_ | refine tk10 (fun _ _ => ?_) | refine tk11 (fun _ => ?_) | refine tk13 ?_ | refine tk14 ?_); (conv => whnf))
  refine LoopS.lp tys_ok (fun (x : List UInt8 × Nat) u => [.int .i64 (x.2 : Nat), u 1, u 2, str x.1, u 4, u 5, u 6, u 7, u 8, u 9, u 10, u 11, u 12, u 13, u 14, u 15, u 16, u 17, u 18, u 19, u 20]) (fun _ => []) (fun x => x.2 < 1000000000000 ∧ x.1.length ≤ 30 ∧ ((x.1 = [] ∧ x.2 = n) ∨ (x.1 ≠ [] ∧ (if x.2 = 0 then [] else decDigits x.2) ++ x.1 = decDigits n))) (fun x => x.2 + (if x.1 = [] then 1 else 0)) ([], n) ⟨hn, Nat.zero_le _, .inl ⟨rfl, rfl⟩⟩ rfl (by repeat' (first | exact List.Sublist.refl _ | exact List.nil_sublist _ | apply List.Sublist.cons_cons | apply List.Sublist.cons)) ?_
  rintro ⟨s, m⟩ u ⟨hm, hs, hI⟩
  dsimp only at hm hs hI ⊢
  by_cases hgo : s = [] ∨ 0 < m
  · have hd10 := dec_digit (m % 10) (Nat.mod_lt _ (by decide))
    have hstep := dec_step m
    have hI2 : (if m / 10 = 0 then [] else decDigits (m / 10)) ++ ([UInt8.ofNat (48 + m % 10)] ++ s) = decDigits n := by
      rw [← List.append_assoc, ← hstep]
      rcases hI with ⟨rfl, rfl⟩ | ⟨h1, h2⟩
      · rw [List.append_nil]
      · rw [if_neg (by rcases hgo with h | h; exact absurd h h1; omega)] at h2
        exact h2
    have hl2 : (s.length) + 1 ≤ 18 := by
      have := congrArg List.length hI2
      simp only [List.length_append, List.length_singleton] at this
      omega
    by_cases hse : s = []
    · subst hse
      (conv => whnf); repeat ((first | refine tk1 ?_ | refine tk2 ?_ | refine tk3 ?_ | refine tk12 (fun _ => ?_) | refine tk4 ?_ | refine tk5 ?_ | refine tk6 ?_ | refine tk7 ?_ | refine tk8 ?_ | refine tk9 ?_ | refine tk10 (fun _ _ => ?_) | refine tk11 (fun _ => ?_) | refine tk13 ?_ | refine tk14 ?_); (conv => whnf))
      refine DivS.rem64 (m := 10) (by decide) ?_
      (conv => whnf); repeat ((first | refine tk1 ?_ | refine tk2 ?_ | refine tk3 ?_ | refine tk12 (fun _ => ?_) | refine tk4 ?_ | refine tk5 ?_ | refine tk6 ?_ | refine tk7 ?_ | refine tk8 ?_ | refine tk9 ?_ | refine tk10 (fun _ _ => ?_) | refine tk11 (fun _ => ?_) | refine tk13 ?_ | refine tk14 ?_); (conv => whnf))
      refine Ar.in8 (by omega) (by omega) ?_
      rw [show (48 : Int) + ((m % 10 : Nat) : Int) = ((UInt8.ofNat (48 + m % 10)).toNat : Nat) by rw [hd10.2]; omega]
      generalize UInt8.ofNat (48 + m % 10) = x at *
      (conv => whnf); repeat ((first | refine tk1 ?_ | refine tk2 ?_ | refine tk3 ?_ | refine tk12 (fun _ => ?_) | refine tk4 ?_ | refine tk5 ?_ | refine tk6 ?_ | refine tk7 ?_ | refine tk8 ?_ | refine tk9 ?_ | refine tk10 (fun _ _ => ?_) | refine tk11 (fun _ => ?_) | refine tk13 ?_ | refine tk14 ?_); (conv => whnf))
      refine B2S.tc (xs := ([x] : List UInt8).map byteV) (l := [x]) rfl rfl ?_
      (conv => whnf); repeat ((first | refine tk1 ?_ | refine tk2 ?_ | refine tk3 ?_ | refine tk12 (fun _ => ?_) | refine tk4 ?_ | refine tk5 ?_ | refine tk6 ?_ | refine tk7 ?_ | refine tk8 ?_ | refine tk9 ?_ | refine tk10 (fun _ _ => ?_) | refine tk11 (fun _ => ?_) | refine tk13 ?_ | refine tk14 ?_); (conv => whnf))
      refine CatS.at (by (simp <;> omega)) ?_
      (conv => whnf); repeat ((first | refine tk1 ?_ | refine tk2 ?_ | refine tk3 ?_ | refine tk12 (fun _ => ?_) | refine tk4 ?_ | refine tk5 ?_ | refine tk6 ?_ | refine tk7 ?_ | refine tk8 ?_ | refine tk9 ?_ | refine tk10 (fun _ _ => ?_) | refine tk11 (fun _ => ?_) | refine tk13 ?_ | refine tk14 ?_); (conv => whnf))
      refine DivS.quo64 (m := 10) (by decide) hm ?_
      (conv => whnf); repeat ((first | refine tk1 ?_ | refine tk2 ?_ | refine tk3 ?_ | refine tk12 (fun _ => ?_) | refine tk4 ?_ | refine tk5 ?_ | refine tk6 ?_ | refine tk7 ?_ | refine tk8 ?_ | refine tk9 ?_ | refine tk10 (fun _ _ => ?_) | refine tk11 (fun _ => ?_) | refine tk13 ?_ | refine tk14 ?_); (conv => whnf))
      exact ⟨([x] ++ [], m / 10), ⟨by dsimp only; omega, by dsimp only; (simp <;> omega), .inr ⟨by simp, hI2⟩⟩, rfl, (by repeat' (first | exact List.Sublist.refl _ | exact List.nil_sublist _ | apply List.Sublist.cons_cons | apply List.Sublist.cons)), by dsimp only; (simp <;> omega)⟩
    · have hm0 : 0 < m := by rcases hgo with h | h; exact absurd h hse; exact h
      (conv => whnf); repeat ((first | refine tk1 ?_ | refine tk2 ?_ | refine tk3 ?_ | refine tk12 (fun _ => ?_) | refine tk4 ?_ | refine tk5 ?_ | refine tk6 ?_ | refine tk7 ?_ | refine tk8 ?_ | refine tk9 ?_ | refine tk10 (fun _ _ => ?_) | refine tk11 (fun _ => ?_) | refine tk13 ?_ | refine tk14 ?_); (conv => whnf))
      refine DivS.rem64 (m := 10) (by decide) ?_
      (conv => whnf); repeat ((first | refine tk1 ?_ | refine tk2 ?_ | refine tk3 ?_ | refine tk12 (fun _ => ?_) | refine tk4 ?_ | refine tk5 ?_ | refine tk6 ?_ | refine tk7 ?_ | refine tk8 ?_ | refine tk9 ?_ | refine tk10 (fun _ _ => ?_) | refine tk11 (fun _ => ?_) | refine tk13 ?_ | refine tk14 ?_); (conv => whnf))
      refine Ar.in8 (by omega) (by omega) ?_
      rw [show (48 : Int) + ((m % 10 : Nat) : Int) = ((UInt8.ofNat (48 + m % 10)).toNat : Nat) by rw [hd10.2]; omega]
      generalize UInt8.ofNat (48 + m % 10) = x at *
      (conv => whnf); repeat ((first | refine tk1 ?_ | refine tk2 ?_ | refine tk3 ?_ | refine tk12 (fun _ => ?_) | refine tk4 ?_ | refine tk5 ?_ | refine tk6 ?_ | refine tk7 ?_ | refine tk8 ?_ | refine tk9 ?_ | refine tk10 (fun _ _ => ?_) | refine tk11 (fun _ => ?_) | refine tk13 ?_ | refine tk14 ?_); (conv => whnf))
      refine B2S.tc (xs := ([x] : List UInt8).map byteV) (l := [x]) rfl rfl ?_
      (conv => whnf); repeat ((first | refine tk1 ?_ | refine tk2 ?_ | refine tk3 ?_ | refine tk12 (fun _ => ?_) | refine tk4 ?_ | refine tk5 ?_ | refine tk6 ?_ | refine tk7 ?_ | refine tk8 ?_ | refine tk9 ?_ | refine tk10 (fun _ _ => ?_) | refine tk11 (fun _ => ?_) | refine tk13 ?_ | refine tk14 ?_); (conv => whnf))
      refine CatS.at (by (simp <;> omega)) ?_
      (conv => whnf); repeat ((first | refine tk1 ?_ | refine tk2 ?_ | refine tk3 ?_ | refine tk12 (fun _ => ?_) | refine tk4 ?_ | refine tk5 ?_ | refine tk6 ?_ | refine tk7 ?_ | refine tk8 ?_ | refine tk9 ?_ | refine tk10 (fun _ _ => ?_) | refine tk11 (fun _ => ?_) | refine tk13 ?_ | refine tk14 ?_); (conv => whnf))
      refine DivS.quo64 (m := 10) (by decide) hm ?_
      (conv => whnf); repeat ((first | refine tk1 ?_ | refine tk2 ?_ | refine tk3 ?_ | refine tk12 (fun _ => ?_) | refine tk4 ?_ | refine tk5 ?_ | refine tk6 ?_ | refine tk7 ?_ | refine tk8 ?_ | refine tk9 ?_ | refine tk10 (fun _ _ => ?_) | refine tk11 (fun _ => ?_) | refine tk13 ?_ | refine tk14 ?_); (conv => whnf))
      exact ⟨([x] ++ s, m / 10), ⟨by dsimp only; omega, by dsimp only; (simp <;> omega), .inr ⟨by simp, hI2⟩⟩, rfl, (by repeat' (first | exact List.Sublist.refl _ | exact List.nil_sublist _ | apply List.Sublist.cons_cons | apply List.Sublist.cons)), by dsimp only; rw [if_neg hse, if_neg (by simp)]; omega⟩
  · have hs0 : s ≠ [] := fun h => hgo (.inl h)
    have hm0 : m = 0 := by
      rcases (show m = 0 ∨ 0 < m by omega) with h | h
      · exact h
      · exact absurd (.inr h) hgo
    subst hm0
    have hr : s = decDigits n := by
      rcases hI with ⟨h, _⟩ | ⟨_, h⟩
      · exact absurd h hs0
      · simpa using h
    rw [← hr]
    (conv => whnf); repeat ((first | refine tk1 ?_ | refine tk2 ?_ | refine tk3 ?_ | refine tk12 (fun _ => ?_) | refine tk4 ?_ | refine tk5 ?_ | refine tk6 ?_ | refine tk7 ?_ | refine tk8 ?_ | refine tk9 ?_ | refine tk10 (fun _ _ => ?_) | refine tk11 (fun _ => ?_) | refine tk13 ?_ | refine tk14 ?_); (conv => whnf))
    try rfl
end Go.Proofs.YtnnpnkmdhfjccaaDoor.Vex
/- unicode/utf8.DecodeRune at every slice of bytes: the kit's contract over its own names, laid at this seat by hand; the two tables it reads. -/
namespace Go.Proofs.YtnnpnkmdhfjccaaDoor.Vex
open Go Go.RowKit Go.ChangeShapes

/-- The two tables. -/
class HasUtf (g : GI) : Prop where
  ok : ∀ w, g.G w → Lib.Utf8Tabs 2 3 w
def gU : GI where
  n := max gP.n (max (2 + 1) (3 + 1))
  G w := gP.G w ∧ Lib.Utf8Tabs 2 3 w
  keep w w' h := fun ⟨h1, h2⟩ => ⟨gP.keep w w' (fun k hk => h k (Nat.lt_of_lt_of_le hk (Nat.le_max_left _ _))) h1,
    fun c hc => (World.cell?_of_block (h 2 (by omega))).trans (h2.1 c hc),
    fun i hi => ⟨(World.cell?_of_block (h 3 (by omega))).trans (h2.2 i hi).1, (World.cell?_of_block (h 3 (by omega))).trans (h2.2 i hi).2⟩⟩
  size w := fun ⟨h1, h2⟩ => Nat.max_le.2 ⟨gP.size w h1, Nat.max_le.2 ⟨World.block_lt_of_cell? _ _ (h2.1 0 (by decide)), World.block_lt_of_cell? _ _ (h2.2 0 (by decide)).1⟩⟩
instance : HasMax gU := ⟨fun _ h => h.1.1.1⟩
instance : HasErr gU := ⟨fun _ h => h.1.1.2⟩
instance : HasPow gU := ⟨fun _ h => h.1.2⟩
instance : HasUtf gU := ⟨fun _ h => h.2⟩
def u8Ren : Go.Shelf.Ren := ⟨fun n => n, fun | 5 => 5 | 119 => 171 | 138 => 173 | 139 => 174 | n => n, fun | 3 => 2 | 4 => 3 | n => n⟩
theorem u8Types : U8Types Tryd.prog u8Ren := ⟨Tryd.underlying5, Tryd.underlying171, Tryd.underlying173, Tryd.underlying174⟩
theorem u8Extra : U8Extra Tryd.prog u8Ren := ⟨by kernel_rfl, by kernel_rfl, by kernel_rfl, by kernel_rfl, by kernel_rfl, by kernel_rfl, by kernel_rfl⟩
theorem gU_of {l : List (String × DataW Unit)} {W : World} (hL : laidMetH Tryd.prog l W) (hS : W.ShapedOpen Tryd.prog) (hp : (l.all fun x => x.2.handleName?.isNone) = true)
    (h1 : ("strconv.ErrSyntax", Rows.laid_strconv_ErrSyntax) ∈ l) (h2 : ("strconv.ErrRange", Rows.laid_strconv_ErrRange) ∈ l) (h3 : ("internal/strconv.uint64pow10", Rows.laid_internal_strconv_uint64pow10) ∈ l)
    (h4 : ("unicode/utf8.first", Rows.laid_unicode_utf8_first) ∈ l) (h5 : ("unicode/utf8.acceptRanges", Rows.laid_unicode_utf8_acceptRanges) ∈ l) : gU.G W := by
  have e4 : (Rows.laid_unicode_utf8_first : DataW Unit) = Lib.firstData := by kernel_rfl
  have e5 : (Rows.laid_unicode_utf8_acceptRanges : DataW Unit) = Lib.acceptData := by kernel_rfl
  rw [e4] at h4
  rw [e5] at h5
  exact ⟨gP_of hL hS hp h1 h2 h3, utf8Tabs_of_readsT u8Types u8Extra (reads_of hL hp h4) (reads_of hL hp h5)⟩
set_option linter.unusedSectionVars false
variable {gI : GI} [HasUtf gI]
end Go.Proofs.YtnnpnkmdhfjccaaDoor.Vex
/- A rune beyond ASCII, decoded: plain facts. No program in sight. -/
namespace Go.Proofs.YtnnpnkmdhfjccaaDoor.Vex
open Go

theorem enc_size (r : Nat) (h : 128 ≤ r) : (r < 2048 → (Utf8.encode (r : Int)).size = 2) ∧ (2048 ≤ r → r < 65536 → (r < 55296 ∨ 57344 ≤ r) → (Utf8.encode (r : Int)).size = 3) ∧ (65536 ≤ r → r ≤ 1114111 → (Utf8.encode (r : Int)).size = 4) := by
  refine ⟨fun h1 => ?_, fun h1 h2 h3 => ?_, fun h1 h2 => ?_⟩
  · have hv : Utf8.valid (r : Int) = true := by unfold Utf8.valid; simp; omega
    unfold Utf8.encode
    simp only [hv, if_true, Int.toNat_natCast]
    rw [if_neg (by omega), if_pos (by omega)]
    rfl
  · have hv : Utf8.valid (r : Int) = true := by unfold Utf8.valid; simp; omega
    unfold Utf8.encode
    simp only [hv, if_true, Int.toNat_natCast]
    rw [if_neg (by omega), if_neg (by omega), if_pos (by omega)]
    rfl
  · have hv : Utf8.valid (r : Int) = true := by unfold Utf8.valid; simp; omega
    unfold Utf8.encode
    simp only [hv, if_true, Int.toNat_natCast]
    rw [if_neg (by omega), if_neg (by omega), if_neg (by omega)]
    rfl
/-- What a text's first rune is, where its first byte is no ASCII: all its bytes are none. -/
theorem dec_high (l : List UInt8) (h0 : 0 < l.length) (hx : 128 ≤ l[0].toNat) : ∃ r w, Lib.decodeGo ⟨⟨l⟩⟩ = (r, w) ∧ 1 ≤ w ∧ w ≤ l.length ∧ (∀ j (hj : j < l.length), j < w → 128 ≤ l[j].toNat) ∧
    r ≤ 1114111 ∧ (r = 65533 ∨ (r ≠ 65533 ∧ 128 ≤ r ∧ 2 ≤ w ∧ (Utf8.encode (r : Int)).size = w ∧ (w = 2 → r < 2048))) := by
  have g : ∀ j (hj : j < l.length), ((⟨⟨l⟩⟩ : ByteArray).get! j).toNat = l[j].toNat := fun j hj => by
    show ((⟨l⟩ : Array UInt8)[j]!).toNat = _
    rw [getElem!_pos _ _ (by exact hj)]
    rfl
  have hs : (⟨⟨l⟩⟩ : ByteArray).size = l.length := rfl
  unfold Lib.decodeGo
  rw [hs, if_neg (by omega), Lib.decode_at, hs]
  have g0 := g 0 h0
  rw [← g0] at hx
  generalize hb0 : ((⟨⟨l⟩⟩ : ByteArray).get! 0).toNat = b0 at *
  have g1 := fun h => g 1 h
  have g2 := fun h => g 2 h
  have g3 := fun h => g 3 h
  rw [show 0 + 1 = 1 from rfl, show 0 + 2 = 2 from rfl, show 0 + 3 = 3 from rfl]
  generalize hb1 : ((⟨⟨l⟩⟩ : ByteArray).get! 1).toNat = b1 at *
  generalize hb2 : ((⟨⟨l⟩⟩ : ByteArray).get! 2).toNat = b2 at *
  generalize hb3 : ((⟨⟨l⟩⟩ : ByteArray).get! 3).toNat = b3 at *
  have one : ∃ r w, ((65533 : Nat), (1 : Nat)) = (r, w) ∧ 1 ≤ w ∧ w ≤ l.length ∧ (∀ j (hj : j < l.length), j < w → 128 ≤ l[j].toNat) ∧ r ≤ 1114111 ∧ (r = 65533 ∨ (r ≠ 65533 ∧ 128 ≤ r ∧ 2 ≤ w ∧ (Utf8.encode (r : Int)).size = w ∧ (w = 2 → r < 2048))) :=
    ⟨_, _, rfl, Nat.le_refl _, h0, fun j hj h => by
      obtain rfl : j = 0 := by omega
      rw [← g0]; exact hx, by omega, .inl rfl⟩
  unfold Lib.decodeN
  rw [if_neg (by omega)]
  split
  · rename_i h
    split
    · rename_i hc
      have e := enc_size (b0 % 32 * 64 + b1 % 64) hc
      refine ⟨_, _, rfl, by omega, by omega, fun j hj hw => ?_, by omega, ?_⟩
      · have : j = 0 ∨ j = 1 := by omega
        rcases this with rfl | rfl
        · rw [← g0]; exact hx
        · rw [← g1 hj]; omega
      · exact .inr ⟨by omega, hc, by omega, e.1 (by omega), fun _ => by omega⟩
    · exact one
  split
  · rename_i h
    split
    · rename_i hc
      have e := enc_size (b0 % 16 * 4096 + b1 % 64 * 64 + b2 % 64) (by omega)
      refine ⟨_, _, rfl, by omega, by omega, fun j hj hw => ?_, by omega, ?_⟩
      · have : j = 0 ∨ j = 1 ∨ j = 2 := by omega
        rcases this with rfl | rfl | rfl
        · rw [← g0]; exact hx
        · rw [← g1 hj]; omega
        · rw [← g2 hj]; omega
      · by_cases h5 : b0 % 16 * 4096 + b1 % 64 * 64 + b2 % 64 = 65533
        · exact .inl h5
        · exact .inr ⟨h5, by omega, by omega, e.2.1 (by omega) (by omega) (by omega), fun h => by omega⟩
    · exact one
  split
  · rename_i h
    split
    · rename_i hc
      have e := enc_size (b0 % 8 * 262144 + b1 % 64 * 4096 + b2 % 64 * 64 + b3 % 64) (by omega)
      refine ⟨_, _, rfl, by omega, by omega, fun j hj hw => ?_, by omega, ?_⟩
      · have : j = 0 ∨ j = 1 ∨ j = 2 ∨ j = 3 := by omega
        rcases this with rfl | rfl | rfl | rfl
        · rw [← g0]; exact hx
        · rw [← g1 hj]; omega
        · rw [← g2 hj]; omega
        · rw [← g3 hj]; omega
      · exact .inr ⟨by omega, by omega, by omega, e.2.2 (by omega) (by omega), fun h => by omega⟩
    · exact one
  exact one
/-- No rune beyond ASCII begins as 13, 10 does. -/
theorem enc_ne (r : Nat) (h : 128 ≤ r) (hr : r < 2048) : ¬ ([13, 10] : List UInt8) = (Utf8.encode (r : Int)).data.toList := by
  have hv : Utf8.valid (r : Int) = true := by unfold Utf8.valid; simp; omega
  unfold Utf8.encode
  simp only [hv, if_true, Int.toNat_natCast]
  rw [if_neg (by omega), if_pos (by omega)]
  intro e
  have e1 := (List.cons.inj e).1
  have := congrArg UInt8.toNat e1
  rw [show (13 : UInt8).toNat = 13 from rfl, UInt8.toNat_ofNat'] at this
  omega
end Go.Proofs.YtnnpnkmdhfjccaaDoor.Vex
/- bytes.IndexAny with 13 and 10, at any bytes, reckoned. -/
namespace Go.Proofs.YtnnpnkmdhfjccaaDoor.Vex
open Go Go.RowKit
set_option maxRecDepth 100000
set_option linter.unusedSectionVars false
variable {gI : GI} [HasMax gI] [HasUtf gI]

theorem noEnd_iff (l : List UInt8) : noEnd l = true ↔ ∀ j (hj : j < l.length), l[j].toNat ≠ 10 ∧ l[j].toNat ≠ 13 := by
  have e : ∀ x : UInt8, (!(x == 10) && !(x == 13)) = true ↔ x.toNat ≠ 10 ∧ x.toNat ≠ 13 := fun x => by
    rw [Bool.and_eq_true, Bool.not_eq_true', Bool.not_eq_true', beq_eq_false_iff_ne, beq_eq_false_iff_ne, ne_eq, ne_eq, ne_eq, ne_eq, ← UInt8.toNat_inj, ← UInt8.toNat_inj]
    rfl
  unfold noEnd
  rw [List.all_eq_true]
  constructor
  · intro h j hj
    exact (e _).1 (h _ (List.getElem_mem hj))
  · intro h x hx
    obtain ⟨j, hj, rfl⟩ := List.mem_iff_getElem.1 hx
    exact (e _).2 (h j hj)
theorem noEnd_no {l : List UInt8} {k : Nat} (hk : k < l.length) (h : l[k].toNat = 10 ∨ l[k].toNat = 13) : noEnd l = false := by
  cases hn : noEnd l with
  | false => rfl
  | true => have := (noEnd_iff l).1 hn k hk; omega
theorem noEnd_one (x : UInt8) (h : x.toNat ≠ 10) (h' : x.toNat ≠ 13) : noEnd [x] = true := (noEnd_iff [x]).2 fun j hj => by
  obtain rfl : j = 0 := by simpa using hj
  exact ⟨h, h'⟩
theorem idx_crlf (x : UInt8) : 0 ≤ Lib.indexByte [13, 10] x ↔ x.toNat = 10 ∨ x.toNat = 13 := by
  rw [idx_in, List.mem_cons, List.mem_singleton, ← UInt8.toNat_inj, ← UInt8.toNat_inj]
  exact Or.comm
theorem ibs_k {c : Ctx} {m : Bool} {H : Hp} {K : Value → Hp → Prop} (hc : c.P = Tryd.prog) (l : List UInt8) (x : UInt8) (k : K (.int .i64 (Lib.indexByte l x)) H) : CallK c m 118 [str l, .int .u8 x.toNat] H K :=
  CallK.ext (fun w _ => by
    rw [hc]
    refine run_ext Tryd.func118 (by kernel_rfl) (by kernel_rfl) (by kernel_rfl) (e := Extern.BytealgIndexByte.indexByte) (by kernel_rfl) ?_
    have := Lib.run_indexByteString (P := Tryd.prog) ⟨⟨l⟩⟩ x.toNat w
    have hx : (((x.toNat : Nat) : Int).toNat.toUInt8) = x := by simp
    rw [hx] at this
    exact this) k
theorem index_long : ∀ (a b : List UInt8), a.length < b.length → Lib.index a b = -1
  | [], b, h => by
    cases b with
    | nil => cases h
    | cons y r => rfl
  | x :: a, b, h => by
    have ih := index_long a b (by simp at h; omega)
    unfold Lib.index
    rw [ih]
    have : b.isPrefixOf (x :: a) = false := by
      cases hp : b.isPrefixOf (x :: a) with
      | false => rfl
      | true =>
        have := (List.isPrefixOf_iff_prefix.1 hp).length_le
        omega
    rw [this]
    rfl
theorem is_k {c : Ctx} {m : Bool} {H : Hp} {K : Value → Hp → Prop} (hc : c.P = Tryd.prog) {mx : Int} (hm : c.w0.cell? ⟨1, 0, none⟩ = some (.int .i64 mx)) (hM : c.M = []) (a b : List UInt8) (h2 : 2 ≤ b.length) (hb : (b.length : Int) ≤ mx) (ha : a.length < 4294967281)
    (k : K (.int .i64 (Lib.index a b)) H) : CallK c m 137 [str a, str b] H K :=
  CallK.ext' (fun w hw => by
    rw [hc]
    refine run_ext Tryd.func137 (by kernel_rfl) (by kernel_rfl) (by kernel_rfl) (e := Extern.BytealgIndex.index) (by kernel_rfl) ?_
    exact Lib.run_indexString (P := Tryd.prog) ⟨⟨a⟩⟩ ⟨⟨b⟩⟩ w 1 mx (by kernel_rfl) (hw.old hm (by rw [hM]; simp)) h2 hb ha) k
def asc0 : List Value := List.replicate 256 (.bool false)
def asc1 : List Value := asc0.set 13 (.bool true)
def asc2 : List Value := asc1.set 10 (.bool true)
def ascP (p : Nat) : List Value := match p with | 0 => asc0 | 1 => asc1 | _ => asc2
theorem asc_one : ∀ x ∈ asc2, x.oneCell' = true := by decide
theorem asc_get (x : UInt8) : asc2[((x.toNat : Nat) : Int).toNat]? = some (.bool (decide (x.toNat = 10 ∨ x.toNat = 13))) := by
  have : ∀ n : Fin 256, asc2[n.val]? = some (.bool (decide (n.val = 10 ∨ n.val = 13))) := by
    intro n
    unfold asc2 asc1 asc0
    simp only [List.getElem?_set, List.getElem?_replicate, List.length_set, List.length_replicate]
    by_cases h1 : n.val = 10
    · simp [h1]
    · by_cases h2 : n.val = 13
      · simp [h2]
      · rw [if_neg (by omega), if_neg (by omega), if_pos n.isLt, decide_eq_false (by omega)]
  exact this ⟨x.toNat, x.toNat_lt⟩
theorem size_len (z : ByteArray) : z.data.toList.length = z.size := by rw [Array.length_toList]; rfl
end Go.Proofs.YtnnpnkmdhfjccaaDoor.Vex
/- strconv.FormatInt to the base of 16, reckoned; what of the tables it reads. -/
namespace Go.Proofs.YtnnpnkmdhfjccaaDoor.Vex
open Go Go.RowKit Go.ChangeShapes
set_option maxRecDepth 100000
set_option linter.unusedSectionVars false

/-- The one entry of the table that a base of 16 reads. -/
class HasTz (g : GI) : Prop where
  ok : ∀ w, g.G w → w.cell? ⟨7, 15, none⟩ = some (.int .u8 4)
def gV : GI where
  n := max gU.n (7 + 1)
  G w := gU.G w ∧ w.cell? ⟨7, 15, none⟩ = some (.int .u8 4)
  keep w w' h := fun ⟨h1, h2⟩ => ⟨gU.keep w w' (fun k hk => h k (Nat.lt_of_lt_of_le hk (Nat.le_max_left _ _))) h1, (World.cell?_of_block (h 7 (by omega))).trans h2⟩
  size w := fun ⟨h1, h2⟩ => Nat.max_le.2 ⟨gU.size w h1, World.block_lt_of_cell? _ _ h2⟩
instance : HasMax gV := ⟨fun _ h => h.1.1.1.1⟩
instance : HasErr gV := ⟨fun _ h => h.1.1.1.2⟩
instance : HasPow gV := ⟨fun _ h => h.1.1.2⟩
instance : HasUtf gV := ⟨fun _ h => h.1.2⟩
instance : HasTz gV := ⟨fun _ h => h.2⟩
theorem tz_name : Tryd.prog.globalNamed "math/bits.deBruijn64tab" = some 7 := by kernel_rfl
def tzTab : List Int := [0, 1, 56, 2, 57, 49, 28, 3, 61, 58, 42, 50, 38, 29, 17, 4, 62, 47, 59, 36, 45, 43, 51, 22, 53, 39, 33, 30, 24, 18, 12, 5, 63, 55, 48, 27, 60, 41, 37, 16, 46, 35, 44, 21, 52, 32, 23, 11, 54, 26, 40, 15, 34, 20, 31, 10, 25, 14, 19, 9, 13, 8, 7, 6]
theorem gV_of {l : List (String × DataW Unit)} {W : World} (hL : laidMetH Tryd.prog l W) (hS : W.ShapedOpen Tryd.prog) (hp : (l.all fun x => x.2.handleName?.isNone) = true)
    (h1 : ("strconv.ErrSyntax", Rows.laid_strconv_ErrSyntax) ∈ l) (h2 : ("strconv.ErrRange", Rows.laid_strconv_ErrRange) ∈ l) (h3 : ("internal/strconv.uint64pow10", Rows.laid_internal_strconv_uint64pow10) ∈ l)
    (h4 : ("unicode/utf8.first", Rows.laid_unicode_utf8_first) ∈ l) (h5 : ("unicode/utf8.acceptRanges", Rows.laid_unicode_utf8_acceptRanges) ∈ l) (h6 : ("math/bits.deBruijn64tab", Rows.laid_math_bits_deBruijn64tab) ∈ l) : gV.G W := by
  have e6 : (Rows.laid_math_bits_deBruijn64tab : DataW Unit) = Lib.tabData .u8 tzTab := by kernel_rfl
  rw [e6] at h6
  have ht := tab_of (t := 188) (e := 5) (m := 64) (reads_of hL hp h6) tz_name (by kernel_rfl) Tryd.underlying188 Tryd.underlying5 (by kernel_rfl) (by kernel_rfl)
  exact ⟨gU_of hL hS hp h1 h2 h3 h4 h5, ht.cell tz_name 15 (by decide)⟩

section
variable {c : Ctx} {T : Ty} {H : Hp} {fr : Fr} {dst : Option Nat} {ty : TypeId} {pos : String} {after : Array Edge} {gd : Option (Nat × Bool)}
/-- An array's end, as a slice. -/
theorem OthP.slcArr {t e n : Nat} {x lo : Operand} {b : Nat} {k : IntKind} {z : Int} {K : Value → Prop} (hT : TOk c.P T) (ht : (lookT T t).d = .array n e) (he : (lookT T e).d ≠ .invalid) (hs : (lookT T e).size = 1)
    (hx : evK fr x fun v => v = .pointer (some ⟨b, 0, none⟩)) (hl : evK fr lo fun v => v = .int k z) (h0 : 0 ≤ z) (h1 : z < n) (kk : K (.slice (some ⟨b, z.toNat, none⟩) (n - z.toNat) (n - z.toNat))) :
    OthP c ⟨dst, .slice t x (some lo) none none, ty, pos, after, gd⟩ fr H K := ⟨⟨_, kk, fun w _ => by
  rw [evK_eq] at hx hl
  have hu := (lookT_ok hT (t := t) (by rw [ht]; intro h; cases h)).1
  rw [ht] at hu
  have hse := run_sizeOf (lookT_ok hT he) w
  rw [hs] at hse
  have hne : ¬ n = z.toNat := by omega
  have hle : z ≤ n := by omega
  generalize (act fr).eval = ρ at *
  simp [execOp, hx, hl, Instr.sliceAt, Instr.sliceBounds, Instr.sliceBound, asIntOf, Sem.run_bind, run_underlying hu, Instr.sureAddr, h0, hle, hse, hne, Addr.add_lit]⟩⟩
/-- A box's cells from a place on. -/
theorem RdS.boxAt {b k : Nat} {vs : List Value} {t : TypeId} {f : List Value → Hp} [h : BoxAt b H vs t f] : RdS c H (some ⟨b, k, none⟩) (vs.drop k) := fun w hw j u hj => by
  obtain ⟨H1, H2, rfl, _⟩ := h.ok
  have hg : w.heap[b]? = some (.cells ⟨vs⟩ t (0, 0)) := (hw.own (.box b vs t) (by simp)).1
  rw [List.getElem?_drop] at hj
  exact ⟨_, rfl, by rw [Addr.add_lit, cell_of_row w b (k + j) ⟨vs⟩ t _ hg]; simpa using hj⟩
end
theorem Ar.u64 {z : Int} {K : Value → Prop} (h : 0 ≤ z) (h' : z < 18446744073709551616) (k : K (.int .u64 z)) : Ar .u64 z K := ⟨z, by rw [IntKind.wrap_u64]; omega, k⟩
variable {gI : GI} [HasTz gI]
theorem Pow2_f : Fn Tryd.prog gI 133 [.int .i64 16] (.bool true) := by
  refine Fn.of tys_ok Tryd.func133 rfl (by kernel_rfl) rfl rfl ?_; intro w hG
  (conv => whnf); repeat ((first | refine tk1 ?_ | refine tk2 ?_ | refine tk3 ?_ | refine tk12 (fun _ => ?_) | refine tk4 ?_ | refine tk5 ?_ | refine tk6 ?_ | refine tk7 ?_ | refine tk8 ?_ | refine tk9 ?_ | refine tk10 (fun _ _ => ?_) | refine tk11 (fun _ => ?_) | refine tk13 ?_ | refine tk14 ?_); (conv => whnf))
  refine OthP.ints rfl rfl (v := .int .i64 0) (fun w => rfl) ?_
  (conv => whnf); repeat ((first | refine tk1 ?_ | refine tk2 ?_ | refine tk3 ?_ | refine tk12 (fun _ => ?_) | refine tk4 ?_ | refine tk5 ?_ | refine tk6 ?_ | refine tk7 ?_ | refine tk8 ?_ | refine tk9 ?_ | refine tk10 (fun _ _ => ?_) | refine tk11 (fun _ => ?_) | refine tk13 ?_ | refine tk14 ?_); (conv => whnf))
theorem Tz64_f : Fn Tryd.prog gI 147 [.int .u64 16] (.int .i64 4) := by
  refine Fn.of tys_ok Tryd.func147 rfl (by kernel_rfl) rfl rfl ?_; intro w hG
  have ht := HasTz.ok w hG
  (conv => whnf); repeat ((first | refine tk1 ?_ | refine tk2 ?_ | refine tk3 ?_ | refine tk12 (fun _ => ?_) | refine tk4 ?_ | refine tk5 ?_ | refine tk6 ?_ | refine tk7 ?_ | refine tk8 ?_ | refine tk9 ?_ | refine tk10 (fun _ _ => ?_) | refine tk11 (fun _ => ?_) | refine tk13 ?_ | refine tk14 ?_); (conv => whnf))
  refine ⟨18446744073709551600, rfl, ?_⟩
  (conv => whnf); repeat ((first | refine tk1 ?_ | refine tk2 ?_ | refine tk3 ?_ | refine tk12 (fun _ => ?_) | refine tk4 ?_ | refine tk5 ?_ | refine tk6 ?_ | refine tk7 ?_ | refine tk8 ?_ | refine tk9 ?_ | refine tk10 (fun _ _ => ?_) | refine tk11 (fun _ => ?_) | refine tk13 ?_ | refine tk14 ?_); (conv => whnf))
  refine OthP.ints rfl rfl (v := .int .u64 16) (fun w => rfl) ?_
  (conv => whnf); repeat ((first | refine tk1 ?_ | refine tk2 ?_ | refine tk3 ?_ | refine tk12 (fun _ => ?_) | refine tk4 ?_ | refine tk5 ?_ | refine tk6 ?_ | refine tk7 ?_ | refine tk8 ?_ | refine tk9 ?_ | refine tk10 (fun _ _ => ?_) | refine tk11 (fun _ => ?_) | refine tk13 ?_ | refine tk14 ?_); (conv => whnf))
  refine ⟨4573923408821661840, rfl, ?_⟩
  (conv => whnf); repeat ((first | refine tk1 ?_ | refine tk2 ?_ | refine tk3 ?_ | refine tk12 (fun _ => ?_) | refine tk4 ?_ | refine tk5 ?_ | refine tk6 ?_ | refine tk7 ?_ | refine tk8 ?_ | refine tk9 ?_ | refine tk10 (fun _ _ => ?_) | refine tk11 (fun _ => ?_) | refine tk13 ?_ | refine tk14 ?_); (conv => whnf))
  refine OthP.ints rfl rfl (v := .int .u64 15) (fun w => rfl) ?_
  (conv => whnf); repeat ((first | refine tk1 ?_ | refine tk2 ?_ | refine tk3 ?_ | refine tk12 (fun _ => ?_) | refine tk4 ?_ | refine tk5 ?_ | refine tk6 ?_ | refine tk7 ?_ | refine tk8 ?_ | refine tk9 ?_ | refine tk10 (fun _ _ => ?_) | refine tk11 (fun _ => ?_) | refine tk13 ?_ | refine tk14 ?_); (conv => whnf))
  refine OthP.idxArr (b := 7) (k := .u64) (z := 15) tys_ok rfl (fun h => nomatch h) rfl rfl rfl (by decide) (by decide) ?_
  (conv => whnf); repeat ((first | refine tk1 ?_ | refine tk2 ?_ | refine tk3 ?_ | refine tk12 (fun _ => ?_) | refine tk4 ?_ | refine tk5 ?_ | refine tk6 ?_ | refine tk7 ?_ | refine tk8 ?_ | refine tk9 ?_ | refine tk10 (fun _ _ => ?_) | refine tk11 (fun _ => ?_) | refine tk13 ?_ | refine tk14 ?_); (conv => whnf))
  refine Ld.now ht ?_
  (conv => whnf); repeat ((first | refine tk1 ?_ | refine tk2 ?_ | refine tk3 ?_ | refine tk12 (fun _ => ?_) | refine tk4 ?_ | refine tk5 ?_ | refine tk6 ?_ | refine tk7 ?_ | refine tk8 ?_ | refine tk9 ?_ | refine tk10 (fun _ _ => ?_) | refine tk11 (fun _ => ?_) | refine tk13 ?_ | refine tk14 ?_); (conv => whnf))
theorem Tz_f : Fn Tryd.prog gI 134 [.int .u64 16] (.int .i64 4) := by
  refine Fn.of tys_ok Tryd.func134 rfl (by kernel_rfl) rfl rfl ?_; intro w hG
  (conv => whnf); repeat ((first | refine tk1 ?_ | refine tk2 ?_ | refine tk3 ?_ | refine tk12 (fun _ => ?_) | refine tk4 ?_ | refine tk5 ?_ | refine tk6 ?_ | refine tk7 ?_ | refine tk8 ?_ | refine tk9 ?_ | refine tk10 (fun _ _ => ?_) | refine tk11 (fun _ => ?_) | refine tk13 ?_ | refine tk14 ?_); (conv => whnf))
  refine CallK.fn (Tz64_f (gI := gI)) ?_
  (conv => whnf); repeat ((first | refine tk1 ?_ | refine tk2 ?_ | refine tk3 ?_ | refine tk12 (fun _ => ?_) | refine tk4 ?_ | refine tk5 ?_ | refine tk6 ?_ | refine tk7 ?_ | refine tk8 ?_ | refine tk9 ?_ | refine tk10 (fun _ _ => ?_) | refine tk11 (fun _ => ?_) | refine tk13 ?_ | refine tk14 ?_); (conv => whnf))

theorem and15 (u : Nat) (h : u < 18446744073709551616) : bits .and .u64 (u : Int) 15 = ((u % 16 : Nat) : Int) := by
  have := bits_and_u64_nat u 15 h (by decide)
  rw [show ((15 : Nat) : Int) = 15 from rfl] at this
  rw [this, show (15 : Nat) = 2 ^ 4 - 1 from rfl, Nat.and_two_pow_sub_one_eq_mod]
def arrC (dg : List UInt8) : List Value := List.replicate (65 - dg.length) (.int .u8 0) ++ dg.map byteV
theorem arrC_length (dg : List UInt8) (h : dg.length ≤ 65) : (arrC dg).length = 65 := by
  unfold arrC
  rw [List.length_append, List.length_replicate, List.length_map]
  omega
theorem arrC_set (dg : List UInt8) (x : UInt8) (h : dg.length < 65) : (arrC dg).set (64 - dg.length) (.int .u8 x.toNat) = arrC (x :: dg) := by
  unfold arrC
  rw [show 65 - dg.length = (64 - dg.length) + 1 by omega, List.replicate_succ', List.append_assoc, List.set_append_right _ _ (by rw [List.length_replicate]; exact Nat.le_refl _)]
  rw [List.length_replicate, Nat.sub_self, List.length_cons, show 65 - (dg.length + 1) = 64 - dg.length by omega]
  rfl
theorem arrC_drop (dg : List UInt8) : (arrC dg).drop (65 - dg.length) = dg.map byteV := by
  unfold arrC
  rw [List.drop_append_of_le_length (by rw [List.length_replicate]; exact Nat.le_refl _), List.drop_of_length_le (by rw [List.length_replicate]; exact Nat.le_refl _), List.nil_append]
def digL : List UInt8 := [48, 49, 50, 51, 52, 53, 54, 55, 56, 57, 97, 98, 99, 100, 101, 102, 103, 104, 105, 106, 107, 108, 109, 110, 111, 112, 113, 114, 115, 116, 117, 118, 119, 120, 121, 122]
theorem digL_at : ∀ k : Nat, k < 16 → digL[k]? = some (hxD k) := by decide +kernel
structure FB where
  f : Nat
  u : Nat
  dg : List UInt8
set_option maxHeartbeats 4000000 in
theorem formatBits_f (n : Nat) (hn : n < 18446744073709551616) : FnE Tryd.prog gI 117 [.slice none 0 0, .int .u64 n, .int .i64 16, .bool false, .bool false] (fun _ => True) fun _ v _ => v = .tuple #[.slice none 0 0, str (hxS n)] := by
  refine FnE.of tys_ok Tryd.func117 rfl (by kernel_rfl) rfl rfl ?_; intro w hG hP
  (conv => whnf); repeat ((first | refine tk1 ?_ | refine tk2 ?_ | refine tk3 ?_ | refine tk12 (fun _ => ?_) | refine tk4 ?_ | refine tk5 ?_ | refine tk6 ?_ | refine tk7 ?_ | refine tk8 ?_ | refine tk9 ?_ | refine tk10 (fun _ _ => ?_) | refine tk11 (fun _ => ?_) | refine tk13 ?_ | refine tk14 ?_); (conv => whnf))
  rename_i b
  refine CallK.fn (Pow2_f (gI := gI)) ?_
  (conv => whnf); repeat ((first | refine tk1 ?_ | refine tk2 ?_ | refine tk3 ?_ | refine tk12 (fun _ => ?_) | refine tk4 ?_ | refine tk5 ?_ | refine tk6 ?_ | refine tk7 ?_ | refine tk8 ?_ | refine tk9 ?_ | refine tk10 (fun _ _ => ?_) | refine tk11 (fun _ => ?_) | refine tk13 ?_ | refine tk14 ?_); (conv => whnf))
  refine Ar.u64 (by decide) (by decide) ?_
  (conv => whnf); repeat ((first | refine tk1 ?_ | refine tk2 ?_ | refine tk3 ?_ | refine tk12 (fun _ => ?_) | refine tk4 ?_ | refine tk5 ?_ | refine tk6 ?_ | refine tk7 ?_ | refine tk8 ?_ | refine tk9 ?_ | refine tk10 (fun _ _ => ?_) | refine tk11 (fun _ => ?_) | refine tk13 ?_ | refine tk14 ?_); (conv => whnf))
  refine CallK.fn (Tz_f (gI := gI)) ?_
  (conv => whnf); repeat ((first | refine tk1 ?_ | refine tk2 ?_ | refine tk3 ?_ | refine tk12 (fun _ => ?_) | refine tk4 ?_ | refine tk5 ?_ | refine tk6 ?_ | refine tk7 ?_ | refine tk8 ?_ | refine tk9 ?_ | refine tk10 (fun _ _ => ?_) | refine tk11 (fun _ => ?_) | refine tk13 ?_ | refine tk14 ?_); (conv => whnf))
  refine Ar.u64 (by decide) (by decide) ?_
  (conv => whnf); repeat ((first | refine tk1 ?_ | refine tk2 ?_ | refine tk3 ?_ | refine tk12 (fun _ => ?_) | refine tk4 ?_ | refine tk5 ?_ | refine tk6 ?_ | refine tk7 ?_ | refine tk8 ?_ | refine tk9 ?_ | refine tk10 (fun _ _ => ?_) | refine tk11 (fun _ => ?_) | refine tk13 ?_ | refine tk14 ?_); (conv => whnf))
  refine Ar.u64 (by decide) (by decide) ?_
  (conv => whnf); repeat ((first | refine tk1 ?_ | refine tk2 ?_ | refine tk3 ?_ | refine tk12 (fun _ => ?_) | refine tk4 ?_ | refine tk5 ?_ | refine tk6 ?_ | refine tk7 ?_ | refine tk8 ?_ | refine tk9 ?_ | refine tk10 (fun _ _ => ?_) | refine tk11 (fun _ => ?_) | refine tk13 ?_ | refine tk14 ?_); (conv => whnf))
  refine Ar.u64 (by decide) (by decide) ?_
  (conv => whnf); repeat ((first | refine tk1 ?_ | refine tk2 ?_ | refine tk3 ?_ | refine tk12 (fun _ => ?_) | refine tk4 ?_ | refine tk5 ?_ | refine tk6 ?_ | refine tk7 ?_ | refine tk8 ?_ | refine tk9 ?_ | refine tk10 (fun _ _ => ?_) | refine tk11 (fun _ => ?_) | refine tk13 ?_ | refine tk14 ?_); (conv => whnf))
  refine Ar.u64 (by decide) (by decide) ?_
  (conv => whnf); repeat ((first | refine tk1 ?_ | refine tk2 ?_ | refine tk3 ?_ | refine tk12 (fun _ => ?_) | refine tk4 ?_ | refine tk5 ?_ | refine tk6 ?_ | refine tk7 ?_ | refine tk8 ?_ | refine tk9 ?_ | refine tk10 (fun _ _ => ?_) | refine tk11 (fun _ => ?_) | refine tk13 ?_ | refine tk14 ?_); (conv => whnf))
  refine LoopS.lp tys_ok (fun (x : FB) u => [.slice none 0 0, .int .u64 (x.u : Nat), u 2, .bool false, .bool false, u 5, u 6, u 7, u 8, u 9, .slice none 0 0, str [], .pointer (some ⟨b, 0, none⟩), .int .i64 (65 - (x.dg.length : Int)), .int .u64 4, .int .u64 16, .int .u64 15, u 17, u 18, u 19, u 20, u 21, u 22, u 23, u 24, u 25, u 26, u 27, u 28, u 29, u 30, u 31, u 32, u 33, u 34, u 35, u 36, u 37, u 38, u 39, u 40, u 41, u 42, u 43, u 44, u 45, u 46, u 47, u 48, u 49, u 50, u 51, u 52, u 53, u 54, u 55, u 56, u 57, u 58, u 59, u 60, u 61, u 62, u 63, u 64, u 65, u 66, u 67, u 68, u 69, u 70, u 71, u 72, u 73, u 74, u 75, u 76, u 77, u 78, u 79, u 80, u 81, u 82, u 83, u 84, u 85, u 86, u 87, u 88, u 89, u 90, u 91, u 92, u 93, u 94, u 95, u 96, u 97, u 98, u 99, u 100, u 101])
    (fun x => [.box b (arrC x.dg) 167])
    (fun x => x.u < 16 ^ (x.f + 1) ∧ hxF 16 n = hxF x.f x.u ++ x.dg ∧ x.f + x.dg.length = 16 ∧ x.u < 18446744073709551616) (fun x => x.u) ⟨16, n, []⟩ ⟨by dsimp only; omega, by rw [List.append_nil], rfl, hn⟩ rfl (by repeat' (first | exact List.Sublist.refl _ | exact List.nil_sublist _ | apply List.Sublist.cons_cons | apply List.Sublist.cons)) ?_
  rintro ⟨f, u, dg⟩ uu ⟨h1, h2, h3, h4⟩
  dsimp only at h1 h2 h3 h4 ⊢
  have hset := arrC_set dg (hxD (u % 16)) (by omega)
  have hlen := arrC_length dg (by omega)
  (conv => whnf); repeat ((first | refine tk1 ?_ | refine tk2 ?_ | refine tk3 ?_ | refine tk12 (fun _ => ?_) | refine tk4 ?_ | refine tk5 ?_ | refine tk6 ?_ | refine tk7 ?_ | refine tk8 ?_ | refine tk9 ?_ | refine tk10 (fun _ _ => ?_) | refine tk11 (fun _ => ?_) | refine tk13 ?_ | refine tk14 ?_); (conv => whnf))
  refine Cmp.cases (fun c1 => ?_) (fun c1 => ?_)
  · obtain ⟨f, rfl⟩ : ∃ g, f = g + 1 := ⟨f - 1, by rcases f with _ | f; (exfalso; simp at h1; omega); omega⟩
    have hpow : u / 16 < 16 ^ (f + 1) := by rw [Nat.pow_succ] at h1; omega
    have hstep : hxF (f + 1) u = hxF f (u / 16) ++ [hxD (u % 16)] := by rw [hxF, if_neg (by omega)]
    have hand := and15 u h4
    have hdv : ((u : Nat) : Int).fdiv 16 = ((u / 16 : Nat) : Int) := by rw [Int.fdiv_eq_ediv_of_nonneg _ (by decide)]; omega
    (conv => whnf); repeat ((first | refine tk1 ?_ | refine tk2 ?_ | refine tk3 ?_ | refine tk12 (fun _ => ?_) | refine tk4 ?_ | refine tk5 ?_ | refine tk6 ?_ | refine tk7 ?_ | refine tk8 ?_ | refine tk9 ?_ | refine tk10 (fun _ _ => ?_) | refine tk11 (fun _ => ?_) | refine tk13 ?_ | refine tk14 ?_); (conv => whnf))
    refine OthP.ints rfl rfl (v := .int .u64 ((u % 16 : Nat) : Int)) (fun w => by show Result.ok (Value.int .u64 (bits .and .u64 (u : Int) 15)) w = _; rw [hand]) ?_
    (conv => whnf); repeat ((first | refine tk1 ?_ | refine tk2 ?_ | refine tk3 ?_ | refine tk12 (fun _ => ?_) | refine tk4 ?_ | refine tk5 ?_ | refine tk6 ?_ | refine tk7 ?_ | refine tk8 ?_ | refine tk9 ?_ | refine tk10 (fun _ _ => ?_) | refine tk11 (fun _ => ?_) | refine tk13 ?_ | refine tk14 ?_); (conv => whnf))
    refine IdxS.at (hxD (u % 16)) (digL_at (u % 16) (Nat.mod_lt _ (by decide))) (by omega) ?_
    (conv => whnf); repeat ((first | refine tk1 ?_ | refine tk2 ?_ | refine tk3 ?_ | refine tk12 (fun _ => ?_) | refine tk4 ?_ | refine tk5 ?_ | refine tk6 ?_ | refine tk7 ?_ | refine tk8 ?_ | refine tk9 ?_ | refine tk10 (fun _ _ => ?_) | refine tk11 (fun _ => ?_) | refine tk13 ?_ | refine tk14 ?_); (conv => whnf))
    refine OthP.idxArr (b := b) (k := .i64) (z := 65 - (dg.length : Int) - 1) tys_ok rfl (fun h => nomatch h) rfl rfl rfl (by omega) (by omega) ?_
    (conv => whnf); repeat ((first | refine tk1 ?_ | refine tk2 ?_ | refine tk3 ?_ | refine tk12 (fun _ => ?_) | refine tk4 ?_ | refine tk5 ?_ | refine tk6 ?_ | refine tk7 ?_ | refine tk8 ?_ | refine tk9 ?_ | refine tk10 (fun _ _ => ?_) | refine tk11 (fun _ => ?_) | refine tk13 ?_ | refine tk14 ?_); (conv => whnf))
    refine Sto.tc (vs' := arrC (hxD (u % 16) :: dg)) (by rw [show (65 - (dg.length : Int) - 1).toNat = 64 - dg.length by omega]; exact hset) (by rw [hlen]; omega) rfl ?_
    (conv => whnf); repeat ((first | refine tk1 ?_ | refine tk2 ?_ | refine tk3 ?_ | refine tk12 (fun _ => ?_) | refine tk4 ?_ | refine tk5 ?_ | refine tk6 ?_ | refine tk7 ?_ | refine tk8 ?_ | refine tk9 ?_ | refine tk10 (fun _ _ => ?_) | refine tk11 (fun _ => ?_) | refine tk13 ?_ | refine tk14 ?_); (conv => whnf))
    refine OthP.ints rfl rfl (v := .int .u64 (((u : Nat) : Int).fdiv 16)) (fun w => rfl) ?_
    rw [hdv]
    (conv => whnf); repeat ((first | refine tk1 ?_ | refine tk2 ?_ | refine tk3 ?_ | refine tk12 (fun _ => ?_) | refine tk4 ?_ | refine tk5 ?_ | refine tk6 ?_ | refine tk7 ?_ | refine tk8 ?_ | refine tk9 ?_ | refine tk10 (fun _ _ => ?_) | refine tk11 (fun _ => ?_) | refine tk13 ?_ | refine tk14 ?_); (conv => whnf))
    exact ⟨⟨f, u / 16, hxD (u % 16) :: dg⟩, ⟨hpow, by rw [h2, hstep, List.append_assoc]; rfl, by dsimp only; rw [List.length_cons]; omega, by dsimp only; omega⟩, by dsimp only; rw [show (65 : Int) - ((hxD (u % 16) :: dg).length : Int) = 65 - (dg.length : Int) - 1 by rw [List.length_cons]; omega]; rfl, (by repeat' (first | exact List.Sublist.refl _ | exact List.nil_sublist _ | apply List.Sublist.cons_cons | apply List.Sublist.cons)), by dsimp only; omega⟩
  · have hu : u < 16 := by omega
    have hlast : hxF f u = [hxD u] := by
      cases f with
      | zero => rw [hxF, Nat.mod_eq_of_lt hu]
      | succ f => rw [hxF, if_pos hu]
    have hset := arrC_set dg (hxD u) (by omega)
    have hfin : hxS n = hxD u :: dg := by unfold hxS; rw [h2, hlast]; rfl
    (conv => whnf); repeat ((first | refine tk1 ?_ | refine tk2 ?_ | refine tk3 ?_ | refine tk12 (fun _ => ?_) | refine tk4 ?_ | refine tk5 ?_ | refine tk6 ?_ | refine tk7 ?_ | refine tk8 ?_ | refine tk9 ?_ | refine tk10 (fun _ _ => ?_) | refine tk11 (fun _ => ?_) | refine tk13 ?_ | refine tk14 ?_); (conv => whnf))
    refine IdxS.at (hxD u) (digL_at u hu) (by omega) ?_
    (conv => whnf); repeat ((first | refine tk1 ?_ | refine tk2 ?_ | refine tk3 ?_ | refine tk12 (fun _ => ?_) | refine tk4 ?_ | refine tk5 ?_ | refine tk6 ?_ | refine tk7 ?_ | refine tk8 ?_ | refine tk9 ?_ | refine tk10 (fun _ _ => ?_) | refine tk11 (fun _ => ?_) | refine tk13 ?_ | refine tk14 ?_); (conv => whnf))
    refine OthP.idxArr (b := b) (k := .i64) (z := 65 - (dg.length : Int) - 1) tys_ok rfl (fun h => nomatch h) rfl rfl rfl (by omega) (by omega) ?_
    (conv => whnf); repeat ((first | refine tk1 ?_ | refine tk2 ?_ | refine tk3 ?_ | refine tk12 (fun _ => ?_) | refine tk4 ?_ | refine tk5 ?_ | refine tk6 ?_ | refine tk7 ?_ | refine tk8 ?_ | refine tk9 ?_ | refine tk10 (fun _ _ => ?_) | refine tk11 (fun _ => ?_) | refine tk13 ?_ | refine tk14 ?_); (conv => whnf))
    refine Sto.tc (vs' := arrC (hxD u :: dg)) (by rw [show (65 - (dg.length : Int) - 1).toNat = 64 - dg.length by omega]; exact hset) (by rw [hlen]; omega) rfl ?_
    (conv => whnf); repeat ((first | refine tk1 ?_ | refine tk2 ?_ | refine tk3 ?_ | refine tk12 (fun _ => ?_) | refine tk4 ?_ | refine tk5 ?_ | refine tk6 ?_ | refine tk7 ?_ | refine tk8 ?_ | refine tk9 ?_ | refine tk10 (fun _ _ => ?_) | refine tk11 (fun _ => ?_) | refine tk13 ?_ | refine tk14 ?_); (conv => whnf))
    refine OthP.slcArr (b := b) (k := .i64) (z := 65 - (dg.length : Int) - 1) tys_ok rfl (fun h => nomatch h) rfl rfl rfl (by omega) (by omega) ?_
    (conv => whnf); repeat ((first | refine tk1 ?_ | refine tk2 ?_ | refine tk3 ?_ | refine tk12 (fun _ => ?_) | refine tk4 ?_ | refine tk5 ?_ | refine tk6 ?_ | refine tk7 ?_ | refine tk8 ?_ | refine tk9 ?_ | refine tk10 (fun _ _ => ?_) | refine tk11 (fun _ => ?_) | refine tk13 ?_ | refine tk14 ?_); (conv => whnf))
    refine B2S.rd (l := hxD u :: dg) ?_ (by rw [List.length_cons]; omega) ?_
    · have hd := arrC_drop (hxD u :: dg)
      rw [← hd, show (65 - (dg.length : Int) - 1).toNat = 65 - (hxD u :: dg).length by rw [List.length_cons]; omega]
      exact RdS.boxAt
    rw [hfin]
    (conv => whnf); repeat ((first | refine tk1 ?_ | refine tk2 ?_ | refine tk3 ?_ | refine tk12 (fun _ => ?_) | refine tk4 ?_ | refine tk5 ?_ | refine tk6 ?_ | refine tk7 ?_ | refine tk8 ?_ | refine tk9 ?_ | refine tk10 (fun _ _ => ?_) | refine tk11 (fun _ => ?_) | refine tk13 ?_ | refine tk14 ?_); (conv => whnf))
    exact fun w' _ => rfl
theorem FormatInt_f (n : Nat) (hn : n < 9223372036854775808) : Fn Tryd.prog gI 67 [.int .i64 n, .int .i64 16] (str (hxS n)) := by
  have hf := formatBits_f (gI := gI) n (by omega)
  have h2 : FnE Tryd.prog gI 91 [.int .i64 n, .int .i64 16] (fun _ => True) fun _ v _ => v = str (hxS n) := by
    refine FnE.of tys_ok Tryd.func91 rfl (by kernel_rfl) rfl rfl ?_; intro w hG hP
    (conv => whnf); repeat ((first | refine tk1 ?_ | refine tk2 ?_ | refine tk3 ?_ | refine tk12 (fun _ => ?_) | refine tk4 ?_ | refine tk5 ?_ | refine tk6 ?_ | refine tk7 ?_ | refine tk8 ?_ | refine tk9 ?_ | refine tk10 (fun _ _ => ?_) | refine tk11 (fun _ => ?_) | refine tk13 ?_ | refine tk14 ?_); (conv => whnf))
    refine Ar.u64 (by omega) (by omega) ?_
    (conv => whnf); repeat ((first | refine tk1 ?_ | refine tk2 ?_ | refine tk3 ?_ | refine tk12 (fun _ => ?_) | refine tk4 ?_ | refine tk5 ?_ | refine tk6 ?_ | refine tk7 ?_ | refine tk8 ?_ | refine tk9 ?_ | refine tk10 (fun _ _ => ?_) | refine tk11 (fun _ => ?_) | refine tk13 ?_ | refine tk14 ?_); (conv => whnf))
    refine CallK.fnEV hf (fun _ _ => trivial) ?_
    (conv => whnf); repeat ((first | refine tk1 ?_ | refine tk2 ?_ | refine tk3 ?_ | refine tk12 (fun _ => ?_) | refine tk4 ?_ | refine tk5 ?_ | refine tk6 ?_ | refine tk7 ?_ | refine tk8 ?_ | refine tk9 ?_ | refine tk10 (fun _ _ => ?_) | refine tk11 (fun _ => ?_) | refine tk13 ?_ | refine tk14 ?_); (conv => whnf))
    exact fun w' _ => rfl
  refine Fn.of tys_ok Tryd.func67 rfl (by kernel_rfl) rfl rfl ?_; intro w hG
  (conv => whnf); repeat ((first | refine tk1 ?_ | refine tk2 ?_ | refine tk3 ?_ | refine tk12 (fun _ => ?_) | refine tk4 ?_ | refine tk5 ?_ | refine tk6 ?_ | refine tk7 ?_ | refine tk8 ?_ | refine tk9 ?_ | refine tk10 (fun _ _ => ?_) | refine tk11 (fun _ => ?_) | refine tk13 ?_ | refine tk14 ?_); (conv => whnf))
  refine CallK.fnEV h2 (fun _ _ => trivial) ?_
  (conv => whnf); repeat ((first | refine tk1 ?_ | refine tk2 ?_ | refine tk3 ?_ | refine tk12 (fun _ => ?_) | refine tk4 ?_ | refine tk5 ?_ | refine tk6 ?_ | refine tk7 ?_ | refine tk8 ?_ | refine tk9 ?_ | refine tk10 (fun _ _ => ?_) | refine tk11 (fun _ => ?_) | refine tk13 ?_ | refine tk14 ?_); (conv => whnf))
end Go.Proofs.YtnnpnkmdhfjccaaDoor.Vex
