/- bytes.IndexAny with 13 and 10, at any bytes, reckoned. -/
import Derived.Test.YtnaeeklnlddcaaaGreatDoorMReplyNames3
import Derived.Shelf.GgClosure.StringsIndexFunc
import Derived.Shelf.Strings.SlTrimAscii
import Derived.Shelf.Strings.IndexAnyAll
namespace Go.Proofs.YtnaeeklnlddcaaaGreatDoor.Vex
open Go Go.RowKit
set_option maxRecDepth 100000
set_option linter.unusedSectionVars false
variable {gI : GI} [HasMax gI] [HasUtf gI]

theorem noEnd_iff (l : List UInt8) : noEnd l = true ↔ ∀ j (hj : j < l.length), l[j].toNat ≠ 10 ∧ l[j].toNat ≠ 13 := by
  have e : ∀ x : UInt8, (!(x == 10) && !(x == 13)) = true ↔ x.toNat ≠ 10 ∧ x.toNat ≠ 13 := fun x => by
    rw [Bool.and_eq_true, Bool.not_eq_true', Bool.not_eq_true', beq_eq_false_iff_ne, beq_eq_false_iff_ne, ne_eq, ne_eq, ne_eq, ne_eq, ← UInt8.toNat_inj, ← UInt8.toNat_inj]
    rfl
  unfold noEnd
  rw [List.all_eq_true]
  constructor
  · intro h j hj
    exact (e _).1 (h _ (List.getElem_mem hj))
  · intro h x hx
    obtain ⟨j, hj, rfl⟩ := List.mem_iff_getElem.1 hx
    exact (e _).2 (h j hj)
theorem noEnd_no {l : List UInt8} {k : Nat} (hk : k < l.length) (h : l[k].toNat = 10 ∨ l[k].toNat = 13) : noEnd l = false := by
  cases hn : noEnd l with
  | false => rfl
  | true => have := (noEnd_iff l).1 hn k hk; omega
theorem noEnd_one (x : UInt8) (h : x.toNat ≠ 10) (h' : x.toNat ≠ 13) : noEnd [x] = true := (noEnd_iff [x]).2 fun j hj => by
  obtain rfl : j = 0 := by simpa using hj
  exact ⟨h, h'⟩
theorem idx_crlf (x : UInt8) : 0 ≤ Lib.indexByte [13, 10] x ↔ x.toNat = 10 ∨ x.toNat = 13 := by
  rw [idx_in, List.mem_cons, List.mem_singleton, ← UInt8.toNat_inj, ← UInt8.toNat_inj]
  exact Or.comm
theorem ibs_k {c : Ctx} {m : Bool} {H : Hp} {K : Value → Hp → Prop} (hc : c.P = Tryz.prog) (l : List UInt8) (x : UInt8) (k : K (.int .i64 (Lib.indexByte l x)) H) : CallK c m 161 [str l, .int .u8 x.toNat] H K :=
  CallK.ext (fun w _ => by
    rw [hc]
    refine run_ext Tryz.func161 (by kernel_rfl) (by kernel_rfl) (by kernel_rfl) (e := Extern.BytealgIndexByte.indexByte) (by kernel_rfl) ?_
    have := Lib.run_indexByteString (P := Tryz.prog) ⟨⟨l⟩⟩ x.toNat w
    have hx : (((x.toNat : Nat) : Int).toNat.toUInt8) = x := by simp
    rw [hx] at this
    exact this) k
theorem index_long : ∀ (a b : List UInt8), a.length < b.length → Lib.index a b = -1
  | [], b, h => by
    cases b with
    | nil => cases h
    | cons y r => rfl
  | x :: a, b, h => by
    have ih := index_long a b (by simp at h; omega)
    unfold Lib.index
    rw [ih]
    have : b.isPrefixOf (x :: a) = false := by
      cases hp : b.isPrefixOf (x :: a) with
      | false => rfl
      | true =>
        have := (List.isPrefixOf_iff_prefix.1 hp).length_le
        omega
    rw [this]
    rfl
theorem is_k {c : Ctx} {m : Bool} {H : Hp} {K : Value → Hp → Prop} (hc : c.P = Tryz.prog) {mx : Int} (hm : c.w0.cell? ⟨0, 0, none⟩ = some (.int .i64 mx)) (hM : c.M = []) (a b : List UInt8) (h2 : 2 ≤ b.length) (hb : (b.length : Int) ≤ mx) (ha : a.length < 4294967281)
    (k : K (.int .i64 (Lib.index a b)) H) : CallK c m 167 [str a, str b] H K :=
  CallK.ext' (fun w hw => by
    rw [hc]
    refine run_ext Tryz.func167 (by kernel_rfl) (by kernel_rfl) (by kernel_rfl) (e := Extern.BytealgIndex.index) (by kernel_rfl) ?_
    exact Lib.run_indexString (P := Tryz.prog) ⟨⟨a⟩⟩ ⟨⟨b⟩⟩ w 0 mx (by kernel_rfl) (hw.old hm (by rw [hM]; simp)) h2 hb ha) k
theorem useSet_f (n : Int) : Fn Tryz.prog gI 163 [.int .i64 n] (.bool (decide (8 < n))) := by
  refine Fn.of tys_ok Tryz.func163 rfl (by kernel_rfl) rfl rfl ?_; intro w hG
  (conv => whnf); repeat ((first | refine tk1 ?_ | refine tk2 ?_ | refine tk3 ?_ | refine tk12 (fun _ => ?_) | refine tk4 ?_ | refine tk5 ?_ | refine tk6 ?_ | refine tk7 ?_ | refine tk8 ?_ | refine tk9 ?_ | refine tk10 (fun _ _ => ?_) | refine tk11 (fun _ => ?_) | refine tk13 ?_ | refine tk14 ?_); (conv => whnf))
  refine Cmp.of (decide (8 < n)) (by simp) ?_
  (conv => whnf); repeat ((first | refine tk1 ?_ | refine tk2 ?_ | refine tk3 ?_ | refine tk12 (fun _ => ?_) | refine tk4 ?_ | refine tk5 ?_ | refine tk6 ?_ | refine tk7 ?_ | refine tk8 ?_ | refine tk9 ?_ | refine tk10 (fun _ _ => ?_) | refine tk11 (fun _ => ?_) | refine tk13 ?_ | refine tk14 ?_); (conv => whnf))
def asc0 : List Value := List.replicate 256 (.bool false)
def asc1 : List Value := asc0.set 13 (.bool true)
def asc2 : List Value := asc1.set 10 (.bool true)
def ascP (p : Nat) : List Value := match p with | 0 => asc0 | 1 => asc1 | _ => asc2
theorem asc_one : ∀ x ∈ asc2, x.oneCell' = true := by decide
theorem asc_get (x : UInt8) : asc2[((x.toNat : Nat) : Int).toNat]? = some (.bool (decide (x.toNat = 10 ∨ x.toNat = 13))) := by
  have : ∀ n : Fin 256, asc2[n.val]? = some (.bool (decide (n.val = 10 ∨ n.val = 13))) := by
    intro n
    unfold asc2 asc1 asc0
    simp only [List.getElem?_set, List.getElem?_replicate, List.length_set, List.length_replicate]
    by_cases h1 : n.val = 10
    · simp [h1]
    · by_cases h2 : n.val = 13
      · simp [h2]
      · rw [if_neg (by omega), if_neg (by omega), if_pos n.isLt, decide_eq_false (by omega)]
  exact this ⟨x.toNat, x.toNat_lt⟩
theorem mkSet_f : Fn Tryz.prog gI 164 [str [13, 10]] (.tuple #[.agg ⟨asc2⟩, .bool true]) := by
  refine Fn.of tys_ok Tryz.func164 rfl (by kernel_rfl) rfl rfl ?_; intro w hG
  (conv => whnf); repeat ((first | refine tk1 ?_ | refine tk2 ?_ | refine tk3 ?_ | refine tk12 (fun _ => ?_) | refine tk4 ?_ | refine tk5 ?_ | refine tk6 ?_ | refine tk7 ?_ | refine tk8 ?_ | refine tk9 ?_ | refine tk10 (fun _ _ => ?_) | refine tk11 (fun _ => ?_) | refine tk13 ?_ | refine tk14 ?_); (conv => whnf))
  rename_i b
  refine LoopS.lp tys_ok (fun (p : Nat) u => [str [13, 10], u 1, .pointer (some ⟨b, 0, none⟩), u 3, .int .i64 (p : Nat), u 5, u 6, u 7, u 8, u 9, u 10, u 11, u 12, u 13, u 14, u 15, u 16, u 17, u 18, u 19, u 20]) (fun p => [.box b (ascP p) 217]) (fun p => p ≤ 2) (fun p => 2 - p) 0 (by decide) rfl (by repeat' (first | exact List.Sublist.refl _ | exact List.nil_sublist _ | apply List.Sublist.cons_cons | apply List.Sublist.cons)) ?_
  intro p u hp
  have hp3 : p = 0 ∨ p = 1 ∨ p = 2 := by omega
  rcases hp3 with rfl | rfl | rfl
  · (conv => whnf); repeat ((first | refine tk1 ?_ | refine tk2 ?_ | refine tk3 ?_ | refine tk12 (fun _ => ?_) | refine tk4 ?_ | refine tk5 ?_ | refine tk6 ?_ | refine tk7 ?_ | refine tk8 ?_ | refine tk9 ?_ | refine tk10 (fun _ _ => ?_) | refine tk11 (fun _ => ?_) | refine tk13 ?_ | refine tk14 ?_); (conv => whnf))
    refine IdxS.at 13 rfl (by decide) ?_
    rw [show (((13 : UInt8).toNat : Nat) : Int) = 13 from rfl]
    (conv => whnf); repeat ((first | refine tk1 ?_ | refine tk2 ?_ | refine tk3 ?_ | refine tk12 (fun _ => ?_) | refine tk4 ?_ | refine tk5 ?_ | refine tk6 ?_ | refine tk7 ?_ | refine tk8 ?_ | refine tk9 ?_ | refine tk10 (fun _ _ => ?_) | refine tk11 (fun _ => ?_) | refine tk13 ?_ | refine tk14 ?_); (conv => whnf))
    refine OthP.idxArr (b := b) (k := .u8) (z := 13) tys_ok rfl (fun h => nomatch h) rfl rfl rfl (by decide) (by decide) ?_
    (conv => whnf); repeat ((first | refine tk1 ?_ | refine tk2 ?_ | refine tk3 ?_ | refine tk12 (fun _ => ?_) | refine tk4 ?_ | refine tk5 ?_ | refine tk6 ?_ | refine tk8 ?_); (conv => whnf))
    exact ⟨1, by decide, rfl, (by repeat' (first | exact List.Sublist.refl _ | exact List.nil_sublist _ | apply List.Sublist.cons_cons | apply List.Sublist.cons)), by dsimp only; omega⟩
  · (conv => whnf); repeat ((first | refine tk1 ?_ | refine tk2 ?_ | refine tk3 ?_ | refine tk12 (fun _ => ?_) | refine tk4 ?_ | refine tk5 ?_ | refine tk6 ?_ | refine tk7 ?_ | refine tk8 ?_ | refine tk9 ?_ | refine tk10 (fun _ _ => ?_) | refine tk11 (fun _ => ?_) | refine tk13 ?_ | refine tk14 ?_); (conv => whnf))
    refine IdxS.at 10 rfl (by decide) ?_
    rw [show (((10 : UInt8).toNat : Nat) : Int) = 10 from rfl]
    (conv => whnf); repeat ((first | refine tk1 ?_ | refine tk2 ?_ | refine tk3 ?_ | refine tk12 (fun _ => ?_) | refine tk4 ?_ | refine tk5 ?_ | refine tk6 ?_ | refine tk7 ?_ | refine tk8 ?_ | refine tk9 ?_ | refine tk10 (fun _ _ => ?_) | refine tk11 (fun _ => ?_) | refine tk13 ?_ | refine tk14 ?_); (conv => whnf))
    refine OthP.idxArr (b := b) (k := .u8) (z := 10) tys_ok rfl (fun h => nomatch h) rfl rfl rfl (by decide) (by decide) ?_
    (conv => whnf); repeat ((first | refine tk1 ?_ | refine tk2 ?_ | refine tk3 ?_ | refine tk12 (fun _ => ?_) | refine tk4 ?_ | refine tk5 ?_ | refine tk6 ?_ | refine tk8 ?_); (conv => whnf))
    exact ⟨2, by decide, rfl, (by repeat' (first | exact List.Sublist.refl _ | exact List.nil_sublist _ | apply List.Sublist.cons_cons | apply List.Sublist.cons)), by dsimp only; omega⟩
  · (conv => whnf); repeat ((first | refine tk1 ?_ | refine tk2 ?_ | refine tk3 ?_ | refine tk12 (fun _ => ?_) | refine tk4 ?_ | refine tk5 ?_ | refine tk6 ?_ | refine tk8 ?_); (conv => whnf))
    refine Sto.tv rfl rfl asc_one ?_
    (conv => whnf); repeat ((first | refine tk1 ?_ | refine tk2 ?_ | refine tk3 ?_ | refine tk12 (fun _ => ?_) | refine tk4 ?_ | refine tk5 ?_ | refine tk6 ?_ | refine tk8 ?_); (conv => whnf))
    rfl
theorem size_len (z : ByteArray) : z.data.toList.length = z.size := by rw [Array.length_toList]; rfl
set_option maxHeartbeats 4000000 in
theorem IndexAny_f (A : Option Addr) (cp : Nat) (l : List UInt8) (hl : l.length ≤ 1000000000) :
    FnE Tryz.prog gI 122 [.slice A l.length cp, str [13, 10]] (fun w => RdL w [(A, l.map byteV)] ∧ l.length ≤ cp) fun _ v _ => ∃ k : Int, v = .int .i64 k ∧ (0 ≤ k ↔ noEnd l = false) := by
  refine FnE.of tys_ok Tryz.func122 rfl (by kernel_rfl) rfl rfl ?_; intro w hG hP
  have hR : ∀ H, RdA (mkC Tryz.prog gI w hG) H A (l.map byteV) := fun H => ⟨hP.1.1.now⟩
  have hcp := hP.2
  obtain ⟨mx, hmx⟩ := HasMax.ok w hG
  (conv => whnf); repeat ((first | refine tk1 ?_ | refine tk2 ?_ | refine tk3 ?_ | refine tk12 (fun _ => ?_) | refine tk4 ?_ | refine tk5 ?_ | refine tk6 ?_ | refine tk7 ?_ | refine tk8 ?_ | refine tk9 ?_ | refine tk10 (fun _ _ => ?_) | refine tk11 (fun _ => ?_) | refine tk13 ?_ | refine tk14 ?_); (conv => whnf))
  refine Cmp.cases (fun h1 => ?_) (fun h1 => ?_)
  · obtain ⟨x, rfl⟩ : ∃ x, l = [x] := List.length_eq_one_iff.1 (by omega)
    have hx := x.toNat_lt
    (conv => whnf); repeat ((first | refine tk1 ?_ | refine tk2 ?_ | refine tk3 ?_ | refine tk12 (fun _ => ?_) | refine tk4 ?_ | refine tk5 ?_ | refine tk6 ?_ | refine tk7 ?_ | refine tk8 ?_ | refine tk9 ?_ | refine tk10 (fun _ _ => ?_) | refine tk11 (fun _ => ?_) | refine tk13 ?_ | refine tk14 ?_); (conv => whnf))
    refine IdxA.tc (xs := [x].map byteV) (by simp) (by omega) (by simp) ?_
    (conv => whnf); repeat ((first | refine tk1 ?_ | refine tk2 ?_ | refine tk3 ?_ | refine tk12 (fun _ => ?_) | refine tk4 ?_ | refine tk5 ?_ | refine tk6 ?_ | refine tk7 ?_ | refine tk8 ?_ | refine tk9 ?_ | refine tk10 (fun _ _ => ?_) | refine tk11 (fun _ => ?_) | refine tk13 ?_ | refine tk14 ?_); (conv => whnf))
    refine Ld.ta (xs := [x].map byteV) (v := byteV x) rfl ?_
    unfold byteV
    (conv => whnf); repeat ((first | refine tk1 ?_ | refine tk2 ?_ | refine tk3 ?_ | refine tk12 (fun _ => ?_) | refine tk4 ?_ | refine tk5 ?_ | refine tk6 ?_ | refine tk7 ?_ | refine tk8 ?_ | refine tk9 ?_ | refine tk10 (fun _ _ => ?_) | refine tk11 (fun _ => ?_) | refine tk13 ?_ | refine tk14 ?_); (conv => whnf))
    refine Ar.in32 (by omega) (by omega) ?_
    (conv => whnf); repeat ((first | refine tk1 ?_ | refine tk2 ?_ | refine tk3 ?_ | refine tk12 (fun _ => ?_) | refine tk4 ?_ | refine tk5 ?_ | refine tk6 ?_ | refine tk7 ?_ | refine tk8 ?_ | refine tk9 ?_ | refine tk10 (fun _ _ => ?_) | refine tk11 (fun _ => ?_) | refine tk13 ?_ | refine tk14 ?_); (conv => whnf))
    refine Cmp.cases (fun h2 => ?_) (fun h2 => ?_)
    · (conv => whnf); repeat ((first | refine tk1 ?_ | refine tk2 ?_ | refine tk3 ?_ | refine tk12 (fun _ => ?_) | refine tk4 ?_ | refine tk5 ?_ | refine tk6 ?_ | refine tk7 ?_ | refine tk8 ?_ | refine tk9 ?_ | refine tk10 (fun _ _ => ?_) | refine tk11 (fun _ => ?_) | refine tk13 ?_ | refine tk14 ?_); (conv => whnf))
      refine Oth.rangeS tys_ok rfl rfl (fun it => ?_)
      (conv => whnf); repeat ((first | refine tk1 ?_ | refine tk2 ?_ | refine tk3 ?_ | refine tk12 (fun _ => ?_) | refine tk4 ?_ | refine tk5 ?_ | refine tk6 ?_ | refine tk7 ?_ | refine tk8 ?_ | refine tk9 ?_ | refine tk10 (fun _ _ => ?_) | refine tk11 (fun _ => ?_) | refine tk13 ?_ | refine tk14 ?_); (conv => whnf))
      refine LoopS.lp tys_ok (fun (p : Nat) u => [u 0, u 1, u 2, u 3, u 4, u 5, u 6, u 7, u 8, u 9, u 10, u 11, u 12, u 13, u 14, u 15, u 16, u 17, u 18, u 19, u 20, u 21, u 22, u 23, u 24, u 25, u 26, u 27, .pointer (some ⟨it, 0, none⟩), u 29, u 30, u 31, u 32, u 33, u 34, u 35, u 36, u 37, u 38, u 39, u 40, u 41, u 42, u 43, u 44, u 45, u 46, u 47, u 48, u 49, u 50, u 51, u 52, u 53, u 54, u 55, u 56, u 57, u 58, u 59, u 60, u 61, u 62, u 63, u 64, u 65, u 66, u 67, u 68, u 69, u 70, u 71, u 72, u 73, u 74, u 75, u 76, u 77, u 78, u 79, u 80, u 81, u 82, u 83, u 84, u 85, u 86, u 87, u 88, u 89, u 90, u 91, u 92, u 93, u 94, u 95, u 96, u 97, u 98, u 99, u 100, u 101, u 102, u 103, u 104, u 105, u 106, u 107, u 108, u 109, u 110, u 111, u 112, u 113, u 114, u 115, u 116, u 117, u 118, u 119, u 120, u 121, u 122, u 123, u 124, u 125, u 126, u 127, u 128]) (fun p => [.obj it (.stringIter ⟨⟨[13, 10]⟩⟩ p)]) (fun p => p ≤ 2) (fun p => 2 - p) 0 (by decide) rfl (by repeat' (first | exact List.Sublist.refl _ | exact List.nil_sublist _ | apply List.Sublist.cons_cons | apply List.Sublist.cons)) ?_
      intro p u hp
      (conv => whnf); repeat ((first | refine tk1 ?_ | refine tk2 ?_ | refine tk3 ?_ | refine tk12 (fun _ => ?_) | refine tk4 ?_ | refine tk5 ?_ | refine tk6 ?_ | refine tk7 ?_ | refine tk8 ?_ | refine tk9 ?_ | refine tk10 (fun _ _ => ?_) | refine tk11 (fun _ => ?_) | refine tk13 ?_ | refine tk14 ?_); (conv => whnf))
      have hp3 : p = 0 ∨ p = 1 ∨ p = 2 := by omega
      rcases hp3 with rfl | rfl | rfl
      · refine Oth.nextS (s := ⟨⟨[13, 10]⟩⟩) (p := 0) rfl (by decide) ?_
        rw [show Utf8.decode ⟨⟨[13, 10]⟩⟩ 0 = (13, 1) by rfl]
        (conv => whnf); repeat ((first | refine tk1 ?_ | refine tk2 ?_ | refine tk3 ?_ | refine tk12 (fun _ => ?_) | refine tk4 ?_ | refine tk5 ?_ | refine tk6 ?_ | refine tk7 ?_ | refine tk8 ?_ | refine tk9 ?_ | refine tk10 (fun _ _ => ?_) | refine tk11 (fun _ => ?_) | refine tk13 ?_ | refine tk14 ?_); (conv => whnf))
        exact ⟨1, by decide, rfl, (by repeat' (first | exact List.Sublist.refl _ | exact List.nil_sublist _ | apply List.Sublist.cons_cons | apply List.Sublist.cons)), by dsimp only; omega⟩
      · refine Oth.nextS (s := ⟨⟨[13, 10]⟩⟩) (p := 1) rfl (by decide) ?_
        rw [show Utf8.decode ⟨⟨[13, 10]⟩⟩ 1 = (10, 1) by rfl]
        (conv => whnf); repeat ((first | refine tk1 ?_ | refine tk2 ?_ | refine tk3 ?_ | refine tk12 (fun _ => ?_) | refine tk4 ?_ | refine tk5 ?_ | refine tk6 ?_ | refine tk7 ?_ | refine tk8 ?_ | refine tk9 ?_ | refine tk10 (fun _ _ => ?_) | refine tk11 (fun _ => ?_) | refine tk13 ?_ | refine tk14 ?_); (conv => whnf))
        exact ⟨2, by decide, rfl, (by repeat' (first | exact List.Sublist.refl _ | exact List.nil_sublist _ | apply List.Sublist.cons_cons | apply List.Sublist.cons)), by dsimp only; omega⟩
      · refine Oth.nextE (s := ⟨⟨[13, 10]⟩⟩) (p := 2) rfl (by decide) ?_
        (conv => whnf); repeat ((first | refine tk1 ?_ | refine tk2 ?_ | refine tk3 ?_ | refine tk12 (fun _ => ?_) | refine tk4 ?_ | refine tk5 ?_ | refine tk6 ?_ | refine tk7 ?_ | refine tk8 ?_ | refine tk9 ?_ | refine tk10 (fun _ _ => ?_) | refine tk11 (fun _ => ?_) | refine tk13 ?_ | refine tk14 ?_); (conv => whnf))
        exact fun w' _ => ⟨-1, rfl, by omega, fun h => absurd h (by rw [noEnd_one x (by omega) (by omega)]; decide)⟩
    · (conv => whnf); repeat ((first | refine tk1 ?_ | refine tk2 ?_ | refine tk3 ?_ | refine tk12 (fun _ => ?_) | refine tk4 ?_ | refine tk5 ?_ | refine tk6 ?_ | refine tk7 ?_ | refine tk8 ?_ | refine tk9 ?_ | refine tk10 (fun _ _ => ?_) | refine tk11 (fun _ => ?_) | refine tk13 ?_ | refine tk14 ?_); (conv => whnf))
      refine IdxA.tc (xs := [x].map byteV) (by simp) (by omega) (by simp) ?_
      (conv => whnf); repeat ((first | refine tk1 ?_ | refine tk2 ?_ | refine tk3 ?_ | refine tk12 (fun _ => ?_) | refine tk4 ?_ | refine tk5 ?_ | refine tk6 ?_ | refine tk7 ?_ | refine tk8 ?_ | refine tk9 ?_ | refine tk10 (fun _ _ => ?_) | refine tk11 (fun _ => ?_) | refine tk13 ?_ | refine tk14 ?_); (conv => whnf))
      refine Ld.ta (xs := [x].map byteV) (v := byteV x) rfl ?_
      unfold byteV
      (conv => whnf); repeat ((first | refine tk1 ?_ | refine tk2 ?_ | refine tk3 ?_ | refine tk12 (fun _ => ?_) | refine tk4 ?_ | refine tk5 ?_ | refine tk6 ?_ | refine tk7 ?_ | refine tk8 ?_ | refine tk9 ?_ | refine tk10 (fun _ _ => ?_) | refine tk11 (fun _ => ?_) | refine tk13 ?_ | refine tk14 ?_); (conv => whnf))
      refine ibs_k rfl [13, 10] x ?_
      have hi := idx_crlf x
      generalize Lib.indexByte [13, 10] x = ix at hi
      (conv => whnf); repeat ((first | refine tk1 ?_ | refine tk2 ?_ | refine tk3 ?_ | refine tk12 (fun _ => ?_) | refine tk4 ?_ | refine tk5 ?_ | refine tk6 ?_ | refine tk7 ?_ | refine tk8 ?_ | refine tk9 ?_ | refine tk10 (fun _ _ => ?_) | refine tk11 (fun _ => ?_) | refine tk13 ?_ | refine tk14 ?_); (conv => whnf))
      refine Cmp.cases (fun h3 => ?_) (fun h3 => ?_)
      · (conv => whnf); repeat ((first | refine tk1 ?_ | refine tk2 ?_ | refine tk3 ?_ | refine tk12 (fun _ => ?_) | refine tk4 ?_ | refine tk5 ?_ | refine tk6 ?_ | refine tk7 ?_ | refine tk8 ?_ | refine tk9 ?_ | refine tk10 (fun _ _ => ?_) | refine tk11 (fun _ => ?_) | refine tk13 ?_ | refine tk14 ?_); (conv => whnf))
        exact fun w' _ => ⟨0, rfl, fun _ => noEnd_no (l := [x]) (k := 0) (by simp) (hi.1 h3), fun _ => Int.le_refl _⟩
      · (conv => whnf); repeat ((first | refine tk1 ?_ | refine tk2 ?_ | refine tk3 ?_ | refine tk12 (fun _ => ?_) | refine tk4 ?_ | refine tk5 ?_ | refine tk6 ?_ | refine tk7 ?_ | refine tk8 ?_ | refine tk9 ?_ | refine tk10 (fun _ _ => ?_) | refine tk11 (fun _ => ?_) | refine tk13 ?_ | refine tk14 ?_); (conv => whnf))
        exact fun w' _ => ⟨-1, rfl, by omega, fun h => absurd h (by rw [noEnd_one x (by omega) (by omega)]; decide)⟩
  have hit : ∀ k : Nat, k < l.length → (∀ j (hj : j < l.length), j = k → l[j].toNat = 10 ∨ l[j].toNat = 13) → ∀ w' : World, ∃ q : Int, Value.int .i64 ((k : Nat) : Int) = .int .i64 q ∧ (0 ≤ q ↔ noEnd l = false) := fun k hk h _ =>
    ⟨k, rfl, fun _ => noEnd_no hk (h k hk rfl), fun _ => Int.natCast_nonneg _⟩
  have mis : (∀ j (hj : j < l.length), l[j].toNat ≠ 10 ∧ l[j].toNat ≠ 13) → ∀ w' : World, ∃ q : Int, Value.int .i64 (-1) = .int .i64 q ∧ (0 ≤ q ↔ noEnd l = false) := fun h _ =>
    ⟨-1, rfl, by omega, fun e => by rw [(noEnd_iff l).2 h] at e; cases e⟩
  (conv => whnf); repeat ((first | refine tk1 ?_ | refine tk2 ?_ | refine tk3 ?_ | refine tk12 (fun _ => ?_) | refine tk4 ?_ | refine tk5 ?_ | refine tk6 ?_ | refine tk7 ?_ | refine tk8 ?_ | refine tk9 ?_ | refine tk10 (fun _ _ => ?_) | refine tk11 (fun _ => ?_) | refine tk13 ?_ | refine tk14 ?_); (conv => whnf))
  refine CallK.fn (useSet_f l.length) ?_
  cases h8 : decide (8 < (l.length : Int))
  rotate_left
  · (conv => whnf); repeat ((first | refine tk1 ?_ | refine tk2 ?_ | refine tk3 ?_ | refine tk12 (fun _ => ?_) | refine tk4 ?_ | refine tk5 ?_ | refine tk6 ?_ | refine tk7 ?_ | refine tk8 ?_ | refine tk9 ?_ | refine tk10 (fun _ _ => ?_) | refine tk11 (fun _ => ?_) | refine tk13 ?_ | refine tk14 ?_); (conv => whnf))
    refine CallK.fn mkSet_f ?_
    (conv => whnf); repeat ((first | refine tk1 ?_ | refine tk2 ?_ | refine tk3 ?_ | refine tk12 (fun _ => ?_) | refine tk4 ?_ | refine tk5 ?_ | refine tk6 ?_ | refine tk8 ?_); (conv => whnf))
    rename_i b7
    refine Sto.tv rfl rfl asc_one ?_
    (conv => whnf); repeat ((first | refine tk1 ?_ | refine tk2 ?_ | refine tk3 ?_ | refine tk12 (fun _ => ?_) | refine tk4 ?_ | refine tk5 ?_ | refine tk6 ?_ | refine tk8 ?_); (conv => whnf))
    refine LoopS.lp tys_ok (fun (k : Nat) u => [u 0, u 1, u 2, u 3, u 4, u 5, u 6, .pointer (some ⟨b7, 0, none⟩), u 8, u 9, u 10, u 11, u 12, u 13, u 14, u 15, u 16, u 17, u 18, u 19, u 20, u 21, u 22, u 23, u 24, u 25, u 26, u 27, u 28, u 29, u 30, u 31, u 32, u 33, u 34, u 35, u 36, u 37, u 38, u 39, u 40, u 41, u 42, u 43, u 44, u 45, u 46, u 47, u 48, u 49, u 50, u 51, u 52, u 53, u 54, u 55, u 56, u 57, u 58, u 59, .slice A l.length cp, .int .i64 l.length, .int .i64 (k : Nat), u 63, u 64, u 65, u 66, u 67, u 68, u 69, u 70, u 71, u 72, u 73, u 74, u 75, u 76, u 77, u 78, u 79, u 80, u 81, u 82, u 83, u 84, u 85, u 86, u 87, u 88, u 89, u 90, u 91, u 92, u 93, u 94, u 95, u 96, u 97, u 98, u 99, u 100, u 101, u 102, u 103, u 104, u 105, u 106, u 107, u 108, u 109, u 110, u 111, u 112, u 113, u 114, u 115, u 116, u 117, u 118, u 119, u 120, u 121, u 122, u 123, u 124, u 125, u 126, u 127, u 128]) (fun _ => [.box b7 asc2 217]) (fun k => k ≤ l.length ∧ ∀ j (hj : j < l.length), j < k → l[j].toNat ≠ 10 ∧ l[j].toNat ≠ 13) (fun k => l.length - k) 0 ⟨Nat.zero_le _, fun _ _ h => absurd h (by omega)⟩ rfl (by repeat' (first | exact List.Sublist.refl _ | exact List.nil_sublist _ | apply List.Sublist.cons_cons | apply List.Sublist.cons)) ?_
    rintro k u ⟨hk, hI⟩
    dsimp only
    (conv => whnf); repeat ((first | refine tk1 ?_ | refine tk2 ?_ | refine tk3 ?_ | refine tk12 (fun _ => ?_) | refine tk4 ?_ | refine tk5 ?_ | refine tk6 ?_ | refine tk7 ?_ | refine tk8 ?_ | refine tk9 ?_ | refine tk10 (fun _ _ => ?_) | refine tk11 (fun _ => ?_) | refine tk13 ?_ | refine tk14 ?_); (conv => whnf))
    refine Cmp.cases (fun hlt => ?_) (fun hlt => ?_)
    rotate_left
    · (conv => whnf); repeat ((first | refine tk1 ?_ | refine tk2 ?_ | refine tk3 ?_ | refine tk12 (fun _ => ?_) | refine tk4 ?_ | refine tk5 ?_ | refine tk6 ?_ | refine tk7 ?_ | refine tk8 ?_ | refine tk9 ?_ | refine tk10 (fun _ _ => ?_) | refine tk11 (fun _ => ?_) | refine tk13 ?_ | refine tk14 ?_); (conv => whnf))
      exact fun w' _ => mis (fun j hj => hI j hj (by omega)) w'
    have hlt' : k < l.length := by omega
    obtain ⟨x, hx⟩ : ∃ x, l[k] = x := ⟨_, rfl⟩
    have hxt := x.toNat_lt
    have hset := asc_get x
    (conv => whnf); repeat ((first | refine tk1 ?_ | refine tk2 ?_ | refine tk3 ?_ | refine tk12 (fun _ => ?_) | refine tk4 ?_ | refine tk5 ?_ | refine tk6 ?_ | refine tk7 ?_ | refine tk8 ?_ | refine tk9 ?_ | refine tk10 (fun _ _ => ?_) | refine tk11 (fun _ => ?_) | refine tk13 ?_ | refine tk14 ?_); (conv => whnf))
    refine IdxA.tc (xs := l.map byteV) (by simp; omega) (by omega) (by omega) ?_
    (conv => whnf); repeat ((first | refine tk1 ?_ | refine tk2 ?_ | refine tk3 ?_ | refine tk12 (fun _ => ?_) | refine tk4 ?_ | refine tk5 ?_ | refine tk6 ?_ | refine tk7 ?_ | refine tk8 ?_ | refine tk9 ?_ | refine tk10 (fun _ _ => ?_) | refine tk11 (fun _ => ?_) | refine tk13 ?_ | refine tk14 ?_); (conv => whnf))
    refine Ld.ta (xs := l.map byteV) (v := .int .u8 x.toNat) (by simp [hlt', hx, byteV]) ?_
    (conv => whnf); repeat ((first | refine tk1 ?_ | refine tk2 ?_ | refine tk3 ?_ | refine tk12 (fun _ => ?_) | refine tk4 ?_ | refine tk5 ?_ | refine tk6 ?_ | refine tk7 ?_ | refine tk8 ?_ | refine tk9 ?_ | refine tk10 (fun _ _ => ?_) | refine tk11 (fun _ => ?_) | refine tk13 ?_ | refine tk14 ?_); (conv => whnf))
    refine CallK.inl tys_ok Tryz.func165 rfl (by kernel_rfl) rfl rfl ?_
    (conv => whnf); repeat ((first | refine tk1 ?_ | refine tk2 ?_ | refine tk3 ?_ | refine tk12 (fun _ => ?_) | refine tk4 ?_ | refine tk5 ?_ | refine tk6 ?_ | refine tk7 ?_ | refine tk8 ?_ | refine tk9 ?_ | refine tk10 (fun _ _ => ?_) | refine tk11 (fun _ => ?_) | refine tk13 ?_ | refine tk14 ?_); (conv => whnf))
    refine OthP.idxArr (b := b7) (k := .u8) (z := x.toNat) tys_ok rfl (fun h => nomatch h) rfl rfl rfl (by omega) (by omega) ?_
    (conv => whnf); repeat ((first | refine tk1 ?_ | refine tk2 ?_ | refine tk3 ?_ | refine tk12 (fun _ => ?_) | refine tk4 ?_ | refine tk5 ?_ | refine tk6 ?_ | refine tk7 ?_ | refine tk8 ?_ | refine tk9 ?_ | refine tk10 (fun _ _ => ?_) | refine tk11 (fun _ => ?_) | refine tk13 ?_ | refine tk14 ?_); (conv => whnf))
    refine Ld.tc (vs := asc2) (v := .bool (decide (x.toNat = 10 ∨ x.toNat = 13))) hset ?_
    by_cases hh : x.toNat = 10 ∨ x.toNat = 13
    · rw [decide_eq_true hh]
      (conv => whnf); repeat ((first | refine tk1 ?_ | refine tk2 ?_ | refine tk3 ?_ | refine tk12 (fun _ => ?_) | refine tk4 ?_ | refine tk5 ?_ | refine tk6 ?_ | refine tk7 ?_ | refine tk8 ?_ | refine tk9 ?_ | refine tk10 (fun _ _ => ?_) | refine tk11 (fun _ => ?_) | refine tk13 ?_ | refine tk14 ?_); (conv => whnf))
      exact fun w' _ => hit k hlt' (fun j hj e => by subst e; rw [hx]; exact hh) w'
    · rw [decide_eq_false hh]
      (conv => whnf); repeat ((first | refine tk1 ?_ | refine tk2 ?_ | refine tk3 ?_ | refine tk12 (fun _ => ?_) | refine tk4 ?_ | refine tk5 ?_ | refine tk6 ?_ | refine tk7 ?_ | refine tk8 ?_ | refine tk9 ?_ | refine tk10 (fun _ _ => ?_) | refine tk11 (fun _ => ?_) | refine tk13 ?_ | refine tk14 ?_); (conv => whnf))
      exact ⟨k + 1, ⟨by omega, fun j hj hjk => by
        rcases (show j < k ∨ j = k by omega) with h | rfl
        · exact hI j hj h
        · rw [hx]; omega⟩, rfl, (by repeat' (first | exact List.Sublist.refl _ | exact List.nil_sublist _ | apply List.Sublist.cons_cons | apply List.Sublist.cons)), by dsimp only; omega⟩
  · (conv => whnf); repeat ((first | refine tk1 ?_ | refine tk2 ?_ | refine tk3 ?_ | refine tk12 (fun _ => ?_) | refine tk4 ?_ | refine tk5 ?_ | refine tk6 ?_ | refine tk7 ?_ | refine tk8 ?_ | refine tk9 ?_ | refine tk10 (fun _ _ => ?_) | refine tk11 (fun _ => ?_) | refine tk13 ?_ | refine tk14 ?_); (conv => whnf))
    refine LoopS.lp tys_ok (fun (k : Nat) u => [.slice A l.length cp, str [13, 10], u 2, u 3, u 4, u 5, u 6, u 7, u 8, u 9, u 10, u 11, .int .i64 (k : Nat), u 13, u 14, u 15, u 16, u 17, u 18, u 19, u 20, u 21, u 22, u 23, u 24, u 25, u 26, u 27, u 28, u 29, u 30, u 31, u 32, u 33, u 34, u 35, u 36, u 37, u 38, u 39, u 40, u 41, u 42, u 43, u 44, u 45, u 46, u 47, u 48, u 49, u 50, u 51, u 52, u 53, u 54, u 55, u 56, u 57, u 58, u 59, u 60, u 61, u 62, u 63, u 64, u 65, u 66, u 67, u 68, u 69, u 70, u 71, u 72, u 73, u 74, u 75, u 76, u 77, u 78, u 79, u 80, u 81, u 82, u 83, u 84, u 85, u 86, u 87, u 88, u 89, u 90, u 91, u 92, u 93, u 94, u 95, u 96, u 97, u 98, u 99, u 100, u 101, u 102, u 103, u 104, u 105, u 106, u 107, u 108, u 109, u 110, u 111, u 112, u 113, u 114, u 115, u 116, u 117, u 118, u 119, u 120, u 121, u 122, u 123, u 124, u 125, u 126, u 127, u 128]) (fun _ => []) (fun k => k ≤ l.length ∧ ∀ j (hj : j < l.length), j < k → l[j].toNat ≠ 10 ∧ l[j].toNat ≠ 13) (fun k => l.length - k) 0 ⟨Nat.zero_le _, fun _ _ h => absurd h (by omega)⟩ rfl (by repeat' (first | exact List.Sublist.refl _ | exact List.nil_sublist _ | apply List.Sublist.cons_cons | apply List.Sublist.cons)) ?_
    rintro k u ⟨hk, hI⟩
    dsimp only
    (conv => whnf); repeat ((first | refine tk1 ?_ | refine tk2 ?_ | refine tk3 ?_ | refine tk12 (fun _ => ?_) | refine tk4 ?_ | refine tk5 ?_ | refine tk6 ?_ | refine tk7 ?_ | refine tk8 ?_ | refine tk9 ?_ | refine tk10 (fun _ _ => ?_) | refine tk11 (fun _ => ?_) | refine tk13 ?_ | refine tk14 ?_); (conv => whnf))
    refine Cmp.cases (fun hlt => ?_) (fun hlt => ?_)
    rotate_left
    · (conv => whnf); repeat ((first | refine tk1 ?_ | refine tk2 ?_ | refine tk3 ?_ | refine tk12 (fun _ => ?_) | refine tk4 ?_ | refine tk5 ?_ | refine tk6 ?_ | refine tk7 ?_ | refine tk8 ?_ | refine tk9 ?_ | refine tk10 (fun _ _ => ?_) | refine tk11 (fun _ => ?_) | refine tk13 ?_ | refine tk14 ?_); (conv => whnf))
      exact fun w' _ => mis (fun j hj => hI j hj (by omega)) w'
    have hlt' : k < l.length := by omega
    obtain ⟨x, hx⟩ : ∃ x, l[k] = x := ⟨_, rfl⟩
    have hxt := x.toNat_lt
    (conv => whnf); repeat ((first | refine tk1 ?_ | refine tk2 ?_ | refine tk3 ?_ | refine tk12 (fun _ => ?_) | refine tk4 ?_ | refine tk5 ?_ | refine tk6 ?_ | refine tk7 ?_ | refine tk8 ?_ | refine tk9 ?_ | refine tk10 (fun _ _ => ?_) | refine tk11 (fun _ => ?_) | refine tk13 ?_ | refine tk14 ?_); (conv => whnf))
    refine IdxA.tc (xs := l.map byteV) (by simp; omega) (by omega) (by omega) ?_
    (conv => whnf); repeat ((first | refine tk1 ?_ | refine tk2 ?_ | refine tk3 ?_ | refine tk12 (fun _ => ?_) | refine tk4 ?_ | refine tk5 ?_ | refine tk6 ?_ | refine tk7 ?_ | refine tk8 ?_ | refine tk9 ?_ | refine tk10 (fun _ _ => ?_) | refine tk11 (fun _ => ?_) | refine tk13 ?_ | refine tk14 ?_); (conv => whnf))
    refine Ld.ta (xs := l.map byteV) (v := .int .u8 x.toNat) (by simp [hlt', hx, byteV]) ?_
    (conv => whnf); repeat ((first | refine tk1 ?_ | refine tk2 ?_ | refine tk3 ?_ | refine tk12 (fun _ => ?_) | refine tk4 ?_ | refine tk5 ?_ | refine tk6 ?_ | refine tk7 ?_ | refine tk8 ?_ | refine tk9 ?_ | refine tk10 (fun _ _ => ?_) | refine tk11 (fun _ => ?_) | refine tk13 ?_ | refine tk14 ?_); (conv => whnf))
    refine Ar.in32 (by omega) (by omega) ?_
    (conv => whnf); repeat ((first | refine tk1 ?_ | refine tk2 ?_ | refine tk3 ?_ | refine tk12 (fun _ => ?_) | refine tk4 ?_ | refine tk5 ?_ | refine tk6 ?_ | refine tk7 ?_ | refine tk8 ?_ | refine tk9 ?_ | refine tk10 (fun _ _ => ?_) | refine tk11 (fun _ => ?_) | refine tk13 ?_ | refine tk14 ?_); (conv => whnf))
    refine Cmp.cases (fun h128 => ?_) (fun h128 => ?_)
    · (conv => whnf); repeat ((first | refine tk1 ?_ | refine tk2 ?_ | refine tk3 ?_ | refine tk12 (fun _ => ?_) | refine tk4 ?_ | refine tk5 ?_ | refine tk6 ?_ | refine tk7 ?_ | refine tk8 ?_ | refine tk9 ?_ | refine tk10 (fun _ _ => ?_) | refine tk11 (fun _ => ?_) | refine tk13 ?_ | refine tk14 ?_); (conv => whnf))
      refine IdxA.tc (xs := l.map byteV) (by simp; omega) (by omega) (by omega) ?_
      (conv => whnf); repeat ((first | refine tk1 ?_ | refine tk2 ?_ | refine tk3 ?_ | refine tk12 (fun _ => ?_) | refine tk4 ?_ | refine tk5 ?_ | refine tk6 ?_ | refine tk7 ?_ | refine tk8 ?_ | refine tk9 ?_ | refine tk10 (fun _ _ => ?_) | refine tk11 (fun _ => ?_) | refine tk13 ?_ | refine tk14 ?_); (conv => whnf))
      refine Ld.ta (xs := l.map byteV) (v := .int .u8 x.toNat) (by simp [hlt', hx, byteV]) ?_
      (conv => whnf); repeat ((first | refine tk1 ?_ | refine tk2 ?_ | refine tk3 ?_ | refine tk12 (fun _ => ?_) | refine tk4 ?_ | refine tk5 ?_ | refine tk6 ?_ | refine tk7 ?_ | refine tk8 ?_ | refine tk9 ?_ | refine tk10 (fun _ _ => ?_) | refine tk11 (fun _ => ?_) | refine tk13 ?_ | refine tk14 ?_); (conv => whnf))
      refine ibs_k rfl [13, 10] x ?_
      have hi := idx_crlf x
      generalize Lib.indexByte [13, 10] x = ix at hi
      (conv => whnf); repeat ((first | refine tk1 ?_ | refine tk2 ?_ | refine tk3 ?_ | refine tk12 (fun _ => ?_) | refine tk4 ?_ | refine tk5 ?_ | refine tk6 ?_ | refine tk7 ?_ | refine tk8 ?_ | refine tk9 ?_ | refine tk10 (fun _ _ => ?_) | refine tk11 (fun _ => ?_) | refine tk13 ?_ | refine tk14 ?_); (conv => whnf))
      refine Cmp.cases (fun h3 => ?_) (fun h3 => ?_)
      · (conv => whnf); repeat ((first | refine tk1 ?_ | refine tk2 ?_ | refine tk3 ?_ | refine tk12 (fun _ => ?_) | refine tk4 ?_ | refine tk5 ?_ | refine tk6 ?_ | refine tk7 ?_ | refine tk8 ?_ | refine tk9 ?_ | refine tk10 (fun _ _ => ?_) | refine tk11 (fun _ => ?_) | refine tk13 ?_ | refine tk14 ?_); (conv => whnf))
        exact fun w' _ => hit k hlt' (fun j hj e => by subst e; rw [hx]; exact hi.1 h3) w'
      · (conv => whnf); repeat ((first | refine tk1 ?_ | refine tk2 ?_ | refine tk3 ?_ | refine tk12 (fun _ => ?_) | refine tk4 ?_ | refine tk5 ?_ | refine tk6 ?_ | refine tk7 ?_ | refine tk8 ?_ | refine tk9 ?_ | refine tk10 (fun _ _ => ?_) | refine tk11 (fun _ => ?_) | refine tk13 ?_ | refine tk14 ?_); (conv => whnf))
        exact ⟨k + 1, ⟨by omega, fun j hj hjk => by
          rcases (show j < k ∨ j = k by omega) with h | rfl
          · exact hI j hj h
          · rw [hx]; omega⟩, rfl, (by repeat' (first | exact List.Sublist.refl _ | exact List.nil_sublist _ | apply List.Sublist.cons_cons | apply List.Sublist.cons)), by dsimp only; omega⟩
    · have hdl : 0 < (l.drop k).length := by rw [List.length_drop]; omega
      have hd0 : (l.drop k)[0] = x := by simp [hx]
      obtain ⟨r, wd, hdec, hw1, hw2, hhi, hr0, hr⟩ := dec_high (l.drop k) hdl (by rw [hd0]; omega)
      have hstep : ∀ j (hj : j < l.length), j < k + wd → l[j].toNat ≠ 10 ∧ l[j].toNat ≠ 13 := fun j hj hjk => by
        rcases (show j < k ∨ k ≤ j by omega) with h | h
        · exact hI j hj h
        · have := hhi (j - k) (by rw [List.length_drop]; omega) (by omega)
          simp only [List.getElem_drop, show k + (j - k) = j by omega] at this
          omega
      rw [List.length_drop] at hw2
      (conv => whnf); repeat ((first | refine tk1 ?_ | refine tk2 ?_ | refine tk3 ?_ | refine tk12 (fun _ => ?_) | refine tk4 ?_ | refine tk5 ?_ | refine tk6 ?_ | refine tk7 ?_ | refine tk8 ?_ | refine tk9 ?_ | refine tk10 (fun _ _ => ?_) | refine tk11 (fun _ => ?_) | refine tk13 ?_ | refine tk14 ?_); (conv => whnf))
      refine SlcV.from (by omega) (by omega) ?_
      have hp := fun H => RdS.piece (cp := cp) (sz := 1) (lo := (k : Int)) (hR H).ok (by omega) (fun e => by omega)
      have hd : (l.map byteV).drop ((k : Int).toNat * 1) = (l.drop k).map byteV := by rw [Int.toNat_natCast, Nat.mul_one, List.map_drop]
      rw [hd] at hp
      rw [show l.length - (k : Int).toNat = (l.drop k).length by rw [List.length_drop]; omega]
      (conv => whnf); repeat ((first | refine tk1 ?_ | refine tk2 ?_ | refine tk3 ?_ | refine tk12 (fun _ => ?_) | refine tk4 ?_ | refine tk5 ?_ | refine tk6 ?_ | refine tk7 ?_ | refine tk8 ?_ | refine tk9 ?_ | refine tk10 (fun _ _ => ?_) | refine tk11 (fun _ => ?_) | refine tk13 ?_ | refine tk14 ?_); (conv => whnf))
      refine CallK.fnR (DecodeRune_f _ _ (l.drop k) hdl) ⟨hp _, trivial⟩ ?_
      rw [hdec]
      dsimp only
      have hw64 : wd ≤ 1000000000 := by omega
      (conv => whnf); repeat ((first | refine tk1 ?_ | refine tk2 ?_ | refine tk3 ?_ | refine tk12 (fun _ => ?_) | refine tk4 ?_ | refine tk5 ?_ | refine tk6 ?_ | refine tk7 ?_ | refine tk8 ?_ | refine tk9 ?_ | refine tk10 (fun _ _ => ?_) | refine tk11 (fun _ => ?_) | refine tk13 ?_ | refine tk14 ?_); (conv => whnf))
      rcases hr with hr | ⟨hr, hr2, hr3, hr4, hr5⟩
      rotate_left
      · refine Cmp.t (by omega) ?_
        (conv => whnf); repeat ((first | refine tk1 ?_ | refine tk2 ?_ | refine tk3 ?_ | refine tk12 (fun _ => ?_) | refine tk4 ?_ | refine tk5 ?_ | refine tk6 ?_ | refine tk7 ?_ | refine tk8 ?_ | refine tk9 ?_ | refine tk10 (fun _ _ => ?_) | refine tk11 (fun _ => ?_) | refine tk13 ?_ | refine tk14 ?_); (conv => whnf))
        have hnx : ∀ j (hj : j < l.length), j < k + wd → l[j].toNat ≠ 10 ∧ l[j].toNat ≠ 13 := hstep
        by_cases hw : wd = 2
        · refine Cmp.t (by show (2 : Int) = wd; omega) ?_
          (conv => whnf); repeat ((first | refine tk1 ?_ | refine tk2 ?_ | refine tk3 ?_ | refine tk12 (fun _ => ?_) | refine tk4 ?_ | refine tk5 ?_ | refine tk6 ?_ | refine tk7 ?_ | refine tk8 ?_ | refine tk9 ?_ | refine tk10 (fun _ _ => ?_) | refine tk11 (fun _ => ?_) | refine tk13 ?_ | refine tk14 ?_); (conv => whnf))
          refine OthP.rune tys_ok (fun h => nomatch h) rfl rfl ?_
          (conv => whnf); repeat ((first | refine tk1 ?_ | refine tk2 ?_ | refine tk3 ?_ | refine tk12 (fun _ => ?_) | refine tk4 ?_ | refine tk5 ?_ | refine tk6 ?_ | refine tk7 ?_ | refine tk8 ?_ | refine tk9 ?_ | refine tk10 (fun _ _ => ?_) | refine tk11 (fun _ => ?_) | refine tk13 ?_ | refine tk14 ?_); (conv => whnf))
          refine Cmp.f (enc_ne r hr2 (hr5 hw)) ?_
          (conv => whnf); repeat ((first | refine tk1 ?_ | refine tk2 ?_ | refine tk3 ?_ | refine tk12 (fun _ => ?_) | refine tk4 ?_ | refine tk5 ?_ | refine tk6 ?_ | refine tk7 ?_ | refine tk8 ?_ | refine tk9 ?_ | refine tk10 (fun _ _ => ?_) | refine tk11 (fun _ => ?_) | refine tk13 ?_ | refine tk14 ?_); (conv => whnf))
          exact ⟨k + wd, ⟨by omega, hnx⟩, rfl, (by repeat' (first | exact List.Sublist.refl _ | exact List.nil_sublist _ | apply List.Sublist.cons_cons | apply List.Sublist.cons)), by dsimp only; omega⟩
        · refine Cmp.f (by show ¬ (2 : Int) = wd; omega) ?_
          (conv => whnf); repeat ((first | refine tk1 ?_ | refine tk2 ?_ | refine tk3 ?_ | refine tk12 (fun _ => ?_) | refine tk4 ?_ | refine tk5 ?_ | refine tk6 ?_ | refine tk7 ?_ | refine tk8 ?_ | refine tk9 ?_ | refine tk10 (fun _ _ => ?_) | refine tk11 (fun _ => ?_) | refine tk13 ?_ | refine tk14 ?_); (conv => whnf))
          refine Ld.old hmx (by simp) ?_
          (conv => whnf); repeat ((first | refine tk1 ?_ | refine tk2 ?_ | refine tk3 ?_ | refine tk12 (fun _ => ?_) | refine tk4 ?_ | refine tk5 ?_ | refine tk6 ?_ | refine tk7 ?_ | refine tk8 ?_ | refine tk9 ?_ | refine tk10 (fun _ _ => ?_) | refine tk11 (fun _ => ?_) | refine tk13 ?_ | refine tk14 ?_); (conv => whnf))
          refine Cmp.cases (fun hm => ?_) (fun hm => ?_)
          · (conv => whnf); repeat ((first | refine tk1 ?_ | refine tk2 ?_ | refine tk3 ?_ | refine tk12 (fun _ => ?_) | refine tk4 ?_ | refine tk5 ?_ | refine tk6 ?_ | refine tk7 ?_ | refine tk8 ?_ | refine tk9 ?_ | refine tk10 (fun _ _ => ?_) | refine tk11 (fun _ => ?_) | refine tk13 ?_ | refine tk14 ?_); (conv => whnf))
            refine OthP.rune tys_ok (fun h => nomatch h) rfl rfl ?_
            have hsz : (Utf8.encode (r : Int)).data.toList.length = wd := by rw [size_len, hr4]
            (conv => whnf); repeat ((first | refine tk1 ?_ | refine tk2 ?_ | refine tk3 ?_ | refine tk12 (fun _ => ?_) | refine tk4 ?_ | refine tk5 ?_ | refine tk6 ?_ | refine tk7 ?_ | refine tk8 ?_ | refine tk9 ?_ | refine tk10 (fun _ _ => ?_) | refine tk11 (fun _ => ?_) | refine tk13 ?_ | refine tk14 ?_); (conv => whnf))
            refine is_k rfl hmx rfl [13, 10] _ (by rw [hsz]; omega) (by rw [hsz]; omega) (by decide) ?_
            rw [index_long [13, 10] _ (by rw [hsz]; show 2 < wd; omega)]
            (conv => whnf); repeat ((first | refine tk1 ?_ | refine tk2 ?_ | refine tk3 ?_ | refine tk12 (fun _ => ?_) | refine tk4 ?_ | refine tk5 ?_ | refine tk6 ?_ | refine tk7 ?_ | refine tk8 ?_ | refine tk9 ?_ | refine tk10 (fun _ _ => ?_) | refine tk11 (fun _ => ?_) | refine tk13 ?_ | refine tk14 ?_); (conv => whnf))
            exact ⟨k + wd, ⟨by omega, hnx⟩, rfl, (by repeat' (first | exact List.Sublist.refl _ | exact List.nil_sublist _ | apply List.Sublist.cons_cons | apply List.Sublist.cons)), by dsimp only; omega⟩
          · (conv => whnf); repeat ((first | refine tk1 ?_ | refine tk2 ?_ | refine tk3 ?_ | refine tk12 (fun _ => ?_) | refine tk4 ?_ | refine tk5 ?_ | refine tk6 ?_ | refine tk7 ?_ | refine tk8 ?_ | refine tk9 ?_ | refine tk10 (fun _ _ => ?_) | refine tk11 (fun _ => ?_) | refine tk13 ?_ | refine tk14 ?_); (conv => whnf))
            refine Oth.rangeS tys_ok rfl rfl (fun it => ?_)
            have hne : (r : Int) ≠ 13 ∧ (r : Int) ≠ 10 := by omega
            (conv => whnf); repeat ((first | refine tk1 ?_ | refine tk2 ?_ | refine tk3 ?_ | refine tk12 (fun _ => ?_) | refine tk4 ?_ | refine tk5 ?_ | refine tk6 ?_ | refine tk7 ?_ | refine tk8 ?_ | refine tk9 ?_ | refine tk10 (fun _ _ => ?_) | refine tk11 (fun _ => ?_) | refine tk13 ?_ | refine tk14 ?_); (conv => whnf))
            refine LoopS.lp tys_ok (fun (p : Nat) u => [.slice A l.length cp, str [13, 10], u 2, u 3, u 4, u 5, u 6, u 7, u 8, u 9, u 10, .int .i64 (wd : Nat), .int .i64 (k : Nat), .int .i32 (r : Nat), u 14, u 15, u 16, u 17, u 18, u 19, u 20, u 21, u 22, u 23, u 24, u 25, u 26, u 27, u 28, u 29, u 30, u 31, u 32, u 33, u 34, u 35, u 36, u 37, u 38, u 39, u 40, u 41, u 42, u 43, u 44, u 45, u 46, u 47, u 48, u 49, u 50, u 51, u 52, u 53, u 54, u 55, u 56, u 57, u 58, u 59, u 60, u 61, u 62, u 63, u 64, u 65, u 66, u 67, u 68, u 69, u 70, u 71, u 72, u 73, u 74, u 75, u 76, u 77, u 78, u 79, u 80, u 81, u 82, u 83, u 84, u 85, u 86, u 87, u 88, u 89, u 90, u 91, u 92, u 93, u 94, u 95, u 96, u 97, u 98, u 99, u 100, u 101, u 102, u 103, u 104, u 105, u 106, u 107, u 108, u 109, u 110, u 111, u 112, u 113, u 114, u 115, u 116, u 117, u 118, u 119, u 120, .pointer (some ⟨it, 0, none⟩), u 122, u 123, u 124, u 125, u 126, u 127, u 128]) (fun p => [.obj it (.stringIter ⟨⟨[13, 10]⟩⟩ p)]) (fun p => p ≤ 2) (fun p => 2 - p) 0 (by decide) rfl (by repeat' (first | exact List.Sublist.refl _ | exact List.nil_sublist _ | apply List.Sublist.cons_cons | apply List.Sublist.cons)) ?_
            intro p u hp
            (conv => whnf); repeat ((first | refine tk1 ?_ | refine tk2 ?_ | refine tk3 ?_ | refine tk12 (fun _ => ?_) | refine tk4 ?_ | refine tk5 ?_ | refine tk6 ?_ | refine tk7 ?_ | refine tk8 ?_ | refine tk9 ?_ | refine tk10 (fun _ _ => ?_) | refine tk11 (fun _ => ?_) | refine tk13 ?_ | refine tk14 ?_); (conv => whnf))
            have hp3 : p = 0 ∨ p = 1 ∨ p = 2 := by omega
            rcases hp3 with rfl | rfl | rfl
            · refine Oth.nextS (s := ⟨⟨[13, 10]⟩⟩) (p := 0) rfl (by decide) ?_
              rw [show Utf8.decode ⟨⟨[13, 10]⟩⟩ 0 = (13, 1) by rfl]
              (conv => whnf); repeat ((first | refine tk1 ?_ | refine tk2 ?_ | refine tk3 ?_ | refine tk12 (fun _ => ?_) | refine tk4 ?_ | refine tk5 ?_ | refine tk6 ?_ | refine tk7 ?_ | refine tk8 ?_ | refine tk9 ?_ | refine tk10 (fun _ _ => ?_) | refine tk11 (fun _ => ?_) | refine tk13 ?_ | refine tk14 ?_); (conv => whnf))
              exact ⟨1, by decide, rfl, (by repeat' (first | exact List.Sublist.refl _ | exact List.nil_sublist _ | apply List.Sublist.cons_cons | apply List.Sublist.cons)), by dsimp only; omega⟩
            · refine Oth.nextS (s := ⟨⟨[13, 10]⟩⟩) (p := 1) rfl (by decide) ?_
              rw [show Utf8.decode ⟨⟨[13, 10]⟩⟩ 1 = (10, 1) by rfl]
              (conv => whnf); repeat ((first | refine tk1 ?_ | refine tk2 ?_ | refine tk3 ?_ | refine tk12 (fun _ => ?_) | refine tk4 ?_ | refine tk5 ?_ | refine tk6 ?_ | refine tk7 ?_ | refine tk8 ?_ | refine tk9 ?_ | refine tk10 (fun _ _ => ?_) | refine tk11 (fun _ => ?_) | refine tk13 ?_ | refine tk14 ?_); (conv => whnf))
              exact ⟨2, by decide, rfl, (by repeat' (first | exact List.Sublist.refl _ | exact List.nil_sublist _ | apply List.Sublist.cons_cons | apply List.Sublist.cons)), by dsimp only; omega⟩
            · refine Oth.nextE (s := ⟨⟨[13, 10]⟩⟩) (p := 2) rfl (by decide) ?_
              (conv => whnf); repeat ((first | refine tk1 ?_ | refine tk2 ?_ | refine tk3 ?_ | refine tk12 (fun _ => ?_) | refine tk4 ?_ | refine tk5 ?_ | refine tk6 ?_ | refine tk7 ?_ | refine tk8 ?_ | refine tk9 ?_ | refine tk10 (fun _ _ => ?_) | refine tk11 (fun _ => ?_) | refine tk13 ?_ | refine tk14 ?_); (conv => whnf))
              exact ⟨k + wd, ⟨by omega, hnx⟩, rfl, (by repeat' (first | exact List.Sublist.refl _ | exact List.nil_sublist _ | apply List.Sublist.cons_cons | apply List.Sublist.cons)), by dsimp only; omega⟩
      · refine Cmp.f (by omega) ?_
        (conv => whnf); repeat ((first | refine tk1 ?_ | refine tk2 ?_ | refine tk3 ?_ | refine tk12 (fun _ => ?_) | refine tk4 ?_ | refine tk5 ?_ | refine tk6 ?_ | refine tk7 ?_ | refine tk8 ?_ | refine tk9 ?_ | refine tk10 (fun _ _ => ?_) | refine tk11 (fun _ => ?_) | refine tk13 ?_ | refine tk14 ?_); (conv => whnf))
        refine Oth.rangeS tys_ok rfl rfl (fun it => ?_)
        have hne : (r : Int) ≠ 13 ∧ (r : Int) ≠ 10 := by omega
        have hnx : ∀ j (hj : j < l.length), j < k + wd → l[j].toNat ≠ 10 ∧ l[j].toNat ≠ 13 := hstep
        (conv => whnf); repeat ((first | refine tk1 ?_ | refine tk2 ?_ | refine tk3 ?_ | refine tk12 (fun _ => ?_) | refine tk4 ?_ | refine tk5 ?_ | refine tk6 ?_ | refine tk7 ?_ | refine tk8 ?_ | refine tk9 ?_ | refine tk10 (fun _ _ => ?_) | refine tk11 (fun _ => ?_) | refine tk13 ?_ | refine tk14 ?_); (conv => whnf))
        refine LoopS.lp tys_ok (fun (p : Nat) u => [.slice A l.length cp, str [13, 10], u 2, u 3, u 4, u 5, u 6, u 7, u 8, u 9, u 10, .int .i64 (wd : Nat), .int .i64 (k : Nat), .int .i32 (r : Nat), u 14, u 15, u 16, u 17, u 18, u 19, u 20, u 21, u 22, u 23, u 24, u 25, u 26, u 27, u 28, u 29, u 30, u 31, u 32, u 33, u 34, u 35, u 36, u 37, u 38, u 39, u 40, u 41, u 42, u 43, u 44, u 45, u 46, u 47, u 48, u 49, u 50, u 51, u 52, u 53, u 54, u 55, u 56, u 57, u 58, u 59, u 60, u 61, u 62, u 63, u 64, u 65, u 66, u 67, u 68, u 69, u 70, u 71, u 72, u 73, u 74, u 75, u 76, u 77, u 78, u 79, u 80, u 81, u 82, u 83, u 84, u 85, u 86, u 87, u 88, u 89, u 90, u 91, u 92, u 93, u 94, u 95, u 96, u 97, u 98, u 99, u 100, u 101, u 102, u 103, u 104, u 105, u 106, u 107, u 108, u 109, u 110, u 111, u 112, u 113, u 114, u 115, u 116, u 117, u 118, u 119, u 120, .pointer (some ⟨it, 0, none⟩), u 122, u 123, u 124, u 125, u 126, u 127, u 128]) (fun p => [.obj it (.stringIter ⟨⟨[13, 10]⟩⟩ p)]) (fun p => p ≤ 2) (fun p => 2 - p) 0 (by decide) rfl (by repeat' (first | exact List.Sublist.refl _ | exact List.nil_sublist _ | apply List.Sublist.cons_cons | apply List.Sublist.cons)) ?_
        intro p u hp
        (conv => whnf); repeat ((first | refine tk1 ?_ | refine tk2 ?_ | refine tk3 ?_ | refine tk12 (fun _ => ?_) | refine tk4 ?_ | refine tk5 ?_ | refine tk6 ?_ | refine tk7 ?_ | refine tk8 ?_ | refine tk9 ?_ | refine tk10 (fun _ _ => ?_) | refine tk11 (fun _ => ?_) | refine tk13 ?_ | refine tk14 ?_); (conv => whnf))
        have hp3 : p = 0 ∨ p = 1 ∨ p = 2 := by omega
        rcases hp3 with rfl | rfl | rfl
        · refine Oth.nextS (s := ⟨⟨[13, 10]⟩⟩) (p := 0) rfl (by decide) ?_
          rw [show Utf8.decode ⟨⟨[13, 10]⟩⟩ 0 = (13, 1) by rfl]
          (conv => whnf); repeat ((first | refine tk1 ?_ | refine tk2 ?_ | refine tk3 ?_ | refine tk12 (fun _ => ?_) | refine tk4 ?_ | refine tk5 ?_ | refine tk6 ?_ | refine tk7 ?_ | refine tk8 ?_ | refine tk9 ?_ | refine tk10 (fun _ _ => ?_) | refine tk11 (fun _ => ?_) | refine tk13 ?_ | refine tk14 ?_); (conv => whnf))
          exact ⟨1, by decide, rfl, (by repeat' (first | exact List.Sublist.refl _ | exact List.nil_sublist _ | apply List.Sublist.cons_cons | apply List.Sublist.cons)), by dsimp only; omega⟩
        · refine Oth.nextS (s := ⟨⟨[13, 10]⟩⟩) (p := 1) rfl (by decide) ?_
          rw [show Utf8.decode ⟨⟨[13, 10]⟩⟩ 1 = (10, 1) by rfl]
          (conv => whnf); repeat ((first | refine tk1 ?_ | refine tk2 ?_ | refine tk3 ?_ | refine tk12 (fun _ => ?_) | refine tk4 ?_ | refine tk5 ?_ | refine tk6 ?_ | refine tk7 ?_ | refine tk8 ?_ | refine tk9 ?_ | refine tk10 (fun _ _ => ?_) | refine tk11 (fun _ => ?_) | refine tk13 ?_ | refine tk14 ?_); (conv => whnf))
          exact ⟨2, by decide, rfl, (by repeat' (first | exact List.Sublist.refl _ | exact List.nil_sublist _ | apply List.Sublist.cons_cons | apply List.Sublist.cons)), by dsimp only; omega⟩
        · refine Oth.nextE (s := ⟨⟨[13, 10]⟩⟩) (p := 2) rfl (by decide) ?_
          (conv => whnf); repeat ((first | refine tk1 ?_ | refine tk2 ?_ | refine tk3 ?_ | refine tk12 (fun _ => ?_) | refine tk4 ?_ | refine tk5 ?_ | refine tk6 ?_ | refine tk7 ?_ | refine tk8 ?_ | refine tk9 ?_ | refine tk10 (fun _ _ => ?_) | refine tk11 (fun _ => ?_) | refine tk13 ?_ | refine tk14 ?_); (conv => whnf))
          exact ⟨k + wd, ⟨by omega, hnx⟩, rfl, (by repeat' (first | exact List.Sublist.refl _ | exact List.nil_sublist _ | apply List.Sublist.cons_cons | apply List.Sublist.cons)), by dsimp only; omega⟩
end Go.Proofs.YtnaeeklnlddcaaaGreatDoor.Vex
/- chunk.Check, reckoned. -/
namespace Go.Proofs.YtnaeeklnlddcaaaGreatDoor.Vex
open Go Go.RowKit
set_option maxRecDepth 100000
set_option linter.unusedSectionVars false
variable {gI : GI} [HasMax gI] [HasUtf gI]

/-- Where what is left of a line lies. -/
def sufA (cp : Nat) (A : Option Addr) (l : List UInt8) : Option Addr := if crB l then (if (cp : Int) = 0 then A else A.map (·.add (0 * 1))) else A
theorem bare_take (l : List UInt8) (h : crB l = true) : bare l = l.take (l.length - 1) ∧ 0 < l.length := by
  refine ⟨?_, ?_⟩
  · unfold bare
    rw [if_pos h, List.dropLast_eq_take]
  · cases l with
    | nil => exact absurd h (by decide)
    | cons x r => simp
theorem sufA_rd {c : Ctx} {H : Hp} {A : Option Addr} {cp : Nat} {l : List UInt8} (h : RdS c H A (l.map byteV)) (hl : l.length ≤ cp) : RdS c H (sufA cp A l) ((bare l).map byteV) := by
  unfold sufA
  cases hc : crB l with
  | false =>
    rw [bare_no hc]
    exact h
  | true =>
    have hb := bare_take l hc
    rw [hb.1, List.map_take]
    have hp := RdS.piece (cp := cp) (sz := 1) (lo := 0) h (by omega) (fun e => by omega)
    simp only [Int.toNat_zero, Nat.zero_mul, List.drop_zero] at hp
    exact hp.take _
theorem bare_le (l : List UInt8) : (bare l).length ≤ l.length := by
  unfold bare
  split
  · rw [List.length_dropLast]; omega
  · exact Nat.le_refl _
theorem CutSuf_f (A B : Option Addr) (cp cq : Nat) (l : List UInt8) (hl : l.length ≤ 1000000000) :
    FnE Tryz.prog gI 78 [.slice A l.length cp, .slice B 1 cq] (fun w => RdL w [(A, l.map byteV), (B, [byteV 13])] ∧ l.length ≤ cp) fun _ v _ => v = .tuple #[.slice (sufA cp A l) (bare l).length cp, .bool (crB l)] := by
  refine FnE.of tys_ok Tryz.func78 rfl (by kernel_rfl) rfl rfl ?_; intro w hG hP
  have hA : ∀ H, RdS (mkC Tryz.prog gI w hG) H A (l.map byteV) := fun H => hP.1.1.now
  have hB : ∀ H, RdS (mkC Tryz.prog gI w hG) H B [byteV 13] := fun H => hP.1.2.1.now
  have hcp := hP.2
  (conv => whnf); repeat ((first | refine tk1 ?_ | refine tk2 ?_ | refine tk3 ?_ | refine tk12 (fun _ => ?_) | refine tk4 ?_ | refine tk5 ?_ | refine tk6 ?_ | refine tk7 ?_ | refine tk8 ?_ | refine tk9 ?_ | refine tk10 (fun _ _ => ?_) | refine tk11 (fun _ => ?_) | refine tk13 ?_ | refine tk14 ?_); (conv => whnf))
  refine CallK.fnEV (HasSuffix_f A B cp cq l hl) (fun w1 hw1 => ⟨⟨hA _ w1 hw1, hB _ w1 hw1, trivial⟩, hcp⟩) ?_
  unfold sufA
  cases hc : crB l with
  | false =>
    rw [bare_no hc]
    (conv => whnf); repeat ((first | refine tk1 ?_ | refine tk2 ?_ | refine tk3 ?_ | refine tk12 (fun _ => ?_) | refine tk4 ?_ | refine tk5 ?_ | refine tk6 ?_ | refine tk7 ?_ | refine tk8 ?_ | refine tk9 ?_ | refine tk10 (fun _ _ => ?_) | refine tk11 (fun _ => ?_) | refine tk13 ?_ | refine tk14 ?_); (conv => whnf))
    exact fun w' _ => rfl
  | true =>
    have hb := bare_take l hc
    rw [hb.1]
    (conv => whnf); repeat ((first | refine tk1 ?_ | refine tk2 ?_ | refine tk3 ?_ | refine tk12 (fun _ => ?_) | refine tk4 ?_ | refine tk5 ?_ | refine tk6 ?_ | refine tk7 ?_ | refine tk8 ?_ | refine tk9 ?_ | refine tk10 (fun _ _ => ?_) | refine tk11 (fun _ => ?_) | refine tk13 ?_ | refine tk14 ?_); (conv => whnf))
    refine SlcV.cut (by omega) (by omega) (by omega) ?_
    rw [show ((l.length : Int) - ((1 : Nat) : Int)).toNat = (l.take (l.length - 1)).length by rw [List.length_take]; omega]
    (conv => whnf); repeat ((first | refine tk1 ?_ | refine tk2 ?_ | refine tk3 ?_ | refine tk12 (fun _ => ?_) | refine tk4 ?_ | refine tk5 ?_ | refine tk6 ?_ | refine tk7 ?_ | refine tk8 ?_ | refine tk9 ?_ | refine tk10 (fun _ _ => ?_) | refine tk11 (fun _ => ?_) | refine tk13 ?_ | refine tk14 ?_); (conv => whnf))
    exact fun w' _ => rfl
theorem ContainsAny_f (A : Option Addr) (cp : Nat) (l : List UInt8) (hl : l.length ≤ 1000000000) :
    FnE Tryz.prog gI 79 [.slice A l.length cp, str [13, 10]] (fun w => RdL w [(A, l.map byteV)] ∧ l.length ≤ cp) fun _ v _ => v = .bool (!noEnd l) := by
  refine FnE.of tys_ok Tryz.func79 rfl (by kernel_rfl) rfl rfl ?_; intro w hG hP
  have hA : ∀ H, RdS (mkC Tryz.prog gI w hG) H A (l.map byteV) := fun H => hP.1.1.now
  have hcp := hP.2
  (conv => whnf); repeat ((first | refine tk1 ?_ | refine tk2 ?_ | refine tk3 ?_ | refine tk12 (fun _ => ?_) | refine tk4 ?_ | refine tk5 ?_ | refine tk6 ?_ | refine tk7 ?_ | refine tk8 ?_ | refine tk9 ?_ | refine tk10 (fun _ _ => ?_) | refine tk11 (fun _ => ?_) | refine tk13 ?_ | refine tk14 ?_); (conv => whnf))
  refine CallK.fnE (IndexAny_f A cp l hl) (fun w1 hw1 => ⟨⟨hA _ w1 hw1, trivial⟩, hcp⟩) (fun w1 v w2 hs hv hr => ⟨_, hs.below hr, ?_⟩)
  obtain ⟨k, rfl, hk⟩ := hv
  (conv => whnf); repeat ((first | refine tk1 ?_ | refine tk2 ?_ | refine tk3 ?_ | refine tk12 (fun _ => ?_) | refine tk4 ?_ | refine tk5 ?_ | refine tk6 ?_ | refine tk7 ?_ | refine tk8 ?_ | refine tk9 ?_ | refine tk10 (fun _ _ => ?_) | refine tk11 (fun _ => ?_) | refine tk13 ?_ | refine tk14 ?_); (conv => whnf))
  refine Cmp.of (!noEnd l) (by rw [Bool.not_eq_true', hk]) ?_
  (conv => whnf); repeat ((first | refine tk1 ?_ | refine tk2 ?_ | refine tk3 ?_ | refine tk12 (fun _ => ?_) | refine tk4 ?_ | refine tk5 ?_ | refine tk6 ?_ | refine tk7 ?_ | refine tk8 ?_ | refine tk9 ?_ | refine tk10 (fun _ _ => ?_) | refine tk11 (fun _ => ?_) | refine tk13 ?_ | refine tk14 ?_); (conv => whnf))
  exact fun w' _ => rfl
/-- A body under way, as a value. -/
def cV (c : CSt) (A : Option Addr) (cp : Nat) : Value := .agg ⟨[.int .u8 (c.ph : Nat), .int .i64 c.left, .slice A c.line.length cp, .int .i64 c.trail]⟩
set_option maxHeartbeats 4000000 in
theorem CCheck_f (c : CSt) (A : Option Addr) (cp : Nat) (hl : c.line.length ≤ 1000000000) :
    FnE Tryz.prog gI 50 [cV c A cp] (fun w => RdL w [(A, c.line.map byteV)] ∧ c.line.length ≤ cp) fun _ v _ => v = .int .i64 (chE c) := by
  obtain ⟨ph, left, line, trail⟩ := c
  unfold cV
  dsimp only at hl ⊢
  refine FnE.of tys_ok Tryz.func50 rfl (by kernel_rfl) rfl rfl ?_; intro w hG hP
  have hA : ∀ H, RdS (mkC Tryz.prog gI w hG) H A (line.map byteV) := fun H => hP.1.1.now
  have hcp := hP.2
  have hbl := bare_le line
  have hB : ∀ H, RdS (mkC Tryz.prog gI w hG) H (sufA cp A line) ((bare line).map byteV) := fun H => sufA_rd (hA H) hcp
  (conv => whnf); repeat ((first | refine tk1 ?_ | refine tk2 ?_ | refine tk3 ?_ | refine tk12 (fun _ => ?_) | refine tk4 ?_ | refine tk5 ?_ | refine tk6 ?_ | refine tk7 ?_ | refine tk8 ?_ | refine tk9 ?_ | refine tk10 (fun _ _ => ?_) | refine tk11 (fun _ => ?_) | refine tk13 ?_ | refine tk14 ?_); (conv => whnf))
  rename_i b2
  refine Oth.same tys_ok rfl rfl rfl (fun o2 ho2 => ?_)
  have hR2 : ∀ H, RdA (mkC Tryz.prog gI w hG) (.obj b2 o2 :: H) (some ⟨b2, 0, none⟩) _ := ho2.rd
  (conv => whnf); repeat ((first | refine tk1 ?_ | refine tk2 ?_ | refine tk3 ?_ | refine tk12 (fun _ => ?_) | refine tk4 ?_ | refine tk5 ?_ | refine tk6 ?_ | refine tk7 ?_ | refine tk8 ?_ | refine tk9 ?_ | refine tk10 (fun _ _ => ?_) | refine tk11 (fun _ => ?_) | refine tk13 ?_ | refine tk14 ?_); (conv => whnf))
  refine CallK.fnEV (CutSuf_f A (some ⟨b2, 0, none⟩) cp _ line hl) (fun w1 hw1 => ⟨⟨hA _ w1 hw1, RdA.ok (xs := [byteV 13]) w1 hw1, trivial⟩, hcp⟩) ?_
  (conv => whnf); repeat ((first | refine tk1 ?_ | refine tk2 ?_ | refine tk3 ?_ | refine tk12 (fun _ => ?_) | refine tk4 ?_ | refine tk5 ?_ | refine tk6 ?_ | refine tk7 ?_ | refine tk8 ?_ | refine tk9 ?_ | refine tk10 (fun _ _ => ?_) | refine tk11 (fun _ => ?_) | refine tk13 ?_ | refine tk14 ?_); (conv => whnf))
  refine CallK.fnEV (ContainsAny_f (sufA cp A line) cp (bare line) (by omega)) (fun w1 hw1 => ⟨⟨hB _ w1 hw1, trivial⟩, by omega⟩) ?_
  (conv => whnf); repeat ((first | refine tk1 ?_ | refine tk2 ?_ | refine tk3 ?_ | refine tk12 (fun _ => ?_) | refine tk4 ?_ | refine tk5 ?_ | refine tk6 ?_ | refine tk7 ?_ | refine tk8 ?_ | refine tk9 ?_ | refine tk10 (fun _ _ => ?_) | refine tk11 (fun _ => ?_) | refine tk13 ?_ | refine tk14 ?_); (conv => whnf))
  have hbz : bare line = [] ↔ (bare line).length = 0 := List.length_eq_zero_iff.symm
  have hlz : line = [] ↔ line.length = 0 := List.length_eq_zero_iff.symm
  clear hB hR2 hA
  rcases (show ph = 0 ∨ ph = 1 ∨ ph = 2 ∨ ph = 3 ∨ ph = 4 ∨ 5 ≤ ph by omega) with rfl | rfl | rfl | rfl | rfl | hp
  · by_cases a0 : (bare line).length ≤ 64 <;> by_cases a1 : left = 0 <;> by_cases a2 : trail = 0 <;> cases a3 : noEnd (bare line)
    all_goals
      (conv => whnf); repeat ((first | refine tk1 ?_ | refine tk2 ?_ | refine tk3 ?_ | refine tk12 (fun _ => ?_) | refine tk4 ?_ | refine tk5 ?_ | refine tk6 ?_ | refine tk7 ?_ | refine tk8 ?_ | refine tk9 ?_ | refine tk10 (fun _ _ => ?_) | refine tk11 (fun _ => ?_) | refine tk13 ?_ | refine tk14 ?_); (conv => whnf))
      exact fun w' _ => by simp [chE, chMay, lineMay, leftMay, trailMay, *] <;> omega
  · by_cases a0 : line.length = 0 <;> by_cases a1 : 1 ≤ left <;> by_cases a2 : left < 16777216 <;> by_cases a3 : trail = 0 <;> cases a4 : noEnd (bare line)
    all_goals
      (conv => whnf); repeat ((first | refine tk1 ?_ | refine tk2 ?_ | refine tk3 ?_ | refine tk12 (fun _ => ?_) | refine tk4 ?_ | refine tk5 ?_ | refine tk6 ?_ | refine tk7 ?_ | refine tk8 ?_ | refine tk9 ?_ | refine tk10 (fun _ _ => ?_) | refine tk11 (fun _ => ?_) | refine tk13 ?_ | refine tk14 ?_); (conv => whnf))
      exact fun w' _ => by simp [chE, chMay, lineMay, leftMay, trailMay, *] <;> omega
  · by_cases a0 : (bare line).length = 0 <;> by_cases a1 : left = 0 <;> by_cases a2 : trail = 0 <;> cases a3 : noEnd (bare line)
    all_goals
      (conv => whnf); repeat ((first | refine tk1 ?_ | refine tk2 ?_ | refine tk3 ?_ | refine tk12 (fun _ => ?_) | refine tk4 ?_ | refine tk5 ?_ | refine tk6 ?_ | refine tk7 ?_ | refine tk8 ?_ | refine tk9 ?_ | refine tk10 (fun _ _ => ?_) | refine tk11 (fun _ => ?_) | refine tk13 ?_ | refine tk14 ?_); (conv => whnf))
      exact fun w' _ => by simp [chE, chMay, lineMay, leftMay, trailMay, *] <;> omega
  · by_cases a0 : line.length ≤ 256 <;> by_cases a1 : left = 0 <;> by_cases a2 : (line.length : Int) ≤ trail <;> by_cases a3 : trail ≤ 256 <;> cases a4 : noEnd (bare line)
    all_goals
      (conv => whnf); repeat ((first | refine tk1 ?_ | refine tk2 ?_ | refine tk3 ?_ | refine tk12 (fun _ => ?_) | refine tk4 ?_ | refine tk5 ?_ | refine tk6 ?_ | refine tk7 ?_ | refine tk8 ?_ | refine tk9 ?_ | refine tk10 (fun _ _ => ?_) | refine tk11 (fun _ => ?_) | refine tk13 ?_ | refine tk14 ?_); (conv => whnf))
      exact fun w' _ => by simp [chE, chMay, lineMay, leftMay, trailMay, *] <;> omega
  · by_cases a0 : line.length = 0 <;> by_cases a1 : left = 0 <;> by_cases a2 : trail = 0 <;> cases a3 : noEnd (bare line)
    all_goals
      (conv => whnf); repeat ((first | refine tk1 ?_ | refine tk2 ?_ | refine tk3 ?_ | refine tk12 (fun _ => ?_) | refine tk4 ?_ | refine tk5 ?_ | refine tk6 ?_ | refine tk7 ?_ | refine tk8 ?_ | refine tk9 ?_ | refine tk10 (fun _ _ => ?_) | refine tk11 (fun _ => ?_) | refine tk13 ?_ | refine tk14 ?_); (conv => whnf))
      exact fun w' _ => by simp [chE, chMay, lineMay, leftMay, trailMay, *] <;> omega
  · have q0 : ¬ ph = 0 := by omega
    have q1 : ¬ ph = 1 := by omega
    have q2 : ¬ ph = 2 := by omega
    have q3 : ¬ ph = 3 := by omega
    have q4 : ¬ ph = 4 := by omega
    by_cases a0 : left = 0 <;> by_cases a1 : trail = 0 <;> cases a2 : noEnd (bare line)
    all_goals
      (conv => whnf); repeat ((first | refine tk1 ?_ | refine tk2 ?_ | refine tk3 ?_ | refine tk12 (fun _ => ?_) | refine tk4 ?_ | refine tk5 ?_ | refine tk6 ?_ | refine tk7 ?_ | refine tk8 ?_ | refine tk9 ?_ | refine tk10 (fun _ _ => ?_) | refine tk11 (fun _ => ?_) | refine tk13 ?_ | refine tk14 ?_); (conv => whnf))
      exact fun w' _ => by simp [chE, chMay, lineMay, leftMay, trailMay, *] <;> omega
end Go.Proofs.YtnaeeklnlddcaaaGreatDoor.Vex
/- The program's functions on sizes, reckoned: Number, items, length, chunked, Of. -/
namespace Go.Proofs.YtnaeeklnlddcaaaGreatDoor.Vex
open Go Go.RowKit
set_option maxRecDepth 100000
set_option linter.unusedSectionVars false
variable {gI : GI} [HasMax gI]

theorem TrimD_f (l : List UInt8) (hs : l.length ≤ 9223372036854775807) : Fn Tryz.prog gI 107 [str l, str [48, 49, 50, 51, 52, 53, 54, 55, 56, 57]] (str (Lib.trimS l digitsL)) :=
  ⟨callable Tryz.func107 rfl (by kernel_rfl), fun w _ => (Any.strings_Trim_laid Tryz.lays160 (by kernel_rfl) ⟨⟨l⟩⟩ ⟨#[48, 49, 50, 51, 52, 53, 54, 55, 56, 57]⟩ w hs (by decide) (ascii_of_all (by decide))).mono fun e w' ⟨he, hb⟩ => ⟨he, hb⟩⟩
theorem Atoi_f (l : List UInt8) (n : Int) (hl : l.length ≤ 18) (h : Lib.atoi l = some n) : Fn Tryz.prog gI 132 [str l] (.tuple #[.int .i64 n, .nilIface]) :=
  ⟨callable Tryz.func132 rfl (by kernel_rfl), fun w _ => (Tryz.strconv_Atoi ⟨⟨l⟩⟩ n hl h w).mono fun e w' ⟨he, t, hw⟩ => ⟨he, by
    rw [hw]
    exact ⟨rfl, rfl, rfl, by rw [Lib.bytesWorld_size]; omega, fun k hk => Lib.bytesWorld_at_old w _ _ k hk⟩⟩⟩
theorem Number_f (l : List UInt8) (hl : l.length ≤ 1000000000) : Fn Tryz.prog gI 89 [str l] (.tuple #[.int .i64 (numN l), .bool (numOK l)]) := by
  have bad : numOK l = false → Value.tuple #[.int .i64 (numN l), .bool (numOK l)] = .tuple #[.int .i64 0, .bool false] := fun h => by
    unfold numN; rw [h]; rfl
  refine Fn.of tys_ok Tryz.func89 rfl (by kernel_rfl) rfl rfl ?_; intro w hG
  (conv => whnf); repeat ((first | refine tk1 ?_ | refine tk2 ?_ | refine tk3 ?_ | refine tk12 (fun _ => ?_) | refine tk4 ?_ | refine tk5 ?_ | refine tk6 ?_ | refine tk7 ?_ | refine tk8 ?_ | refine tk9 ?_ | refine tk10 (fun _ _ => ?_) | refine tk11 (fun _ => ?_) | refine tk13 ?_ | refine tk14 ?_); (conv => whnf))
  refine Cmp.cases (fun h1 => ?_) (fun h1 => ?_)
  · rw [bad (by unfold numOK; rw [decide_eq_false (by omega)]; rfl)]
    (conv => whnf); repeat ((first | refine tk1 ?_ | refine tk2 ?_ | refine tk3 ?_ | refine tk12 (fun _ => ?_) | refine tk4 ?_ | refine tk5 ?_ | refine tk6 ?_ | refine tk7 ?_ | refine tk8 ?_ | refine tk9 ?_ | refine tk10 (fun _ _ => ?_) | refine tk11 (fun _ => ?_) | refine tk13 ?_ | refine tk14 ?_); (conv => whnf))
  (conv => whnf); repeat ((first | refine tk1 ?_ | refine tk2 ?_ | refine tk3 ?_ | refine tk12 (fun _ => ?_) | refine tk4 ?_ | refine tk5 ?_ | refine tk6 ?_ | refine tk7 ?_ | refine tk8 ?_ | refine tk9 ?_ | refine tk10 (fun _ _ => ?_) | refine tk11 (fun _ => ?_) | refine tk13 ?_ | refine tk14 ?_); (conv => whnf))
  refine Cmp.cases (fun h2 => ?_) (fun h2 => ?_)
  · rw [bad (by unfold numOK; rw [decide_eq_false (show ¬ l.length ≤ 9 by omega)]; simp)]
    (conv => whnf); repeat ((first | refine tk1 ?_ | refine tk2 ?_ | refine tk3 ?_ | refine tk12 (fun _ => ?_) | refine tk4 ?_ | refine tk5 ?_ | refine tk6 ?_ | refine tk7 ?_ | refine tk8 ?_ | refine tk9 ?_ | refine tk10 (fun _ _ => ?_) | refine tk11 (fun _ => ?_) | refine tk13 ?_ | refine tk14 ?_); (conv => whnf))
  (conv => whnf); repeat ((first | refine tk1 ?_ | refine tk2 ?_ | refine tk3 ?_ | refine tk12 (fun _ => ?_) | refine tk4 ?_ | refine tk5 ?_ | refine tk6 ?_ | refine tk7 ?_ | refine tk8 ?_ | refine tk9 ?_ | refine tk10 (fun _ _ => ?_) | refine tk11 (fun _ => ?_) | refine tk13 ?_ | refine tk14 ?_); (conv => whnf))
  refine CallK.fn (TrimD_f l (by omega)) ?_
  (conv => whnf); repeat ((first | refine tk1 ?_ | refine tk2 ?_ | refine tk3 ?_ | refine tk12 (fun _ => ?_) | refine tk4 ?_ | refine tk5 ?_ | refine tk6 ?_ | refine tk7 ?_ | refine tk8 ?_ | refine tk9 ?_ | refine tk10 (fun _ _ => ?_) | refine tk11 (fun _ => ?_) | refine tk13 ?_ | refine tk14 ?_); (conv => whnf))
  refine Cmp.cases (fun h3 => ?_) (fun h3 => ?_)
  · have h4 : ¬ l.all digB = true := fun h => h3 ((trim_digits l).2 h)
    rw [bad (by unfold numOK; simp only [Bool.not_eq_true] at h4; rw [h4]; simp)]
    (conv => whnf); repeat ((first | refine tk1 ?_ | refine tk2 ?_ | refine tk3 ?_ | refine tk12 (fun _ => ?_) | refine tk4 ?_ | refine tk5 ?_ | refine tk6 ?_ | refine tk7 ?_ | refine tk8 ?_ | refine tk9 ?_ | refine tk10 (fun _ _ => ?_) | refine tk11 (fun _ => ?_) | refine tk13 ?_ | refine tk14 ?_); (conv => whnf))
  · have h4 : l.all digB = true := (trim_digits l).1 (by simpa using h3)
    have h5 : numOK l = true := by unfold numOK; rw [h4, decide_eq_true (show 1 ≤ l.length by omega), decide_eq_true (show l.length ≤ 9 by omega)]; rfl
    have h6 : numN l = (numV l : Int) := by unfold numN; rw [if_pos h5]
    rw [h5, h6]
    (conv => whnf); repeat ((first | refine tk1 ?_ | refine tk2 ?_ | refine tk3 ?_ | refine tk12 (fun _ => ?_) | refine tk4 ?_ | refine tk5 ?_ | refine tk6 ?_ | refine tk7 ?_ | refine tk8 ?_ | refine tk9 ?_ | refine tk10 (fun _ _ => ?_) | refine tk11 (fun _ => ?_) | refine tk13 ?_ | refine tk14 ?_); (conv => whnf))
    refine CallK.fn (Atoi_f l (numV l) (by omega) (atoi_all l h4 (fun e => by rw [e] at h1; exact h1 (by decide)))) ?_
    (conv => whnf); repeat ((first | refine tk1 ?_ | refine tk2 ?_ | refine tk3 ?_ | refine tk12 (fun _ => ?_) | refine tk4 ?_ | refine tk5 ?_ | refine tk6 ?_ | refine tk7 ?_ | refine tk8 ?_ | refine tk9 ?_ | refine tk10 (fun _ _ => ?_) | refine tk11 (fun _ => ?_) | refine tk13 ?_ | refine tk14 ?_); (conv => whnf))
    refine DrawS.go (qs 5) tys_ok mixed (by kernel_rfl) ?_
    (conv => whnf); repeat ((first | refine tk1 ?_ | refine tk2 ?_ | refine tk3 ?_ | refine tk12 (fun _ => ?_) | refine tk4 ?_ | refine tk5 ?_ | refine tk6 ?_ | refine tk7 ?_ | refine tk8 ?_ | refine tk9 ?_ | refine tk10 (fun _ _ => ?_) | refine tk11 (fun _ => ?_) | refine tk13 ?_ | refine tk14 ?_); (conv => whnf))
    refine OthP.ifEq tys_ok rfl rfl rfl ?_
    (conv => whnf); repeat ((first | refine tk1 ?_ | refine tk2 ?_ | refine tk3 ?_ | refine tk12 (fun _ => ?_) | refine tk4 ?_ | refine tk5 ?_ | refine tk6 ?_ | refine tk7 ?_ | refine tk8 ?_ | refine tk9 ?_ | refine tk10 (fun _ _ => ?_) | refine tk11 (fun _ => ?_) | refine tk13 ?_ | refine tk14 ?_); (conv => whnf))
end Go.Proofs.YtnaeeklnlddcaaaGreatDoor.Vex
/- What pages lean on: lists of fields, names, tags; reckoned. -/
namespace Go.Proofs.YtnaeeklnlddcaaaGreatDoor
open Go.RowKit
theorem decode_low (s : ByteArray) (k : Nat) (h : k < s.size) (hx : s[k].toNat < 128) : Utf8.decode s k = (s[k].toNat, 1) := by
  have hg : s.get! k = s[k] := by
    cases s with
    | mk d =>
      show d[k]! = d[k]
      exact getElem!_pos d k h
  unfold Utf8.decode
  simp only [Nat.add_zero, hg]
  rw [if_pos hx]
theorem decode_high (s : ByteArray) (k : Nat) (h : k < s.size) (hx : ¬ s[k].toNat < 128) : 128 ≤ (Utf8.decode s k).1 := by
  have hg : s.get! k = s[k] := by
    cases s with
    | mk d =>
      show d[k]! = d[k]
      exact getElem!_pos d k h
  unfold Utf8.decode
  simp only [Nat.add_zero, hg]
  rw [if_neg hx]
  have hr : Utf8.runeError = 65533 := rfl
  split
  · split <;> simp only <;> omega
  · split
    · split
      · rename_i hc; simp only [Bool.and_eq_true, decide_eq_true_eq] at hc; simp only; omega
      · simp only; omega
    · split
      · split
        · rename_i hc; simp only [Bool.and_eq_true, decide_eq_true_eq] at hc; simp only; omega
        · simp only; omega
      · simp only; omega
theorem idxFrom (p : Nat → Bool) (hp : ∀ r, 128 ≤ r → p r = true) (s : ByteArray) : ∀ (f k : Nat), s.size ≤ k + f → decide (0 ≤ Lib.idxFuncFrom p true s f k) = ((L s).drop k).any fun x => p x.toNat
  | 0, k, h => by
    rw [List.drop_eq_nil_of_le (by rw [L_length]; omega)]
    simp [Lib.idxFuncFrom]
  | f + 1, k, h => by
    unfold Lib.idxFuncFrom
    by_cases hk : k < s.size
    · rw [if_pos hk, L_drop s k hk, List.any_cons]
      by_cases hx : s[k].toNat < 128
      · rw [decode_low s k hk hx]
        by_cases hq : p s[k].toNat = true
        · simp only [hq, if_true, Bool.true_or, decide_eq_true_eq]; omega
        · have hq' : p s[k].toNat = false := by simpa using hq
          simp only [hq', Bool.false_eq_true, if_false, Bool.false_or]
          exact idxFrom p hp s f (k + 1) (by omega)
      · have h1 := decode_high s k hk hx
        rw [hp _ h1, hp s[k].toNat (by omega)]
        simp
    · rw [if_neg hk, List.drop_eq_nil_of_le (by rw [L_length]; omega)]
      simp

end Go.Proofs.YtnaeeklnlddcaaaGreatDoor
namespace Go.Proofs.YtnaeeklnlddcaaaGreatDoor.Vex
open Go Go.RowKit
set_option maxRecDepth 100000
set_option linter.unusedSectionVars false
variable {gI : GI} [HasMax gI]

theorem fcells_eq_nil {l : List Fld} (h : fcells l = []) : l = [] := by
  cases l with
  | nil => rfl
  | cons p r => simp [fcells] at h
theorem SameFields_r (A B : Option Addr) (cp cq : Nat) (a b : List Fld) (ha : a.length ≤ 1000000000) (hb : b.length ≤ 1000000000) :
    FnR Tryz.prog gI 28 [.slice A a.length cp, .slice B b.length cq] [(A, fcells a), (B, fcells b)] (.bool (decide (a = b))) := by
  refine FnE.of tys_ok Tryz.func28 rfl (by kernel_rfl) rfl rfl ?_; intro w hG hP
  have hA : ∀ H, RdA (mkC Tryz.prog gI w hG) H A (fcells a) := fun H => ⟨hP.1.now⟩
  have hB : ∀ H, RdA (mkC Tryz.prog gI w hG) H B (fcells b) := fun H => ⟨hP.2.1.now⟩
  (conv => whnf); repeat ((first | refine tk1 ?_ | refine tk2 ?_ | refine tk3 ?_ | refine tk12 (fun _ => ?_) | refine tk4 ?_ | refine tk5 ?_ | refine tk6 ?_ | refine tk7 ?_ | refine tk8 ?_ | refine tk9 ?_ | refine tk10 (fun _ _ => ?_) | refine tk11 (fun _ => ?_) | refine tk13 ?_ | refine tk14 ?_); (conv => whnf))
  refine Cmp.cases (fun hz => ?_) (fun hz => ?_)
  · (conv => whnf); repeat ((first | refine tk1 ?_ | refine tk2 ?_ | refine tk3 ?_ | refine tk12 (fun _ => ?_) | refine tk4 ?_ | refine tk5 ?_ | refine tk6 ?_ | refine tk7 ?_ | refine tk8 ?_ | refine tk9 ?_ | refine tk10 (fun _ _ => ?_) | refine tk11 (fun _ => ?_) | refine tk13 ?_ | refine tk14 ?_); (conv => whnf))
    intro w' _
    rw [decide_eq_false (fun h => hz (by rw [h]))]
  have hz' : a.length = b.length := by omega
  (conv => whnf); repeat ((first | refine tk1 ?_ | refine tk2 ?_ | refine tk3 ?_ | refine tk12 (fun _ => ?_) | refine tk4 ?_ | refine tk5 ?_ | refine tk6 ?_ | refine tk7 ?_ | refine tk8 ?_ | refine tk9 ?_ | refine tk10 (fun _ _ => ?_) | refine tk11 (fun _ => ?_) | refine tk13 ?_ | refine tk14 ?_); (conv => whnf))
  refine LoopS.lp tys_ok (fun (k : Nat) u => [.slice A a.length cp, .slice B b.length cq, u 2, u 3, u 4, .int .i64 (k : Nat), u 6, u 7, u 8, u 9, u 10, u 11, u 12, u 13, u 14, u 15, u 16, u 17, u 18, u 19, u 20, u 21, u 22, u 23, u 24, u 25]) (fun _ => [])
    (fun k => k ≤ a.length ∧ a.take k = b.take k) (fun k => a.length - k) 0 ⟨Nat.zero_le _, rfl⟩ rfl (by repeat' (first | exact List.Sublist.refl _ | exact List.nil_sublist _ | apply List.Sublist.cons_cons | apply List.Sublist.cons)) ?_
  intro k u ⟨hk, hI⟩
  (conv => whnf); repeat ((first | refine tk1 ?_ | refine tk2 ?_ | refine tk3 ?_ | refine tk12 (fun _ => ?_) | refine tk4 ?_ | refine tk5 ?_ | refine tk6 ?_ | refine tk7 ?_ | refine tk8 ?_ | refine tk9 ?_ | refine tk10 (fun _ _ => ?_) | refine tk11 (fun _ => ?_) | refine tk13 ?_ | refine tk14 ?_); (conv => whnf))
  refine Cmp.cases (fun hlt => ?_) (fun hlt => ?_)
  · have hka : k < a.length := by omega
    have hkb : k < b.length := by omega
    (conv => whnf); repeat ((first | refine tk1 ?_ | refine tk2 ?_ | refine tk3 ?_ | refine tk12 (fun _ => ?_) | refine tk4 ?_ | refine tk5 ?_ | refine tk6 ?_ | refine tk7 ?_ | refine tk8 ?_ | refine tk9 ?_ | refine tk10 (fun _ _ => ?_) | refine tk11 (fun _ => ?_) | refine tk13 ?_ | refine tk14 ?_); (conv => whnf))
    refine DrawS.go (qs 9) tys_ok mixed (by kernel_rfl) ?_
    (conv => whnf); repeat ((first | refine tk1 ?_ | refine tk2 ?_ | refine tk3 ?_ | refine tk12 (fun _ => ?_) | refine tk4 ?_ | refine tk5 ?_ | refine tk6 ?_ | refine tk7 ?_ | refine tk8 ?_ | refine tk9 ?_ | refine tk10 (fun _ _ => ?_) | refine tk11 (fun _ => ?_) | refine tk13 ?_ | refine tk14 ?_); (conv => whnf))
    refine IdxA.tc (by rw [fcells_length]; omega) (by omega) (by omega) ?_
    (conv => whnf); repeat ((first | refine tk1 ?_ | refine tk2 ?_ | refine tk3 ?_ | refine tk12 (fun _ => ?_) | refine tk4 ?_ | refine tk5 ?_ | refine tk6 ?_ | refine tk7 ?_ | refine tk8 ?_ | refine tk9 ?_ | refine tk10 (fun _ _ => ?_) | refine tk11 (fun _ => ?_) | refine tk13 ?_ | refine tk14 ?_); (conv => whnf))
    refine Ld.taN (fcells_two a k hka) rfl ?_
    (conv => whnf); repeat ((first | refine tk1 ?_ | refine tk2 ?_ | refine tk3 ?_ | refine tk12 (fun _ => ?_) | refine tk4 ?_ | refine tk5 ?_ | refine tk6 ?_ | refine tk7 ?_ | refine tk8 ?_ | refine tk9 ?_ | refine tk10 (fun _ _ => ?_) | refine tk11 (fun _ => ?_) | refine tk13 ?_ | refine tk14 ?_); (conv => whnf))
    refine IdxA.tc (by rw [fcells_length]; omega) (by omega) (by omega) ?_
    (conv => whnf); repeat ((first | refine tk1 ?_ | refine tk2 ?_ | refine tk3 ?_ | refine tk12 (fun _ => ?_) | refine tk4 ?_ | refine tk5 ?_ | refine tk6 ?_ | refine tk7 ?_ | refine tk8 ?_ | refine tk9 ?_ | refine tk10 (fun _ _ => ?_) | refine tk11 (fun _ => ?_) | refine tk13 ?_ | refine tk14 ?_); (conv => whnf))
    refine Ld.taN (fcells_two b k hkb) rfl ?_
    (conv => whnf); repeat ((first | refine tk1 ?_ | refine tk2 ?_ | refine tk3 ?_ | refine tk12 (fun _ => ?_) | refine tk4 ?_ | refine tk5 ?_ | refine tk6 ?_ | refine tk7 ?_ | refine tk8 ?_ | refine tk9 ?_ | refine tk10 (fun _ _ => ?_) | refine tk11 (fun _ => ?_) | refine tk13 ?_ | refine tk14 ?_); (conv => whnf))
    refine OthP.neF rfl rfl rfl ?_
    cases hq : (a[k].1 == b[k].1 && a[k].2 == b[k].2)
    · (conv => whnf); repeat ((first | refine tk1 ?_ | refine tk2 ?_ | refine tk3 ?_ | refine tk12 (fun _ => ?_) | refine tk4 ?_ | refine tk5 ?_ | refine tk6 ?_ | refine tk7 ?_ | refine tk8 ?_ | refine tk9 ?_ | refine tk10 (fun _ _ => ?_) | refine tk11 (fun _ => ?_) | refine tk13 ?_ | refine tk14 ?_); (conv => whnf))
      intro w' _
      rw [decide_eq_false (fun h => by subst h; simp at hq)]
    · have hq' : a[k] = b[k] := by simp at hq; exact Prod.ext hq.1 hq.2
      (conv => whnf); repeat ((first | refine tk1 ?_ | refine tk2 ?_ | refine tk3 ?_ | refine tk12 (fun _ => ?_) | refine tk4 ?_ | refine tk5 ?_ | refine tk6 ?_ | refine tk7 ?_ | refine tk8 ?_ | refine tk9 ?_ | refine tk10 (fun _ _ => ?_) | refine tk11 (fun _ => ?_) | refine tk13 ?_ | refine tk14 ?_); (conv => whnf))
      exact ⟨k + 1, ⟨by omega, by rw [List.take_succ_eq_append_getElem hka, List.take_succ_eq_append_getElem hkb, hI, hq']⟩, rfl, (by repeat' (first | exact List.Sublist.refl _ | exact List.nil_sublist _ | apply List.Sublist.cons_cons | apply List.Sublist.cons)), by dsimp only; omega⟩
  · (conv => whnf); repeat ((first | refine tk1 ?_ | refine tk2 ?_ | refine tk3 ?_ | refine tk12 (fun _ => ?_) | refine tk4 ?_ | refine tk5 ?_ | refine tk6 ?_ | refine tk7 ?_ | refine tk8 ?_ | refine tk9 ?_ | refine tk10 (fun _ _ => ?_) | refine tk11 (fun _ => ?_) | refine tk13 ?_ | refine tk14 ?_); (conv => whnf))
    intro w' _
    have : a = b := by rw [List.take_of_length_le (by omega), List.take_of_length_le (by omega)] at hI; exact hI
    rw [decide_eq_true this]
theorem Great18_b (A : Option Addr) (cp : Nat) (l : List Fld) : FnE Tryz.prog gI 41 [.slice A l.length cp] (fun w => Rdw w A (fcells l)) fun _ v _ => ∃ b, v = .bool b :=
  ⟨(Great_r (gI := gI) A cp l).can, fun w hG hp => ((Great_r A cp l).ok w hG ⟨hp, trivial⟩).mono fun _ _ ⟨v, he, hv, hr⟩ => ⟨v, he, ⟨_, hv⟩, hr⟩⟩
def notTag (r : Nat) : Bool := !tagI (r : Int)
theorem any_not (l : List UInt8) : (l.any fun x => notTag x.toNat) = !l.all tagB := by
  rw [List.not_all_eq_any_not]; rfl
def idN : List UInt8 := [105, 100, 101, 110, 116, 105, 116, 121]
theorem ANames_f : FnS Tryz.prog gI 118 [] [] 9 1 3 [str idN, str [103, 122, 105, 112], str [100, 101, 102, 108, 97, 116, 101]] := by
  refine FnE.of tys_ok Tryz.func118 rfl (by kernel_rfl) rfl rfl ?_; intro w hG hP
  (conv => whnf); repeat ((first | refine tk1 ?_ | refine tk2 ?_ | refine tk3 ?_ | refine tk12 (fun _ => ?_) | refine tk4 ?_ | refine tk5 ?_ | refine tk6 ?_ | refine tk7 ?_ | refine tk8 ?_ | refine tk9 ?_ | refine tk10 (fun _ _ => ?_) | refine tk11 (fun _ => ?_) | refine tk13 ?_ | refine tk14 ?_); (conv => whnf))
  exact rowPost.of (List.mem_cons_self ..)
theorem AName0_f : Fn Tryz.prog gI 75 [.int .u8 0] (.tuple #[str idN, .int .i64 0]) := by
  refine Fn.of tys_ok Tryz.func75 rfl (by kernel_rfl) rfl rfl ?_; intro w hG
  (conv => whnf); repeat ((first | refine tk1 ?_ | refine tk2 ?_ | refine tk3 ?_ | refine tk12 (fun _ => ?_) | refine tk4 ?_ | refine tk5 ?_ | refine tk6 ?_ | refine tk7 ?_ | refine tk8 ?_ | refine tk9 ?_ | refine tk10 (fun _ _ => ?_) | refine tk11 (fun _ => ?_) | refine tk13 ?_ | refine tk14 ?_); (conv => whnf))
  refine CallK.fnS ANames_f trivial (fun A cp => ?_)
  (conv => whnf); repeat ((first | refine tk1 ?_ | refine tk2 ?_ | refine tk3 ?_ | refine tk12 (fun _ => ?_) | refine tk4 ?_ | refine tk5 ?_ | refine tk6 ?_ | refine tk7 ?_ | refine tk8 ?_ | refine tk9 ?_ | refine tk10 (fun _ _ => ?_) | refine tk11 (fun _ => ?_) | refine tk13 ?_ | refine tk14 ?_); (conv => whnf))
  refine IdxA.tc (xs := [str idN, str [103, 122, 105, 112], str [100, 101, 102, 108, 97, 116, 101]]) (by decide) (by omega) (by omega) ?_
  (conv => whnf); repeat ((first | refine tk1 ?_ | refine tk2 ?_ | refine tk3 ?_ | refine tk12 (fun _ => ?_) | refine tk4 ?_ | refine tk5 ?_ | refine tk6 ?_ | refine tk7 ?_ | refine tk8 ?_ | refine tk9 ?_ | refine tk10 (fun _ _ => ?_) | refine tk11 (fun _ => ?_) | refine tk13 ?_ | refine tk14 ?_); (conv => whnf))
  refine Ld.ta (xs := [str idN, str [103, 122, 105, 112], str [100, 101, 102, 108, 97, 116, 101]]) (v := str idN) rfl ?_
  (conv => whnf); repeat ((first | refine tk1 ?_ | refine tk2 ?_ | refine tk3 ?_ | refine tk12 (fun _ => ?_) | refine tk4 ?_ | refine tk5 ?_ | refine tk6 ?_ | refine tk7 ?_ | refine tk8 ?_ | refine tk9 ?_ | refine tk10 (fun _ _ => ?_) | refine tk11 (fun _ => ?_) | refine tk13 ?_ | refine tk14 ?_); (conv => whnf))
end Go.Proofs.YtnaeeklnlddcaaaGreatDoor.Vex
/- Arguments that are pages. -/
namespace Go.Proofs.YtnaeeklnlddcaaaGreatDoor.Vex
open Go Go.RowKit Go.ChangeShapes Go.WideShapes Go.Deep
set_option maxRecDepth 100000

/-- The cells of a list of pieces. -/
def pccells : List Pce → List Value
  | [] => []
  | p :: r => .int .u8 p.k.toNat :: str p.t :: .int .i64 p.m :: .bool p.f :: pccells r
theorem pccells_length : ∀ l : List Pce, (pccells l).length = l.length * 4
  | [] => rfl
  | _ :: r => by simp only [pccells, List.length_cons, pccells_length r]; omega
theorem pccells_at : ∀ (l : List Pce) (k : Nat) (h : k < l.length), ((pccells l).drop (k * 4)).take 4 = [.int .u8 l[k].k.toNat, str l[k].t, .int .i64 l[k].m, .bool l[k].f] ∧
    (pccells l)[k * 4 + 0]? = some (.int .u8 l[k].k.toNat) ∧ (pccells l)[k * 4 + 1]? = some (str l[k].t) ∧ (pccells l)[k * 4 + 2]? = some (.int .i64 l[k].m) ∧ (pccells l)[k * 4 + 3]? = some (.bool l[k].f)
  | p :: r, 0, _ => ⟨rfl, rfl, rfl, rfl, rfl⟩
  | p :: r, k + 1, h => by
    have ih := pccells_at r k (by simpa using h)
    rw [show (k + 1) * 4 = k * 4 + 1 + 1 + 1 + 1 by omega]
    simp only [pccells, List.drop_succ_cons, List.getElem_cons_succ]
    refine ⟨ih.1, ?_, ?_, ?_, ?_⟩
    · exact ih.2.1
    · exact ih.2.2.1
    · exact ih.2.2.2.1
    · exact ih.2.2.2.2
theorem flat_pieces (l : List Pce) : l.flatMap (fun p => [byteV p.k, str p.t, .int .i64 p.m, .bool p.f]) = pccells l := by
  induction l with
  | nil => rfl
  | cons a r ih => rw [List.flatMap_cons, ih]; rfl
abbrev pceShape : Shape := ⟨Pce, 4, fun p => [byteV p.k, str p.t, .int .i64 p.m, .bool p.f], fun _ p => p.t.length ≤ 9223372036854775807 ∧ -9223372036854775808 ≤ p.m ∧ p.m ≤ 9223372036854775807, fun p => p.t.length + 4⟩
theorem opens_piece : Opens Tryz.prog 279 pceShape := by
  have h := opens_struct Tryz.underlying279 (by kernel_rfl) (opensL_cons rfl opens_u8 (opensL_cons rfl opens_string (opensL_cons rfl opens_i64 (opensL_cons rfl opens_tf (opensL_nil _)))))
  exact opens_map h (fun x => Pce.mk x.1 x.2.1 x.2.2.1 x.2.2.2.1) rfl (fun _ _ _ => rfl) (fun _ _ h => ⟨h.2.1, h.2.2.1⟩) (fun _ _ _ => by dsimp only; omega)
abbrev piecesShape : Shape := sliceShape pceShape
theorem opens_pieces : Opens Tryz.prog 31 piecesShape := opens_slice Tryz.underlying31 (by kernel_rfl) opens_piece
/-- A page that came in. -/
structure Pg where
  m : List UInt8
  p : List UInt8
  st : Int
  F : Sl Fld
  tag : List UInt8
  press : Bool
  Ps : Sl Pce
def Pg.cells (x : Pg) : List Value := [str x.m, str x.p, .int .i64 x.st, .slice x.F.A x.F.l.length x.F.cp, str x.tag, .bool x.press, .slice x.Ps.A x.Ps.l.length x.Ps.cp]
abbrev pageShape : Shape := ⟨Pg, 7, Pg.cells, fun w x => (-9223372036854775808 ≤ x.st ∧ x.st ≤ 9223372036854775807) ∧ fieldsShape.ok w x.F ∧ piecesShape.ok w x.Ps ∧ x.m.length ≤ 9223372036854775807 ∧ x.p.length ≤ 9223372036854775807 ∧ x.tag.length ≤ 9223372036854775807,
  fun x => x.m.length + x.p.length + x.tag.length + fieldsShape.wt x.F + piecesShape.wt x.Ps⟩
theorem opens_page : Opens Tryz.prog 33 pageShape := by
  have h := opens_struct Tryz.underlying33 (by kernel_rfl) (opensL_cons rfl opens_string (opensL_cons rfl opens_string (opensL_cons rfl opens_i64 (opensL_cons rfl opens_fields (opensL_cons rfl opens_string (opensL_cons rfl opens_tf (opensL_cons rfl opens_pieces (opensL_nil _))))))))
  exact opens_map h (fun x => Pg.mk x.1 x.2.1 x.2.2.1 x.2.2.2.1 x.2.2.2.2.1 x.2.2.2.2.2.1 x.2.2.2.2.2.2.1) rfl (fun _ _ _ => rfl) (fun _ _ h => ⟨h.2.2.1, h.2.2.2.1, h.2.2.2.2.2.2.1, h.1, h.2.1, h.2.2.2.2.1⟩) (fun _ _ _ => by dsimp only; omega)
theorem rd_pieces {W : World} {x : Sl Pce} (h : piecesShape.ok W x) : Rdw W x.A (pccells x.l) := flat_pieces x.l ▸ h.2.1
/-- What a bound on the whole gives. -/
theorem sum_mem {α : Type} (f : α → Nat) : ∀ (l : List α) (x : α), x ∈ l → f x ≤ (l.map f).sum
  | y :: r, x, h => by
    simp only [List.map_cons, List.sum_cons]
    rcases List.mem_cons.1 h with rfl | h
    · omega
    · have := sum_mem f r x h; omega
theorem sum_len {α : Type} (f : α → Nat) (h1 : ∀ x, 1 ≤ f x) : ∀ (l : List α), l.length ≤ (l.map f).sum
  | [] => Nat.le_refl _
  | y :: r => by
    simp only [List.map_cons, List.sum_cons, List.length_cons]
    have := sum_len f h1 r
    have := h1 y
    omega
/-- A page, a request and parameters that are not beyond every machine. -/
structure Fit (x : Pg) (r : Req) (pm : Sl Fld) : Prop where
  st : -9223372036854775808 ≤ x.st ∧ x.st ≤ 9223372036854775807
  tag : x.tag.length ≤ 1048576
  fs : fsum x.F.l ≤ 1048576
  np : x.Ps.l.length ≤ 1048576
  pt : ∀ p ∈ x.Ps.l, p.t.length ≤ 1048576 ∧ -9223372036854775808 ≤ p.m ∧ p.m ≤ 9223372036854775807
  body : r.B.l.length ≤ 1048576
  query : r.q.length ≤ 1048576
  pm : fsum pm.l ≤ 1048576
theorem fit_of {W : World} {x : Pg} {r : Req} {pm : Sl Fld} {n : Nat} (hx : pageShape.ok W x) (hr : reqShape.ok W r) (_hp : fieldsShape.ok W pm) (hn : pageShape.wt x + (reqShape.wt r + (fieldsShape.wt pm + n)) ≤ 1048576) : Fit x r pm := by
  have h1 : fsum x.F.l ≤ fieldsShape.wt x.F := Nat.le_succ _
  have h2 : fsum pm.l ≤ fieldsShape.wt pm := Nat.le_succ _
  have h3 : pageShape.wt x = x.m.length + x.p.length + x.tag.length + fieldsShape.wt x.F + piecesShape.wt x.Ps := rfl
  have h4 : reqShape.wt r = r.m.length + r.p.length + r.q.length + fieldsShape.wt r.F + bytesShape.wt r.B := rfl
  have h5 : bytesShape.wt r.B = (r.B.l.map fun _ => 1).sum + 1 := rfl
  have h6 : piecesShape.wt x.Ps = (x.Ps.l.map fun p => p.t.length + 4).sum + 1 := rfl
  have h7 := sum_len (fun _ : UInt8 => 1) (fun _ => Nat.le_refl _) r.B.l
  have h8 := sum_len (fun p : Pce => p.t.length + 4) (fun _ => by omega) x.Ps.l
  refine ⟨hx.1, by omega, by omega, by omega, fun p hp => ?_, by omega, by omega, by omega⟩
  have h9 := sum_mem (fun p : Pce => p.t.length + 4) x.Ps.l p hp
  exact ⟨by omega, (hx.2.2.1.2.2 p hp).2⟩
end Go.Proofs.YtnaeeklnlddcaaaGreatDoor.Vex
/- The program's functions on pages, reckoned: own, piece, Check. -/
namespace Go.Proofs.YtnaeeklnlddcaaaGreatDoor.Vex
open Go Go.RowKit
set_option maxRecDepth 100000
set_option linter.unusedSectionVars false
variable {gI : GI} [HasMax gI]

theorem stat_bad {st : Int} {n : Nat} (h : st < 200 ∨ 599 < st ∨ st = 304 ∨ 16 < n ∨ (st = 204 ∧ 0 < n)) : statOK st n = false := by
  unfold statOK
  rw [Bool.eq_false_iff]
  simp only [ne_eq, Bool.and_eq_true, decide_eq_true_eq, Bool.or_eq_true, Bool.not_eq_true', decide_eq_false_iff_not]
  omega
theorem stat_good {st : Int} {n : Nat} (h1 : ¬ st < 200) (h2 : ¬ 599 < st) (h3 : ¬ st = 304) (h4 : ¬ 16 < n) (h5 : ¬ (st = 204 ∧ 0 < n)) : statOK st n = true := by
  unfold statOK
  simp only [Bool.and_eq_true, decide_eq_true_eq, Bool.or_eq_true, Bool.not_eq_true', decide_eq_false_iff_not]
  omega
theorem all_snoc_take {α : Type} (f : α → Bool) (l : List α) (k : Nat) (h : k < l.length) (hk : (l.take k).all f = true) : (l.take (k + 1)).all f = f l[k] := by
  rw [List.take_succ_eq_append_getElem h, List.all_append, hk]; simp
theorem all_bad {α : Type} {f : α → Bool} {l : List α} {x : α} (h : x ∈ l) (hx : f x = false) : l.all f = false := by
  rw [List.all_eq_false]
  exact ⟨x, h, by rw [hx]; exact Bool.false_ne_true⟩
end Go.Proofs.YtnaeeklnlddcaaaGreatDoor.Vex
/- The program's functions on answers as bytes, reckoned: write, a field's line, cut. -/
namespace Go.Proofs.YtnaeeklnlddcaaaGreatDoor.Vex
open Go Go.RowKit
set_option maxRecDepth 100000
set_option linter.unusedSectionVars false
variable {gI : GI} [HasMax gI]

theorem str_one (l : List (List UInt8)) : ∀ u ∈ l.map str, u.oneCell' = true := fun u hu => by
  obtain ⟨y, _, rfl⟩ := List.mem_map.1 hu
  rfl
theorem flat_one (ts : List (List UInt8)) (k : Nat) (h : k < ts.length) : (ts.take (k + 1)).flatten = (ts.take k).flatten ++ ts[k] := by
  rw [List.take_succ_eq_append_getElem h, List.flatten_append]
  simp
theorem flat_le (ts : List (List UInt8)) (k : Nat) : (ts.take k).flatten.length ≤ ts.flatten.length := by
  conv => rhs; rw [← List.take_append_drop k ts, List.flatten_append, List.length_append]
  omega
/-- Texts are put behind. -/
theorem write_k {c : Ctx} (hc : Ours Tryz.prog gI c) {b : Nat} {A : Option Addr} {cp : Nat} {l : List UInt8} {Dn : Option Addr} {dn dc : Nat} {SA : Option Addr} {sc : Nat} {ts : List (List UInt8)} {X : Hp} {K : Value → Hp → Prop} (hl : l.length + ts.flatten.length ≤ 4000000000) (ht : ts.length ≤ 1000000)
    (k : ∀ v A' cp', K v (.box b [.slice A' (l ++ ts.flatten).length cp', .slice Dn dn dc] 95 :: .row (.slice A' (l ++ ts.flatten).length cp') 5 1 (l ++ ts.flatten).length ((l ++ ts.flatten).map byteV) :: X)) :
    CallK c false 47 [.pointer (some ⟨b, 0, none⟩), .slice SA ts.length sc] (.row (.slice SA ts.length sc) 9 1 ts.length (ts.map str) :: .box b [.slice A l.length cp, .slice Dn dn dc] 95 :: .row (.slice A l.length cp) 5 1 l.length (l.map byteV) :: X) K := by
  obtain ⟨P, g, w0, M, hM, hG⟩ := c
  obtain ⟨rfl, rfl⟩ := hc
  refine CallK.post ?_
  refine CallK.inl tys_ok Tryz.func47 rfl (by kernel_rfl) rfl rfl ?_
  (conv => whnf); repeat ((first | refine tk1 ?_ | refine tk2 ?_ | refine tk3 ?_ | refine tk12 (fun _ => ?_) | refine tk4 ?_ | refine tk5 ?_ | refine tk6 ?_ | refine tk7 ?_ | refine tk8 ?_ | refine tk9 ?_ | refine tk10 (fun _ _ => ?_) | refine tk11 (fun _ => ?_) | refine tk13 ?_ | refine tk14 ?_); (conv => whnf))
  refine LoopS.lpT tys_ok (fun (x : Nat × Option Addr × Nat) u => [.pointer (some ⟨b, 0, none⟩), u 1, u 2, u 3, u 4, u 5, .slice SA ts.length sc, .int .i64 ts.length, .int .i64 (x.1 : Nat), u 9, u 10, u 11, u 12, u 13, u 14, u 15, u 16, u 17, u 18, u 19, u 20, u 21])
    (fun x => .row (.slice SA ts.length sc) 9 1 ts.length (ts.map str) :: .box b [.slice x.2.1 (l ++ (ts.take x.1).flatten).length x.2.2, .slice Dn dn dc] 95 :: .row (.slice x.2.1 (l ++ (ts.take x.1).flatten).length x.2.2) 5 1 (l ++ (ts.take x.1).flatten).length ((l ++ (ts.take x.1).flatten).map byteV) :: X)
    (fun x => x.1 ≤ ts.length) (fun x => ts.length - x.1) (0, A, cp) (Nat.zero_le _) (by rfl) (by simp only [List.take_zero, List.flatten_nil, List.append_nil]; exact Into.refl) ?_
  rintro ⟨i, A', cp'⟩ u hi
  dsimp only at hi ⊢
  by_cases hlt : i < ts.length
  · have hx : (ts.map str)[((i : Nat) : Int).toNat * 1]? = some (str ts[i]) := by rw [Int.toNat_natCast, Nat.mul_one, List.getElem?_map, List.getElem?_eq_getElem hlt]; rfl
    have hfo := flat_one ts i hlt
    have hfl := flat_le ts (i + 1)
    rw [hfo, List.length_append] at hfl
    generalize ts[i] = t at *
    have hll : (l ++ (ts.take i).flatten).length = l.length + (ts.take i).flatten.length := List.length_append
    (conv => whnf); repeat ((first | refine tk1 ?_ | refine tk2 ?_ | refine tk3 ?_ | refine tk12 (fun _ => ?_) | refine tk4 ?_ | refine tk5 ?_ | refine tk6 ?_ | refine tk7 ?_ | refine tk8 ?_ | refine tk9 ?_ | refine tk10 (fun _ _ => ?_) | refine tk11 (fun _ => ?_) | refine tk13 ?_ | refine tk14 ?_); (conv => whnf))
    refine IdxA.tc (xs := ts.map str) (by rw [List.length_map]; omega) (by omega) (by omega) ?_
    (conv => whnf); repeat ((first | refine tk1 ?_ | refine tk2 ?_ | refine tk3 ?_ | refine tk12 (fun _ => ?_) | refine tk4 ?_ | refine tk5 ?_ | refine tk6 ?_ | refine tk7 ?_ | refine tk8 ?_ | refine tk9 ?_ | refine tk10 (fun _ _ => ?_) | refine tk11 (fun _ => ?_) | refine tk13 ?_ | refine tk14 ?_); (conv => whnf))
    refine Ld.ta (xs := ts.map str) hx ?_
    (conv => whnf); repeat ((first | refine tk1 ?_ | refine tk2 ?_ | refine tk3 ?_ | refine tk12 (fun _ => ?_) | refine tk4 ?_ | refine tk5 ?_ | refine tk6 ?_ | refine tk7 ?_ | refine tk8 ?_ | refine tk9 ?_ | refine tk10 (fun _ _ => ?_) | refine tk11 (fun _ => ?_) | refine tk13 ?_ | refine tk14 ?_); (conv => whnf))
    refine AppS.tc (m := t.length) (news := t.map byteV) (SrcK.str t) (by simp) (bytes_one _) (by decide) (by omega) (by omega) (zs := ((l ++ (ts.take i).flatten) ++ t).map byteV) List.map_append.symm (fun B2 c2 => ?_)
    rw [← List.length_append]
    (conv => whnf); repeat ((first | refine tk1 ?_ | refine tk2 ?_ | refine tk3 ?_ | refine tk12 (fun _ => ?_) | refine tk4 ?_ | refine tk5 ?_ | refine tk6 ?_ | refine tk7 ?_ | refine tk8 ?_ | refine tk9 ?_ | refine tk10 (fun _ _ => ?_) | refine tk11 (fun _ => ?_) | refine tk13 ?_ | refine tk14 ?_); (conv => whnf))
    exact ⟨(i + 1, B2, c2), by dsimp only; omega, by dsimp only; rfl, by dsimp only; rw [hfo, ← List.append_assoc]; exact Cv.into (by (try dsimp only); repeat' (first | with_reducible exact Cv.refl | with_reducible exact Cv.left | with_reducible exact Cv.right | with_reducible exact Cv.nil | (with_reducible apply Cv.cons; focus ((repeat (first | with_reducible exact Pick.here | with_reducible apply Pick.skip)); done)) | (apply Cv.cons; focus ((repeat (first | exact Pick.here | apply Pick.skip)); done)) | exact Cv.nil | exact Cv.refl | exact Cv.left | exact Cv.right | refine Cv.skip ?_)), by dsimp only; omega⟩
  · obtain rfl : i = ts.length := by omega
    rw [List.take_length]
    (conv => whnf); repeat ((first | refine tk1 ?_ | refine tk2 ?_ | refine tk3 ?_ | refine tk12 (fun _ => ?_) | refine tk4 ?_ | refine tk5 ?_ | refine tk6 ?_ | refine tk7 ?_ | refine tk8 ?_ | refine tk9 ?_ | refine tk10 (fun _ _ => ?_) | refine tk11 (fun _ => ?_) | refine tk13 ?_ | refine tk14 ?_); (conv => whnf))
    exact ⟨_, Cv.into (Cv.skip Cv.refl), k _ A' cp'⟩
end Go.Proofs.YtnaeeklnlddcaaaGreatDoor.Vex
/- The program's functions on answers as bytes, reckoned: a field's line, cut, streamed, bare, own, wrap. -/
namespace Go.Proofs.YtnaeeklnlddcaaaGreatDoor.Vex
open Go Go.RowKit
set_option maxRecDepth 100000
set_option linter.unusedSectionVars false
variable {gI : GI} [HasMax gI]

/-- A field's line is put behind. -/
theorem line_c {c : Ctx} (hc : Ours Tryz.prog gI c) {q b : Nat} {A : Option Addr} {cp : Nat} {l : List UInt8} {Dn : Option Addr} {dn dc : Nat} {X : Hp} {K : Value → Hp → Prop} (n v : List UInt8) (hl : l.length + n.length + v.length ≤ 3000000000)
    (k : ∀ v' A' cp', K v' (.box q [.pointer (some ⟨b, 0, none⟩)] 93 :: .box b [.slice A' (l ++ lineR n v).length cp', .slice Dn dn dc] 95 :: .row (.slice A' (l ++ lineR n v).length cp') 5 1 (l ++ lineR n v).length ((l ++ lineR n v).map byteV) :: X)) :
    CallK c false 74 [str n, str v, .pointer (some ⟨q, 0, none⟩)] (.box q [.pointer (some ⟨b, 0, none⟩)] 93 :: .box b [.slice A l.length cp, .slice Dn dn dc] 95 :: .row (.slice A l.length cp) 5 1 l.length (l.map byteV) :: X) K := by
  obtain ⟨P, g, w0, M, hM, hG⟩ := c
  have hc' := hc
  obtain ⟨rfl, rfl⟩ := hc
  refine CallK.post ?_
  refine CallK.inl tys_ok Tryz.func74 rfl (by kernel_rfl) rfl rfl ?_
  have hfl : [n, [58, 32], v, [13, 10]].flatten = lineR n v := by simp [lineR]
  have hfn : [n, [58, 32], v, [13, 10]].flatten.length = n.length + v.length + 4 := by rw [hfl]; simp [lineR]; omega
  (conv => whnf); repeat ((first | refine tk1 ?_ | refine tk2 ?_ | refine tk3 ?_ | refine tk12 (fun _ => ?_) | refine tk4 ?_ | refine tk5 ?_ | refine tk6 ?_ | refine tk7 ?_ | refine tk8 ?_ | refine tk9 ?_ | refine tk10 (fun _ _ => ?_) | refine tk11 (fun _ => ?_) | refine tk13 ?_ | refine tk14 ?_); (conv => whnf))
  rename_i sb
  refine CallK.into (G := .row (.slice (some ⟨sb, 0, none⟩) 4 4) 9 1 4 ([n, [58, 32], v, [13, 10]].map str) :: .box b [.slice A l.length cp, .slice Dn dn dc] 95 :: .row (.slice A l.length cp) 5 1 l.length (l.map byteV) :: .box q [.pointer (some ⟨b, 0, none⟩)] 93 :: X) (Cv.into (by (try dsimp only); repeat' (first | with_reducible exact Cv.refl | with_reducible exact Cv.left | with_reducible exact Cv.right | with_reducible exact Cv.nil | (with_reducible apply Cv.cons; focus ((repeat (first | with_reducible exact Pick.here | with_reducible apply Pick.skip)); done)) | (apply Cv.cons; focus ((repeat (first | exact Pick.here | apply Pick.skip)); done)) | exact Cv.nil | exact Cv.refl | exact Cv.left | exact Cv.right | refine Cv.skip ?_))) ?_
  refine write_k hc' (ts := [n, [58, 32], v, [13, 10]]) (X := .box q [.pointer (some ⟨b, 0, none⟩)] 93 :: X) (by omega) (by simp) (fun v' A' cp' => ?_)
  rw [hfl]
  (conv => whnf); repeat ((first | refine tk1 ?_ | refine tk2 ?_ | refine tk3 ?_ | refine tk12 (fun _ => ?_) | refine tk4 ?_ | refine tk5 ?_ | refine tk6 ?_ | refine tk7 ?_ | refine tk8 ?_ | refine tk9 ?_ | refine tk10 (fun _ _ => ?_) | refine tk11 (fun _ => ?_) | refine tk13 ?_ | refine tk14 ?_); (conv => whnf))
  exact ⟨_, Cv.into (by (try dsimp only); repeat' (first | with_reducible exact Cv.refl | with_reducible exact Cv.left | with_reducible exact Cv.right | with_reducible exact Cv.nil | (with_reducible apply Cv.cons; focus ((repeat (first | with_reducible exact Pick.here | with_reducible apply Pick.skip)); done)) | (apply Cv.cons; focus ((repeat (first | exact Pick.here | apply Pick.skip)); done)) | exact Cv.nil | exact Cv.refl | exact Cv.left | exact Cv.right | refine Cv.skip ?_)), k _ A' cp'⟩
/-- The open part is cut: it stands behind the others if it has bytes. -/
theorem cut_k {c : Ctx} (hc : Ours Tryz.prog gI c) {f : Bool} {b : Nat} {A : Option Addr} {cp : Nat} {l : List UInt8} {D : Option Addr} {dc : Nat} {ps : List Prt} {X : Hp} {K : Value → Hp → Prop} (hl : l.length ≤ 4000000000) (hd : ps.length ≤ 4000000000)
    (k : ∀ v D' dc' ps', ps'.map pure1 = close1 l f (ps.map pure1) → K v (.box b [.slice none 0 0, .slice D' ps'.length dc'] 95 :: .row (.slice D' ps'.length dc') 53 2 ps'.length (pcells ps') :: .row (.slice none 0 0) 5 1 0 [] :: (X ++ rowsP 5 ps'))) :
    CallK c false 48 [.pointer (some ⟨b, 0, none⟩), .bool f] (.box b [.slice A l.length cp, .slice D ps.length dc] 95 :: .row (.slice D ps.length dc) 53 2 ps.length (pcells ps) :: .row (.slice A l.length cp) 5 1 l.length (l.map byteV) :: (X ++ rowsP 5 ps)) K := by
  obtain ⟨P, g, w0, M, hM, hG⟩ := c
  obtain ⟨rfl, rfl⟩ := hc
  refine CallK.post ?_
  refine CallK.inl tys_ok Tryz.func48 rfl (by kernel_rfl) rfl rfl ?_
  (conv => whnf); repeat ((first | refine tk1 ?_ | refine tk2 ?_ | refine tk3 ?_ | refine tk12 (fun _ => ?_) | refine tk4 ?_ | refine tk5 ?_ | refine tk6 ?_ | refine tk7 ?_ | refine tk8 ?_ | refine tk9 ?_ | refine tk10 (fun _ _ => ?_) | refine tk11 (fun _ => ?_) | refine tk13 ?_ | refine tk14 ?_); (conv => whnf))
  refine Cmp.cases (fun h1 => ?_) (fun h1 => ?_)
  · have hne : l ≠ [] := fun h => by rw [h] at h1; simp at h1
    (conv => whnf); repeat ((first | refine tk1 ?_ | refine tk2 ?_ | refine tk3 ?_ | refine tk12 (fun _ => ?_) | refine tk4 ?_ | refine tk5 ?_ | refine tk6 ?_ | refine tk7 ?_ | refine tk8 ?_ | refine tk9 ?_ | refine tk10 (fun _ _ => ?_) | refine tk11 (fun _ => ?_) | refine tk13 ?_ | refine tk14 ?_); (conv => whnf))
    refine DrawS.go [(0, true), (1, true), (2, true), (3, true), (4, true), (5, true), (6, true), (7, true), (8, true), (9, true), (10, true), (11, false), (12, false), (13, true), (14, true), (15, false)] tys_ok mixed (by kernel_rfl) ?_
    (conv => whnf); repeat ((first | refine tk1 ?_ | refine tk2 ?_ | refine tk3 ?_ | refine tk12 (fun _ => ?_) | refine tk4 ?_ | refine tk5 ?_ | refine tk6 ?_ | refine tk7 ?_ | refine tk8 ?_ | refine tk9 ?_ | refine tk10 (fun _ _ => ?_) | refine tk11 (fun _ => ?_) | refine tk13 ?_ | refine tk14 ?_); (conv => whnf))
    refine AppS.tc (m := 1) (news := [.slice A l.length cp, .bool f]) SrcK.tc rfl (by simp [Value.oneCell']) (by decide) (by omega) (by omega) (zs := pcells (ps ++ [⟨A, cp, l, f⟩])) (by rw [pcells_append]; rfl) (fun D' dc' => ?_)
    rw [show ps.length + 1 = (ps ++ [(⟨A, cp, l, f⟩ : Prt)]).length by simp]
    (conv => whnf); repeat ((first | refine tk1 ?_ | refine tk2 ?_ | refine tk3 ?_ | refine tk12 (fun _ => ?_) | refine tk4 ?_ | refine tk5 ?_ | refine tk6 ?_ | refine tk7 ?_ | refine tk8 ?_ | refine tk9 ?_ | refine tk10 (fun _ _ => ?_) | refine tk11 (fun _ => ?_) | refine tk13 ?_ | refine tk14 ?_); (conv => whnf))
    refine ⟨_, ?_, k _ D' dc' (ps ++ [⟨A, cp, l, f⟩]) (by rw [List.map_append]; unfold close1; rw [if_neg hne]; rfl)⟩
    exact Into.trans (Into.nilRow (e := 5) (sz := 1) Into.refl) (Cv.into (by repeat' (first | exact Cv.nil | exact Cv.refl | exact Cv.close (q := ⟨A, cp, l, f⟩) | refine Cv.cons (by first | exact Pick.here | exact Pick.here.skip | exact Pick.here.skip.skip | exact Pick.here.skip.skip.skip | exact Pick.here.skip.skip.skip.skip | exact Pick.here.skip.skip.skip.skip.skip | exact Pick.here.skip.skip.skip.skip.skip.skip | exact Pick.here.skip.skip.skip.skip.skip.skip.skip | exact Pick.here.skip.skip.skip.skip.skip.skip.skip.skip | exact Pick.here.skip.skip.skip.skip.skip.skip.skip.skip.skip | exact Pick.here.skip.skip.skip.skip.skip.skip.skip.skip.skip.skip | exact Pick.here.skip.skip.skip.skip.skip.skip.skip.skip.skip.skip.skip) ?_ | refine Cv.skip ?_)))
  · have hne : l = [] := List.eq_nil_of_length_eq_zero (by omega)
    subst hne
    (conv => whnf); repeat ((first | refine tk1 ?_ | refine tk2 ?_ | refine tk3 ?_ | refine tk12 (fun _ => ?_) | refine tk4 ?_ | refine tk5 ?_ | refine tk6 ?_ | refine tk7 ?_ | refine tk8 ?_ | refine tk9 ?_ | refine tk10 (fun _ _ => ?_) | refine tk11 (fun _ => ?_) | refine tk13 ?_ | refine tk14 ?_); (conv => whnf))
    refine ⟨_, ?_, k _ D dc ps (by unfold close1; rw [if_pos rfl])⟩
    exact Into.trans (Into.nilRow (e := 5) (sz := 1) Into.refl) (Cv.into (by repeat' (first | exact Cv.nil | exact Cv.refl | refine Cv.cons (by first | exact Pick.here | exact Pick.here.skip | exact Pick.here.skip.skip | exact Pick.here.skip.skip.skip | exact Pick.here.skip.skip.skip.skip | exact Pick.here.skip.skip.skip.skip.skip | exact Pick.here.skip.skip.skip.skip.skip.skip | exact Pick.here.skip.skip.skip.skip.skip.skip.skip | exact Pick.here.skip.skip.skip.skip.skip.skip.skip.skip | exact Pick.here.skip.skip.skip.skip.skip.skip.skip.skip.skip | exact Pick.here.skip.skip.skip.skip.skip.skip.skip.skip.skip.skip | exact Pick.here.skip.skip.skip.skip.skip.skip.skip.skip.skip.skip.skip) ?_ | refine Cv.skip ?_)))
theorem bare_f (st : Int) : Fn Tryz.prog gI 44 [.int .i64 st] (.bool (bareB st)) := by
  refine Fn.of tys_ok Tryz.func44 rfl (by kernel_rfl) rfl rfl ?_; intro w hG
  unfold bareB
  (conv => whnf); repeat ((first | refine tk1 ?_ | refine tk2 ?_ | refine tk3 ?_ | refine tk12 (fun _ => ?_) | refine tk4 ?_ | refine tk5 ?_ | refine tk6 ?_ | refine tk7 ?_ | refine tk8 ?_ | refine tk9 ?_ | refine tk10 (fun _ _ => ?_) | refine tk11 (fun _ => ?_) | refine tk13 ?_ | refine tk14 ?_); (conv => whnf))
  refine Cmp.cases (fun c1 => ?_) (fun c1 => ?_)
  · rw [decide_eq_true c1]
    (conv => whnf); repeat ((first | refine tk1 ?_ | refine tk2 ?_ | refine tk3 ?_ | refine tk12 (fun _ => ?_) | refine tk4 ?_ | refine tk5 ?_ | refine tk6 ?_ | refine tk7 ?_ | refine tk8 ?_ | refine tk9 ?_ | refine tk10 (fun _ _ => ?_) | refine tk11 (fun _ => ?_) | refine tk13 ?_ | refine tk14 ?_); (conv => whnf))
    try rfl
  · rw [decide_eq_false c1]
    (conv => whnf); repeat ((first | refine tk1 ?_ | refine tk2 ?_ | refine tk3 ?_ | refine tk12 (fun _ => ?_) | refine tk4 ?_ | refine tk5 ?_ | refine tk6 ?_ | refine tk7 ?_ | refine tk8 ?_ | refine tk9 ?_ | refine tk10 (fun _ _ => ?_) | refine tk11 (fun _ => ?_) | refine tk13 ?_ | refine tk14 ?_); (conv => whnf))
    refine Cmp.of (decide (st = 304)) (by simp) ?_
    (conv => whnf); repeat ((first | refine tk1 ?_ | refine tk2 ?_ | refine tk3 ?_ | refine tk12 (fun _ => ?_) | refine tk4 ?_ | refine tk5 ?_ | refine tk6 ?_ | refine tk7 ?_ | refine tk8 ?_ | refine tk9 ?_ | refine tk10 (fun _ _ => ?_) | refine tk11 (fun _ => ?_) | refine tk13 ?_ | refine tk14 ?_); (conv => whnf))
    try rfl
end Go.Proofs.YtnaeeklnlddcaaaGreatDoor.Vex
/- The program's reader of replies, reckoned: a line, the first line. -/
namespace Go.Proofs.YtnaeeklnlddcaaaGreatDoor.Vex
open Go Go.RowKit
set_option maxRecDepth 100000
set_option linter.unusedSectionVars false
variable {gI : GI} [HasMax gI] [HasErr gI]

theorem bytesOf_nums (l : List UInt8) : Lib.bytesOf (l.map fun x => ((x.toNat : Nat) : Int)) = l := by
  unfold Lib.bytesOf
  rw [List.map_map]
  conv => rhs; rw [← List.map_id l]
  exact List.map_congr_left fun x _ => by simp
theorem BCut_f (A B : Option Addr) (cp cq : Nat) (l : List UInt8) (hl : l.length ≤ 1000000000) :
    FnE Tryz.prog gI 128 [.slice A l.length cp, .slice B 2 cq] (fun w => RdL w [(A, l.map byteV), (B, [byteV 13, byteV 10])] ∧ l.length ≤ cp) fun _ v _ => v = Lib.cutV A l.length cp 2 (Lib.index l [13, 10]) :=
  ⟨callable Tryz.func128 rfl (by kernel_rfl), fun w hG ⟨⟨hA, hB, _⟩, hcp⟩ => by
    obtain ⟨m, hm⟩ := HasMax.ok w hG
    have key : Calls Tryz.prog 174 #[.slice A l.length cp, .slice B 2 cq] w fun e w' => e = .returned (.int .i64 (Lib.index l [13, 10])) ∧ ∃ q, w' = w.drewN q := by
      by_cases h2 : l.length < 2
      · refine (Tryz.bytes_Index_longer A B l.length cp 2 cq w (by omega) h2 (by omega)).mono fun e w' ⟨he, hw⟩ => ⟨?_, 0, hw⟩
        rw [he, index_cutR]
        cases hc : cutR l with
        | none => rfl
        | some s => have := (cutR_len l s hc).1; omega
      · obtain ⟨a, rfl, _⟩ := hA 0 (byteV l[0]) (by rw [List.getElem?_map, List.getElem?_eq_getElem (by omega)]; rfl)
        obtain ⟨a2, rfl, _⟩ := hB 0 (byteV 13) rfl
        have h := Tryz.bytes_Index_at a a2 l.length cp 2 cq (l.map fun x => ((x.toNat : Nat) : Int)) [13, 10] m w (by simp) rfl (fun x hx => by
          obtain ⟨y, _, rfl⟩ := List.mem_map.1 hx
          have := y.toNat_lt
          omega) (by decide) (fun i hi => by
          obtain ⟨a', e, hc⟩ := hA i (byteV l[i]) (by rw [List.getElem?_map, List.getElem?_eq_getElem hi]; rfl)
          cases e
          rw [hc, List.getD_eq_getElem?_getD, List.getElem?_map, List.getElem?_eq_getElem hi]
          rfl) (fun i hi => by
          rcases (show i = 0 ∨ i = 1 by omega) with rfl | rfl
          · obtain ⟨a', e, hc⟩ := hB 0 (byteV 13) rfl
            cases e
            rw [hc]; rfl
          · obtain ⟨a', e, hc⟩ := hB 1 (byteV 10) rfl
            cases e
            rw [hc]; rfl) hcp (by omega) (by omega) hm
        rw [bytesOf_nums] at h
        exact h
    refine (Tryz.bytes_Cut_of A B l.length cp 2 cq (Lib.index l [13, 10]) w hcp (Lib.index_ge _ _) (fun h => by have := Lib.index_room l [13, 10] h; simpa using this) (by omega) key).mono fun e w' ⟨he, q, hw⟩ => ⟨_, he, rfl, ?_⟩
    subst hw
    exact ⟨rfl, rfl, rfl, Nat.le_refl _, fun _ _ => rfl⟩⟩
section
variable {c : Ctx} {H : Hp}
/-- A piece of bytes that are read. -/
theorem SlcV.sub {A : Option Addr} {n cp : Nat} {lo hi : Int} {l : List UInt8} {K : Value → Prop} (hR : ∀ H, RdA c H A (l.map byteV)) (hn : l.length = n) (hc : n ≤ cp) (h0 : 0 ≤ lo) (h1 : lo ≤ hi) (h2 : hi ≤ n)
    (k : ∀ A2 c2 r, r = (l.take hi.toNat).drop lo.toNat → (∀ H, RdA c H A2 (r.map byteV)) → r.length ≤ c2 → K (.slice A2 r.length c2)) : SlcV c H A n cp lo (some hi) 1 K := by
  refine ⟨h0, by simpa using h1, fun h' e _ _ => by cases e; omega, ?_⟩
  have hl : ((l.take hi.toNat).drop lo.toNat).length = hi.toNat - lo.toNat := by rw [List.length_drop, List.length_take]; omega
  have := k (if (cp : Int) = lo then A else A.map (·.add (lo.toNat * 1))) (cp - lo.toNat) _ rfl (fun H => ⟨by
    have hp := RdS.piece (cp := cp) (sz := 1) (lo := lo) ((hR H).ok.take hi.toNat) h0 (fun e => by rw [List.length_take, List.length_map]; omega)
    rw [Nat.mul_one, ← List.map_take, ← List.map_drop] at hp
    rw [Nat.mul_one]
    exact hp⟩) (by rw [hl]; omega)
  rw [hl] at this
  exact this
theorem SlcV.fromR {A : Option Addr} {n cp : Nat} {lo : Int} {l : List UInt8} {K : Value → Prop} (hR : ∀ H, RdA c H A (l.map byteV)) (hn : l.length = n) (hc : n ≤ cp) (h0 : 0 ≤ lo) (h1 : lo ≤ n)
    (k : ∀ A2 c2 r, r = l.drop lo.toNat → (∀ H, RdA c H A2 (r.map byteV)) → r.length ≤ c2 → K (.slice A2 r.length c2)) : SlcV c H A n cp lo none 1 K := by
  refine SlcV.from h0 h1 ?_
  have hl : (l.drop lo.toNat).length = n - lo.toNat := by rw [List.length_drop]; omega
  have := k (if (cp : Int) = lo then A else A.map (·.add (lo.toNat * 1))) (cp - lo.toNat) _ rfl (fun H => ⟨by
    have hp := RdS.piece (cp := cp) (sz := 1) (lo := lo) (hR H).ok h0 (fun e => by rw [List.length_map]; omega)
    rw [Nat.mul_one, ← List.map_drop] at hp
    rw [Nat.mul_one]
    exact hp⟩) (by rw [hl]; omega)
  rw [hl] at this
  exact this
end
/-- A reader. -/
structure RSt where
  st : Int
  fs : List Fld
  l : List UInt8
  c : Bool
  u : Nat
  e : Int
structure RMem where
  fA : Option Addr
  fc : Nat
  oA : Option Addr
  oc : Nat
def rHeap (x : Nat) (BA : Option Addr) (n Bc : Nat) (s : RSt) (y : RMem) (X : Hp) : Hp :=
  .box x [.int .i64 s.st, .slice y.fA s.fs.length y.fc, .slice y.oA s.l.length y.oc, .bool s.c, .slice BA n Bc, .int .i64 (s.u : Nat), .int .i64 s.e] 112 ::
  .row (.slice y.fA s.fs.length y.fc) 41 2 s.fs.length (fcells s.fs) :: .row (.slice y.oA s.l.length y.oc) 5 1 s.l.length (s.l.map byteV) :: X
theorem rfail_k {c : Ctx} (hc : Ours Tryz.prog gI c) {x : Nat} {BA : Option Addr} {n Bc : Nat} {s : RSt} {y : RMem} {X : Hp} {K : Value → Hp → Prop} (e : Int) (h0 : s.e = 0)
    (k : ∀ v, K v (rHeap x BA n Bc { s with e := e } y X)) : CallK c false 88 [.pointer (some ⟨x, 0, none⟩), .int .i64 e] (rHeap x BA n Bc s y X) K := by
  obtain ⟨P, g, w0, M, hM, hG⟩ := c
  obtain ⟨rfl, rfl⟩ := hc
  obtain ⟨st, fs, l, cl, u, e0⟩ := s
  obtain ⟨fA, fc, oA, oc⟩ := y
  dsimp only at h0
  subst h0
  unfold rHeap at k ⊢
  dsimp only at k ⊢
  refine CallK.post ?_
  refine CallK.inl tys_ok Tryz.func88 rfl (by kernel_rfl) rfl rfl ?_
  (conv => whnf); repeat ((first | refine tk1 ?_ | refine tk2 ?_ | refine tk3 ?_ | refine tk12 (fun _ => ?_) | refine tk4 ?_ | refine tk5 ?_ | refine tk6 ?_ | refine tk7 ?_ | refine tk8 ?_ | refine tk9 ?_ | refine tk10 (fun _ _ => ?_) | refine tk11 (fun _ => ?_) | refine tk13 ?_ | refine tk14 ?_); (conv => whnf))
  exact ⟨_, Into.refl, k _⟩
theorem rline_k {c : Ctx} (hc : Ours Tryz.prog gI c) {x : Nat} {BA : Option Addr} {Bc : Nat} {b : List UInt8} {s : RSt} {y : RMem} {X : Hp} {K : Value → Hp → Prop} (hR : ∀ H, RdA c H BA (b.map byteV)) (hb : b.length ≤ 100000000) (hcp : b.length ≤ Bc)
    (hu : s.u ≤ b.length) (h0 : s.e = 0)
    (k : K (str (lineP (b.drop s.u)).s) (rHeap x BA b.length Bc { s with u := s.u + (lineP (b.drop s.u)).n, e := (lineP (b.drop s.u)).e } y X)) : CallK c false 85 [.pointer (some ⟨x, 0, none⟩)] (rHeap x BA b.length Bc s y X) K := by
  obtain ⟨P, g, w0, M, hM, hG⟩ := c
  have hc' := hc
  obtain ⟨rfl, rfl⟩ := hc
  obtain ⟨st, fs, l, cl, u, e0⟩ := s
  obtain ⟨fA, fc, oA, oc⟩ := y
  dsimp only at h0 hu
  subst h0
  dsimp only at k
  refine CallK.post ?_
  unfold rHeap at k ⊢
  dsimp only at k ⊢
  refine CallK.inl tys_ok Tryz.func85 rfl (by kernel_rfl) rfl rfl ?_
  (conv => whnf); repeat ((first | refine tk1 ?_ | refine tk2 ?_ | refine tk3 ?_ | refine tk12 (fun _ => ?_) | refine tk4 ?_ | refine tk5 ?_ | refine tk6 ?_ | refine tk7 ?_ | refine tk8 ?_ | refine tk9 ?_ | refine tk10 (fun _ _ => ?_) | refine tk11 (fun _ => ?_) | refine tk13 ?_ | refine tk14 ?_); (conv => whnf))
  refine DrawS.go (qs 10) tys_ok mixed (by kernel_rfl) ?_
  (conv => whnf); repeat ((first | refine tk1 ?_ | refine tk2 ?_ | refine tk3 ?_ | refine tk12 (fun _ => ?_) | refine tk4 ?_ | refine tk5 ?_ | refine tk6 ?_ | refine tk7 ?_ | refine tk8 ?_ | refine tk9 ?_ | refine tk10 (fun _ _ => ?_) | refine tk11 (fun _ => ?_) | refine tk13 ?_ | refine tk14 ?_); (conv => whnf))
  refine SlcV.fromR hR rfl hcp (by omega) (by omega) (fun A2 c2 r hr hR2 hc2 => ?_)
  rw [Int.toNat_natCast] at hr
  subst hr
  generalize b.drop u = r at *
  (conv => whnf); repeat ((first | refine tk1 ?_ | refine tk2 ?_ | refine tk3 ?_ | refine tk12 (fun _ => ?_) | refine tk4 ?_ | refine tk5 ?_ | refine tk6 ?_ | refine tk7 ?_ | refine tk8 ?_ | refine tk9 ?_ | refine tk10 (fun _ _ => ?_) | refine tk11 (fun _ => ?_) | refine tk13 ?_ | refine tk14 ?_); (conv => whnf))
  refine OthP.min2 (min (r.length : Int) 4098) rfl rfl rfl ?_
  (conv => whnf); repeat ((first | refine tk1 ?_ | refine tk2 ?_ | refine tk3 ?_ | refine tk12 (fun _ => ?_) | refine tk4 ?_ | refine tk5 ?_ | refine tk6 ?_ | refine tk7 ?_ | refine tk8 ?_ | refine tk9 ?_ | refine tk10 (fun _ _ => ?_) | refine tk11 (fun _ => ?_) | refine tk13 ?_ | refine tk14 ?_); (conv => whnf))
  refine SlcV.sub hR2 rfl hc2 (by omega) (by omega) (by omega) (fun A3 c3 q hq hR3 hc3 => ?_)
  have hq : q = r.take 4098 := by
    rw [hq, Int.toNat_zero, List.drop_zero]
    rcases Nat.le_total r.length 4098 with h | h
    · rw [List.take_of_length_le (by omega), List.take_of_length_le h]
    · rw [show (min (r.length : Int) 4098).toNat = 4098 by omega]
  have hql : q.length ≤ 4098 ∧ q.length ≤ r.length := by rw [hq, List.length_take]; omega
  have hL : lineP r = match cutR q with | some s => ⟨s, s.length + 2, 0⟩ | none => ⟨[], 0, noLine r⟩ := by unfold lineP; rw [hq]; cases cutR (r.take 4098) <;> rfl
  clear hq
  rw [hL] at k
  clear hL
  (conv => whnf); repeat ((first | refine tk1 ?_ | refine tk2 ?_ | refine tk3 ?_ | refine tk12 (fun _ => ?_) | refine tk4 ?_ | refine tk5 ?_ | refine tk6 ?_ | refine tk7 ?_ | refine tk8 ?_ | refine tk9 ?_ | refine tk10 (fun _ _ => ?_) | refine tk11 (fun _ => ?_) | refine tk13 ?_ | refine tk14 ?_); (conv => whnf))
  rename_i b2
  refine Oth.same tys_ok rfl rfl rfl (fun o2 ho2 => ?_)
  have hR4 : ∀ H, RdA (⟨Tryz.prog, g, w0, M, hM, hG⟩ : Ctx) (.obj b2 o2 :: H) (some ⟨b2, 0, none⟩) _ := ho2.rd
  (conv => whnf); repeat ((first | refine tk1 ?_ | refine tk2 ?_ | refine tk3 ?_ | refine tk12 (fun _ => ?_) | refine tk4 ?_ | refine tk5 ?_ | refine tk6 ?_ | refine tk7 ?_ | refine tk8 ?_ | refine tk9 ?_ | refine tk10 (fun _ _ => ?_) | refine tk11 (fun _ => ?_) | refine tk13 ?_ | refine tk14 ?_); (conv => whnf))
  refine CallK.fnEV (BCut_f A3 (some ⟨b2, 0, none⟩) c3 _ q (by omega)) (fun w1 hw1 => ⟨⟨(hR3 _).ok w1 hw1, RdA.ok (xs := [byteV 13, byteV 10]) w1 hw1, trivial⟩, hc3⟩) ?_
  have hi := index_cutR q
  generalize Lib.index q [13, 10] = i at *
  cases hc : cutR q with
  | none =>
    rw [hc] at k hi
    have hi : i = -1 := hi
    subst hi
    unfold Lib.cutV
    rw [if_neg (by omega)]
    have hfail : ∀ (e : Int) (K' : Value → Hp → Prop), (∀ v, K' v (rHeap x BA b.length Bc ⟨st, fs, l, cl, u, e⟩ ⟨fA, fc, oA, oc⟩ X)) → CallK (⟨Tryz.prog, g, w0, M, hM, hG⟩ : Ctx) false 88 [.pointer (some ⟨x, 0, none⟩), .int .i64 e]
        (.obj b2 o2 :: .box x [.int .i64 st, .slice fA fs.length fc, .slice oA l.length oc, .bool cl, .slice BA b.length Bc, .int .i64 (u : Nat), .int .i64 0] 112 :: .row (.slice fA fs.length fc) 41 2 fs.length (fcells fs) :: .row (.slice oA l.length oc) 5 1 l.length (l.map byteV) :: X) K' := fun e K' hk => by
      refine CallK.into (G := rHeap x BA b.length Bc ⟨st, fs, l, cl, u, 0⟩ ⟨fA, fc, oA, oc⟩ X) (by unfold rHeap; exact Cv.into (by (try dsimp only); repeat' (first | with_reducible exact Cv.refl | with_reducible exact Cv.left | with_reducible exact Cv.right | with_reducible exact Cv.nil | (with_reducible apply Cv.cons; focus ((repeat (first | with_reducible exact Pick.here | with_reducible apply Pick.skip)); done)) | (apply Cv.cons; focus ((repeat (first | exact Pick.here | apply Pick.skip)); done)) | exact Cv.nil | exact Cv.refl | exact Cv.left | exact Cv.right | refine Cv.skip ?_))) ?_
      exact rfail_k hc' e rfl hk
    rcases (show r.length ≤ 4096 ∨ r.length = 4097 ∨ 4097 < r.length by omega) with h | h | h
    · have hn : noLine r = 10 := by unfold noLine; rw [if_neg (by omega)]
      rw [hn] at k
      (conv => whnf); repeat ((first | refine tk1 ?_ | refine tk2 ?_ | refine tk3 ?_ | refine tk12 (fun _ => ?_) | refine tk4 ?_ | refine tk5 ?_ | refine tk6 ?_ | refine tk7 ?_ | refine tk8 ?_ | refine tk9 ?_ | refine tk10 (fun _ _ => ?_) | refine tk11 (fun _ => ?_) | refine tk13 ?_ | refine tk14 ?_); (conv => whnf))
      refine hfail 10 _ (fun v => ?_)
      unfold rHeap
      (conv => whnf); repeat ((first | refine tk1 ?_ | refine tk2 ?_ | refine tk3 ?_ | refine tk12 (fun _ => ?_) | refine tk4 ?_ | refine tk5 ?_ | refine tk6 ?_ | refine tk7 ?_ | refine tk8 ?_ | refine tk9 ?_ | refine tk10 (fun _ _ => ?_) | refine tk11 (fun _ => ?_) | refine tk13 ?_ | refine tk14 ?_); (conv => whnf))
      exact ⟨_, Into.refl, k⟩
    · have hx4 : 4096 < r.length := by omega
      have hxr : r[4096]? = some r[4096] := List.getElem?_eq_getElem hx4
      have hcell : (r.map byteV)[4096]? = some (.int .u8 r[4096].toNat) := by rw [List.getElem?_map, hxr]; rfl
      generalize r[4096] = x4 at *
      by_cases h13 : x4.toNat = 13
      · have hn : noLine r = 10 := by
          unfold noLine
          rw [if_neg (fun hh => hh.2 ⟨h, by rw [hxr, show x4 = 13 from UInt8.toNat_inj.1 h13]⟩)]
        rw [hn] at k
        (conv => whnf); repeat ((first | refine tk1 ?_ | refine tk2 ?_ | refine tk3 ?_ | refine tk12 (fun _ => ?_) | refine tk4 ?_ | refine tk5 ?_ | refine tk6 ?_ | refine tk7 ?_ | refine tk8 ?_ | refine tk9 ?_ | refine tk10 (fun _ _ => ?_) | refine tk11 (fun _ => ?_) | refine tk13 ?_ | refine tk14 ?_); (conv => whnf))
        refine IdxA.tc (xs := r.map byteV) (by rw [List.length_map]; omega) (by omega) (by omega) ?_
        (conv => whnf); repeat ((first | refine tk1 ?_ | refine tk2 ?_ | refine tk3 ?_ | refine tk12 (fun _ => ?_) | refine tk4 ?_ | refine tk5 ?_ | refine tk6 ?_ | refine tk7 ?_ | refine tk8 ?_ | refine tk9 ?_ | refine tk10 (fun _ _ => ?_) | refine tk11 (fun _ => ?_) | refine tk13 ?_ | refine tk14 ?_); (conv => whnf))
        refine Ld.ta (xs := r.map byteV) (v := .int .u8 x4.toNat) hcell ?_
        (conv => whnf); repeat ((first | refine tk1 ?_ | refine tk2 ?_ | refine tk3 ?_ | refine tk12 (fun _ => ?_) | refine tk4 ?_ | refine tk5 ?_ | refine tk6 ?_ | refine tk7 ?_ | refine tk8 ?_ | refine tk9 ?_ | refine tk10 (fun _ _ => ?_) | refine tk11 (fun _ => ?_) | refine tk13 ?_ | refine tk14 ?_); (conv => whnf))
        refine hfail 10 _ (fun v => ?_)
        unfold rHeap
        (conv => whnf); repeat ((first | refine tk1 ?_ | refine tk2 ?_ | refine tk3 ?_ | refine tk12 (fun _ => ?_) | refine tk4 ?_ | refine tk5 ?_ | refine tk6 ?_ | refine tk7 ?_ | refine tk8 ?_ | refine tk9 ?_ | refine tk10 (fun _ _ => ?_) | refine tk11 (fun _ => ?_) | refine tk13 ?_ | refine tk14 ?_); (conv => whnf))
        exact ⟨_, Into.refl, k⟩
      · have hn : noLine r = 3 := by
          unfold noLine
          rw [if_pos ⟨by omega, fun hh => h13 (by rw [hxr] at hh; rw [Option.some.inj hh.2]; rfl)⟩]
        rw [hn] at k
        (conv => whnf); repeat ((first | refine tk1 ?_ | refine tk2 ?_ | refine tk3 ?_ | refine tk12 (fun _ => ?_) | refine tk4 ?_ | refine tk5 ?_ | refine tk6 ?_ | refine tk7 ?_ | refine tk8 ?_ | refine tk9 ?_ | refine tk10 (fun _ _ => ?_) | refine tk11 (fun _ => ?_) | refine tk13 ?_ | refine tk14 ?_); (conv => whnf))
        refine IdxA.tc (xs := r.map byteV) (by rw [List.length_map]; omega) (by omega) (by omega) ?_
        (conv => whnf); repeat ((first | refine tk1 ?_ | refine tk2 ?_ | refine tk3 ?_ | refine tk12 (fun _ => ?_) | refine tk4 ?_ | refine tk5 ?_ | refine tk6 ?_ | refine tk7 ?_ | refine tk8 ?_ | refine tk9 ?_ | refine tk10 (fun _ _ => ?_) | refine tk11 (fun _ => ?_) | refine tk13 ?_ | refine tk14 ?_); (conv => whnf))
        refine Ld.ta (xs := r.map byteV) (v := .int .u8 x4.toNat) hcell ?_
        (conv => whnf); repeat ((first | refine tk1 ?_ | refine tk2 ?_ | refine tk3 ?_ | refine tk12 (fun _ => ?_) | refine tk4 ?_ | refine tk5 ?_ | refine tk6 ?_ | refine tk7 ?_ | refine tk8 ?_ | refine tk9 ?_ | refine tk10 (fun _ _ => ?_) | refine tk11 (fun _ => ?_) | refine tk13 ?_ | refine tk14 ?_); (conv => whnf))
        refine hfail 3 _ (fun v => ?_)
        unfold rHeap
        (conv => whnf); repeat ((first | refine tk1 ?_ | refine tk2 ?_ | refine tk3 ?_ | refine tk12 (fun _ => ?_) | refine tk4 ?_ | refine tk5 ?_ | refine tk6 ?_ | refine tk7 ?_ | refine tk8 ?_ | refine tk9 ?_ | refine tk10 (fun _ _ => ?_) | refine tk11 (fun _ => ?_) | refine tk13 ?_ | refine tk14 ?_); (conv => whnf))
        exact ⟨_, Into.refl, k⟩
    · have hn : noLine r = 3 := by unfold noLine; rw [if_pos ⟨by omega, by omega⟩]
      rw [hn] at k
      (conv => whnf); repeat ((first | refine tk1 ?_ | refine tk2 ?_ | refine tk3 ?_ | refine tk12 (fun _ => ?_) | refine tk4 ?_ | refine tk5 ?_ | refine tk6 ?_ | refine tk7 ?_ | refine tk8 ?_ | refine tk9 ?_ | refine tk10 (fun _ _ => ?_) | refine tk11 (fun _ => ?_) | refine tk13 ?_ | refine tk14 ?_); (conv => whnf))
      refine hfail 3 _ (fun v => ?_)
      unfold rHeap
      (conv => whnf); repeat ((first | refine tk1 ?_ | refine tk2 ?_ | refine tk3 ?_ | refine tk12 (fun _ => ?_) | refine tk4 ?_ | refine tk5 ?_ | refine tk6 ?_ | refine tk7 ?_ | refine tk8 ?_ | refine tk9 ?_ | refine tk10 (fun _ _ => ?_) | refine tk11 (fun _ => ?_) | refine tk13 ?_ | refine tk14 ?_); (conv => whnf))
      exact ⟨_, Into.refl, k⟩
  | some s =>
    rw [hc] at k hi
    have hi : i = (s.length : Int) := hi
    subst hi
    have hs := cutR_len q s hc
    unfold Lib.cutV
    rw [if_pos (by omega)]
    dsimp only at k
    rw [show ((s.length : Nat) : Int).toNat = s.length by omega]
    (conv => whnf); repeat ((first | refine tk1 ?_ | refine tk2 ?_ | refine tk3 ?_ | refine tk12 (fun _ => ?_) | refine tk4 ?_ | refine tk5 ?_ | refine tk6 ?_ | refine tk7 ?_ | refine tk8 ?_ | refine tk9 ?_ | refine tk10 (fun _ _ => ?_) | refine tk11 (fun _ => ?_) | refine tk13 ?_ | refine tk14 ?_); (conv => whnf))
    refine B2S.rd (l := s) (by rw [← hs.2, List.map_take]; exact (hR3 _).ok.take _) rfl ?_
    (conv => whnf); repeat ((first | refine tk1 ?_ | refine tk2 ?_ | refine tk3 ?_ | refine tk12 (fun _ => ?_) | refine tk4 ?_ | refine tk5 ?_ | refine tk6 ?_ | refine tk7 ?_ | refine tk8 ?_ | refine tk9 ?_ | refine tk10 (fun _ _ => ?_) | refine tk11 (fun _ => ?_) | refine tk13 ?_ | refine tk14 ?_); (conv => whnf))
    rw [show ((u + (s.length + 2) : Nat) : Int) = (u : Int) + ((s.length : Int) + 2) by omega] at k
    exact ⟨_, Cv.into (by (try dsimp only); repeat' (first | with_reducible exact Cv.refl | with_reducible exact Cv.left | with_reducible exact Cv.right | with_reducible exact Cv.nil | (with_reducible apply Cv.cons; focus ((repeat (first | with_reducible exact Pick.here | with_reducible apply Pick.skip)); done)) | (apply Cv.cons; focus ((repeat (first | exact Pick.here | apply Pick.skip)); done)) | exact Cv.nil | exact Cv.refl | exact Cv.left | exact Cv.right | refine Cv.skip ?_)), k⟩
/-- The first line. -/
theorem rstatus_k {c : Ctx} (hc : Ours Tryz.prog gI c) {x : Nat} {BA : Option Addr} {Bc : Nat} {b : List UInt8} {s : RSt} {y : RMem} {X : Hp} {K : Value → Hp → Prop} (hR : ∀ H, RdA c H BA (b.map byteV)) (hb : b.length ≤ 100000000) (hcp : b.length ≤ Bc)
    (hu : s.u ≤ b.length) (h0 : s.e = 0)
    (k1 : (lineP (b.drop s.u)).e ≠ 0 → ∀ v, K v (rHeap x BA b.length Bc { s with u := s.u + (lineP (b.drop s.u)).n, e := (lineP (b.drop s.u)).e } y X))
    (k2 : (lineP (b.drop s.u)).e = 0 → stE (lineP (b.drop s.u)).s ≠ 0 → ∀ v n, K v (rHeap x BA b.length Bc { s with st := n, u := s.u + (lineP (b.drop s.u)).n, e := 3 } y X))
    (k3 : (lineP (b.drop s.u)).e = 0 → stE (lineP (b.drop s.u)).s = 0 → ∀ v, K v (rHeap x BA b.length Bc { s with st := stNum (lineP (b.drop s.u)).s, u := s.u + (lineP (b.drop s.u)).n, e := 0 } y X)) :
    CallK c false 56 [.pointer (some ⟨x, 0, none⟩)] (rHeap x BA b.length Bc s y X) K := by
  obtain ⟨P, g, w0, M, hM, hG⟩ := c
  have hc' := hc
  obtain ⟨rfl, rfl⟩ := hc
  have hline := fun K' => rline_k (x := x) (BA := BA) (Bc := Bc) (b := b) (s := s) (y := y) (X := X) (K := K') hc' hR hb hcp hu h0
  have hle := lineP_le (b.drop s.u)
  obtain ⟨st, fs, l, cl, u, e0⟩ := s
  obtain ⟨fA, fc, oA, oc⟩ := y
  dsimp only at h0 hu k1 k2 k3 hline hle
  subst h0
  generalize lineP (b.drop u) = L at *
  obtain ⟨Ls, Ln, Le⟩ := L
  dsimp only at k1 k2 k3 hline hle
  have hfail : ∀ (z e : Int) (K' : Value → Hp → Prop), (∀ v, K' v (rHeap x BA b.length Bc ⟨z, fs, l, cl, u + Ln, e⟩ ⟨fA, fc, oA, oc⟩ X)) → CallK (⟨Tryz.prog, g, w0, M, hM, hG⟩ : Ctx) false 88 [.pointer (some ⟨x, 0, none⟩), .int .i64 e]
      (rHeap x BA b.length Bc ⟨z, fs, l, cl, u + Ln, 0⟩ ⟨fA, fc, oA, oc⟩ X) K' := fun z e K' hk => rfail_k hc' e rfl hk
  unfold rHeap at *
  dsimp only at *
  refine CallK.post ?_
  refine CallK.inl tys_ok Tryz.func56 rfl (by kernel_rfl) rfl rfl ?_
  (conv => whnf); repeat ((first | refine tk1 ?_ | refine tk2 ?_ | refine tk3 ?_ | refine tk12 (fun _ => ?_) | refine tk4 ?_ | refine tk5 ?_ | refine tk6 ?_ | refine tk7 ?_ | refine tk8 ?_ | refine tk9 ?_ | refine tk10 (fun _ _ => ?_) | refine tk11 (fun _ => ?_) | refine tk13 ?_ | refine tk14 ?_); (conv => whnf))
  refine hline _ ?_
  by_cases he : Le = 0
  rotate_left
  · (conv => whnf); repeat ((first | refine tk1 ?_ | refine tk2 ?_ | refine tk3 ?_ | refine tk12 (fun _ => ?_) | refine tk4 ?_ | refine tk5 ?_ | refine tk6 ?_ | refine tk7 ?_ | refine tk8 ?_ | refine tk9 ?_ | refine tk10 (fun _ _ => ?_) | refine tk11 (fun _ => ?_) | refine tk13 ?_ | refine tk14 ?_); (conv => whnf))
    exact ⟨_, Into.refl, k1 he _⟩
  subst he
  (conv => whnf); repeat ((first | refine tk1 ?_ | refine tk2 ?_ | refine tk3 ?_ | refine tk12 (fun _ => ?_) | refine tk4 ?_ | refine tk5 ?_ | refine tk6 ?_ | refine tk7 ?_ | refine tk8 ?_ | refine tk9 ?_ | refine tk10 (fun _ _ => ?_) | refine tk11 (fun _ => ?_) | refine tk13 ?_ | refine tk14 ?_); (conv => whnf))
  refine CallK.fn (CutPrefix_f Ls firstR) ?_
  cases hp : Lib.hasPrefix Ls firstR
  · have hE : stE Ls = 3 := by
      unfold stE stForm
      rw [show firstR.isPrefixOf Ls = Lib.hasPrefix Ls firstR from rfl, hp]
      rfl
    (conv => whnf); repeat ((first | refine tk1 ?_ | refine tk2 ?_ | refine tk3 ?_ | refine tk12 (fun _ => ?_) | refine tk4 ?_ | refine tk5 ?_ | refine tk6 ?_ | refine tk7 ?_ | refine tk8 ?_ | refine tk9 ?_ | refine tk10 (fun _ _ => ?_) | refine tk11 (fun _ => ?_) | refine tk13 ?_ | refine tk14 ?_); (conv => whnf))
    refine hfail _ 3 _ (fun v => ?_)
    (conv => whnf); repeat ((first | refine tk1 ?_ | refine tk2 ?_ | refine tk3 ?_ | refine tk12 (fun _ => ?_) | refine tk4 ?_ | refine tk5 ?_ | refine tk6 ?_ | refine tk7 ?_ | refine tk8 ?_ | refine tk9 ?_ | refine tk10 (fun _ _ => ?_) | refine tk11 (fun _ => ?_) | refine tk13 ?_ | refine tk14 ?_); (conv => whnf))
    exact ⟨_, Into.refl, k2 rfl (by rw [hE]; decide) _ _⟩
  obtain ⟨t, rfl⟩ : ∃ t, Ls = firstR ++ t := by
    have h : firstR.isPrefixOf Ls = true := hp
    rw [List.isPrefixOf_iff_prefix] at h
    obtain ⟨t, ht⟩ := h
    exact ⟨t, ht.symm⟩
  have ht : Lib.trimPrefix (firstR ++ t) firstR = t := by
    unfold Lib.trimPrefix
    rw [if_pos hp]
    exact List.drop_left
  rw [ht]
  have hform : stForm (firstR ++ t) = (decide (4 ≤ t.length) && (decide (t[3]? = some 32) && valueOf ([46] ++ t.drop 4 ++ [46]))) := by
    unfold stForm
    rw [show firstR.isPrefixOf (firstR ++ t) = true from hp, Bool.true_and]
    congr 1
    rw [decide_eq_decide, List.length_append, show firstR.length = 9 from rfl]
    omega
  have hnum : stNum (firstR ++ t) = numN (t.take 3) := rfl
  have hgood : stGood (firstR ++ t) = (numOK (t.take 3) && (decide (200 ≤ numN (t.take 3)) && decide (numN (t.take 3) ≤ 599))) := rfl
  rw [hnum] at k3
  by_cases h4 : t.length < 4
  · have hE : stE (firstR ++ t) = 3 := by unfold stE; rw [hform, decide_eq_false (by omega)]; rfl
    (conv => whnf); repeat ((first | refine tk1 ?_ | refine tk2 ?_ | refine tk3 ?_ | refine tk12 (fun _ => ?_) | refine tk4 ?_ | refine tk5 ?_ | refine tk6 ?_ | refine tk7 ?_ | refine tk8 ?_ | refine tk9 ?_ | refine tk10 (fun _ _ => ?_) | refine tk11 (fun _ => ?_) | refine tk13 ?_ | refine tk14 ?_); (conv => whnf))
    refine hfail _ 3 _ (fun v => ?_)
    (conv => whnf); repeat ((first | refine tk1 ?_ | refine tk2 ?_ | refine tk3 ?_ | refine tk12 (fun _ => ?_) | refine tk4 ?_ | refine tk5 ?_ | refine tk6 ?_ | refine tk7 ?_ | refine tk8 ?_ | refine tk9 ?_ | refine tk10 (fun _ _ => ?_) | refine tk11 (fun _ => ?_) | refine tk13 ?_ | refine tk14 ?_); (conv => whnf))
    exact ⟨_, Into.refl, k2 rfl (by rw [hE]; decide) _ _⟩
  have hx3 : t[3]? = some t[3] := List.getElem?_eq_getElem (by omega)
  generalize t[3] = x3 at *
  by_cases h32 : x3.toNat = 32
  rotate_left
  · have hE : stE (firstR ++ t) = 3 := by unfold stE; rw [hform, hx3, decide_eq_false (p := some x3 = some 32) (fun hh => h32 (by rw [Option.some.inj hh]; rfl))]; simp
    (conv => whnf); repeat ((first | refine tk1 ?_ | refine tk2 ?_ | refine tk3 ?_ | refine tk12 (fun _ => ?_) | refine tk4 ?_ | refine tk5 ?_ | refine tk6 ?_ | refine tk7 ?_ | refine tk8 ?_ | refine tk9 ?_ | refine tk10 (fun _ _ => ?_) | refine tk11 (fun _ => ?_) | refine tk13 ?_ | refine tk14 ?_); (conv => whnf))
    refine IdxS.at x3 hx3 (by omega) ?_
    (conv => whnf); repeat ((first | refine tk1 ?_ | refine tk2 ?_ | refine tk3 ?_ | refine tk12 (fun _ => ?_) | refine tk4 ?_ | refine tk5 ?_ | refine tk6 ?_ | refine tk7 ?_ | refine tk8 ?_ | refine tk9 ?_ | refine tk10 (fun _ _ => ?_) | refine tk11 (fun _ => ?_) | refine tk13 ?_ | refine tk14 ?_); (conv => whnf))
    refine hfail _ 3 _ (fun v => ?_)
    (conv => whnf); repeat ((first | refine tk1 ?_ | refine tk2 ?_ | refine tk3 ?_ | refine tk12 (fun _ => ?_) | refine tk4 ?_ | refine tk5 ?_ | refine tk6 ?_ | refine tk7 ?_ | refine tk8 ?_ | refine tk9 ?_ | refine tk10 (fun _ _ => ?_) | refine tk11 (fun _ => ?_) | refine tk13 ?_ | refine tk14 ?_); (conv => whnf))
    exact ⟨_, Into.refl, k2 rfl (by rw [hE]; decide) _ _⟩
  have hx32 : x3 = 32 := UInt8.toNat_inj.1 h32
  (conv => whnf); repeat ((first | refine tk1 ?_ | refine tk2 ?_ | refine tk3 ?_ | refine tk12 (fun _ => ?_) | refine tk4 ?_ | refine tk5 ?_ | refine tk6 ?_ | refine tk7 ?_ | refine tk8 ?_ | refine tk9 ?_ | refine tk10 (fun _ _ => ?_) | refine tk11 (fun _ => ?_) | refine tk13 ?_ | refine tk14 ?_); (conv => whnf))
  refine IdxS.at x3 hx3 (by omega) ?_
  (conv => whnf); repeat ((first | refine tk1 ?_ | refine tk2 ?_ | refine tk3 ?_ | refine tk12 (fun _ => ?_) | refine tk4 ?_ | refine tk5 ?_ | refine tk6 ?_ | refine tk7 ?_ | refine tk8 ?_ | refine tk9 ?_ | refine tk10 (fun _ _ => ?_) | refine tk11 (fun _ => ?_) | refine tk13 ?_ | refine tk14 ?_); (conv => whnf))
  refine SlcS.at (by omega) (by omega) (by omega) ?_
  rw [show (t.take ((t.length : Nat) : Int).toNat).drop (Int.toNat 4) = t.drop 4 by rw [Int.toNat_natCast, List.take_length]; rfl]
  (conv => whnf); repeat ((first | refine tk1 ?_ | refine tk2 ?_ | refine tk3 ?_ | refine tk12 (fun _ => ?_) | refine tk4 ?_ | refine tk5 ?_ | refine tk6 ?_ | refine tk7 ?_ | refine tk8 ?_ | refine tk9 ?_ | refine tk10 (fun _ _ => ?_) | refine tk11 (fun _ => ?_) | refine tk13 ?_ | refine tk14 ?_); (conv => whnf))
  have hd4 : (t.drop 4).length ≤ 5000 := by
    have := hle.1
    rw [List.length_append] at this
    rw [List.length_drop]
    omega
  refine CatS.at (by simp only [List.length_cons, List.length_nil]; omega) ?_
  (conv => whnf); repeat ((first | refine tk1 ?_ | refine tk2 ?_ | refine tk3 ?_ | refine tk12 (fun _ => ?_) | refine tk4 ?_ | refine tk5 ?_ | refine tk6 ?_ | refine tk7 ?_ | refine tk8 ?_ | refine tk9 ?_ | refine tk10 (fun _ _ => ?_) | refine tk11 (fun _ => ?_) | refine tk13 ?_ | refine tk14 ?_); (conv => whnf))
  refine CatS.at (by simp only [List.length_append, List.length_cons, List.length_nil]; omega) ?_
  (conv => whnf); repeat ((first | refine tk1 ?_ | refine tk2 ?_ | refine tk3 ?_ | refine tk12 (fun _ => ?_) | refine tk4 ?_ | refine tk5 ?_ | refine tk6 ?_ | refine tk7 ?_ | refine tk8 ?_ | refine tk9 ?_ | refine tk10 (fun _ _ => ?_) | refine tk11 (fun _ => ?_) | refine tk13 ?_ | refine tk14 ?_); (conv => whnf))
  refine CallK.fn (Value_f ([46] ++ t.drop 4 ++ [46]) (by simp only [List.length_append, List.length_cons, List.length_nil]; omega)) ?_
  cases hv : valueOf ([46] ++ t.drop 4 ++ [46])
  · have hE : stE (firstR ++ t) = 3 := by unfold stE; rw [hform, hv]; simp
    (conv => whnf); repeat ((first | refine tk1 ?_ | refine tk2 ?_ | refine tk3 ?_ | refine tk12 (fun _ => ?_) | refine tk4 ?_ | refine tk5 ?_ | refine tk6 ?_ | refine tk7 ?_ | refine tk8 ?_ | refine tk9 ?_ | refine tk10 (fun _ _ => ?_) | refine tk11 (fun _ => ?_) | refine tk13 ?_ | refine tk14 ?_); (conv => whnf))
    refine hfail _ 3 _ (fun v => ?_)
    (conv => whnf); repeat ((first | refine tk1 ?_ | refine tk2 ?_ | refine tk3 ?_ | refine tk12 (fun _ => ?_) | refine tk4 ?_ | refine tk5 ?_ | refine tk6 ?_ | refine tk7 ?_ | refine tk8 ?_ | refine tk9 ?_ | refine tk10 (fun _ _ => ?_) | refine tk11 (fun _ => ?_) | refine tk13 ?_ | refine tk14 ?_); (conv => whnf))
    exact ⟨_, Into.refl, k2 rfl (by rw [hE]; decide) _ _⟩
  have hF : stForm (firstR ++ t) = true := by rw [hform, hv, hx3, hx32]; simp; omega
  (conv => whnf); repeat ((first | refine tk1 ?_ | refine tk2 ?_ | refine tk3 ?_ | refine tk12 (fun _ => ?_) | refine tk4 ?_ | refine tk5 ?_ | refine tk6 ?_ | refine tk7 ?_ | refine tk8 ?_ | refine tk9 ?_ | refine tk10 (fun _ _ => ?_) | refine tk11 (fun _ => ?_) | refine tk13 ?_ | refine tk14 ?_); (conv => whnf))
  refine SlcS.at (by omega) (by omega) (by omega) ?_
  rw [show (t.take (Int.toNat 3)).drop (Int.toNat 0) = t.take 3 from rfl]
  (conv => whnf); repeat ((first | refine tk1 ?_ | refine tk2 ?_ | refine tk3 ?_ | refine tk12 (fun _ => ?_) | refine tk4 ?_ | refine tk5 ?_ | refine tk6 ?_ | refine tk7 ?_ | refine tk8 ?_ | refine tk9 ?_ | refine tk10 (fun _ _ => ?_) | refine tk11 (fun _ => ?_) | refine tk13 ?_ | refine tk14 ?_); (conv => whnf))
  refine CallK.fn (Number_f (t.take 3) (by rw [List.length_take]; omega)) ?_
  have hnr := numN_range (t.take 3)
  cases hnk : numOK (t.take 3)
  · have hE : stE (firstR ++ t) = 3 := by unfold stE; rw [hF, hgood, hnk]; rfl
    (conv => whnf); repeat ((first | refine tk1 ?_ | refine tk2 ?_ | refine tk3 ?_ | refine tk12 (fun _ => ?_) | refine tk4 ?_ | refine tk5 ?_ | refine tk6 ?_ | refine tk7 ?_ | refine tk8 ?_ | refine tk9 ?_ | refine tk10 (fun _ _ => ?_) | refine tk11 (fun _ => ?_) | refine tk13 ?_ | refine tk14 ?_); (conv => whnf))
    refine hfail _ 3 _ (fun v => ?_)
    (conv => whnf); repeat ((first | refine tk1 ?_ | refine tk2 ?_ | refine tk3 ?_ | refine tk12 (fun _ => ?_) | refine tk4 ?_ | refine tk5 ?_ | refine tk6 ?_ | refine tk7 ?_ | refine tk8 ?_ | refine tk9 ?_ | refine tk10 (fun _ _ => ?_) | refine tk11 (fun _ => ?_) | refine tk13 ?_ | refine tk14 ?_); (conv => whnf))
    exact ⟨_, Into.refl, k2 rfl (by rw [hE]; decide) _ _⟩
  rcases (show numN (t.take 3) < 200 ∨ 599 < numN (t.take 3) ∨ (200 ≤ numN (t.take 3) ∧ numN (t.take 3) ≤ 599) by omega) with h | h | h
  · have hE : stE (firstR ++ t) = 3 := by unfold stE; rw [hF, hgood, hnk, decide_eq_false (p := 200 ≤ numN (t.take 3)) (by omega)]; rfl
    (conv => whnf); repeat ((first | refine tk1 ?_ | refine tk2 ?_ | refine tk3 ?_ | refine tk12 (fun _ => ?_) | refine tk4 ?_ | refine tk5 ?_ | refine tk6 ?_ | refine tk7 ?_ | refine tk8 ?_ | refine tk9 ?_ | refine tk10 (fun _ _ => ?_) | refine tk11 (fun _ => ?_) | refine tk13 ?_ | refine tk14 ?_); (conv => whnf))
    refine hfail _ 3 _ (fun v => ?_)
    (conv => whnf); repeat ((first | refine tk1 ?_ | refine tk2 ?_ | refine tk3 ?_ | refine tk12 (fun _ => ?_) | refine tk4 ?_ | refine tk5 ?_ | refine tk6 ?_ | refine tk7 ?_ | refine tk8 ?_ | refine tk9 ?_ | refine tk10 (fun _ _ => ?_) | refine tk11 (fun _ => ?_) | refine tk13 ?_ | refine tk14 ?_); (conv => whnf))
    exact ⟨_, Into.refl, k2 rfl (by rw [hE]; decide) _ _⟩
  · have hE : stE (firstR ++ t) = 3 := by unfold stE; rw [hF, hgood, hnk, decide_eq_false (p := numN (t.take 3) ≤ 599) (by omega)]; simp
    (conv => whnf); repeat ((first | refine tk1 ?_ | refine tk2 ?_ | refine tk3 ?_ | refine tk12 (fun _ => ?_) | refine tk4 ?_ | refine tk5 ?_ | refine tk6 ?_ | refine tk7 ?_ | refine tk8 ?_ | refine tk9 ?_ | refine tk10 (fun _ _ => ?_) | refine tk11 (fun _ => ?_) | refine tk13 ?_ | refine tk14 ?_); (conv => whnf))
    refine hfail _ 3 _ (fun v => ?_)
    (conv => whnf); repeat ((first | refine tk1 ?_ | refine tk2 ?_ | refine tk3 ?_ | refine tk12 (fun _ => ?_) | refine tk4 ?_ | refine tk5 ?_ | refine tk6 ?_ | refine tk7 ?_ | refine tk8 ?_ | refine tk9 ?_ | refine tk10 (fun _ _ => ?_) | refine tk11 (fun _ => ?_) | refine tk13 ?_ | refine tk14 ?_); (conv => whnf))
    exact ⟨_, Into.refl, k2 rfl (by rw [hE]; decide) _ _⟩
  · have hE : stE (firstR ++ t) = 0 := by unfold stE; rw [hF, hgood, hnk, decide_eq_true h.1, decide_eq_true h.2]; rfl
    (conv => whnf); repeat ((first | refine tk1 ?_ | refine tk2 ?_ | refine tk3 ?_ | refine tk12 (fun _ => ?_) | refine tk4 ?_ | refine tk5 ?_ | refine tk6 ?_ | refine tk7 ?_ | refine tk8 ?_ | refine tk9 ?_ | refine tk10 (fun _ _ => ?_) | refine tk11 (fun _ => ?_) | refine tk13 ?_ | refine tk14 ?_); (conv => whnf))
    exact ⟨_, Into.refl, k3 rfl hE _⟩
end Go.Proofs.YtnaeeklnlddcaaaGreatDoor.Vex
/- The program's reader of replies, reckoned: fields, items. -/
namespace Go.Proofs.YtnaeeklnlddcaaaGreatDoor.Vex
open Go Go.RowKit
set_option maxRecDepth 100000
set_option linter.unusedSectionVars false
variable {gI : GI} [HasMax gI] [HasErr gI]

/-- What fields that are read are. -/
theorem fldsP_ok : ∀ (n : Nat) (b : List UInt8) (u : Nat) (fs : List Fld), fs.length ≤ 100 → (∀ f ∈ fs, fieldOK f.1 f.2 = true) → u ≤ b.length →
    (fldsP n b u fs).fs.length ≤ 100 ∧ (∀ f ∈ (fldsP n b u fs).fs, fieldOK f.1 f.2 = true) ∧ (fldsP n b u fs).u ≤ b.length
  | 0, _, _, _, h, hf, hu => ⟨h, hf, hu⟩
  | n + 1, b, u, fs, h, hf, hu => by
    have hl := lineP_le (b.drop u)
    rw [List.length_drop] at hl
    unfold fldsP
    split
    · exact ⟨h, hf, hu⟩
    split
    · exact ⟨h, hf, by dsimp only; omega⟩
    split
    · exact ⟨h, hf, hu⟩
    · rename_i h3
      rw [not_or] at h3
      have hp : parseOK (lineP (b.drop u)).s = true := by
        have := Classical.not_not.1 h3.1
        unfold parseE at this
        split at this
        · assumption
        · cases this
      refine fldsP_ok n b _ _ (by rw [List.length_append]; simp only [List.length_singleton]; omega) (fun f hm => ?_) (by omega)
      rcases List.mem_append.1 hm with hm | hm
      · exact hf f hm
      · rw [List.mem_singleton.1 hm]
        exact (parse_field hp).1
theorem fsum_ok : ∀ fs : List Fld, (∀ f ∈ fs, fieldOK f.1 f.2 = true) → fsum fs ≤ 8200 * fs.length
  | [], _ => by simp [fsum]
  | f :: r, h => by
    have h1 := fieldOK_parts (h f (List.mem_cons_self ..))
    have ih := fsum_ok r fun g hg => h g (List.mem_cons_of_mem _ hg)
    rw [fsum_cons, List.length_cons]
    omega
structure FdL where
  n : Nat
  fs : List Fld
  u : Nat
  e : Int
  y : RMem
theorem rfields_k {c : Ctx} (hc : Ours Tryz.prog gI c) {x : Nat} {BA : Option Addr} {Bc : Nat} {b : List UInt8} {s : RSt} {y : RMem} {X : Hp} {K : Value → Hp → Prop} (hR : ∀ H, RdA c H BA (b.map byteV)) (hb : b.length ≤ 100000000) (hcp : b.length ≤ Bc)
    (hu : s.u ≤ b.length) (h0 : s.e = 0) (hfs : s.fs = [])
    (k1 : (fldsP (b.length + 1) b s.u []).e ≠ 0 → ∀ v fs u y', K v (rHeap x BA b.length Bc { s with fs := fs, u := u, e := (fldsP (b.length + 1) b s.u []).e } y' X))
    (k2 : (fldsP (b.length + 1) b s.u []).e = 0 → ∀ v y', K v (rHeap x BA b.length Bc { s with fs := (fldsP (b.length + 1) b s.u []).fs, u := (fldsP (b.length + 1) b s.u []).u, e := 0 } y' X)) :
    CallK c false 57 [.pointer (some ⟨x, 0, none⟩)] (rHeap x BA b.length Bc s y X) K := by
  obtain ⟨P, g, w0, M, hM, hG⟩ := c
  have hc' := hc
  obtain ⟨rfl, rfl⟩ := hc
  obtain ⟨st, fs0, l, cl, u0, e0⟩ := s
  dsimp only at h0 hu k1 k2 hfs
  subst h0 hfs
  obtain ⟨T, hT⟩ : ∃ T, fldsP (b.length + 1) b u0 [] = T := ⟨_, rfl⟩
  rw [hT] at k1 k2
  refine CallK.post ?_
  refine CallK.inl tys_ok Tryz.func57 rfl (by kernel_rfl) rfl rfl ?_
  unfold rHeap
  (conv => whnf); repeat ((first | refine tk1 ?_ | refine tk2 ?_ | refine tk3 ?_ | refine tk12 (fun _ => ?_) | refine tk4 ?_ | refine tk5 ?_ | refine tk6 ?_ | refine tk7 ?_ | refine tk8 ?_ | refine tk9 ?_ | refine tk10 (fun _ _ => ?_) | refine tk11 (fun _ => ?_) | refine tk13 ?_ | refine tk14 ?_); (conv => whnf))
  refine LoopS.lpT tys_ok (fun (z : FdL) u => [.pointer (some ⟨x, 0, none⟩), u 1, u 2, u 3, u 4, u 5, u 6, u 7, u 8, u 9, u 10, u 11, u 12, u 13, u 14, u 15, u 16, u 17, u 18, u 19, u 20, u 21, u 22, u 23, u 24, u 25, u 26, u 27, u 28, u 29, u 30, u 31, u 32, u 33, u 34, u 35, u 36, u 37, u 38, u 39, u 40, u 41, u 42, u 43, u 44, u 45, u 46, u 47, u 48, u 49, u 50])
    (fun z => rHeap x BA b.length Bc ⟨st, z.fs, l, cl, z.u, z.e⟩ z.y X)
    (fun z => z.u ≤ b.length ∧ z.fs.length ≤ 101 ∧ ((z.e = 0 ∧ fldsP z.n b z.u z.fs = T ∧ b.length - z.u < z.n ∧ z.fs.length ≤ 100) ∨ (z.e = 3 ∧ T.e = 3))) (fun z => b.length - z.u) ⟨b.length + 1, [], u0, 0, y⟩ ⟨hu, Nat.zero_le _, .inl ⟨rfl, hT, by dsimp only; omega, Nat.zero_le _⟩⟩ rfl (by unfold rHeap; exact Into.refl) ?_
  rintro ⟨n, fs, u, e, fA, fc, oA, oc⟩ v ⟨hu, hf1, hI⟩
  dsimp only at hu hf1 hI ⊢
  rcases hI with ⟨rfl, hI, hn, hf⟩ | ⟨rfl, hI⟩
  rotate_left
  · unfold rHeap
    (conv => whnf); repeat ((first | refine tk1 ?_ | refine tk2 ?_ | refine tk3 ?_ | refine tk12 (fun _ => ?_) | refine tk4 ?_ | refine tk5 ?_ | refine tk6 ?_ | refine tk7 ?_ | refine tk8 ?_ | refine tk9 ?_ | refine tk10 (fun _ _ => ?_) | refine tk11 (fun _ => ?_) | refine tk13 ?_ | refine tk14 ?_); (conv => whnf))
    exact ⟨_, Into.refl, by have := k1 (by rw [hI]; decide) undef fs u ⟨fA, fc, oA, oc⟩; rw [hI] at this; exact this⟩
  have hline := fun K' => rline_k (x := x) (BA := BA) (Bc := Bc) (b := b) (s := ⟨st, fs, l, cl, u, 0⟩) (y := ⟨fA, fc, oA, oc⟩) (X := X) (K := K') hc' hR hb hcp hu rfl
  have hle := lineP_le (b.drop u)
  rw [List.length_drop] at hle
  obtain ⟨m, rfl⟩ : ∃ m, n = m + 1 := ⟨n - 1, by omega⟩
  rw [fldsP] at hI
  dsimp only at hline
  generalize lineP (b.drop u) = L at *
  obtain ⟨Ls, Ln, Le⟩ := L
  dsimp only at hI hle hline
  have hfail : ∀ (e : Int) (X : Hp) (K' : Value → Hp → Prop), (∀ v, K' v (rHeap x BA b.length Bc ⟨st, fs, l, cl, u + Ln, e⟩ ⟨fA, fc, oA, oc⟩ X)) → CallK (⟨Tryz.prog, g, w0, M, hM, hG⟩ : Ctx) false 88 [.pointer (some ⟨x, 0, none⟩), .int .i64 e]
      (rHeap x BA b.length Bc ⟨st, fs, l, cl, u + Ln, 0⟩ ⟨fA, fc, oA, oc⟩ X) K' := fun e X K' hk => rfail_k hc' e rfl hk
  unfold rHeap at k1 k2 hline hfail ⊢
  dsimp only at k1 k2 hline hfail ⊢
  (conv => whnf); repeat ((first | refine tk1 ?_ | refine tk2 ?_ | refine tk3 ?_ | refine tk12 (fun _ => ?_) | refine tk4 ?_ | refine tk5 ?_ | refine tk6 ?_ | refine tk7 ?_ | refine tk8 ?_ | refine tk9 ?_ | refine tk10 (fun _ _ => ?_) | refine tk11 (fun _ => ?_) | refine tk13 ?_ | refine tk14 ?_); (conv => whnf))
  refine hline _ ?_
  by_cases he : Le = 0
  rotate_left
  · rw [if_pos he] at hI
    subst hI
    (conv => whnf); repeat ((first | refine tk1 ?_ | refine tk2 ?_ | refine tk3 ?_ | refine tk12 (fun _ => ?_) | refine tk4 ?_ | refine tk5 ?_ | refine tk6 ?_ | refine tk7 ?_ | refine tk8 ?_ | refine tk9 ?_ | refine tk10 (fun _ _ => ?_) | refine tk11 (fun _ => ?_) | refine tk13 ?_ | refine tk14 ?_); (conv => whnf))
    exact ⟨_, Into.refl, k1 he _ fs (u + Ln) ⟨fA, fc, oA, oc⟩⟩
  subst he
  rw [if_neg (by simp)] at hI
  have hLn := hle.2.2.1 rfl
  by_cases hz : Ls = []
  · rw [if_pos hz] at hI
    subst hI hz
    (conv => whnf); repeat ((first | refine tk1 ?_ | refine tk2 ?_ | refine tk3 ?_ | refine tk12 (fun _ => ?_) | refine tk4 ?_ | refine tk5 ?_ | refine tk6 ?_ | refine tk7 ?_ | refine tk8 ?_ | refine tk9 ?_ | refine tk10 (fun _ _ => ?_) | refine tk11 (fun _ => ?_) | refine tk13 ?_ | refine tk14 ?_); (conv => whnf))
    exact ⟨_, Into.refl, k2 rfl _ ⟨fA, fc, oA, oc⟩⟩
  rw [if_neg hz] at hI
  have hz2 : 0 < Ls.length := List.length_pos_iff.2 hz
  (conv => whnf); repeat ((first | refine tk1 ?_ | refine tk2 ?_ | refine tk3 ?_ | refine tk12 (fun _ => ?_) | refine tk4 ?_ | refine tk5 ?_ | refine tk6 ?_ | refine tk7 ?_ | refine tk8 ?_ | refine tk9 ?_ | refine tk10 (fun _ _ => ?_) | refine tk11 (fun _ => ?_) | refine tk13 ?_ | refine tk14 ?_); (conv => whnf))
  refine CallK.fn (Parse_f Ls (by omega)) ?_
  have hpe : parseE Ls = 0 ∨ parseE Ls = 3 := by unfold parseE; split; exact .inl rfl; exact .inr rfl
  (conv => whnf); repeat ((first | refine tk1 ?_ | refine tk2 ?_ | refine tk3 ?_ | refine tk12 (fun _ => ?_) | refine tk4 ?_ | refine tk5 ?_ | refine tk6 ?_ | refine tk7 ?_ | refine tk8 ?_ | refine tk9 ?_ | refine tk10 (fun _ _ => ?_) | refine tk11 (fun _ => ?_) | refine tk13 ?_ | refine tk14 ?_); (conv => whnf))
  rename_i bx
  by_cases hbad : parseE Ls ≠ 0 ∨ fs.length = 100
  · rw [if_pos hbad] at hI
    have hT3 : T.e = 3 := by rw [← hI]
    rcases (show parseE Ls = 3 ∨ (parseE Ls = 0 ∧ fs.length = 100) by omega) with h | ⟨h, h2⟩
    all_goals
      rw [h]
      (conv => whnf); repeat ((first | refine tk1 ?_ | refine tk2 ?_ | refine tk3 ?_ | refine tk12 (fun _ => ?_) | refine tk4 ?_ | refine tk5 ?_ | refine tk6 ?_ | refine tk7 ?_ | refine tk8 ?_ | refine tk9 ?_ | refine tk10 (fun _ _ => ?_) | refine tk11 (fun _ => ?_) | refine tk13 ?_ | refine tk14 ?_); (conv => whnf))
      refine CallK.into (G := .box x [.int .i64 st, .slice fA fs.length fc, .slice oA l.length oc, .bool cl, .slice BA b.length Bc, .int .i64 ((u + Ln : Nat) : Int), .int .i64 0] 112 :: .row (.slice fA fs.length fc) 41 2 fs.length (fcells fs) :: .row (.slice oA l.length oc) 5 1 l.length (l.map byteV) :: (.box bx [str (parseN Ls), str (parseV Ls)] 41 :: X)) (Cv.into (by (try dsimp only); repeat' (first | with_reducible exact Cv.refl | with_reducible exact Cv.left | with_reducible exact Cv.right | with_reducible exact Cv.nil | (with_reducible apply Cv.cons; focus ((repeat (first | with_reducible exact Pick.here | with_reducible apply Pick.skip)); done)) | (apply Cv.cons; focus ((repeat (first | exact Pick.here | apply Pick.skip)); done)) | exact Cv.nil | exact Cv.refl | exact Cv.left | exact Cv.right | refine Cv.skip ?_))) ?_
      refine hfail 3 _ _ (fun v => ?_)
      (conv => whnf); repeat ((first | refine tk1 ?_ | refine tk2 ?_ | refine tk3 ?_ | refine tk12 (fun _ => ?_) | refine tk4 ?_ | refine tk5 ?_ | refine tk6 ?_ | refine tk7 ?_ | refine tk8 ?_ | refine tk9 ?_ | refine tk10 (fun _ _ => ?_) | refine tk11 (fun _ => ?_) | refine tk13 ?_ | refine tk14 ?_); (conv => whnf))
      refine DrawS.go [(0, true), (1, true), (2, true), (3, true), (4, true), (5, true), (6, true), (7, false), (8, false), (9, true), (10, true), (11, true), (12, false)] tys_ok mixed (by kernel_rfl) ?_
      (conv => whnf); repeat ((first | refine tk1 ?_ | refine tk2 ?_ | refine tk3 ?_ | refine tk12 (fun _ => ?_) | refine tk4 ?_ | refine tk5 ?_ | refine tk6 ?_ | refine tk7 ?_ | refine tk8 ?_ | refine tk9 ?_ | refine tk10 (fun _ _ => ?_) | refine tk11 (fun _ => ?_) | refine tk13 ?_ | refine tk14 ?_); (conv => whnf))
      refine AppS.tc (m := 1) (news := [str (parseN Ls), str (parseV Ls)]) SrcK.tc rfl (by simp [Value.oneCell']) (by decide) (by omega) (by omega) (zs := fcells (fs ++ [(parseN Ls, parseV Ls)])) (by rw [fcells_app]; rfl) (fun fA' fc' => ?_)
      rw [show fs.length + 1 = (fs ++ [(parseN Ls, parseV Ls)]).length by simp]
      (conv => whnf); repeat ((first | refine tk1 ?_ | refine tk2 ?_ | refine tk3 ?_ | refine tk12 (fun _ => ?_) | refine tk4 ?_ | refine tk5 ?_ | refine tk6 ?_ | refine tk7 ?_ | refine tk8 ?_ | refine tk9 ?_ | refine tk10 (fun _ _ => ?_) | refine tk11 (fun _ => ?_) | refine tk13 ?_ | refine tk14 ?_); (conv => whnf))
      refine ⟨⟨m, fs ++ [(parseN Ls, parseV Ls)], u + Ln, 3, fA', fc', oA, oc⟩, ⟨by dsimp only; omega, by dsimp only; rw [List.length_append]; simp only [List.length_singleton]; omega, .inr ⟨rfl, hT3⟩⟩, rfl, ?_, by dsimp only; omega⟩
      exact Cv.into (by (try dsimp only); repeat' (first | with_reducible exact Cv.refl | with_reducible exact Cv.left | with_reducible exact Cv.right | with_reducible exact Cv.nil | (with_reducible apply Cv.cons; focus ((repeat (first | with_reducible exact Pick.here | with_reducible apply Pick.skip)); done)) | (apply Cv.cons; focus ((repeat (first | exact Pick.here | apply Pick.skip)); done)) | exact Cv.nil | exact Cv.refl | exact Cv.left | exact Cv.right | refine Cv.skip ?_))
  rw [if_neg hbad] at hI
  rw [not_or, Classical.not_not] at hbad
  rw [hbad.1]
  (conv => whnf); repeat ((first | refine tk1 ?_ | refine tk2 ?_ | refine tk3 ?_ | refine tk12 (fun _ => ?_) | refine tk4 ?_ | refine tk5 ?_ | refine tk6 ?_ | refine tk7 ?_ | refine tk8 ?_ | refine tk9 ?_ | refine tk10 (fun _ _ => ?_) | refine tk11 (fun _ => ?_) | refine tk13 ?_ | refine tk14 ?_); (conv => whnf))
  refine DrawS.go [(0, true), (1, true), (2, true), (3, true), (4, true), (5, true), (6, true), (7, false), (8, false), (9, true), (10, true), (11, true), (12, false)] tys_ok mixed (by kernel_rfl) ?_
  (conv => whnf); repeat ((first | refine tk1 ?_ | refine tk2 ?_ | refine tk3 ?_ | refine tk12 (fun _ => ?_) | refine tk4 ?_ | refine tk5 ?_ | refine tk6 ?_ | refine tk7 ?_ | refine tk8 ?_ | refine tk9 ?_ | refine tk10 (fun _ _ => ?_) | refine tk11 (fun _ => ?_) | refine tk13 ?_ | refine tk14 ?_); (conv => whnf))
  refine AppS.tc (m := 1) (news := [str (parseN Ls), str (parseV Ls)]) SrcK.tc rfl (by simp [Value.oneCell']) (by decide) (by omega) (by omega) (zs := fcells (fs ++ [(parseN Ls, parseV Ls)])) (by rw [fcells_app]; rfl) (fun fA' fc' => ?_)
  rw [show fs.length + 1 = (fs ++ [(parseN Ls, parseV Ls)]).length by simp]
  (conv => whnf); repeat ((first | refine tk1 ?_ | refine tk2 ?_ | refine tk3 ?_ | refine tk12 (fun _ => ?_) | refine tk4 ?_ | refine tk5 ?_ | refine tk6 ?_ | refine tk7 ?_ | refine tk8 ?_ | refine tk9 ?_ | refine tk10 (fun _ _ => ?_) | refine tk11 (fun _ => ?_) | refine tk13 ?_ | refine tk14 ?_); (conv => whnf))
  refine ⟨⟨m, fs ++ [(parseN Ls, parseV Ls)], u + Ln, 0, fA', fc', oA, oc⟩, ⟨by dsimp only; omega, by dsimp only; rw [List.length_append]; simp only [List.length_singleton]; omega, .inl ⟨rfl, hI, by dsimp only; omega, by dsimp only; rw [List.length_append]; simp only [List.length_singleton]; omega⟩⟩, rfl, ?_, by dsimp only; omega⟩
  exact Cv.into (by (try dsimp only); repeat' (first | with_reducible exact Cv.refl | with_reducible exact Cv.left | with_reducible exact Cv.right | with_reducible exact Cv.nil | (with_reducible apply Cv.cons; focus ((repeat (first | with_reducible exact Pick.here | with_reducible apply Pick.skip)); done)) | (apply Cv.cons; focus ((repeat (first | exact Pick.here | apply Pick.skip)); done)) | exact Cv.nil | exact Cv.refl | exact Cv.left | exact Cv.right | refine Cv.skip ?_))
theorem rnofields_k {c : Ctx} (hc : Ours Tryz.prog gI c) {x : Nat} {BA : Option Addr} {n Bc : Nat} {s : RSt} {y : RMem} {X : Hp} {K : Value → Hp → Prop} (h0 : s.e ≠ 0)
    (k : ∀ v, K v (rHeap x BA n Bc s y X)) : CallK c false 57 [.pointer (some ⟨x, 0, none⟩)] (rHeap x BA n Bc s y X) K := by
  obtain ⟨P, g, w0, M, hM, hG⟩ := c
  obtain ⟨rfl, rfl⟩ := hc
  obtain ⟨st, fs, l, cl, u, e0⟩ := s
  dsimp only at h0
  unfold rHeap at k ⊢
  dsimp only at k ⊢
  refine CallK.post ?_
  refine CallK.inl tys_ok Tryz.func57 rfl (by kernel_rfl) rfl rfl ?_
  (conv => whnf); repeat ((first | refine tk1 ?_ | refine tk2 ?_ | refine tk3 ?_ | refine tk12 (fun _ => ?_) | refine tk4 ?_ | refine tk5 ?_ | refine tk6 ?_ | refine tk7 ?_ | refine tk8 ?_ | refine tk9 ?_ | refine tk10 (fun _ _ => ?_) | refine tk11 (fun _ => ?_) | refine tk13 ?_ | refine tk14 ?_); (conv => whnf))
  refine LoopS.lpT tys_ok (fun (_ : Unit) u => [.pointer (some ⟨x, 0, none⟩), u 1, u 2, u 3, u 4, u 5, u 6, u 7, u 8, u 9, u 10, u 11, u 12, u 13, u 14, u 15, u 16, u 17, u 18, u 19, u 20, u 21, u 22, u 23, u 24, u 25, u 26, u 27, u 28, u 29, u 30, u 31, u 32, u 33, u 34, u 35, u 36, u 37, u 38, u 39, u 40, u 41, u 42, u 43, u 44, u 45, u 46, u 47, u 48, u 49, u 50]) (fun _ => .box x [.int .i64 st, .slice y.fA fs.length y.fc, .slice y.oA l.length y.oc, .bool cl, .slice BA n Bc, .int .i64 (u : Nat), .int .i64 e0] 112 ::
    .row (.slice y.fA fs.length y.fc) 41 2 fs.length (fcells fs) :: .row (.slice y.oA l.length y.oc) 5 1 l.length (l.map byteV) :: X) (fun _ => True) (fun _ => 0) () trivial rfl Into.refl ?_
  intro _ v _
  (conv => whnf); repeat ((first | refine tk1 ?_ | refine tk2 ?_ | refine tk3 ?_ | refine tk12 (fun _ => ?_) | refine tk4 ?_ | refine tk5 ?_ | refine tk6 ?_ | refine tk7 ?_ | refine tk8 ?_ | refine tk9 ?_ | refine tk10 (fun _ _ => ?_) | refine tk11 (fun _ => ?_) | refine tk13 ?_ | refine tk14 ?_); (conv => whnf))
  exact ⟨_, Into.refl, k _⟩
/-- The items of a name. -/
theorem itemsR_take (fs : List Fld) (name : List UInt8) (k : Nat) (h : k < (allOf fs name).length) : itemsAll (((allOf fs name).take (k + 1)).map smallOf) = itemsAll (((allOf fs name).take k).map smallOf) ++ itemsOf (smallOf (allOf fs name)[k]) := by
  rw [List.take_succ_eq_append_getElem h, List.map_append, itemsAll_append]
  simp [itemsAll]
theorem itemsAll_sum : ∀ l : List (List UInt8), (itemsAll (l.map smallOf)).length ≤ lsum l
  | [] => by simp [itemsAll]
  | x :: r => by
    have ih := itemsAll_sum r
    have h := items_length (smallOf x)
    rw [smallOf_length] at h
    rw [lsum_cons]
    unfold itemsAll at ih ⊢
    rw [List.map_cons, List.flatMap_cons, List.length_append]
    omega
theorem ritems_k {c : Ctx} (hc : Ours Tryz.prog gI c) {x : Nat} {BA : Option Addr} {n Bc : Nat} {s : RSt} {y : RMem} {X : Hp} {K : Value → Hp → Prop} (name : List UInt8) (hn : name.length ≤ 1000) (hf : fsum s.fs ≤ 10000000)
    (k : ∀ A cp, K (.tuple #[.slice A (itemsR s.fs name).length cp, .bool (decide (allOf s.fs name ≠ []))]) (rHeap x BA n Bc s y (.row (.slice A (itemsR s.fs name).length cp) 9 1 (itemsR s.fs name).length ((itemsR s.fs name).map str) :: X))) :
    CallK c false 90 [.pointer (some ⟨x, 0, none⟩), str name] (rHeap x BA n Bc s y X) K := by
  obtain ⟨P, g, w0, M, hM, hG⟩ := c
  obtain ⟨rfl, rfl⟩ := hc
  obtain ⟨st, fs, l, cl, u, e0⟩ := s
  obtain ⟨fA, fc, oA, oc⟩ := y
  dsimp only at hf k
  unfold rHeap at k ⊢
  dsimp only at k ⊢
  have hfl := fsum_length fs
  have hmem : ∀ p ∈ fs, p.1.length + p.2.length + 3 ≤ fsum fs := fun p hp => fsum_mem hp
  have hal := allOf_sum name fs
  have hall := lsum_length (allOf fs name)
  refine CallK.post ?_
  refine CallK.inl tys_ok Tryz.func90 rfl (by kernel_rfl) rfl rfl ?_
  (conv => whnf); repeat ((first | refine tk1 ?_ | refine tk2 ?_ | refine tk3 ?_ | refine tk12 (fun _ => ?_) | refine tk4 ?_ | refine tk5 ?_ | refine tk6 ?_ | refine tk7 ?_ | refine tk8 ?_ | refine tk9 ?_ | refine tk10 (fun _ _ => ?_) | refine tk11 (fun _ => ?_) | refine tk13 ?_ | refine tk14 ?_); (conv => whnf))
  refine CallK.fnS (All_f fA fc fs name (by omega) (by omega) (fun p hp => by have := hmem p hp; omega)) ⟨RdA.ok, trivial⟩ (fun VA vc => ?_)
  have hvl : ∀ v ∈ allOf fs name, v.length ≤ 10000000 := fun v hv => by
    unfold allOf at hv
    obtain ⟨p, hp, rfl⟩ := List.mem_map.1 hv
    have := hmem p (List.mem_filter.1 hp).1
    omega
  have hitk := itemsR_take fs name
  unfold itemsR at k
  obtain ⟨V, hV⟩ : ∃ V, allOf fs name = V := ⟨_, rfl⟩
  rw [hV] at hvl hitk k hal hall ⊢
  (conv => whnf); repeat ((first | refine tk1 ?_ | refine tk2 ?_ | refine tk3 ?_ | refine tk12 (fun _ => ?_) | refine tk4 ?_ | refine tk5 ?_ | refine tk6 ?_ | refine tk7 ?_ | refine tk8 ?_ | refine tk9 ?_ | refine tk10 (fun _ _ => ?_) | refine tk11 (fun _ => ?_) | refine tk13 ?_ | refine tk14 ?_); (conv => whnf))
  refine LoopS.lpT tys_ok (fun (z : Nat × Option Addr × Nat) u => [u 0, u 1, u 2, u 3, .slice z.2.1 (itemsAll ((V.take z.1).map smallOf)).length z.2.2, .bool (decide (0 < z.1)), u 6, u 7, u 8, u 9, u 10, u 11, u 12, u 13, .slice VA V.length vc, .int .i64 V.length, .int .i64 (z.1 : Nat), u 17, u 18, u 19, u 20, u 21, u 22, u 23, u 24, u 25, u 26, u 27])
    (fun z => .row (.slice z.2.1 (itemsAll ((V.take z.1).map smallOf)).length z.2.2) 9 1 (itemsAll ((V.take z.1).map smallOf)).length ((itemsAll ((V.take z.1).map smallOf)).map str) :: .row (.slice VA V.length vc) 9 1 V.length (V.map str) ::
      .box x [.int .i64 st, .slice fA fs.length fc, .slice oA l.length oc, .bool cl, .slice BA n Bc, .int .i64 (u : Nat), .int .i64 e0] 112 :: .row (.slice fA fs.length fc) 41 2 fs.length (fcells fs) :: .row (.slice oA l.length oc) 5 1 l.length (l.map byteV) :: X)
    (fun z => z.1 ≤ V.length) (fun z => V.length - z.1) (0, none, 0) (Nat.zero_le _) rfl (Into.nilRow (e := 9) (sz := 1) (Cv.into (by (try dsimp only); repeat' (first | with_reducible exact Cv.refl | with_reducible exact Cv.left | with_reducible exact Cv.right | with_reducible exact Cv.nil | (with_reducible apply Cv.cons; focus ((repeat (first | with_reducible exact Pick.here | with_reducible apply Pick.skip)); done)) | (apply Cv.cons; focus ((repeat (first | exact Pick.here | apply Pick.skip)); done)) | exact Cv.nil | exact Cv.refl | exact Cv.left | exact Cv.right | refine Cv.skip ?_)))) ?_
  rintro ⟨i, A, cp⟩ v hi
  dsimp only at hi ⊢
  by_cases hlt : i < V.length
  · have hst := hitk i hlt
    have hx : (V.map str)[((i : Nat) : Int).toNat * 1]? = some (str V[i]) := by rw [Int.toNat_natCast, Nat.mul_one, List.getElem?_map, List.getElem?_eq_getElem hlt]; rfl
    have hvi := hvl V[i] (List.getElem_mem hlt)
    have hsl := smallOf_length V[i]
    have hil := items_length (smallOf V[i])
    have hss := itemsAll_sum (V.take i)
    have hst2 : lsum (V.take i) ≤ lsum V := by
      conv => rhs; rw [← List.take_append_drop i V, lsum_append]
      omega
    generalize V[i] = t at *
    generalize itemsAll ((V.take i).map smallOf) = o at *
    (conv => whnf); repeat ((first | refine tk1 ?_ | refine tk2 ?_ | refine tk3 ?_ | refine tk12 (fun _ => ?_) | refine tk4 ?_ | refine tk5 ?_ | refine tk6 ?_ | refine tk7 ?_ | refine tk8 ?_ | refine tk9 ?_ | refine tk10 (fun _ _ => ?_) | refine tk11 (fun _ => ?_) | refine tk13 ?_ | refine tk14 ?_); (conv => whnf))
    refine IdxA.tc (xs := V.map str) (by rw [List.length_map]; omega) (by omega) (by omega) ?_
    (conv => whnf); repeat ((first | refine tk1 ?_ | refine tk2 ?_ | refine tk3 ?_ | refine tk12 (fun _ => ?_) | refine tk4 ?_ | refine tk5 ?_ | refine tk6 ?_ | refine tk7 ?_ | refine tk8 ?_ | refine tk9 ?_ | refine tk10 (fun _ _ => ?_) | refine tk11 (fun _ => ?_) | refine tk13 ?_ | refine tk14 ?_); (conv => whnf))
    refine Ld.ta (xs := V.map str) hx ?_
    (conv => whnf); repeat ((first | refine tk1 ?_ | refine tk2 ?_ | refine tk3 ?_ | refine tk12 (fun _ => ?_) | refine tk4 ?_ | refine tk5 ?_ | refine tk6 ?_ | refine tk7 ?_ | refine tk8 ?_ | refine tk9 ?_ | refine tk10 (fun _ _ => ?_) | refine tk11 (fun _ => ?_) | refine tk13 ?_ | refine tk14 ?_); (conv => whnf))
    refine CallK.fn (Small_f t (by omega)) ?_
    (conv => whnf); repeat ((first | refine tk1 ?_ | refine tk2 ?_ | refine tk3 ?_ | refine tk12 (fun _ => ?_) | refine tk4 ?_ | refine tk5 ?_ | refine tk6 ?_ | refine tk7 ?_ | refine tk8 ?_ | refine tk9 ?_ | refine tk10 (fun _ _ => ?_) | refine tk11 (fun _ => ?_) | refine tk13 ?_ | refine tk14 ?_); (conv => whnf))
    refine CallK.fnS (Items_f (smallOf t) (by omega)) trivial (fun IA ic => ?_)
    (conv => whnf); repeat ((first | refine tk1 ?_ | refine tk2 ?_ | refine tk3 ?_ | refine tk12 (fun _ => ?_) | refine tk4 ?_ | refine tk5 ?_ | refine tk6 ?_ | refine tk7 ?_ | refine tk8 ?_ | refine tk9 ?_ | refine tk10 (fun _ _ => ?_) | refine tk11 (fun _ => ?_) | refine tk13 ?_ | refine tk14 ?_); (conv => whnf))
    refine AppS.tc (m := (itemsOf (smallOf t)).length) (news := (itemsOf (smallOf t)).map str) SrcK.tc (by simp) (str_one _) (by decide) (by omega) (by omega) (zs := (o ++ itemsOf (smallOf t)).map str) List.map_append.symm (fun A' cp' => ?_)
    rw [← List.length_append]
    (conv => whnf); repeat ((first | refine tk1 ?_ | refine tk2 ?_ | refine tk3 ?_ | refine tk12 (fun _ => ?_) | refine tk4 ?_ | refine tk5 ?_ | refine tk6 ?_ | refine tk7 ?_ | refine tk8 ?_ | refine tk9 ?_ | refine tk10 (fun _ _ => ?_) | refine tk11 (fun _ => ?_) | refine tk13 ?_ | refine tk14 ?_); (conv => whnf))
    refine ⟨(i + 1, A', cp'), by dsimp only; omega, by dsimp only; rw [hst, decide_eq_true (show 0 < i + 1 by omega)]; rfl, by dsimp only; rw [hst]; exact Cv.into (by (try dsimp only); repeat' (first | with_reducible exact Cv.refl | with_reducible exact Cv.left | with_reducible exact Cv.right | with_reducible exact Cv.nil | (with_reducible apply Cv.cons; focus ((repeat (first | with_reducible exact Pick.here | with_reducible apply Pick.skip)); done)) | (apply Cv.cons; focus ((repeat (first | exact Pick.here | apply Pick.skip)); done)) | exact Cv.nil | exact Cv.refl | exact Cv.left | exact Cv.right | refine Cv.skip ?_)), by dsimp only; omega⟩
  · obtain rfl : i = V.length := by omega
    rw [List.take_length]
    have hd : decide (0 < V.length) = decide (V ≠ []) := by
      rw [decide_eq_decide]
      exact List.length_pos_iff
    rw [hd]
    (conv => whnf); repeat ((first | refine tk1 ?_ | refine tk2 ?_ | refine tk3 ?_ | refine tk12 (fun _ => ?_) | refine tk4 ?_ | refine tk5 ?_ | refine tk6 ?_ | refine tk7 ?_ | refine tk8 ?_ | refine tk9 ?_ | refine tk10 (fun _ _ => ?_) | refine tk11 (fun _ => ?_) | refine tk13 ?_ | refine tk14 ?_); (conv => whnf))
    exact ⟨_, Cv.into (by (try dsimp only); repeat' (first | with_reducible exact Cv.refl | with_reducible exact Cv.left | with_reducible exact Cv.right | with_reducible exact Cv.nil | (with_reducible apply Cv.cons; focus ((repeat (first | with_reducible exact Pick.here | with_reducible apply Pick.skip)); done)) | (apply Cv.cons; focus ((repeat (first | exact Pick.here | apply Pick.skip)); done)) | exact Cv.nil | exact Cv.refl | exact Cv.left | exact Cv.right | refine Cv.skip ?_)), k A cp⟩
end Go.Proofs.YtnaeeklnlddcaaaGreatDoor.Vex
/- strings.Cut at one byte; strings.TrimRight of blanks; strings.ContainsAny of ASCII: reckoned. -/
namespace Go.Proofs.YtnaeeklnlddcaaaGreatDoor.Vex
open Go Go.RowKit
set_option maxRecDepth 100000
set_option linter.unusedSectionVars false
variable {gI : GI} [HasMax gI]

theorem SLIndex1_f (l : List UInt8) (x : UInt8) : Fn Tryz.prog gI 153 [str l, str [x]] (.int .i64 (Lib.index l [x])) :=
  ⟨callable Tryz.func153 rfl (by kernel_rfl), fun w _ => (Tryz.stringslite_Index_one ⟨⟨l⟩⟩ x w).mono fun _ _ ⟨he, hw⟩ => ⟨by rw [he, Lib.index_one], by rw [hw]; exact R.refl _⟩⟩
theorem SLCut1_f (l : List UInt8) (x : UInt8) (hl : l.length ≤ 9223372036854775807) : Fn Tryz.prog gI 168 [str l, str [x]] (.tuple #[str (cutB x l).1, str (cutB x l).2.1, .bool (cutB x l).2.2]) := by
  rw [← cut_one]
  have hr := index_one x l
  refine Fn.of tys_ok Tryz.func168 rfl (by kernel_rfl) rfl rfl ?_; intro w hG
  (conv => whnf); repeat ((first | refine tk1 ?_ | refine tk2 ?_ | refine tk3 ?_ | refine tk12 (fun _ => ?_) | refine tk4 ?_ | refine tk5 ?_ | refine tk6 ?_ | refine tk7 ?_ | refine tk8 ?_ | refine tk9 ?_ | refine tk10 (fun _ _ => ?_) | refine tk11 (fun _ => ?_) | refine tk13 ?_ | refine tk14 ?_); (conv => whnf))
  refine CallK.fn (SLIndex1_f l x) ?_
  unfold Lib.cut
  rcases hr with ⟨h1, h2⟩ | ⟨k, h1, h2, h3, h4⟩
  · rw [h1]
    (conv => whnf); repeat ((first | refine tk1 ?_ | refine tk2 ?_ | refine tk3 ?_ | refine tk12 (fun _ => ?_) | refine tk4 ?_ | refine tk5 ?_ | refine tk6 ?_ | refine tk7 ?_ | refine tk8 ?_ | refine tk9 ?_ | refine tk10 (fun _ _ => ?_) | refine tk11 (fun _ => ?_) | refine tk13 ?_ | refine tk14 ?_); (conv => whnf))
    rfl
  · rw [h1]
    rw [if_pos (by omega)]
    have hkl : k < l.length := (List.getElem?_eq_some_iff.1 h4).1
    have hx1 : ([x] : List UInt8).length = 1 := rfl
    (conv => whnf); repeat ((first | refine tk1 ?_ | refine tk2 ?_ | refine tk3 ?_ | refine tk12 (fun _ => ?_) | refine tk4 ?_ | refine tk5 ?_ | refine tk6 ?_ | refine tk7 ?_ | refine tk8 ?_ | refine tk9 ?_ | refine tk10 (fun _ _ => ?_) | refine tk11 (fun _ => ?_) | refine tk13 ?_ | refine tk14 ?_); (conv => whnf))
    refine DrawS.go (qs 12) tys_ok mixed (by kernel_rfl) ?_
    (conv => whnf); repeat ((first | refine tk1 ?_ | refine tk2 ?_ | refine tk3 ?_ | refine tk12 (fun _ => ?_) | refine tk4 ?_ | refine tk5 ?_ | refine tk6 ?_ | refine tk7 ?_ | refine tk8 ?_ | refine tk9 ?_ | refine tk10 (fun _ _ => ?_) | refine tk11 (fun _ => ?_) | refine tk13 ?_ | refine tk14 ?_); (conv => whnf))
    refine SlcS.at (by omega) (by omega) (by omega) ?_
    (conv => whnf); repeat ((first | refine tk1 ?_ | refine tk2 ?_ | refine tk3 ?_ | refine tk12 (fun _ => ?_) | refine tk4 ?_ | refine tk5 ?_ | refine tk6 ?_ | refine tk7 ?_ | refine tk8 ?_ | refine tk9 ?_ | refine tk10 (fun _ _ => ?_) | refine tk11 (fun _ => ?_) | refine tk13 ?_ | refine tk14 ?_); (conv => whnf))
    refine SlcS.at (by omega) (by omega) (by omega) ?_
    (conv => whnf); repeat ((first | refine tk1 ?_ | refine tk2 ?_ | refine tk3 ?_ | refine tk12 (fun _ => ?_) | refine tk4 ?_ | refine tk5 ?_ | refine tk6 ?_ | refine tk7 ?_ | refine tk8 ?_ | refine tk9 ?_ | refine tk10 (fun _ _ => ?_) | refine tk11 (fun _ => ?_) | refine tk13 ?_ | refine tk14 ?_); (conv => whnf))
    simp
theorem Cut1_f (l : List UInt8) (x : UInt8) (hl : l.length ≤ 9223372036854775807) : Fn Tryz.prog gI 124 [str l, str [x]] (.tuple #[str (cutB x l).1, str (cutB x l).2.1, .bool (cutB x l).2.2]) := by
  refine Fn.of tys_ok Tryz.func124 rfl (by kernel_rfl) rfl rfl ?_; intro w hG
  (conv => whnf); repeat ((first | refine tk1 ?_ | refine tk2 ?_ | refine tk3 ?_ | refine tk12 (fun _ => ?_) | refine tk4 ?_ | refine tk5 ?_ | refine tk6 ?_ | refine tk7 ?_ | refine tk8 ?_ | refine tk9 ?_ | refine tk10 (fun _ _ => ?_) | refine tk11 (fun _ => ?_) | refine tk13 ?_ | refine tk14 ?_); (conv => whnf))
  refine CallK.fn (SLCut1_f l x hl) ?_
  (conv => whnf); repeat ((first | refine tk1 ?_ | refine tk2 ?_ | refine tk3 ?_ | refine tk12 (fun _ => ?_) | refine tk4 ?_ | refine tk5 ?_ | refine tk6 ?_ | refine tk7 ?_ | refine tk8 ?_ | refine tk9 ?_ | refine tk10 (fun _ _ => ?_) | refine tk11 (fun _ => ?_) | refine tk13 ?_ | refine tk14 ?_); (conv => whnf))
theorem trimR_eq (l : List UInt8) : Lib.trimRightS l [32, 9] = (l.reverse.dropWhile (fun x => x == 32 || x == 9)).reverse := by
  unfold Lib.trimRightS
  congr 2
  funext b
  simp
  rfl
theorem TrimR_f (l : List UInt8) (hl : l.length ≤ 1000000000) : Fn Tryz.prog gI 125 [str l, str [32, 9]] (str (l.reverse.dropWhile (fun x => x == 32 || x == 9)).reverse) :=
  ⟨callable Tryz.func125 rfl (by kernel_rfl), fun w _ => (Any.strings_TrimRight_laid Tryz.lays162 (by kernel_rfl) ⟨⟨l⟩⟩ ⟨#[32, 9]⟩ w (by show l.length ≤ _; omega) (by decide) (ascii_of_all (by decide))).mono fun _ _ ⟨he, hw⟩ => ⟨by rw [← trimR_eq]; exact he, hw⟩⟩
theorem SContainsAny_f (l p : List UInt8) (hl : l.length ≤ 1000000000) (hp : p.length ≤ 1000) (ha : ∀ x ∈ l, x.toNat < 128) (hb : ∀ x ∈ p, x.toNat < 128) : Fn Tryz.prog gI 126 [str l, str p] (.bool (Lib.containsAny l p)) :=
  ⟨callable Tryz.func126 rfl (by kernel_rfl), fun w _ => (Any.strings_ContainsAny_laid Tryz.lays150 (by kernel_rfl) ⟨⟨l⟩⟩ ⟨⟨p⟩⟩ w (by show l.length < _; omega) (by show p.length < _; omega) (fun j b h => ha b (List.mem_of_getElem? h)) (fun j b h => hb b (List.mem_of_getElem? h))).mono fun _ _ ⟨he, hw⟩ => ⟨he, hw⟩⟩
end Go.Proofs.YtnaeeklnlddcaaaGreatDoor.Vex
/- The program's functions on first lines, reckoned. -/
namespace Go.Proofs.YtnaeeklnlddcaaaGreatDoor.Vex
open Go Go.RowKit
set_option maxRecDepth 100000
set_option linter.unusedSectionVars false
variable {gI : GI} [HasMax gI] [HasErr gI]

theorem toErr_f (s : List UInt8) (bs k : Int) (hs : s.length ≤ 1000000000) (hk : k = 1 ∨ k = 2) : FnE Tryz.prog gI 155 [str [80, 97, 114, 115, 101, 85, 105, 110, 116], str s, .int .i64 16, .int .i64 bs, errV k] (fun _ => True) (fun _ v _ => ∃ te p, v = .iface te p) :=
  ⟨callable Tryz.func155 rfl (by kernel_rfl), fun w hG _ => by
    obtain ⟨⟨e1, c1, d1⟩, ⟨e2, c2, d2⟩⟩ := HasErr.ok w hG
    rcases hk with rfl | rfl
    · exact (Tryz.strconv_toError_range ⟨⟨_⟩⟩ ⟨⟨s⟩⟩ 16 bs e2 w (by show s.length ≤ _; omega) c2 d2).mono fun _ _ ⟨N, he, _, _, hb⟩ => ⟨_, he, ⟨_, _, rfl⟩, hb⟩
    · exact (Tryz.strconv_toError_syntax ⟨⟨_⟩⟩ ⟨⟨s⟩⟩ 16 bs e1 w (by show s.length ≤ _; omega) c1 d1).mono fun _ _ ⟨N, he, _, _, hb⟩ => ⟨_, he, ⟨_, _, rfl⟩, hb⟩⟩
theorem PU_f (l : List UInt8) (bs mx : Int) (hb : bs = 8 ∧ mx = 255 ∨ bs = 64 ∧ mx = 18446744073709551615) (hl : l.length ≤ 1000000000) :
    FnE Tryz.prog gI 114 [str l, .int .i64 16, .int .i64 bs] (fun _ => True) fun _ v _ => ((puV mx l).2 = 0 ∧ v = .tuple #[.int .u64 (puV mx l).1, .nilIface]) ∨ ((puV mx l).2 ≠ 0 ∧ ∃ te p, v = .tuple #[.int .u64 (puV mx l).1, .iface te p]) := by
  have hk : (puV mx l).2 = 0 ∨ (puV mx l).2 = 1 ∨ (puV mx l).2 = 2 := by
    unfold puV
    split
    · exact .inr (.inr rfl)
    · exact puGo_err mx l 0
  refine FnE.of tys_ok Tryz.func114 rfl (by kernel_rfl) rfl rfl ?_; intro w hG hP
  (conv => whnf); repeat ((first | refine tk1 ?_ | refine tk2 ?_ | refine tk3 ?_ | refine tk12 (fun _ => ?_) | refine tk4 ?_ | refine tk5 ?_ | refine tk6 ?_ | refine tk7 ?_ | refine tk8 ?_ | refine tk9 ?_ | refine tk10 (fun _ _ => ?_) | refine tk11 (fun _ => ?_) | refine tk13 ?_ | refine tk14 ?_); (conv => whnf))
  refine CallK.fn (Parse16_f l bs mx hb hl) ?_
  generalize hn : (puV mx l).1 = n at *
  generalize hq : (puV mx l).2 = k at *
  rcases hk with rfl | hk
  · (conv => whnf); repeat ((first | refine tk1 ?_ | refine tk2 ?_ | refine tk3 ?_ | refine tk12 (fun _ => ?_) | refine tk4 ?_ | refine tk5 ?_ | refine tk6 ?_ | refine tk7 ?_ | refine tk8 ?_ | refine tk9 ?_ | refine tk10 (fun _ _ => ?_) | refine tk11 (fun _ => ?_) | refine tk13 ?_ | refine tk14 ?_); (conv => whnf))
    refine OthP.ifNe tys_ok rfl rfl (v := errV 0) (b := true) rfl ?_
    (conv => whnf); repeat ((first | refine tk1 ?_ | refine tk2 ?_ | refine tk3 ?_ | refine tk12 (fun _ => ?_) | refine tk4 ?_ | refine tk5 ?_ | refine tk6 ?_ | refine tk7 ?_ | refine tk8 ?_ | refine tk9 ?_ | refine tk10 (fun _ _ => ?_) | refine tk11 (fun _ => ?_) | refine tk13 ?_ | refine tk14 ?_); (conv => whnf))
    exact fun w' _ => .inl ⟨rfl, rfl⟩
  · have hne : k ≠ 0 := by omega
    obtain ⟨tk, pk, he⟩ : ∃ tk pk, errV k = .iface tk pk := by rcases hk with rfl | rfl <;> exact ⟨_, _, rfl⟩
    have hte := toErr_f (gI := gI) l bs k hl hk
    rw [he] at hte ⊢
    (conv => whnf); repeat ((first | refine tk1 ?_ | refine tk2 ?_ | refine tk3 ?_ | refine tk12 (fun _ => ?_) | refine tk4 ?_ | refine tk5 ?_ | refine tk6 ?_ | refine tk7 ?_ | refine tk8 ?_ | refine tk9 ?_ | refine tk10 (fun _ _ => ?_) | refine tk11 (fun _ => ?_) | refine tk13 ?_ | refine tk14 ?_); (conv => whnf))
    refine OthP.ifNe tys_ok rfl rfl (v := .iface tk pk) rfl ?_
    (conv => whnf); repeat ((first | refine tk1 ?_ | refine tk2 ?_ | refine tk3 ?_ | refine tk12 (fun _ => ?_) | refine tk4 ?_ | refine tk5 ?_ | refine tk6 ?_ | refine tk7 ?_ | refine tk8 ?_ | refine tk9 ?_ | refine tk10 (fun _ _ => ?_) | refine tk11 (fun _ => ?_) | refine tk13 ?_ | refine tk14 ?_); (conv => whnf))
    refine CallK.fnE hte (fun _ _ => trivial) (fun w1 v w2 hs hv hr => ⟨_, hs.below hr, ?_⟩)
    obtain ⟨te, p, rfl⟩ := hv
    (conv => whnf); repeat ((first | refine tk1 ?_ | refine tk2 ?_ | refine tk3 ?_ | refine tk12 (fun _ => ?_) | refine tk4 ?_ | refine tk5 ?_ | refine tk6 ?_ | refine tk7 ?_ | refine tk8 ?_ | refine tk9 ?_ | refine tk10 (fun _ _ => ?_) | refine tk11 (fun _ => ?_) | refine tk13 ?_ | refine tk14 ?_); (conv => whnf))
    exact fun w' _ => .inr ⟨hne, te, p, rfl⟩
theorem plain_f (x : UInt8) (marks : List UInt8) : Fn Tryz.prog gI 71 [.int .u8 x.toNat, str marks] (.bool (plainB marks x)) := by
  have hi := idx_in x marks
  have hx : (((x.toNat : Nat) : Int).toNat.toUInt8) = x := by simp
  have hp : plainB marks x = (smallI x.toNat || greatI x.toNat || decide (0 ≤ Lib.indexByte marks x)) := by
    unfold plainB
    congr 1
    rw [Bool.eq_iff_iff, List.contains_iff_mem, decide_eq_true_iff, hi]
  have hf := IndexByte_f (gI := gI) marks x.toNat
  rw [hx] at hf
  rw [hp]
  refine Fn.of tys_ok Tryz.func71 rfl (by kernel_rfl) rfl rfl ?_; intro w hG
  (repeat' ((conv => whnf); first | (first | refine tk1 ?_ | refine tk2 ?_ | refine tk3 ?_ | refine tk12 (fun _ => ?_) | refine tk4 ?_ | refine tk5 ?_ | refine tk6 ?_ | refine tk7 ?_ | refine tk8 ?_ | refine tk9 ?_ | refine tk10 (fun _ _ => ?_) | refine tk11 (fun _ => ?_) | refine tk13 ?_ | refine tk14 ?_) | refine Cmp.cases (fun _ => ?_) (fun _ => ?_) | refine IdxS.nat (by omega) ?_ | refine IdxS.go (by omega) (by omega) (fun _ _ _ => ?_) | refine SlcS.at (by omega) (by omega) (by omega) ?_ | refine CatS.at (by simp only [List.length_append, List.length_cons, List.length_nil]; omega) ?_ | refine CallK.fn hf ?_)); all_goals (conv => whnf)
  all_goals first | rfl | (refine congrArg Value.bool ?_; first | (simp [smallI, greatI, *]; done) | (rw [Bool.eq_iff_iff]; simp [smallI, greatI]; omega) | (rw [Bool.eq_iff_iff]; simp [smallI, greatI, *]; omega))
def codeV : List UInt8 → UInt8 × Bool
  | a :: b :: _ => if hexB a && hexB b then (hexV a b, true) else (0, false)
  | _ => (0, false)
theorem pu_two (a b : UInt8) : puV 255 [a, b] = if hexB a && hexB b then (16 * digI a.toNat + digI b.toNat, 0) else (0, 2) := by
  have h1 := dig_range a
  have h2 := dig_range b
  have e1 : hexB a = decide (0 ≤ digI a.toNat) := rfl
  have e2 : hexB b = decide (0 ≤ digI b.toNat) := rfl
  unfold puV
  rw [if_neg (by simp)]
  simp only [puGo]
  by_cases ha : 0 ≤ digI a.toNat
  · by_cases hb : 0 ≤ digI b.toNat
    · rw [e1, e2, decide_eq_true ha, decide_eq_true hb]
      rw [if_neg (by omega), if_neg (by omega), if_neg (by omega), if_neg (by omega), if_neg (by omega), if_neg (by omega)]
      simp only [Bool.and_self, if_true]
      congr 1
      omega
    · rw [e1, e2, decide_eq_true ha, decide_eq_false hb]
      rw [if_neg (by omega), if_neg (by omega), if_neg (by omega), if_pos (by omega)]
      simp
  · rw [e1, decide_eq_false ha, if_pos (by omega)]
    simp
theorem code_f (s : List UInt8) (hs : s.length ≤ 1000000000) : Fn Tryz.prog gI 70 [str s] (.tuple #[.int .u8 (codeV s).1.toNat, .bool (codeV s).2]) := by
  refine Fn.of tys_ok Tryz.func70 rfl (by kernel_rfl) rfl rfl ?_; intro w hG
  match s with
  | [] => (conv => whnf); repeat ((first | refine tk1 ?_ | refine tk2 ?_ | refine tk3 ?_ | refine tk12 (fun _ => ?_) | refine tk4 ?_ | refine tk5 ?_ | refine tk6 ?_ | refine tk7 ?_ | refine tk8 ?_ | refine tk9 ?_ | refine tk10 (fun _ _ => ?_) | refine tk11 (fun _ => ?_) | refine tk13 ?_ | refine tk14 ?_); (conv => whnf)); rfl
  | [_] => (conv => whnf); repeat ((first | refine tk1 ?_ | refine tk2 ?_ | refine tk3 ?_ | refine tk12 (fun _ => ?_) | refine tk4 ?_ | refine tk5 ?_ | refine tk6 ?_ | refine tk7 ?_ | refine tk8 ?_ | refine tk9 ?_ | refine tk10 (fun _ _ => ?_) | refine tk11 (fun _ => ?_) | refine tk13 ?_ | refine tk14 ?_); (conv => whnf)); rfl
  | a :: b :: r =>
    have hl : (((a :: b :: r).length : Nat) : Int) = (r.length : Int) + 2 := by simp; omega
    have hpu := PU_f (gI := gI) [a, b] 8 255 (.inl ⟨rfl, rfl⟩) (by simp)
    rw [pu_two] at hpu
    (conv => whnf); repeat ((first | refine tk1 ?_ | refine tk2 ?_ | refine tk3 ?_ | refine tk12 (fun _ => ?_) | refine tk4 ?_ | refine tk5 ?_ | refine tk6 ?_ | refine tk7 ?_ | refine tk8 ?_ | refine tk9 ?_ | refine tk10 (fun _ _ => ?_) | refine tk11 (fun _ => ?_) | refine tk13 ?_ | refine tk14 ?_); (conv => whnf))
    refine SlcS.at (by omega) (by omega) (by rw [hl]; omega) ?_
    (conv => whnf); repeat ((first | refine tk1 ?_ | refine tk2 ?_ | refine tk3 ?_ | refine tk12 (fun _ => ?_) | refine tk4 ?_ | refine tk5 ?_ | refine tk6 ?_ | refine tk7 ?_ | refine tk8 ?_ | refine tk9 ?_ | refine tk10 (fun _ _ => ?_) | refine tk11 (fun _ => ?_) | refine tk13 ?_ | refine tk14 ?_); (conv => whnf))
    refine CallK.fnE hpu (fun _ _ => trivial) (fun w1 v w2 hs hv hr => ⟨_, hs.below hr, ?_⟩)
    cases hh : hexB a && hexB b
    · rw [hh] at hv
      simp only [Bool.false_eq_true, if_false] at hv
      rcases hv with ⟨h2, _⟩ | ⟨_, te, p, rfl⟩
      · exact absurd h2 (by decide)
      (conv => whnf); repeat ((first | refine tk1 ?_ | refine tk2 ?_ | refine tk3 ?_ | refine tk12 (fun _ => ?_) | refine tk4 ?_ | refine tk5 ?_ | refine tk6 ?_ | refine tk7 ?_ | refine tk8 ?_ | refine tk9 ?_ | refine tk10 (fun _ _ => ?_) | refine tk11 (fun _ => ?_) | refine tk13 ?_ | refine tk14 ?_); (conv => whnf))
      refine DrawS.go (qs 26) tys_ok mixed (by kernel_rfl) ?_
      (conv => whnf); repeat ((first | refine tk1 ?_ | refine tk2 ?_ | refine tk3 ?_ | refine tk12 (fun _ => ?_) | refine tk4 ?_ | refine tk5 ?_ | refine tk6 ?_ | refine tk7 ?_ | refine tk8 ?_ | refine tk9 ?_ | refine tk10 (fun _ _ => ?_) | refine tk11 (fun _ => ?_) | refine tk13 ?_ | refine tk14 ?_); (conv => whnf))
      refine Ar.in8 (by omega) (by omega) ?_
      (conv => whnf); repeat ((first | refine tk1 ?_ | refine tk2 ?_ | refine tk3 ?_ | refine tk12 (fun _ => ?_) | refine tk4 ?_ | refine tk5 ?_ | refine tk6 ?_ | refine tk7 ?_ | refine tk8 ?_ | refine tk9 ?_ | refine tk10 (fun _ _ => ?_) | refine tk11 (fun _ => ?_) | refine tk13 ?_ | refine tk14 ?_); (conv => whnf))
      refine OthP.ifEq tys_ok rfl rfl (v := .iface te p) rfl ?_
      (conv => whnf); repeat ((first | refine tk1 ?_ | refine tk2 ?_ | refine tk3 ?_ | refine tk12 (fun _ => ?_) | refine tk4 ?_ | refine tk5 ?_ | refine tk6 ?_ | refine tk7 ?_ | refine tk8 ?_ | refine tk9 ?_ | refine tk10 (fun _ _ => ?_) | refine tk11 (fun _ => ?_) | refine tk13 ?_ | refine tk14 ?_); (conv => whnf))
      simp [codeV, hh]
    · rw [hh] at hv
      simp only [if_true] at hv
      rcases hv with ⟨_, rfl⟩ | ⟨h2, _⟩
      rotate_left
      · exact absurd rfl h2
      rw [Bool.and_eq_true] at hh
      have hv := hexV_toNat a b hh.1 hh.2
      have ra := dig_range a
      have rb := dig_range b
      have ha0 := hh.1
      have hb0 := hh.2
      rw [hexB_iff] at ha0 hb0
      have na : ¬ (a.toNat : Int) = 43 ∧ ¬ (a.toNat : Int) = 45 ∧ ¬ (a.toNat : Int) = 95 := by
        refine ⟨?_, ?_, ?_⟩ <;> (intro e; rw [e] at ha0; revert ha0; decide)
      have nb : ¬ (b.toNat : Int) = 95 := by intro e; rw [e] at hb0; revert hb0; decide
      (conv => whnf); repeat ((first | refine tk1 ?_ | refine tk2 ?_ | refine tk3 ?_ | refine tk12 (fun _ => ?_) | refine tk4 ?_ | refine tk5 ?_ | refine tk6 ?_ | refine tk7 ?_ | refine tk8 ?_ | refine tk9 ?_ | refine tk10 (fun _ _ => ?_) | refine tk11 (fun _ => ?_) | refine tk13 ?_ | refine tk14 ?_); (conv => whnf))
      refine DrawS.go (qs 26) tys_ok mixed (by kernel_rfl) ?_
      (conv => whnf); repeat ((first | refine tk1 ?_ | refine tk2 ?_ | refine tk3 ?_ | refine tk12 (fun _ => ?_) | refine tk4 ?_ | refine tk5 ?_ | refine tk6 ?_ | refine tk7 ?_ | refine tk8 ?_ | refine tk9 ?_ | refine tk10 (fun _ _ => ?_) | refine tk11 (fun _ => ?_) | refine tk13 ?_ | refine tk14 ?_); (conv => whnf))
      refine Ar.in8 (by omega) (by omega) ?_
      (conv => whnf); repeat ((first | refine tk1 ?_ | refine tk2 ?_ | refine tk3 ?_ | refine tk12 (fun _ => ?_) | refine tk4 ?_ | refine tk5 ?_ | refine tk6 ?_ | refine tk7 ?_ | refine tk8 ?_ | refine tk9 ?_ | refine tk10 (fun _ _ => ?_) | refine tk11 (fun _ => ?_) | refine tk13 ?_ | refine tk14 ?_); (conv => whnf))
      refine OthP.ifEq tys_ok rfl rfl (v := .nilIface) rfl ?_
      (conv => whnf); repeat ((first | refine tk1 ?_ | refine tk2 ?_ | refine tk3 ?_ | refine tk12 (fun _ => ?_) | refine tk4 ?_ | refine tk5 ?_ | refine tk6 ?_ | refine tk7 ?_ | refine tk8 ?_ | refine tk9 ?_ | refine tk10 (fun _ _ => ?_) | refine tk11 (fun _ => ?_) | refine tk13 ?_ | refine tk14 ?_); (conv => whnf))
      refine IdxS.at a rfl (by omega) ?_
      (conv => whnf); repeat ((first | refine tk1 ?_ | refine tk2 ?_ | refine tk3 ?_ | refine tk12 (fun _ => ?_) | refine tk4 ?_ | refine tk5 ?_ | refine tk6 ?_ | refine tk7 ?_ | refine tk8 ?_ | refine tk9 ?_ | refine tk10 (fun _ _ => ?_) | refine tk11 (fun _ => ?_) | refine tk13 ?_ | refine tk14 ?_); (conv => whnf))
      refine IdxS.at a rfl (by omega) ?_
      (conv => whnf); repeat ((first | refine tk1 ?_ | refine tk2 ?_ | refine tk3 ?_ | refine tk12 (fun _ => ?_) | refine tk4 ?_ | refine tk5 ?_ | refine tk6 ?_ | refine tk7 ?_ | refine tk8 ?_ | refine tk9 ?_ | refine tk10 (fun _ _ => ?_) | refine tk11 (fun _ => ?_) | refine tk13 ?_ | refine tk14 ?_); (conv => whnf))
      refine IdxS.at a rfl (by omega) ?_
      (conv => whnf); repeat ((first | refine tk1 ?_ | refine tk2 ?_ | refine tk3 ?_ | refine tk12 (fun _ => ?_) | refine tk4 ?_ | refine tk5 ?_ | refine tk6 ?_ | refine tk7 ?_ | refine tk8 ?_ | refine tk9 ?_ | refine tk10 (fun _ _ => ?_) | refine tk11 (fun _ => ?_) | refine tk13 ?_ | refine tk14 ?_); (conv => whnf))
      refine IdxS.at b rfl (by omega) ?_
      (conv => whnf); repeat ((first | refine tk1 ?_ | refine tk2 ?_ | refine tk3 ?_ | refine tk12 (fun _ => ?_) | refine tk4 ?_ | refine tk5 ?_ | refine tk6 ?_ | refine tk7 ?_ | refine tk8 ?_ | refine tk9 ?_ | refine tk10 (fun _ _ => ?_) | refine tk11 (fun _ => ?_) | refine tk13 ?_ | refine tk14 ?_); (conv => whnf))
      simp [codeV, hh, hv]
theorem made_f (s marks : List UInt8) (h37 : marks.contains 37 = false) (hs : s.length ≤ 1000000000) : Fn Tryz.prog gI 68 [str s, str marks] (.bool (madeOf marks s)) := by
  refine Fn.of tys_ok Tryz.func68 rfl (by kernel_rfl) rfl rfl ?_; intro w hG
  (conv => whnf); repeat ((first | refine tk1 ?_ | refine tk2 ?_ | refine tk3 ?_ | refine tk12 (fun _ => ?_) | refine tk4 ?_ | refine tk5 ?_ | refine tk6 ?_ | refine tk7 ?_ | refine tk8 ?_ | refine tk9 ?_ | refine tk10 (fun _ _ => ?_) | refine tk11 (fun _ => ?_) | refine tk13 ?_ | refine tk14 ?_); (conv => whnf))
  refine LoopS.lp tys_ok (fun (i : Nat) u => [str s, str marks, u 2, u 3, u 4, .int .i64 (i : Nat), u 6, u 7, u 8, u 9, u 10, u 11, u 12, u 13, u 14, u 15, u 16, u 17, u 18, u 19, u 20, u 21, u 22, u 23, u 24, u 25, u 26, u 27, u 28, u 29, u 30, u 31, u 32, u 33, u 34]) (fun _ => [])
    (fun i => i ≤ s.length ∧ madeOf marks s = madeOf marks (s.drop i)) (fun i => s.length - i) 0 ⟨Nat.zero_le _, rfl⟩ rfl (by repeat' (first | exact List.Sublist.refl _ | exact List.nil_sublist _ | apply List.Sublist.cons_cons | apply List.Sublist.cons)) ?_
  intro i u ⟨hi, hI⟩
  (conv => whnf); repeat ((first | refine tk1 ?_ | refine tk2 ?_ | refine tk3 ?_ | refine tk12 (fun _ => ?_) | refine tk4 ?_ | refine tk5 ?_ | refine tk6 ?_ | refine tk7 ?_ | refine tk8 ?_ | refine tk9 ?_ | refine tk10 (fun _ _ => ?_) | refine tk11 (fun _ => ?_) | refine tk13 ?_ | refine tk14 ?_); (conv => whnf))
  refine Cmp.cases (fun hlt => ?_) (fun hlt => ?_)
  · have hlt' : i < s.length := by omega
    obtain ⟨x, hx⟩ : ∃ x, s[i] = x := ⟨_, rfl⟩
    have hd : s.drop i = x :: s.drop (i + 1) := by rw [← hx]; exact List.drop_eq_getElem_cons hlt'
    have hxi : s[(i : Int).toNat]? = some x := by rw [Int.toNat_natCast, List.getElem?_eq_getElem hlt', hx]
    rw [hd] at hI
    (conv => whnf); repeat ((first | refine tk1 ?_ | refine tk2 ?_ | refine tk3 ?_ | refine tk12 (fun _ => ?_) | refine tk4 ?_ | refine tk5 ?_ | refine tk6 ?_ | refine tk7 ?_ | refine tk8 ?_ | refine tk9 ?_ | refine tk10 (fun _ _ => ?_) | refine tk11 (fun _ => ?_) | refine tk13 ?_ | refine tk14 ?_); (conv => whnf))
    refine IdxS.at x hxi (by omega) ?_
    (conv => whnf); repeat ((first | refine tk1 ?_ | refine tk2 ?_ | refine tk3 ?_ | refine tk12 (fun _ => ?_) | refine tk4 ?_ | refine tk5 ?_ | refine tk6 ?_ | refine tk7 ?_ | refine tk8 ?_ | refine tk9 ?_ | refine tk10 (fun _ _ => ?_) | refine tk11 (fun _ => ?_) | refine tk13 ?_ | refine tk14 ?_); (conv => whnf))
    refine CallK.fnB (plain_f x marks) (fun hp => ?_) (fun hp => ?_)
    · have hx37 : x ≠ 37 := fun e => by subst e; rw [plain_not_37 h37] at hp; cases hp
      rw [made_cons marks x _ hx37, hp] at hI
      (conv => whnf); repeat ((first | refine tk1 ?_ | refine tk2 ?_ | refine tk3 ?_ | refine tk12 (fun _ => ?_) | refine tk4 ?_ | refine tk5 ?_ | refine tk6 ?_ | refine tk7 ?_ | refine tk8 ?_ | refine tk9 ?_ | refine tk10 (fun _ _ => ?_) | refine tk11 (fun _ => ?_) | refine tk13 ?_ | refine tk14 ?_); (conv => whnf))
      exact ⟨i + 1, ⟨by omega, hI⟩, rfl, (by repeat' (first | exact List.Sublist.refl _ | exact List.nil_sublist _ | apply List.Sublist.cons_cons | apply List.Sublist.cons)), by dsimp only; omega⟩
    · (conv => whnf); repeat ((first | refine tk1 ?_ | refine tk2 ?_ | refine tk3 ?_ | refine tk12 (fun _ => ?_) | refine tk4 ?_ | refine tk5 ?_ | refine tk6 ?_ | refine tk7 ?_ | refine tk8 ?_ | refine tk9 ?_ | refine tk10 (fun _ _ => ?_) | refine tk11 (fun _ => ?_) | refine tk13 ?_ | refine tk14 ?_); (conv => whnf))
      refine IdxS.at x hxi (by omega) ?_
      (conv => whnf); repeat ((first | refine tk1 ?_ | refine tk2 ?_ | refine tk3 ?_ | refine tk12 (fun _ => ?_) | refine tk4 ?_ | refine tk5 ?_ | refine tk6 ?_ | refine tk7 ?_ | refine tk8 ?_ | refine tk9 ?_ | refine tk10 (fun _ _ => ?_) | refine tk11 (fun _ => ?_) | refine tk13 ?_ | refine tk14 ?_); (conv => whnf))
      refine Cmp.cases (fun hq => ?_) (fun hq => ?_)
      · have hx37 : x ≠ 37 := fun e => by subst e; exact hq rfl
        rw [made_cons marks x _ hx37, hp] at hI
        (conv => whnf); repeat ((first | refine tk1 ?_ | refine tk2 ?_ | refine tk3 ?_ | refine tk12 (fun _ => ?_) | refine tk4 ?_ | refine tk5 ?_ | refine tk6 ?_ | refine tk7 ?_ | refine tk8 ?_ | refine tk9 ?_ | refine tk10 (fun _ _ => ?_) | refine tk11 (fun _ => ?_) | refine tk13 ?_ | refine tk14 ?_); (conv => whnf))
        rw [hI]; rfl
      · have hx37 : x = 37 := b8 (n := 37) (by decide) (by omega)
        subst hx37
        rw [made_37 marks h37] at hI
        (conv => whnf); repeat ((first | refine tk1 ?_ | refine tk2 ?_ | refine tk3 ?_ | refine tk12 (fun _ => ?_) | refine tk4 ?_ | refine tk5 ?_ | refine tk6 ?_ | refine tk7 ?_ | refine tk8 ?_ | refine tk9 ?_ | refine tk10 (fun _ _ => ?_) | refine tk11 (fun _ => ?_) | refine tk13 ?_ | refine tk14 ?_); (conv => whnf))
        refine SlcS.at (by omega) (by omega) (by omega) ?_
        rw [show (List.take (s.length : Int).toNat s).drop ((i : Int) + 1).toNat = s.drop (i + 1) by rw [Int.toNat_natCast, List.take_length]; congr 1]
        (conv => whnf); repeat ((first | refine tk1 ?_ | refine tk2 ?_ | refine tk3 ?_ | refine tk12 (fun _ => ?_) | refine tk4 ?_ | refine tk5 ?_ | refine tk6 ?_ | refine tk7 ?_ | refine tk8 ?_ | refine tk9 ?_ | refine tk10 (fun _ _ => ?_) | refine tk11 (fun _ => ?_) | refine tk13 ?_ | refine tk14 ?_); (conv => whnf))
        refine CallK.fn (code_f (s.drop (i + 1)) (by rw [List.length_drop]; omega)) ?_
        have hz : (s.drop (i + 1)).length = s.length - (i + 1) := List.length_drop
        match hr : s.drop (i + 1) with
        | [] =>
          rw [hr] at hI
          (conv => whnf); repeat ((first | refine tk1 ?_ | refine tk2 ?_ | refine tk3 ?_ | refine tk12 (fun _ => ?_) | refine tk4 ?_ | refine tk5 ?_ | refine tk6 ?_ | refine tk7 ?_ | refine tk8 ?_ | refine tk9 ?_ | refine tk10 (fun _ _ => ?_) | refine tk11 (fun _ => ?_) | refine tk13 ?_ | refine tk14 ?_); (conv => whnf))
          rw [hI]
        | [y] =>
          rw [hr] at hI
          (conv => whnf); repeat ((first | refine tk1 ?_ | refine tk2 ?_ | refine tk3 ?_ | refine tk12 (fun _ => ?_) | refine tk4 ?_ | refine tk5 ?_ | refine tk6 ?_ | refine tk7 ?_ | refine tk8 ?_ | refine tk9 ?_ | refine tk10 (fun _ _ => ?_) | refine tk11 (fun _ => ?_) | refine tk13 ?_ | refine tk14 ?_); (conv => whnf))
          rw [hI]
        | a :: b :: t =>
          rw [hr] at hI hz
          simp only [List.length_cons] at hz
          have ht : s.drop (i + 3) = t := by
            rw [show i + 3 = (i + 1) + 2 by omega, ← List.drop_drop, hr]; rfl
          cases hh : hexB a && hexB b
          · have hc : codeV (a :: b :: t) = (0, false) := by simp only [codeV, hh]; rfl
            rw [hc]
            simp only [hh, Bool.false_and] at hI
            (conv => whnf); repeat ((first | refine tk1 ?_ | refine tk2 ?_ | refine tk3 ?_ | refine tk12 (fun _ => ?_) | refine tk4 ?_ | refine tk5 ?_ | refine tk6 ?_ | refine tk7 ?_ | refine tk8 ?_ | refine tk9 ?_ | refine tk10 (fun _ _ => ?_) | refine tk11 (fun _ => ?_) | refine tk13 ?_ | refine tk14 ?_); (conv => whnf))
            rw [hI]
          · have hc : codeV (a :: b :: t) = (hexV a b, true) := by simp only [codeV, hh]; rfl
            rw [hc]
            simp only [hh, Bool.true_and] at hI
            (conv => whnf); repeat ((first | refine tk1 ?_ | refine tk2 ?_ | refine tk3 ?_ | refine tk12 (fun _ => ?_) | refine tk4 ?_ | refine tk5 ?_ | refine tk6 ?_ | refine tk7 ?_ | refine tk8 ?_ | refine tk9 ?_ | refine tk10 (fun _ _ => ?_) | refine tk11 (fun _ => ?_) | refine tk13 ?_ | refine tk14 ?_); (conv => whnf))
            exact ⟨i + 3, ⟨by omega, by rw [hI, ht]⟩, rfl, (by repeat' (first | exact List.Sublist.refl _ | exact List.nil_sublist _ | apply List.Sublist.cons_cons | apply List.Sublist.cons)), by dsimp only; omega⟩
  · (conv => whnf); repeat ((first | refine tk1 ?_ | refine tk2 ?_ | refine tk3 ?_ | refine tk12 (fun _ => ?_) | refine tk4 ?_ | refine tk5 ?_ | refine tk6 ?_ | refine tk7 ?_ | refine tk8 ?_ | refine tk9 ?_ | refine tk10 (fun _ _ => ?_) | refine tk11 (fun _ => ?_) | refine tk13 ?_ | refine tk14 ?_); (conv => whnf))
    rw [hI, List.drop_eq_nil_of_le (by omega)]; rfl
theorem head_prefix (s : List UInt8) : Lib.hasPrefix s [47] = (s.head? == some 47) := by
  cases s with
  | nil => rfl
  | cons x r => simp [Lib.hasPrefix, List.isPrefixOf, Bool.beq_comm]
theorem Path_f (s : List UInt8) (hs : s.length ≤ 1000000000) : Fn Tryz.prog gI 37 [str s] (.bool (pathOf s)) := by
  refine Fn.of tys_ok Tryz.func37 rfl (by kernel_rfl) rfl rfl ?_; intro w hG
  (conv => whnf); repeat ((first | refine tk1 ?_ | refine tk2 ?_ | refine tk3 ?_ | refine tk12 (fun _ => ?_) | refine tk4 ?_ | refine tk5 ?_ | refine tk6 ?_ | refine tk7 ?_ | refine tk8 ?_ | refine tk9 ?_ | refine tk10 (fun _ _ => ?_) | refine tk11 (fun _ => ?_) | refine tk13 ?_ | refine tk14 ?_); (conv => whnf))
  refine CallK.fn (HasPrefix_f s [47]) ?_
  rw [head_prefix]
  cases h : (s.head? == some 47)
  · (conv => whnf); repeat ((first | refine tk1 ?_ | refine tk2 ?_ | refine tk3 ?_ | refine tk12 (fun _ => ?_) | refine tk4 ?_ | refine tk5 ?_ | refine tk6 ?_ | refine tk7 ?_ | refine tk8 ?_ | refine tk9 ?_ | refine tk10 (fun _ _ => ?_) | refine tk11 (fun _ => ?_) | refine tk13 ?_ | refine tk14 ?_); (conv => whnf))
    unfold pathOf; rw [h]; rfl
  · (conv => whnf); repeat ((first | refine tk1 ?_ | refine tk2 ?_ | refine tk3 ?_ | refine tk12 (fun _ => ?_) | refine tk4 ?_ | refine tk5 ?_ | refine tk6 ?_ | refine tk7 ?_ | refine tk8 ?_ | refine tk9 ?_ | refine tk10 (fun _ _ => ?_) | refine tk11 (fun _ => ?_) | refine tk13 ?_ | refine tk14 ?_); (conv => whnf))
    refine CallK.fn (made_f s pathL path_37 hs) ?_
    (conv => whnf); repeat ((first | refine tk1 ?_ | refine tk2 ?_ | refine tk3 ?_ | refine tk12 (fun _ => ?_) | refine tk4 ?_ | refine tk5 ?_ | refine tk6 ?_ | refine tk7 ?_ | refine tk8 ?_ | refine tk9 ?_ | refine tk10 (fun _ _ => ?_) | refine tk11 (fun _ => ?_) | refine tk13 ?_ | refine tk14 ?_); (conv => whnf))
    unfold pathOf; rw [h]; rfl
def verV (s : List UInt8) : Int × Bool := match versionOf s with | some v => (v, true) | none => (0, false)
end Go.Proofs.YtnaeeklnlddcaaaGreatDoor.Vex
/- The program's functions on bodies in chunks, reckoned: line, number, size, end, trailer. -/
namespace Go.Proofs.YtnaeeklnlddcaaaGreatDoor.Vex
open Go Go.RowKit
set_option maxRecDepth 100000
set_option linter.unusedSectionVars false
variable {gI : GI} [HasMax gI] [HasUtf gI] [HasErr gI]

/-- The memory of a body under way. -/
structure CMem where
  lA : Option Addr
  lc : Nat
  dA : Option Addr
  dc : Nat
def cHeap (b : Nat) (s : CSt) (d : List UInt8) (y : CMem) (X : Hp) : Hp :=
  .box b [.int .u8 (s.ph : Nat), .int .i64 s.left, .slice y.lA s.line.length y.lc, .int .i64 s.trail, .slice y.dA d.length y.dc] 105 ::
  .row (.slice y.lA s.line.length y.lc) 5 1 s.line.length (s.line.map byteV) :: .row (.slice y.dA d.length y.dc) 5 1 d.length (d.map byteV) :: X
theorem may_le {s : CSt} (h : chMay s = true) : s.ph ≤ 4 ∧ 0 ≤ s.left ∧ s.left < 16777216 ∧ 0 ≤ s.trail ∧ s.trail ≤ 256 ∧ s.line.length ≤ 300 := by
  obtain ⟨ph, left, line, trail⟩ := s
  have hb : line.length ≤ (bare line).length + 1 := by
    unfold bare
    split
    · rw [List.length_dropLast]; omega
    · omega
  unfold chMay lineMay leftMay trailMay at h
  dsimp only at h ⊢
  rcases (show ph = 0 ∨ ph = 1 ∨ ph = 2 ∨ ph = 3 ∨ ph = 4 ∨ 5 ≤ ph by omega) with rfl | rfl | rfl | rfl | rfl | hp
  · simp at h; omega
  · simp at h; rw [h.1] at *; simp; omega
  · simp at h; rw [h.1.2] at hb; simp at hb; omega
  · simp at h; omega
  · simp at h; rw [h.1] at *; simp; omega
  · rw [if_neg (by omega), if_neg (by omega), if_neg (by omega), if_neg (by omega)] at h
    simp at h
def lineT (l : List UInt8) (x : UInt8) : Value := .tuple #[str ((lineG l x).2.1.getD []), .bool (lineG l x).2.1.isSome, .int .i64 (lineG l x).2.2]
theorem line_k {c : Ctx} (hc : Ours Tryz.prog gI c) {b : Nat} {ph : Nat} {left trail : Int} {l d : List UInt8} {y : CMem} {x : UInt8} {X : Hp} {K : Value → Hp → Prop} (hl : l.length ≤ 200000)
    (k : ∀ y', K (lineT l x) (cHeap b ⟨ph, left, (lineG l x).1, trail⟩ d y' X)) : CallK c false 81 [.pointer (some ⟨b, 0, none⟩), .int .u8 x.toNat] (cHeap b ⟨ph, left, l, trail⟩ d y X) K := by
  obtain ⟨P, g, w0, M, hM, hG⟩ := c
  have hc' := hc
  obtain ⟨rfl, rfl⟩ := hc
  obtain ⟨lA, lc, dA, dc⟩ := y
  have hx := x.toNat_lt
  have hx10 : x = 10 ↔ x.toNat = 10 := by rw [← UInt8.toNat_inj]; rfl
  unfold cHeap
  dsimp only
  refine CallK.post ?_
  refine CallK.inl tys_ok Tryz.func81 rfl (by kernel_rfl) rfl rfl ?_
  (conv => whnf); repeat ((first | refine tk1 ?_ | refine tk2 ?_ | refine tk3 ?_ | refine tk12 (fun _ => ?_) | refine tk4 ?_ | refine tk5 ?_ | refine tk6 ?_ | refine tk7 ?_ | refine tk8 ?_ | refine tk9 ?_ | refine tk10 (fun _ _ => ?_) | refine tk11 (fun _ => ?_) | refine tk13 ?_ | refine tk14 ?_); (conv => whnf))
  rename_i b2
  refine Oth.same tys_ok rfl rfl rfl (fun o2 ho2 => ?_)
  have hR2 : ∀ H, RdA (⟨Tryz.prog, g, w0, M, hM, hG⟩) (.obj b2 o2 :: H) (some ⟨b2, 0, none⟩) _ := ho2.rd
  (conv => whnf); repeat ((first | refine tk1 ?_ | refine tk2 ?_ | refine tk3 ?_ | refine tk12 (fun _ => ?_) | refine tk4 ?_ | refine tk5 ?_ | refine tk6 ?_ | refine tk7 ?_ | refine tk8 ?_ | refine tk9 ?_ | refine tk10 (fun _ _ => ?_) | refine tk11 (fun _ => ?_) | refine tk13 ?_ | refine tk14 ?_); (conv => whnf))
  refine CallK.fnEV (HasSuffix_f lA (some ⟨b2, 0, none⟩) lc _ l (by omega)) (fun w1 hw1 => ⟨⟨RdA.ok (xs := l.map byteV) w1 hw1, RdA.ok (xs := [byteV 13]) w1 hw1, trivial⟩, row_cap (A := lA) (e := 5) (sz := 1) (n' := l.length) (xs := l.map byteV) hw1⟩) ?_
  cases hcr : crB l
  · by_cases h10 : x.toNat = 10
    · have e : lineG l x = (l, none, 3) := by simp [lineG, hcr, hx10.2 h10]
      rw [lineT, e] at k
      (conv => whnf); repeat ((first | refine tk1 ?_ | refine tk2 ?_ | refine tk3 ?_ | refine tk12 (fun _ => ?_) | refine tk4 ?_ | refine tk5 ?_ | refine tk6 ?_ | refine tk7 ?_ | refine tk8 ?_ | refine tk9 ?_ | refine tk10 (fun _ _ => ?_) | refine tk11 (fun _ => ?_) | refine tk13 ?_ | refine tk14 ?_); (conv => whnf))
      exact ⟨_, Cv.into (by (try dsimp only); repeat' (first | with_reducible exact Cv.refl | with_reducible exact Cv.left | with_reducible exact Cv.right | with_reducible exact Cv.nil | (with_reducible apply Cv.cons; focus ((repeat (first | with_reducible exact Pick.here | with_reducible apply Pick.skip)); done)) | (apply Cv.cons; focus ((repeat (first | exact Pick.here | apply Pick.skip)); done)) | exact Cv.nil | exact Cv.refl | exact Cv.left | exact Cv.right | refine Cv.skip ?_)), k ⟨lA, lc, dA, dc⟩⟩
    · have e : lineG l x = (l ++ [x], none, 0) := by simp [lineG, hcr, mt hx10.1 h10]
      rw [lineT, e] at k
      (conv => whnf); repeat ((first | refine tk1 ?_ | refine tk2 ?_ | refine tk3 ?_ | refine tk12 (fun _ => ?_) | refine tk4 ?_ | refine tk5 ?_ | refine tk6 ?_ | refine tk7 ?_ | refine tk8 ?_ | refine tk9 ?_ | refine tk10 (fun _ _ => ?_) | refine tk11 (fun _ => ?_) | refine tk13 ?_ | refine tk14 ?_); (conv => whnf))
      refine AppS.tc (m := 1) (news := [byteV x]) SrcK.tc rfl (by simp [Value.oneCell', byteV]) (by decide) (by omega) (by omega) (zs := (l ++ [x]).map byteV) (by rw [List.map_append]; rfl) (fun lA' lc' => ?_)
      rw [show l.length + 1 = (l ++ [x]).length by simp]
      (conv => whnf); repeat ((first | refine tk1 ?_ | refine tk2 ?_ | refine tk3 ?_ | refine tk12 (fun _ => ?_) | refine tk4 ?_ | refine tk5 ?_ | refine tk6 ?_ | refine tk7 ?_ | refine tk8 ?_ | refine tk9 ?_ | refine tk10 (fun _ _ => ?_) | refine tk11 (fun _ => ?_) | refine tk13 ?_ | refine tk14 ?_); (conv => whnf))
      refine ⟨_, ?_, k ⟨lA', lc', dA, dc⟩⟩
      exact Cv.into (by (try dsimp only); repeat' (first | with_reducible exact Cv.refl | with_reducible exact Cv.left | with_reducible exact Cv.right | with_reducible exact Cv.nil | (with_reducible apply Cv.cons; focus ((repeat (first | with_reducible exact Pick.here | with_reducible apply Pick.skip)); done)) | (apply Cv.cons; focus ((repeat (first | exact Pick.here | apply Pick.skip)); done)) | exact Cv.nil | exact Cv.refl | exact Cv.left | exact Cv.right | refine Cv.skip ?_))
  · have hb := bare_take l hcr
    by_cases h10 : x.toNat = 10
    · have e : lineG l x = ([], some (l.take (l.length - 1)), 0) := by simp [lineG, hcr, hx10.2 h10, List.dropLast_eq_take]
      rw [lineT, e] at k
      (conv => whnf); repeat ((first | refine tk1 ?_ | refine tk2 ?_ | refine tk3 ?_ | refine tk12 (fun _ => ?_) | refine tk4 ?_ | refine tk5 ?_ | refine tk6 ?_ | refine tk7 ?_ | refine tk8 ?_ | refine tk9 ?_ | refine tk10 (fun _ _ => ?_) | refine tk11 (fun _ => ?_) | refine tk13 ?_ | refine tk14 ?_); (conv => whnf))
      refine DrawS.go (qs 15) tys_ok mixed (by kernel_rfl) ?_
      (conv => whnf); repeat ((first | refine tk1 ?_ | refine tk2 ?_ | refine tk3 ?_ | refine tk12 (fun _ => ?_) | refine tk4 ?_ | refine tk5 ?_ | refine tk6 ?_ | refine tk7 ?_ | refine tk8 ?_ | refine tk9 ?_ | refine tk10 (fun _ _ => ?_) | refine tk11 (fun _ => ?_) | refine tk13 ?_ | refine tk14 ?_); (conv => whnf))
      refine SlcV.to (by omega) (by omega) ?_
      (conv => whnf); repeat ((first | refine tk1 ?_ | refine tk2 ?_ | refine tk3 ?_ | refine tk12 (fun _ => ?_) | refine tk4 ?_ | refine tk5 ?_ | refine tk6 ?_ | refine tk7 ?_ | refine tk8 ?_ | refine tk9 ?_ | refine tk10 (fun _ _ => ?_) | refine tk11 (fun _ => ?_) | refine tk13 ?_ | refine tk14 ?_); (conv => whnf))
      refine B2S.rd (l := l.take (l.length - 1)) (by rw [List.map_take]; exact RdS.take (RdA.ok (xs := l.map byteV)) _) (by rw [List.length_take]; omega) ?_
      (conv => whnf); repeat ((first | refine tk1 ?_ | refine tk2 ?_ | refine tk3 ?_ | refine tk12 (fun _ => ?_) | refine tk4 ?_ | refine tk5 ?_ | refine tk6 ?_ | refine tk7 ?_ | refine tk8 ?_ | refine tk9 ?_ | refine tk10 (fun _ _ => ?_) | refine tk11 (fun _ => ?_) | refine tk13 ?_ | refine tk14 ?_); (conv => whnf))
      exact ⟨_, Into.trans (Into.nilRow (e := 5) (sz := 1) Into.refl) (Cv.into (by (try dsimp only); repeat' (first | with_reducible exact Cv.refl | with_reducible exact Cv.left | with_reducible exact Cv.right | with_reducible exact Cv.nil | (with_reducible apply Cv.cons; focus ((repeat (first | with_reducible exact Pick.here | with_reducible apply Pick.skip)); done)) | (apply Cv.cons; focus ((repeat (first | exact Pick.here | apply Pick.skip)); done)) | exact Cv.nil | exact Cv.refl | exact Cv.left | exact Cv.right | refine Cv.skip ?_))), k ⟨none, 0, dA, dc⟩⟩
    · have e : lineG l x = (l, none, 3) := by simp [lineG, hcr]; intro h; exact absurd (hx10.1 h) h10
      rw [lineT, e] at k
      (conv => whnf); repeat ((first | refine tk1 ?_ | refine tk2 ?_ | refine tk3 ?_ | refine tk12 (fun _ => ?_) | refine tk4 ?_ | refine tk5 ?_ | refine tk6 ?_ | refine tk7 ?_ | refine tk8 ?_ | refine tk9 ?_ | refine tk10 (fun _ _ => ?_) | refine tk11 (fun _ => ?_) | refine tk13 ?_ | refine tk14 ?_); (conv => whnf))
      exact ⟨_, Cv.into (by (try dsimp only); repeat' (first | with_reducible exact Cv.refl | with_reducible exact Cv.left | with_reducible exact Cv.right | with_reducible exact Cv.nil | (with_reducible apply Cv.cons; focus ((repeat (first | with_reducible exact Pick.here | with_reducible apply Pick.skip)); done)) | (apply Cv.cons; focus ((repeat (first | exact Pick.here | apply Pick.skip)); done)) | exact Cv.nil | exact Cv.refl | exact Cv.left | exact Cv.right | refine Cv.skip ?_)), k ⟨lA, lc, dA, dc⟩⟩
end Go.Proofs.YtnaeeklnlddcaaaGreatDoor.Vex
/- The program's functions on bodies in chunks, reckoned: number, size, end, trailer. -/
namespace Go.Proofs.YtnaeeklnlddcaaaGreatDoor.Vex
open Go Go.RowKit
set_option maxRecDepth 100000
set_option linter.unusedSectionVars false
variable {gI : GI} [HasMax gI] [HasUtf gI] [HasErr gI]

theorem number_f (s : List UInt8) (hs : s.length ≤ 1000000) : Fn Tryz.prog gI 82 [str s] (.tuple #[.int .i64 (if numC s < 0 then 0 else numC s), .int .i64 (if numC s < 0 then 3 else 0)]) := by
  refine Fn.of tys_ok Tryz.func82 rfl (by kernel_rfl) rfl rfl ?_; intro w hG
  have hct := cutB_length 59 s
  have htr : Fn Tryz.prog gI 125 [str (cutB 59 s).1, str [32, 9]] (str (digsOf s)) := TrimR_f (gI := gI) (cutB 59 s).1 (by omega)
  have hdl := digsOf_le s
  have hpu := PU_f (gI := gI) (digsOf s) 64 mx64 (.inr ⟨rfl, rfl⟩) (by omega)
  have hval := Value_f (gI := gI) ([46] ++ (cutB 59 s).2.1 ++ [46]) (by simp; omega)
  have hnum : numC s = if decide (1 ≤ (digsOf s).length) && (decide ((digsOf s).length ≤ 6) && ((digsOf s).all hexB && (!(cutB 59 s).2.2 || valueOf ([46] ++ (cutB 59 s).2.1 ++ [46])))) then hexN (digsOf s) else -1 := rfl
  have hpd := fun h => pu_digs (digsOf s) h
  have hasc : (digsOf s).all hexB = true → Fn Tryz.prog gI 126 [str (digsOf s), str [43, 45, 95]] (.bool false) := fun h => by
    have := SContainsAny_f (gI := gI) (digsOf s) [43, 45, 95] (by omega) (by decide) (hex_ascii h) (by decide)
    rw [hex_noAny _ h] at this
    exact this
  have hex0 : (digsOf s).all hexB = true → 0 ≤ hexN (digsOf s) := fun h => (hexN_lt (digsOf s) 0 h (Int.le_refl _)).1
  have hlt := numC_range s
  (conv => whnf); repeat ((first | refine tk1 ?_ | refine tk2 ?_ | refine tk3 ?_ | refine tk12 (fun _ => ?_) | refine tk4 ?_ | refine tk5 ?_ | refine tk6 ?_ | refine tk7 ?_ | refine tk8 ?_ | refine tk9 ?_ | refine tk10 (fun _ _ => ?_) | refine tk11 (fun _ => ?_) | refine tk13 ?_ | refine tk14 ?_); (conv => whnf))
  refine CallK.fn (Cut1_f s 59 (by omega)) ?_
  generalize digsOf s = dg at *
  generalize hmore : (cutB 59 s).2.1 = more at *
  generalize his : (cutB 59 s).2.2 = is at *
  (conv => whnf); repeat ((first | refine tk1 ?_ | refine tk2 ?_ | refine tk3 ?_ | refine tk12 (fun _ => ?_) | refine tk4 ?_ | refine tk5 ?_ | refine tk6 ?_ | refine tk7 ?_ | refine tk8 ?_ | refine tk9 ?_ | refine tk10 (fun _ _ => ?_) | refine tk11 (fun _ => ?_) | refine tk13 ?_ | refine tk14 ?_); (conv => whnf))
  refine CallK.fn htr ?_
  (conv => whnf); repeat ((first | refine tk1 ?_ | refine tk2 ?_ | refine tk3 ?_ | refine tk12 (fun _ => ?_) | refine tk4 ?_ | refine tk5 ?_ | refine tk6 ?_ | refine tk7 ?_ | refine tk8 ?_ | refine tk9 ?_ | refine tk10 (fun _ _ => ?_) | refine tk11 (fun _ => ?_) | refine tk13 ?_ | refine tk14 ?_); (conv => whnf))
  refine CallK.fnE hpu (fun _ _ => trivial) (fun w1 v w2 hs hv hr => ⟨_, hs.below hr, ?_⟩)
  by_cases h6 : dg.length ≤ 6
  · have hp := hpd h6
    rcases hv with ⟨h0, rfl⟩ | ⟨h0, te, p, rfl⟩
    · have hh := hp.1.1 h0
      rw [hp.2 h0]
      rw [decide_eq_true hh.1, decide_eq_true h6, hh.2] at hnum
      simp only [Bool.true_and] at hnum
      have hx0 := hex0 hh.2
      (conv => whnf); repeat ((first | refine tk1 ?_ | refine tk2 ?_ | refine tk3 ?_ | refine tk12 (fun _ => ?_) | refine tk4 ?_ | refine tk5 ?_ | refine tk6 ?_ | refine tk7 ?_ | refine tk8 ?_ | refine tk9 ?_ | refine tk10 (fun _ _ => ?_) | refine tk11 (fun _ => ?_) | refine tk13 ?_ | refine tk14 ?_); (conv => whnf))
      refine OthP.ifNe tys_ok rfl rfl (v := .nilIface) rfl ?_
      (conv => whnf); repeat ((first | refine tk1 ?_ | refine tk2 ?_ | refine tk3 ?_ | refine tk12 (fun _ => ?_) | refine tk4 ?_ | refine tk5 ?_ | refine tk6 ?_ | refine tk7 ?_ | refine tk8 ?_ | refine tk9 ?_ | refine tk10 (fun _ _ => ?_) | refine tk11 (fun _ => ?_) | refine tk13 ?_ | refine tk14 ?_); (conv => whnf))
      refine CallK.fn (hasc hh.2) ?_
      cases is
      · simp only [Bool.not_false, Bool.true_or, if_true] at hnum
        rw [hnum] at hlt ⊢
        rw [if_neg (by omega), if_neg (by omega)]
        (conv => whnf); repeat ((first | refine tk1 ?_ | refine tk2 ?_ | refine tk3 ?_ | refine tk12 (fun _ => ?_) | refine tk4 ?_ | refine tk5 ?_ | refine tk6 ?_ | refine tk7 ?_ | refine tk8 ?_ | refine tk9 ?_ | refine tk10 (fun _ _ => ?_) | refine tk11 (fun _ => ?_) | refine tk13 ?_ | refine tk14 ?_); (conv => whnf))
      · simp only [Bool.not_true, Bool.false_or] at hnum
        (conv => whnf); repeat ((first | refine tk1 ?_ | refine tk2 ?_ | refine tk3 ?_ | refine tk12 (fun _ => ?_) | refine tk4 ?_ | refine tk5 ?_ | refine tk6 ?_ | refine tk7 ?_ | refine tk8 ?_ | refine tk9 ?_ | refine tk10 (fun _ _ => ?_) | refine tk11 (fun _ => ?_) | refine tk13 ?_ | refine tk14 ?_); (conv => whnf))
        refine CatS.at (by simp; omega) ?_
        (conv => whnf); repeat ((first | refine tk1 ?_ | refine tk2 ?_ | refine tk3 ?_ | refine tk12 (fun _ => ?_) | refine tk4 ?_ | refine tk5 ?_ | refine tk6 ?_ | refine tk7 ?_ | refine tk8 ?_ | refine tk9 ?_ | refine tk10 (fun _ _ => ?_) | refine tk11 (fun _ => ?_) | refine tk13 ?_ | refine tk14 ?_); (conv => whnf))
        refine CatS.at (by simp; omega) ?_
        (conv => whnf); repeat ((first | refine tk1 ?_ | refine tk2 ?_ | refine tk3 ?_ | refine tk12 (fun _ => ?_) | refine tk4 ?_ | refine tk5 ?_ | refine tk6 ?_ | refine tk7 ?_ | refine tk8 ?_ | refine tk9 ?_ | refine tk10 (fun _ _ => ?_) | refine tk11 (fun _ => ?_) | refine tk13 ?_ | refine tk14 ?_); (conv => whnf))
        refine CallK.fn hval ?_
        cases hvo : valueOf ([46] ++ more ++ [46])
        · rw [hvo] at hnum
          simp only [Bool.false_eq_true, if_false] at hnum
          rw [hnum]
          (conv => whnf); repeat ((first | refine tk1 ?_ | refine tk2 ?_ | refine tk3 ?_ | refine tk12 (fun _ => ?_) | refine tk4 ?_ | refine tk5 ?_ | refine tk6 ?_ | refine tk7 ?_ | refine tk8 ?_ | refine tk9 ?_ | refine tk10 (fun _ _ => ?_) | refine tk11 (fun _ => ?_) | refine tk13 ?_ | refine tk14 ?_); (conv => whnf))
          rfl
        · rw [hvo] at hnum
          simp only [if_true] at hnum
          rw [hnum] at hlt ⊢
          rw [if_neg (by omega), if_neg (by omega)]
          (conv => whnf); repeat ((first | refine tk1 ?_ | refine tk2 ?_ | refine tk3 ?_ | refine tk12 (fun _ => ?_) | refine tk4 ?_ | refine tk5 ?_ | refine tk6 ?_ | refine tk7 ?_ | refine tk8 ?_ | refine tk9 ?_ | refine tk10 (fun _ _ => ?_) | refine tk11 (fun _ => ?_) | refine tk13 ?_ | refine tk14 ?_); (conv => whnf))
    · have hn : numC s = -1 := by
        rw [hnum, if_neg]
        intro h
        simp only [Bool.and_eq_true, decide_eq_true_eq] at h
        exact h0 (hp.1.2 ⟨h.1, h.2.2.1⟩)
      rw [hn]
      (conv => whnf); repeat ((first | refine tk1 ?_ | refine tk2 ?_ | refine tk3 ?_ | refine tk12 (fun _ => ?_) | refine tk4 ?_ | refine tk5 ?_ | refine tk6 ?_ | refine tk7 ?_ | refine tk8 ?_ | refine tk9 ?_ | refine tk10 (fun _ _ => ?_) | refine tk11 (fun _ => ?_) | refine tk13 ?_ | refine tk14 ?_); (conv => whnf))
      refine OthP.ifNe tys_ok rfl rfl (v := .iface te p) rfl ?_
      (conv => whnf); repeat ((first | refine tk1 ?_ | refine tk2 ?_ | refine tk3 ?_ | refine tk12 (fun _ => ?_) | refine tk4 ?_ | refine tk5 ?_ | refine tk6 ?_ | refine tk7 ?_ | refine tk8 ?_ | refine tk9 ?_ | refine tk10 (fun _ _ => ?_) | refine tk11 (fun _ => ?_) | refine tk13 ?_ | refine tk14 ?_); (conv => whnf))
      rfl
  · rw [decide_eq_false h6] at hnum
    simp only [Bool.false_and, Bool.and_false, Bool.false_eq_true, if_false] at hnum
    rw [hnum]
    rcases hv with ⟨h0, rfl⟩ | ⟨h0, te, p, rfl⟩
    · (conv => whnf); repeat ((first | refine tk1 ?_ | refine tk2 ?_ | refine tk3 ?_ | refine tk12 (fun _ => ?_) | refine tk4 ?_ | refine tk5 ?_ | refine tk6 ?_ | refine tk7 ?_ | refine tk8 ?_ | refine tk9 ?_ | refine tk10 (fun _ _ => ?_) | refine tk11 (fun _ => ?_) | refine tk13 ?_ | refine tk14 ?_); (conv => whnf))
      refine OthP.ifNe tys_ok rfl rfl (v := .nilIface) rfl ?_
      (conv => whnf); repeat ((first | refine tk1 ?_ | refine tk2 ?_ | refine tk3 ?_ | refine tk12 (fun _ => ?_) | refine tk4 ?_ | refine tk5 ?_ | refine tk6 ?_ | refine tk7 ?_ | refine tk8 ?_ | refine tk9 ?_ | refine tk10 (fun _ _ => ?_) | refine tk11 (fun _ => ?_) | refine tk13 ?_ | refine tk14 ?_); (conv => whnf))
      rfl
    · (conv => whnf); repeat ((first | refine tk1 ?_ | refine tk2 ?_ | refine tk3 ?_ | refine tk12 (fun _ => ?_) | refine tk4 ?_ | refine tk5 ?_ | refine tk6 ?_ | refine tk7 ?_ | refine tk8 ?_ | refine tk9 ?_ | refine tk10 (fun _ _ => ?_) | refine tk11 (fun _ => ?_) | refine tk13 ?_ | refine tk14 ?_); (conv => whnf))
      refine OthP.ifNe tys_ok rfl rfl (v := .iface te p) rfl ?_
      (conv => whnf); repeat ((first | refine tk1 ?_ | refine tk2 ?_ | refine tk3 ?_ | refine tk12 (fun _ => ?_) | refine tk4 ?_ | refine tk5 ?_ | refine tk6 ?_ | refine tk7 ?_ | refine tk8 ?_ | refine tk9 ?_ | refine tk10 (fun _ _ => ?_) | refine tk11 (fun _ => ?_) | refine tk13 ?_ | refine tk14 ?_); (conv => whnf))
      rfl
theorem size_k {c : Ctx} (hc : Ours Tryz.prog gI c) {b : Nat} {s : CSt} {d : List UInt8} {y : CMem} {x : UInt8} {X : Hp} {K : Value → Hp → Prop} (hm : chMay s = true) (hp : s.ph = 0)
    (k : ∀ y', K (.int .i64 (oneG s x).2) (cHeap b (oneG s x).1 d y' X)) : CallK c false 52 [.pointer (some ⟨b, 0, none⟩), .int .u8 x.toNat] (cHeap b s d y X) K := by
  obtain ⟨P, g, w0, M, hM, hG⟩ := c
  have hc' := hc
  obtain ⟨rfl, rfl⟩ := hc
  obtain ⟨lA, lc, dA, dc⟩ := y
  have hml := may_le hm
  obtain ⟨ph, left, line, trail⟩ := s
  dsimp only at hp hml
  subst hp
  have hx := x.toNat_lt
  have hx10 : x = 10 ↔ x.toNat = 10 := by rw [← UInt8.toNat_inj]; rfl
  have hx13 : x = 13 ↔ x.toNat = 13 := by rw [← UInt8.toNat_inj]; rfl
  unfold oneG at k
  simp only [if_true] at k
  unfold cHeap
  dsimp only
  refine CallK.post ?_
  refine CallK.inl tys_ok Tryz.func52 rfl (by kernel_rfl) rfl rfl ?_
  by_cases h64 : line.length = 64
  rotate_left
  · rw [if_neg (fun h => h64 h.1)] at k
    (conv => whnf); repeat ((first | refine tk1 ?_ | refine tk2 ?_ | refine tk3 ?_ | refine tk12 (fun _ => ?_) | refine tk4 ?_ | refine tk5 ?_ | refine tk6 ?_ | refine tk7 ?_ | refine tk8 ?_ | refine tk9 ?_ | refine tk10 (fun _ _ => ?_) | refine tk11 (fun _ => ?_) | refine tk13 ?_ | refine tk14 ?_); (conv => whnf))
    refine line_k hc' (ph := 0) (left := left) (trail := trail) (l := line) (d := d) (y := ⟨lA, lc, dA, dc⟩) (x := x) (by omega) (fun y' => ?_)
    rcases lineG_cases line x with ⟨h1, h2, e⟩ | e | ⟨h1, h2, e⟩ <;> rw [e] at k <;> rw [lineT, e] <;> unfold cHeap <;> dsimp only at k ⊢
    · have hdl : line.dropLast.length ≤ line.length := by rw [List.length_dropLast]; omega
      (conv => whnf); repeat ((first | refine tk1 ?_ | refine tk2 ?_ | refine tk3 ?_ | refine tk12 (fun _ => ?_) | refine tk4 ?_ | refine tk5 ?_ | refine tk6 ?_ | refine tk7 ?_ | refine tk8 ?_ | refine tk9 ?_ | refine tk10 (fun _ _ => ?_) | refine tk11 (fun _ => ?_) | refine tk13 ?_ | refine tk14 ?_); (conv => whnf))
      refine CallK.fn (number_f line.dropLast (by omega)) ?_
      by_cases n1 : numC line.dropLast < 0
      · rw [if_pos n1] at k
        rw [if_pos n1, if_pos n1]
        (conv => whnf); repeat ((first | refine tk1 ?_ | refine tk2 ?_ | refine tk3 ?_ | refine tk12 (fun _ => ?_) | refine tk4 ?_ | refine tk5 ?_ | refine tk6 ?_ | refine tk7 ?_ | refine tk8 ?_ | refine tk9 ?_ | refine tk10 (fun _ _ => ?_) | refine tk11 (fun _ => ?_) | refine tk13 ?_ | refine tk14 ?_); (conv => whnf))
        exact ⟨_, Cv.into (by (try dsimp only); repeat' (first | with_reducible exact Cv.refl | with_reducible exact Cv.left | with_reducible exact Cv.right | with_reducible exact Cv.nil | (with_reducible apply Cv.cons; focus ((repeat (first | with_reducible exact Pick.here | with_reducible apply Pick.skip)); done)) | (apply Cv.cons; focus ((repeat (first | exact Pick.here | apply Pick.skip)); done)) | exact Cv.nil | exact Cv.refl | exact Cv.left | exact Cv.right | refine Cv.skip ?_)), k y'⟩
      rw [if_neg n1] at k
      rw [if_neg n1, if_neg n1]
      have hnr := numC_range line.dropLast
      by_cases n2 : numC line.dropLast = 0
      · rw [if_pos n2] at k
        rw [n2]
        (conv => whnf); repeat ((first | refine tk1 ?_ | refine tk2 ?_ | refine tk3 ?_ | refine tk12 (fun _ => ?_) | refine tk4 ?_ | refine tk5 ?_ | refine tk6 ?_ | refine tk7 ?_ | refine tk8 ?_ | refine tk9 ?_ | refine tk10 (fun _ _ => ?_) | refine tk11 (fun _ => ?_) | refine tk13 ?_ | refine tk14 ?_); (conv => whnf))
        exact ⟨_, Cv.into (by (try dsimp only); repeat' (first | with_reducible exact Cv.refl | with_reducible exact Cv.left | with_reducible exact Cv.right | with_reducible exact Cv.nil | (with_reducible apply Cv.cons; focus ((repeat (first | with_reducible exact Pick.here | with_reducible apply Pick.skip)); done)) | (apply Cv.cons; focus ((repeat (first | exact Pick.here | apply Pick.skip)); done)) | exact Cv.nil | exact Cv.refl | exact Cv.left | exact Cv.right | refine Cv.skip ?_)), k y'⟩
      · rw [if_neg n2] at k
        (conv => whnf); repeat ((first | refine tk1 ?_ | refine tk2 ?_ | refine tk3 ?_ | refine tk12 (fun _ => ?_) | refine tk4 ?_ | refine tk5 ?_ | refine tk6 ?_ | refine tk7 ?_ | refine tk8 ?_ | refine tk9 ?_ | refine tk10 (fun _ _ => ?_) | refine tk11 (fun _ => ?_) | refine tk13 ?_ | refine tk14 ?_); (conv => whnf))
        exact ⟨_, Cv.into (by (try dsimp only); repeat' (first | with_reducible exact Cv.refl | with_reducible exact Cv.left | with_reducible exact Cv.right | with_reducible exact Cv.nil | (with_reducible apply Cv.cons; focus ((repeat (first | with_reducible exact Pick.here | with_reducible apply Pick.skip)); done)) | (apply Cv.cons; focus ((repeat (first | exact Pick.here | apply Pick.skip)); done)) | exact Cv.nil | exact Cv.refl | exact Cv.left | exact Cv.right | refine Cv.skip ?_)), k y'⟩
    · (conv => whnf); repeat ((first | refine tk1 ?_ | refine tk2 ?_ | refine tk3 ?_ | refine tk12 (fun _ => ?_) | refine tk4 ?_ | refine tk5 ?_ | refine tk6 ?_ | refine tk7 ?_ | refine tk8 ?_ | refine tk9 ?_ | refine tk10 (fun _ _ => ?_) | refine tk11 (fun _ => ?_) | refine tk13 ?_ | refine tk14 ?_); (conv => whnf))
      exact ⟨_, Cv.into (by (try dsimp only); repeat' (first | with_reducible exact Cv.refl | with_reducible exact Cv.left | with_reducible exact Cv.right | with_reducible exact Cv.nil | (with_reducible apply Cv.cons; focus ((repeat (first | with_reducible exact Pick.here | with_reducible apply Pick.skip)); done)) | (apply Cv.cons; focus ((repeat (first | exact Pick.here | apply Pick.skip)); done)) | exact Cv.nil | exact Cv.refl | exact Cv.left | exact Cv.right | refine Cv.skip ?_)), k y'⟩
    · (conv => whnf); repeat ((first | refine tk1 ?_ | refine tk2 ?_ | refine tk3 ?_ | refine tk12 (fun _ => ?_) | refine tk4 ?_ | refine tk5 ?_ | refine tk6 ?_ | refine tk7 ?_ | refine tk8 ?_ | refine tk9 ?_ | refine tk10 (fun _ _ => ?_) | refine tk11 (fun _ => ?_) | refine tk13 ?_ | refine tk14 ?_); (conv => whnf))
      exact ⟨_, Cv.into (by (try dsimp only); repeat' (first | with_reducible exact Cv.refl | with_reducible exact Cv.left | with_reducible exact Cv.right | with_reducible exact Cv.nil | (with_reducible apply Cv.cons; focus ((repeat (first | with_reducible exact Pick.here | with_reducible apply Pick.skip)); done)) | (apply Cv.cons; focus ((repeat (first | exact Pick.here | apply Pick.skip)); done)) | exact Cv.nil | exact Cv.refl | exact Cv.left | exact Cv.right | refine Cv.skip ?_)), k y'⟩
  by_cases h13 : x.toNat = 13
  · rw [if_neg (fun h => h.2.1 (hx13.2 h13))] at k
    (conv => whnf); repeat ((first | refine tk1 ?_ | refine tk2 ?_ | refine tk3 ?_ | refine tk12 (fun _ => ?_) | refine tk4 ?_ | refine tk5 ?_ | refine tk6 ?_ | refine tk7 ?_ | refine tk8 ?_ | refine tk9 ?_ | refine tk10 (fun _ _ => ?_) | refine tk11 (fun _ => ?_) | refine tk13 ?_ | refine tk14 ?_); (conv => whnf))
    refine line_k hc' (ph := 0) (left := left) (trail := trail) (l := line) (d := d) (y := ⟨lA, lc, dA, dc⟩) (x := x) (by omega) (fun y' => ?_)
    rcases lineG_cases line x with ⟨h1, h2, e⟩ | e | ⟨h1, h2, e⟩ <;> rw [e] at k <;> rw [lineT, e] <;> unfold cHeap <;> dsimp only at k ⊢
    · have hdl : line.dropLast.length ≤ line.length := by rw [List.length_dropLast]; omega
      (conv => whnf); repeat ((first | refine tk1 ?_ | refine tk2 ?_ | refine tk3 ?_ | refine tk12 (fun _ => ?_) | refine tk4 ?_ | refine tk5 ?_ | refine tk6 ?_ | refine tk7 ?_ | refine tk8 ?_ | refine tk9 ?_ | refine tk10 (fun _ _ => ?_) | refine tk11 (fun _ => ?_) | refine tk13 ?_ | refine tk14 ?_); (conv => whnf))
      refine CallK.fn (number_f line.dropLast (by omega)) ?_
      by_cases n1 : numC line.dropLast < 0
      · rw [if_pos n1] at k
        rw [if_pos n1, if_pos n1]
        (conv => whnf); repeat ((first | refine tk1 ?_ | refine tk2 ?_ | refine tk3 ?_ | refine tk12 (fun _ => ?_) | refine tk4 ?_ | refine tk5 ?_ | refine tk6 ?_ | refine tk7 ?_ | refine tk8 ?_ | refine tk9 ?_ | refine tk10 (fun _ _ => ?_) | refine tk11 (fun _ => ?_) | refine tk13 ?_ | refine tk14 ?_); (conv => whnf))
        exact ⟨_, Cv.into (by (try dsimp only); repeat' (first | with_reducible exact Cv.refl | with_reducible exact Cv.left | with_reducible exact Cv.right | with_reducible exact Cv.nil | (with_reducible apply Cv.cons; focus ((repeat (first | with_reducible exact Pick.here | with_reducible apply Pick.skip)); done)) | (apply Cv.cons; focus ((repeat (first | exact Pick.here | apply Pick.skip)); done)) | exact Cv.nil | exact Cv.refl | exact Cv.left | exact Cv.right | refine Cv.skip ?_)), k y'⟩
      rw [if_neg n1] at k
      rw [if_neg n1, if_neg n1]
      have hnr := numC_range line.dropLast
      by_cases n2 : numC line.dropLast = 0
      · rw [if_pos n2] at k
        rw [n2]
        (conv => whnf); repeat ((first | refine tk1 ?_ | refine tk2 ?_ | refine tk3 ?_ | refine tk12 (fun _ => ?_) | refine tk4 ?_ | refine tk5 ?_ | refine tk6 ?_ | refine tk7 ?_ | refine tk8 ?_ | refine tk9 ?_ | refine tk10 (fun _ _ => ?_) | refine tk11 (fun _ => ?_) | refine tk13 ?_ | refine tk14 ?_); (conv => whnf))
        exact ⟨_, Cv.into (by (try dsimp only); repeat' (first | with_reducible exact Cv.refl | with_reducible exact Cv.left | with_reducible exact Cv.right | with_reducible exact Cv.nil | (with_reducible apply Cv.cons; focus ((repeat (first | with_reducible exact Pick.here | with_reducible apply Pick.skip)); done)) | (apply Cv.cons; focus ((repeat (first | exact Pick.here | apply Pick.skip)); done)) | exact Cv.nil | exact Cv.refl | exact Cv.left | exact Cv.right | refine Cv.skip ?_)), k y'⟩
      · rw [if_neg n2] at k
        (conv => whnf); repeat ((first | refine tk1 ?_ | refine tk2 ?_ | refine tk3 ?_ | refine tk12 (fun _ => ?_) | refine tk4 ?_ | refine tk5 ?_ | refine tk6 ?_ | refine tk7 ?_ | refine tk8 ?_ | refine tk9 ?_ | refine tk10 (fun _ _ => ?_) | refine tk11 (fun _ => ?_) | refine tk13 ?_ | refine tk14 ?_); (conv => whnf))
        exact ⟨_, Cv.into (by (try dsimp only); repeat' (first | with_reducible exact Cv.refl | with_reducible exact Cv.left | with_reducible exact Cv.right | with_reducible exact Cv.nil | (with_reducible apply Cv.cons; focus ((repeat (first | with_reducible exact Pick.here | with_reducible apply Pick.skip)); done)) | (apply Cv.cons; focus ((repeat (first | exact Pick.here | apply Pick.skip)); done)) | exact Cv.nil | exact Cv.refl | exact Cv.left | exact Cv.right | refine Cv.skip ?_)), k y'⟩
    · (conv => whnf); repeat ((first | refine tk1 ?_ | refine tk2 ?_ | refine tk3 ?_ | refine tk12 (fun _ => ?_) | refine tk4 ?_ | refine tk5 ?_ | refine tk6 ?_ | refine tk7 ?_ | refine tk8 ?_ | refine tk9 ?_ | refine tk10 (fun _ _ => ?_) | refine tk11 (fun _ => ?_) | refine tk13 ?_ | refine tk14 ?_); (conv => whnf))
      exact ⟨_, Cv.into (by (try dsimp only); repeat' (first | with_reducible exact Cv.refl | with_reducible exact Cv.left | with_reducible exact Cv.right | with_reducible exact Cv.nil | (with_reducible apply Cv.cons; focus ((repeat (first | with_reducible exact Pick.here | with_reducible apply Pick.skip)); done)) | (apply Cv.cons; focus ((repeat (first | exact Pick.here | apply Pick.skip)); done)) | exact Cv.nil | exact Cv.refl | exact Cv.left | exact Cv.right | refine Cv.skip ?_)), k y'⟩
    · (conv => whnf); repeat ((first | refine tk1 ?_ | refine tk2 ?_ | refine tk3 ?_ | refine tk12 (fun _ => ?_) | refine tk4 ?_ | refine tk5 ?_ | refine tk6 ?_ | refine tk7 ?_ | refine tk8 ?_ | refine tk9 ?_ | refine tk10 (fun _ _ => ?_) | refine tk11 (fun _ => ?_) | refine tk13 ?_ | refine tk14 ?_); (conv => whnf))
      exact ⟨_, Cv.into (by (try dsimp only); repeat' (first | with_reducible exact Cv.refl | with_reducible exact Cv.left | with_reducible exact Cv.right | with_reducible exact Cv.nil | (with_reducible apply Cv.cons; focus ((repeat (first | with_reducible exact Pick.here | with_reducible apply Pick.skip)); done)) | (apply Cv.cons; focus ((repeat (first | exact Pick.here | apply Pick.skip)); done)) | exact Cv.nil | exact Cv.refl | exact Cv.left | exact Cv.right | refine Cv.skip ?_)), k y'⟩
  by_cases h10 : x.toNat = 10
  · rw [if_neg (fun h => h.2.2.1 (hx10.2 h10))] at k
    (conv => whnf); repeat ((first | refine tk1 ?_ | refine tk2 ?_ | refine tk3 ?_ | refine tk12 (fun _ => ?_) | refine tk4 ?_ | refine tk5 ?_ | refine tk6 ?_ | refine tk7 ?_ | refine tk8 ?_ | refine tk9 ?_ | refine tk10 (fun _ _ => ?_) | refine tk11 (fun _ => ?_) | refine tk13 ?_ | refine tk14 ?_); (conv => whnf))
    refine line_k hc' (ph := 0) (left := left) (trail := trail) (l := line) (d := d) (y := ⟨lA, lc, dA, dc⟩) (x := x) (by omega) (fun y' => ?_)
    rcases lineG_cases line x with ⟨h1, h2, e⟩ | e | ⟨h1, h2, e⟩ <;> rw [e] at k <;> rw [lineT, e] <;> unfold cHeap <;> dsimp only at k ⊢
    · have hdl : line.dropLast.length ≤ line.length := by rw [List.length_dropLast]; omega
      (conv => whnf); repeat ((first | refine tk1 ?_ | refine tk2 ?_ | refine tk3 ?_ | refine tk12 (fun _ => ?_) | refine tk4 ?_ | refine tk5 ?_ | refine tk6 ?_ | refine tk7 ?_ | refine tk8 ?_ | refine tk9 ?_ | refine tk10 (fun _ _ => ?_) | refine tk11 (fun _ => ?_) | refine tk13 ?_ | refine tk14 ?_); (conv => whnf))
      refine CallK.fn (number_f line.dropLast (by omega)) ?_
      by_cases n1 : numC line.dropLast < 0
      · rw [if_pos n1] at k
        rw [if_pos n1, if_pos n1]
        (conv => whnf); repeat ((first | refine tk1 ?_ | refine tk2 ?_ | refine tk3 ?_ | refine tk12 (fun _ => ?_) | refine tk4 ?_ | refine tk5 ?_ | refine tk6 ?_ | refine tk7 ?_ | refine tk8 ?_ | refine tk9 ?_ | refine tk10 (fun _ _ => ?_) | refine tk11 (fun _ => ?_) | refine tk13 ?_ | refine tk14 ?_); (conv => whnf))
        exact ⟨_, Cv.into (by (try dsimp only); repeat' (first | with_reducible exact Cv.refl | with_reducible exact Cv.left | with_reducible exact Cv.right | with_reducible exact Cv.nil | (with_reducible apply Cv.cons; focus ((repeat (first | with_reducible exact Pick.here | with_reducible apply Pick.skip)); done)) | (apply Cv.cons; focus ((repeat (first | exact Pick.here | apply Pick.skip)); done)) | exact Cv.nil | exact Cv.refl | exact Cv.left | exact Cv.right | refine Cv.skip ?_)), k y'⟩
      rw [if_neg n1] at k
      rw [if_neg n1, if_neg n1]
      have hnr := numC_range line.dropLast
      by_cases n2 : numC line.dropLast = 0
      · rw [if_pos n2] at k
        rw [n2]
        (conv => whnf); repeat ((first | refine tk1 ?_ | refine tk2 ?_ | refine tk3 ?_ | refine tk12 (fun _ => ?_) | refine tk4 ?_ | refine tk5 ?_ | refine tk6 ?_ | refine tk7 ?_ | refine tk8 ?_ | refine tk9 ?_ | refine tk10 (fun _ _ => ?_) | refine tk11 (fun _ => ?_) | refine tk13 ?_ | refine tk14 ?_); (conv => whnf))
        exact ⟨_, Cv.into (by (try dsimp only); repeat' (first | with_reducible exact Cv.refl | with_reducible exact Cv.left | with_reducible exact Cv.right | with_reducible exact Cv.nil | (with_reducible apply Cv.cons; focus ((repeat (first | with_reducible exact Pick.here | with_reducible apply Pick.skip)); done)) | (apply Cv.cons; focus ((repeat (first | exact Pick.here | apply Pick.skip)); done)) | exact Cv.nil | exact Cv.refl | exact Cv.left | exact Cv.right | refine Cv.skip ?_)), k y'⟩
      · rw [if_neg n2] at k
        (conv => whnf); repeat ((first | refine tk1 ?_ | refine tk2 ?_ | refine tk3 ?_ | refine tk12 (fun _ => ?_) | refine tk4 ?_ | refine tk5 ?_ | refine tk6 ?_ | refine tk7 ?_ | refine tk8 ?_ | refine tk9 ?_ | refine tk10 (fun _ _ => ?_) | refine tk11 (fun _ => ?_) | refine tk13 ?_ | refine tk14 ?_); (conv => whnf))
        exact ⟨_, Cv.into (by (try dsimp only); repeat' (first | with_reducible exact Cv.refl | with_reducible exact Cv.left | with_reducible exact Cv.right | with_reducible exact Cv.nil | (with_reducible apply Cv.cons; focus ((repeat (first | with_reducible exact Pick.here | with_reducible apply Pick.skip)); done)) | (apply Cv.cons; focus ((repeat (first | exact Pick.here | apply Pick.skip)); done)) | exact Cv.nil | exact Cv.refl | exact Cv.left | exact Cv.right | refine Cv.skip ?_)), k y'⟩
    · (conv => whnf); repeat ((first | refine tk1 ?_ | refine tk2 ?_ | refine tk3 ?_ | refine tk12 (fun _ => ?_) | refine tk4 ?_ | refine tk5 ?_ | refine tk6 ?_ | refine tk7 ?_ | refine tk8 ?_ | refine tk9 ?_ | refine tk10 (fun _ _ => ?_) | refine tk11 (fun _ => ?_) | refine tk13 ?_ | refine tk14 ?_); (conv => whnf))
      exact ⟨_, Cv.into (by (try dsimp only); repeat' (first | with_reducible exact Cv.refl | with_reducible exact Cv.left | with_reducible exact Cv.right | with_reducible exact Cv.nil | (with_reducible apply Cv.cons; focus ((repeat (first | with_reducible exact Pick.here | with_reducible apply Pick.skip)); done)) | (apply Cv.cons; focus ((repeat (first | exact Pick.here | apply Pick.skip)); done)) | exact Cv.nil | exact Cv.refl | exact Cv.left | exact Cv.right | refine Cv.skip ?_)), k y'⟩
    · (conv => whnf); repeat ((first | refine tk1 ?_ | refine tk2 ?_ | refine tk3 ?_ | refine tk12 (fun _ => ?_) | refine tk4 ?_ | refine tk5 ?_ | refine tk6 ?_ | refine tk7 ?_ | refine tk8 ?_ | refine tk9 ?_ | refine tk10 (fun _ _ => ?_) | refine tk11 (fun _ => ?_) | refine tk13 ?_ | refine tk14 ?_); (conv => whnf))
      exact ⟨_, Cv.into (by (try dsimp only); repeat' (first | with_reducible exact Cv.refl | with_reducible exact Cv.left | with_reducible exact Cv.right | with_reducible exact Cv.nil | (with_reducible apply Cv.cons; focus ((repeat (first | with_reducible exact Pick.here | with_reducible apply Pick.skip)); done)) | (apply Cv.cons; focus ((repeat (first | exact Pick.here | apply Pick.skip)); done)) | exact Cv.nil | exact Cv.refl | exact Cv.left | exact Cv.right | refine Cv.skip ?_)), k y'⟩
  (conv => whnf); repeat ((first | refine tk1 ?_ | refine tk2 ?_ | refine tk3 ?_ | refine tk12 (fun _ => ?_) | refine tk4 ?_ | refine tk5 ?_ | refine tk6 ?_ | refine tk7 ?_ | refine tk8 ?_ | refine tk9 ?_ | refine tk10 (fun _ _ => ?_) | refine tk11 (fun _ => ?_) | refine tk13 ?_ | refine tk14 ?_); (conv => whnf))
  rename_i b2
  refine Oth.same tys_ok rfl rfl rfl (fun o2 ho2 => ?_)
  have hR2 : ∀ H, RdA (⟨Tryz.prog, g, w0, M, hM, hG⟩ : Ctx) (.obj b2 o2 :: H) (some ⟨b2, 0, none⟩) _ := ho2.rd
  (conv => whnf); repeat ((first | refine tk1 ?_ | refine tk2 ?_ | refine tk3 ?_ | refine tk12 (fun _ => ?_) | refine tk4 ?_ | refine tk5 ?_ | refine tk6 ?_ | refine tk7 ?_ | refine tk8 ?_ | refine tk9 ?_ | refine tk10 (fun _ _ => ?_) | refine tk11 (fun _ => ?_) | refine tk13 ?_ | refine tk14 ?_); (conv => whnf))
  refine CallK.fnEV (HasSuffix_f lA (some ⟨b2, 0, none⟩) lc _ line (by omega)) (fun w1 hw1 => ⟨⟨RdA.ok (xs := line.map byteV) w1 hw1, RdA.ok (xs := [byteV 13]) w1 hw1, trivial⟩, row_cap (A := lA) (e := 5) (sz := 1) (n' := line.length) (xs := line.map byteV) hw1⟩) ?_
  cases hcr : crB line
  · rw [if_pos ⟨h64, mt hx13.1 h13, mt hx10.1 h10, hcr⟩] at k
    (conv => whnf); repeat ((first | refine tk1 ?_ | refine tk2 ?_ | refine tk3 ?_ | refine tk12 (fun _ => ?_) | refine tk4 ?_ | refine tk5 ?_ | refine tk6 ?_ | refine tk7 ?_ | refine tk8 ?_ | refine tk9 ?_ | refine tk10 (fun _ _ => ?_) | refine tk11 (fun _ => ?_) | refine tk13 ?_ | refine tk14 ?_); (conv => whnf))
    exact ⟨_, Cv.into (by (try dsimp only); repeat' (first | with_reducible exact Cv.refl | with_reducible exact Cv.left | with_reducible exact Cv.right | with_reducible exact Cv.nil | (with_reducible apply Cv.cons; focus ((repeat (first | with_reducible exact Pick.here | with_reducible apply Pick.skip)); done)) | (apply Cv.cons; focus ((repeat (first | exact Pick.here | apply Pick.skip)); done)) | exact Cv.nil | exact Cv.refl | exact Cv.left | exact Cv.right | refine Cv.skip ?_)), k ⟨lA, lc, dA, dc⟩⟩
  · rw [if_neg (fun h => by have := h.2.2.2; rw [hcr] at this; cases this)] at k
    (conv => whnf); repeat ((first | refine tk1 ?_ | refine tk2 ?_ | refine tk3 ?_ | refine tk12 (fun _ => ?_) | refine tk4 ?_ | refine tk5 ?_ | refine tk6 ?_ | refine tk7 ?_ | refine tk8 ?_ | refine tk9 ?_ | refine tk10 (fun _ _ => ?_) | refine tk11 (fun _ => ?_) | refine tk13 ?_ | refine tk14 ?_); (conv => whnf))
    refine CallK.into (G := cHeap b ⟨0, left, line, trail⟩ d ⟨lA, lc, dA, dc⟩ X) (Cv.into (by (try dsimp only); repeat' (first | with_reducible exact Cv.refl | with_reducible exact Cv.left | with_reducible exact Cv.right | with_reducible exact Cv.nil | (with_reducible apply Cv.cons; focus ((repeat (first | with_reducible exact Pick.here | with_reducible apply Pick.skip)); done)) | (apply Cv.cons; focus ((repeat (first | exact Pick.here | apply Pick.skip)); done)) | exact Cv.nil | exact Cv.refl | exact Cv.left | exact Cv.right | refine Cv.skip ?_))) ?_
    refine line_k hc' (ph := 0) (left := left) (trail := trail) (l := line) (d := d) (y := ⟨lA, lc, dA, dc⟩) (x := x) (by omega) (fun y' => ?_)
    rcases lineG_cases line x with ⟨h1, h2, e⟩ | e | ⟨h1, h2, e⟩ <;> rw [e] at k <;> rw [lineT, e] <;> unfold cHeap <;> dsimp only at k ⊢
    · have hdl : line.dropLast.length ≤ line.length := by rw [List.length_dropLast]; omega
      (conv => whnf); repeat ((first | refine tk1 ?_ | refine tk2 ?_ | refine tk3 ?_ | refine tk12 (fun _ => ?_) | refine tk4 ?_ | refine tk5 ?_ | refine tk6 ?_ | refine tk7 ?_ | refine tk8 ?_ | refine tk9 ?_ | refine tk10 (fun _ _ => ?_) | refine tk11 (fun _ => ?_) | refine tk13 ?_ | refine tk14 ?_); (conv => whnf))
      refine CallK.fn (number_f line.dropLast (by omega)) ?_
      by_cases n1 : numC line.dropLast < 0
      · rw [if_pos n1] at k
        rw [if_pos n1, if_pos n1]
        (conv => whnf); repeat ((first | refine tk1 ?_ | refine tk2 ?_ | refine tk3 ?_ | refine tk12 (fun _ => ?_) | refine tk4 ?_ | refine tk5 ?_ | refine tk6 ?_ | refine tk7 ?_ | refine tk8 ?_ | refine tk9 ?_ | refine tk10 (fun _ _ => ?_) | refine tk11 (fun _ => ?_) | refine tk13 ?_ | refine tk14 ?_); (conv => whnf))
        exact ⟨_, Cv.into (by (try dsimp only); repeat' (first | with_reducible exact Cv.refl | with_reducible exact Cv.left | with_reducible exact Cv.right | with_reducible exact Cv.nil | (with_reducible apply Cv.cons; focus ((repeat (first | with_reducible exact Pick.here | with_reducible apply Pick.skip)); done)) | (apply Cv.cons; focus ((repeat (first | exact Pick.here | apply Pick.skip)); done)) | exact Cv.nil | exact Cv.refl | exact Cv.left | exact Cv.right | refine Cv.skip ?_)), k y'⟩
      rw [if_neg n1] at k
      rw [if_neg n1, if_neg n1]
      have hnr := numC_range line.dropLast
      by_cases n2 : numC line.dropLast = 0
      · rw [if_pos n2] at k
        rw [n2]
        (conv => whnf); repeat ((first | refine tk1 ?_ | refine tk2 ?_ | refine tk3 ?_ | refine tk12 (fun _ => ?_) | refine tk4 ?_ | refine tk5 ?_ | refine tk6 ?_ | refine tk7 ?_ | refine tk8 ?_ | refine tk9 ?_ | refine tk10 (fun _ _ => ?_) | refine tk11 (fun _ => ?_) | refine tk13 ?_ | refine tk14 ?_); (conv => whnf))
        exact ⟨_, Cv.into (by (try dsimp only); repeat' (first | with_reducible exact Cv.refl | with_reducible exact Cv.left | with_reducible exact Cv.right | with_reducible exact Cv.nil | (with_reducible apply Cv.cons; focus ((repeat (first | with_reducible exact Pick.here | with_reducible apply Pick.skip)); done)) | (apply Cv.cons; focus ((repeat (first | exact Pick.here | apply Pick.skip)); done)) | exact Cv.nil | exact Cv.refl | exact Cv.left | exact Cv.right | refine Cv.skip ?_)), k y'⟩
      · rw [if_neg n2] at k
        (conv => whnf); repeat ((first | refine tk1 ?_ | refine tk2 ?_ | refine tk3 ?_ | refine tk12 (fun _ => ?_) | refine tk4 ?_ | refine tk5 ?_ | refine tk6 ?_ | refine tk7 ?_ | refine tk8 ?_ | refine tk9 ?_ | refine tk10 (fun _ _ => ?_) | refine tk11 (fun _ => ?_) | refine tk13 ?_ | refine tk14 ?_); (conv => whnf))
        exact ⟨_, Cv.into (by (try dsimp only); repeat' (first | with_reducible exact Cv.refl | with_reducible exact Cv.left | with_reducible exact Cv.right | with_reducible exact Cv.nil | (with_reducible apply Cv.cons; focus ((repeat (first | with_reducible exact Pick.here | with_reducible apply Pick.skip)); done)) | (apply Cv.cons; focus ((repeat (first | exact Pick.here | apply Pick.skip)); done)) | exact Cv.nil | exact Cv.refl | exact Cv.left | exact Cv.right | refine Cv.skip ?_)), k y'⟩
    · (conv => whnf); repeat ((first | refine tk1 ?_ | refine tk2 ?_ | refine tk3 ?_ | refine tk12 (fun _ => ?_) | refine tk4 ?_ | refine tk5 ?_ | refine tk6 ?_ | refine tk7 ?_ | refine tk8 ?_ | refine tk9 ?_ | refine tk10 (fun _ _ => ?_) | refine tk11 (fun _ => ?_) | refine tk13 ?_ | refine tk14 ?_); (conv => whnf))
      exact ⟨_, Cv.into (by (try dsimp only); repeat' (first | with_reducible exact Cv.refl | with_reducible exact Cv.left | with_reducible exact Cv.right | with_reducible exact Cv.nil | (with_reducible apply Cv.cons; focus ((repeat (first | with_reducible exact Pick.here | with_reducible apply Pick.skip)); done)) | (apply Cv.cons; focus ((repeat (first | exact Pick.here | apply Pick.skip)); done)) | exact Cv.nil | exact Cv.refl | exact Cv.left | exact Cv.right | refine Cv.skip ?_)), k y'⟩
    · (conv => whnf); repeat ((first | refine tk1 ?_ | refine tk2 ?_ | refine tk3 ?_ | refine tk12 (fun _ => ?_) | refine tk4 ?_ | refine tk5 ?_ | refine tk6 ?_ | refine tk7 ?_ | refine tk8 ?_ | refine tk9 ?_ | refine tk10 (fun _ _ => ?_) | refine tk11 (fun _ => ?_) | refine tk13 ?_ | refine tk14 ?_); (conv => whnf))
      exact ⟨_, Cv.into (by (try dsimp only); repeat' (first | with_reducible exact Cv.refl | with_reducible exact Cv.left | with_reducible exact Cv.right | with_reducible exact Cv.nil | (with_reducible apply Cv.cons; focus ((repeat (first | with_reducible exact Pick.here | with_reducible apply Pick.skip)); done)) | (apply Cv.cons; focus ((repeat (first | exact Pick.here | apply Pick.skip)); done)) | exact Cv.nil | exact Cv.refl | exact Cv.left | exact Cv.right | refine Cv.skip ?_)), k y'⟩
end Go.Proofs.YtnaeeklnlddcaaaGreatDoor.Vex
/- The program's functions on bodies in chunks, reckoned: end, trailer, one byte. -/
namespace Go.Proofs.YtnaeeklnlddcaaaGreatDoor.Vex
open Go Go.RowKit
set_option maxRecDepth 100000
set_option linter.unusedSectionVars false
variable {gI : GI} [HasMax gI] [HasUtf gI] [HasErr gI]

theorem end_k {c : Ctx} (hc : Ours Tryz.prog gI c) {b : Nat} {s : CSt} {d : List UInt8} {y : CMem} {x : UInt8} {X : Hp} {K : Value → Hp → Prop} (hm : chMay s = true) (hp : s.ph = 2)
    (k : ∀ y', K (.int .i64 (oneG s x).2) (cHeap b (oneG s x).1 d y' X)) : CallK c false 53 [.pointer (some ⟨b, 0, none⟩), .int .u8 x.toNat] (cHeap b s d y X) K := by
  obtain ⟨P, g, w0, M, hM, hG⟩ := c
  have hc' := hc
  obtain ⟨rfl, rfl⟩ := hc
  obtain ⟨lA, lc, dA, dc⟩ := y
  have hml := may_le hm
  obtain ⟨ph, left, line, trail⟩ := s
  dsimp only at hp hml
  subst hp
  have hx := x.toNat_lt
  have hx13 : x = 13 ↔ x.toNat = 13 := by rw [← UInt8.toNat_inj]; rfl
  unfold oneG at k
  simp only [if_true, show ¬ (2 = 0) by decide, if_false] at k
  unfold cHeap
  dsimp only
  refine CallK.post ?_
  refine CallK.inl tys_ok Tryz.func53 rfl (by kernel_rfl) rfl rfl ?_
  by_cases h0 : line.length = 0
  · have hl0 := List.eq_nil_of_length_eq_zero h0
    by_cases h13 : x.toNat = 13
    · rw [if_neg (fun h => h.2 (hx13.2 h13))] at k
      (conv => whnf); repeat ((first | refine tk1 ?_ | refine tk2 ?_ | refine tk3 ?_ | refine tk12 (fun _ => ?_) | refine tk4 ?_ | refine tk5 ?_ | refine tk6 ?_ | refine tk7 ?_ | refine tk8 ?_ | refine tk9 ?_ | refine tk10 (fun _ _ => ?_) | refine tk11 (fun _ => ?_) | refine tk13 ?_ | refine tk14 ?_); (conv => whnf))
      refine line_k hc' (ph := 2) (left := left) (trail := trail) (l := line) (d := d) (y := ⟨lA, lc, dA, dc⟩) (x := x) (by omega) (fun y' => ?_)
      rcases lineG_cases line x with ⟨h1, h2, e⟩ | e | ⟨h1, h2, e⟩ <;> rw [e] at k <;> rw [lineT, e] <;> unfold cHeap <;> dsimp only at k ⊢
      · (conv => whnf); repeat ((first | refine tk1 ?_ | refine tk2 ?_ | refine tk3 ?_ | refine tk12 (fun _ => ?_) | refine tk4 ?_ | refine tk5 ?_ | refine tk6 ?_ | refine tk7 ?_ | refine tk8 ?_ | refine tk9 ?_ | refine tk10 (fun _ _ => ?_) | refine tk11 (fun _ => ?_) | refine tk13 ?_ | refine tk14 ?_); (conv => whnf))
        exact ⟨_, Cv.into (by (try dsimp only); repeat' (first | with_reducible exact Cv.refl | with_reducible exact Cv.left | with_reducible exact Cv.right | with_reducible exact Cv.nil | (with_reducible apply Cv.cons; focus ((repeat (first | with_reducible exact Pick.here | with_reducible apply Pick.skip)); done)) | (apply Cv.cons; focus ((repeat (first | exact Pick.here | apply Pick.skip)); done)) | exact Cv.nil | exact Cv.refl | exact Cv.left | exact Cv.right | refine Cv.skip ?_)), k y'⟩
      · (conv => whnf); repeat ((first | refine tk1 ?_ | refine tk2 ?_ | refine tk3 ?_ | refine tk12 (fun _ => ?_) | refine tk4 ?_ | refine tk5 ?_ | refine tk6 ?_ | refine tk7 ?_ | refine tk8 ?_ | refine tk9 ?_ | refine tk10 (fun _ _ => ?_) | refine tk11 (fun _ => ?_) | refine tk13 ?_ | refine tk14 ?_); (conv => whnf))
        exact ⟨_, Cv.into (by (try dsimp only); repeat' (first | with_reducible exact Cv.refl | with_reducible exact Cv.left | with_reducible exact Cv.right | with_reducible exact Cv.nil | (with_reducible apply Cv.cons; focus ((repeat (first | with_reducible exact Pick.here | with_reducible apply Pick.skip)); done)) | (apply Cv.cons; focus ((repeat (first | exact Pick.here | apply Pick.skip)); done)) | exact Cv.nil | exact Cv.refl | exact Cv.left | exact Cv.right | refine Cv.skip ?_)), k y'⟩
      · (conv => whnf); repeat ((first | refine tk1 ?_ | refine tk2 ?_ | refine tk3 ?_ | refine tk12 (fun _ => ?_) | refine tk4 ?_ | refine tk5 ?_ | refine tk6 ?_ | refine tk7 ?_ | refine tk8 ?_ | refine tk9 ?_ | refine tk10 (fun _ _ => ?_) | refine tk11 (fun _ => ?_) | refine tk13 ?_ | refine tk14 ?_); (conv => whnf))
        exact ⟨_, Cv.into (by (try dsimp only); repeat' (first | with_reducible exact Cv.refl | with_reducible exact Cv.left | with_reducible exact Cv.right | with_reducible exact Cv.nil | (with_reducible apply Cv.cons; focus ((repeat (first | with_reducible exact Pick.here | with_reducible apply Pick.skip)); done)) | (apply Cv.cons; focus ((repeat (first | exact Pick.here | apply Pick.skip)); done)) | exact Cv.nil | exact Cv.refl | exact Cv.left | exact Cv.right | refine Cv.skip ?_)), k y'⟩
    · rw [if_pos ⟨hl0, mt hx13.1 h13⟩] at k
      (conv => whnf); repeat ((first | refine tk1 ?_ | refine tk2 ?_ | refine tk3 ?_ | refine tk12 (fun _ => ?_) | refine tk4 ?_ | refine tk5 ?_ | refine tk6 ?_ | refine tk7 ?_ | refine tk8 ?_ | refine tk9 ?_ | refine tk10 (fun _ _ => ?_) | refine tk11 (fun _ => ?_) | refine tk13 ?_ | refine tk14 ?_); (conv => whnf))
      exact ⟨_, Cv.into (by (try dsimp only); repeat' (first | with_reducible exact Cv.refl | with_reducible exact Cv.left | with_reducible exact Cv.right | with_reducible exact Cv.nil | (with_reducible apply Cv.cons; focus ((repeat (first | with_reducible exact Pick.here | with_reducible apply Pick.skip)); done)) | (apply Cv.cons; focus ((repeat (first | exact Pick.here | apply Pick.skip)); done)) | exact Cv.nil | exact Cv.refl | exact Cv.left | exact Cv.right | refine Cv.skip ?_)), k ⟨lA, lc, dA, dc⟩⟩
  · rw [if_neg (fun h => h0 (by rw [h.1]; rfl))] at k
    (conv => whnf); repeat ((first | refine tk1 ?_ | refine tk2 ?_ | refine tk3 ?_ | refine tk12 (fun _ => ?_) | refine tk4 ?_ | refine tk5 ?_ | refine tk6 ?_ | refine tk7 ?_ | refine tk8 ?_ | refine tk9 ?_ | refine tk10 (fun _ _ => ?_) | refine tk11 (fun _ => ?_) | refine tk13 ?_ | refine tk14 ?_); (conv => whnf))
    refine line_k hc' (ph := 2) (left := left) (trail := trail) (l := line) (d := d) (y := ⟨lA, lc, dA, dc⟩) (x := x) (by omega) (fun y' => ?_)
    rcases lineG_cases line x with ⟨h1, h2, e⟩ | e | ⟨h1, h2, e⟩ <;> rw [e] at k <;> rw [lineT, e] <;> unfold cHeap <;> dsimp only at k ⊢
    · (conv => whnf); repeat ((first | refine tk1 ?_ | refine tk2 ?_ | refine tk3 ?_ | refine tk12 (fun _ => ?_) | refine tk4 ?_ | refine tk5 ?_ | refine tk6 ?_ | refine tk7 ?_ | refine tk8 ?_ | refine tk9 ?_ | refine tk10 (fun _ _ => ?_) | refine tk11 (fun _ => ?_) | refine tk13 ?_ | refine tk14 ?_); (conv => whnf))
      exact ⟨_, Cv.into (by (try dsimp only); repeat' (first | with_reducible exact Cv.refl | with_reducible exact Cv.left | with_reducible exact Cv.right | with_reducible exact Cv.nil | (with_reducible apply Cv.cons; focus ((repeat (first | with_reducible exact Pick.here | with_reducible apply Pick.skip)); done)) | (apply Cv.cons; focus ((repeat (first | exact Pick.here | apply Pick.skip)); done)) | exact Cv.nil | exact Cv.refl | exact Cv.left | exact Cv.right | refine Cv.skip ?_)), k y'⟩
    · (conv => whnf); repeat ((first | refine tk1 ?_ | refine tk2 ?_ | refine tk3 ?_ | refine tk12 (fun _ => ?_) | refine tk4 ?_ | refine tk5 ?_ | refine tk6 ?_ | refine tk7 ?_ | refine tk8 ?_ | refine tk9 ?_ | refine tk10 (fun _ _ => ?_) | refine tk11 (fun _ => ?_) | refine tk13 ?_ | refine tk14 ?_); (conv => whnf))
      exact ⟨_, Cv.into (by (try dsimp only); repeat' (first | with_reducible exact Cv.refl | with_reducible exact Cv.left | with_reducible exact Cv.right | with_reducible exact Cv.nil | (with_reducible apply Cv.cons; focus ((repeat (first | with_reducible exact Pick.here | with_reducible apply Pick.skip)); done)) | (apply Cv.cons; focus ((repeat (first | exact Pick.here | apply Pick.skip)); done)) | exact Cv.nil | exact Cv.refl | exact Cv.left | exact Cv.right | refine Cv.skip ?_)), k y'⟩
    · (conv => whnf); repeat ((first | refine tk1 ?_ | refine tk2 ?_ | refine tk3 ?_ | refine tk12 (fun _ => ?_) | refine tk4 ?_ | refine tk5 ?_ | refine tk6 ?_ | refine tk7 ?_ | refine tk8 ?_ | refine tk9 ?_ | refine tk10 (fun _ _ => ?_) | refine tk11 (fun _ => ?_) | refine tk13 ?_ | refine tk14 ?_); (conv => whnf))
      exact ⟨_, Cv.into (by (try dsimp only); repeat' (first | with_reducible exact Cv.refl | with_reducible exact Cv.left | with_reducible exact Cv.right | with_reducible exact Cv.nil | (with_reducible apply Cv.cons; focus ((repeat (first | with_reducible exact Pick.here | with_reducible apply Pick.skip)); done)) | (apply Cv.cons; focus ((repeat (first | exact Pick.here | apply Pick.skip)); done)) | exact Cv.nil | exact Cv.refl | exact Cv.left | exact Cv.right | refine Cv.skip ?_)), k y'⟩
theorem trailer_k {c : Ctx} (hc : Ours Tryz.prog gI c) {b : Nat} {s : CSt} {d : List UInt8} {y : CMem} {x : UInt8} {X : Hp} {K : Value → Hp → Prop} (hm : chMay s = true) (hp : s.ph = 3)
    (k : ∀ y', K (.int .i64 (oneG s x).2) (cHeap b (oneG s x).1 d y' X)) : CallK c false 54 [.pointer (some ⟨b, 0, none⟩), .int .u8 x.toNat] (cHeap b s d y X) K := by
  obtain ⟨P, g, w0, M, hM, hG⟩ := c
  have hc' := hc
  obtain ⟨rfl, rfl⟩ := hc
  obtain ⟨lA, lc, dA, dc⟩ := y
  have hml := may_le hm
  obtain ⟨ph, left, line, trail⟩ := s
  dsimp only at hp hml
  subst hp
  have hx := x.toNat_lt
  have hx13 : x = 13 ↔ x.toNat = 13 := by rw [← UInt8.toNat_inj]; rfl
  unfold oneG at k
  simp only [show ¬ (3 = 0) by decide, show ¬ (3 = 2) by decide, if_false] at k
  unfold cHeap
  dsimp only
  refine CallK.post ?_
  refine CallK.inl tys_ok Tryz.func54 rfl (by kernel_rfl) rfl rfl ?_
  by_cases h0 : trail = 256
  · rw [if_pos h0] at k
    (conv => whnf); repeat ((first | refine tk1 ?_ | refine tk2 ?_ | refine tk3 ?_ | refine tk12 (fun _ => ?_) | refine tk4 ?_ | refine tk5 ?_ | refine tk6 ?_ | refine tk7 ?_ | refine tk8 ?_ | refine tk9 ?_ | refine tk10 (fun _ _ => ?_) | refine tk11 (fun _ => ?_) | refine tk13 ?_ | refine tk14 ?_); (conv => whnf))
    exact ⟨_, Cv.into (by (try dsimp only); repeat' (first | with_reducible exact Cv.refl | with_reducible exact Cv.left | with_reducible exact Cv.right | with_reducible exact Cv.nil | (with_reducible apply Cv.cons; focus ((repeat (first | with_reducible exact Pick.here | with_reducible apply Pick.skip)); done)) | (apply Cv.cons; focus ((repeat (first | exact Pick.here | apply Pick.skip)); done)) | exact Cv.nil | exact Cv.refl | exact Cv.left | exact Cv.right | refine Cv.skip ?_)), k ⟨lA, lc, dA, dc⟩⟩
  rw [if_neg h0] at k
  (conv => whnf); repeat ((first | refine tk1 ?_ | refine tk2 ?_ | refine tk3 ?_ | refine tk12 (fun _ => ?_) | refine tk4 ?_ | refine tk5 ?_ | refine tk6 ?_ | refine tk7 ?_ | refine tk8 ?_ | refine tk9 ?_ | refine tk10 (fun _ _ => ?_) | refine tk11 (fun _ => ?_) | refine tk13 ?_ | refine tk14 ?_); (conv => whnf))
  refine line_k hc' (ph := 3) (left := left) (trail := trail + 1) (l := line) (d := d) (y := ⟨lA, lc, dA, dc⟩) (x := x) (by omega) (fun y' => ?_)
  rcases lineG_cases line x with ⟨h1, h2, e⟩ | e | ⟨h1, h2, e⟩ <;> rw [e] at k <;> rw [lineT, e] <;> unfold cHeap <;> dsimp only at k ⊢
  · have hdl : line.dropLast.length ≤ line.length := by rw [List.length_dropLast]; omega
    by_cases hz : line.dropLast = []
    · rw [if_pos hz] at k
      rw [hz]
      (conv => whnf); repeat ((first | refine tk1 ?_ | refine tk2 ?_ | refine tk3 ?_ | refine tk12 (fun _ => ?_) | refine tk4 ?_ | refine tk5 ?_ | refine tk6 ?_ | refine tk7 ?_ | refine tk8 ?_ | refine tk9 ?_ | refine tk10 (fun _ _ => ?_) | refine tk11 (fun _ => ?_) | refine tk13 ?_ | refine tk14 ?_); (conv => whnf))
      exact ⟨_, Cv.into (by (try dsimp only); repeat' (first | with_reducible exact Cv.refl | with_reducible exact Cv.left | with_reducible exact Cv.right | with_reducible exact Cv.nil | (with_reducible apply Cv.cons; focus ((repeat (first | with_reducible exact Pick.here | with_reducible apply Pick.skip)); done)) | (apply Cv.cons; focus ((repeat (first | exact Pick.here | apply Pick.skip)); done)) | exact Cv.nil | exact Cv.refl | exact Cv.left | exact Cv.right | refine Cv.skip ?_)), k y'⟩
    · rw [if_neg hz] at k
      have hz2 := List.length_pos_iff.2 hz
      (conv => whnf); repeat ((first | refine tk1 ?_ | refine tk2 ?_ | refine tk3 ?_ | refine tk12 (fun _ => ?_) | refine tk4 ?_ | refine tk5 ?_ | refine tk6 ?_ | refine tk7 ?_ | refine tk8 ?_ | refine tk9 ?_ | refine tk10 (fun _ _ => ?_) | refine tk11 (fun _ => ?_) | refine tk13 ?_ | refine tk14 ?_); (conv => whnf))
      refine Cmp.f hz ?_
      (conv => whnf); repeat ((first | refine tk1 ?_ | refine tk2 ?_ | refine tk3 ?_ | refine tk12 (fun _ => ?_) | refine tk4 ?_ | refine tk5 ?_ | refine tk6 ?_ | refine tk7 ?_ | refine tk8 ?_ | refine tk9 ?_ | refine tk10 (fun _ _ => ?_) | refine tk11 (fun _ => ?_) | refine tk13 ?_ | refine tk14 ?_); (conv => whnf))
      refine CallK.fn (Parse_f line.dropLast (by omega)) ?_
      (conv => whnf); repeat ((first | refine tk1 ?_ | refine tk2 ?_ | refine tk3 ?_ | refine tk12 (fun _ => ?_) | refine tk4 ?_ | refine tk5 ?_ | refine tk6 ?_ | refine tk7 ?_ | refine tk8 ?_ | refine tk9 ?_ | refine tk10 (fun _ _ => ?_) | refine tk11 (fun _ => ?_) | refine tk13 ?_ | refine tk14 ?_); (conv => whnf))
      exact ⟨_, Cv.into (by (try dsimp only); repeat' (first | with_reducible exact Cv.refl | with_reducible exact Cv.left | with_reducible exact Cv.right | with_reducible exact Cv.nil | (with_reducible apply Cv.cons; focus ((repeat (first | with_reducible exact Pick.here | with_reducible apply Pick.skip)); done)) | (apply Cv.cons; focus ((repeat (first | exact Pick.here | apply Pick.skip)); done)) | exact Cv.nil | exact Cv.refl | exact Cv.left | exact Cv.right | refine Cv.skip ?_)), k y'⟩
  · (conv => whnf); repeat ((first | refine tk1 ?_ | refine tk2 ?_ | refine tk3 ?_ | refine tk12 (fun _ => ?_) | refine tk4 ?_ | refine tk5 ?_ | refine tk6 ?_ | refine tk7 ?_ | refine tk8 ?_ | refine tk9 ?_ | refine tk10 (fun _ _ => ?_) | refine tk11 (fun _ => ?_) | refine tk13 ?_ | refine tk14 ?_); (conv => whnf))
    exact ⟨_, Cv.into (by (try dsimp only); repeat' (first | with_reducible exact Cv.refl | with_reducible exact Cv.left | with_reducible exact Cv.right | with_reducible exact Cv.nil | (with_reducible apply Cv.cons; focus ((repeat (first | with_reducible exact Pick.here | with_reducible apply Pick.skip)); done)) | (apply Cv.cons; focus ((repeat (first | exact Pick.here | apply Pick.skip)); done)) | exact Cv.nil | exact Cv.refl | exact Cv.left | exact Cv.right | refine Cv.skip ?_)), k y'⟩
  · (conv => whnf); repeat ((first | refine tk1 ?_ | refine tk2 ?_ | refine tk3 ?_ | refine tk12 (fun _ => ?_) | refine tk4 ?_ | refine tk5 ?_ | refine tk6 ?_ | refine tk7 ?_ | refine tk8 ?_ | refine tk9 ?_ | refine tk10 (fun _ _ => ?_) | refine tk11 (fun _ => ?_) | refine tk13 ?_ | refine tk14 ?_); (conv => whnf))
    exact ⟨_, Cv.into (by (try dsimp only); repeat' (first | with_reducible exact Cv.refl | with_reducible exact Cv.left | with_reducible exact Cv.right | with_reducible exact Cv.nil | (with_reducible apply Cv.cons; focus ((repeat (first | with_reducible exact Pick.here | with_reducible apply Pick.skip)); done)) | (apply Cv.cons; focus ((repeat (first | exact Pick.here | apply Pick.skip)); done)) | exact Cv.nil | exact Cv.refl | exact Cv.left | exact Cv.right | refine Cv.skip ?_)), k y'⟩
end Go.Proofs.YtnaeeklnlddcaaaGreatDoor.Vex
