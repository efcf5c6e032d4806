/- For every text, coding and number of 16 bits, AcceptItems returns true; the arguments read behind the call as they read before. -/
import Derived.Test.YtggokigjnaiokaaDoorMAcceptItems3
/- The laws AcceptNames and AcceptWeights, reckoned. -/
namespace Go.Proofs.YtggokigjnaiokaaDoor.Vex
open Go Go.RowKit
set_option maxRecDepth 100000
set_option linter.unusedSectionVars false
variable {gI : GI} [HasMax gI]

theorem chooses_f (v : List UInt8) (c : UInt8) (b : Bool) (hv : v.length ≤ 1000000) (h : decide (chooseS [1, 2] v true = ((c.toNat : Int), true, 0)) = b) : Fn Tryd.prog gI 33 [str v, .int .u8 c.toNat] (.bool b) := by
  subst h
  refine Fn.of tys_ok Tryd.func33 rfl (by kernel_rfl) rfl rfl ?_; intro w hG
  (conv => whnf); repeat ((first | refine tk1 ?_ | refine tk2 ?_ | refine tk3 ?_ | refine tk12 (fun _ => ?_) | refine tk4 ?_ | refine tk5 ?_ | refine tk6 ?_ | refine tk7 ?_ | refine tk8 ?_ | refine tk9 ?_ | refine tk10 (fun _ _ => ?_) | refine tk11 (fun _ => ?_)); (conv => whnf))
  refine CallK.fnR (Choose_f _ 2 [1, 2] v true (by decide) (by decide) hv) ⟨RdA.ok, trivial⟩ ?_
  obtain ⟨s, hs⟩ : ∃ s, chooseS [1, 2] v true = s := ⟨_, rfl⟩
  rw [hs]
  obtain ⟨s1, s2, s3⟩ := s
  dsimp only
  (conv => whnf); repeat ((first | refine tk1 ?_ | refine tk2 ?_ | refine tk3 ?_ | refine tk12 (fun _ => ?_) | refine tk4 ?_ | refine tk5 ?_ | refine tk6 ?_ | refine tk7 ?_ | refine tk8 ?_ | refine tk9 ?_ | refine tk10 (fun _ _ => ?_) | refine tk11 (fun _ => ?_)); (conv => whnf))
  refine Cmp.cases (fun h1 => ?_) (fun h1 => ?_)
  · cases s2
    · (conv => whnf); repeat ((first | refine tk1 ?_ | refine tk2 ?_ | refine tk3 ?_ | refine tk12 (fun _ => ?_) | refine tk4 ?_ | refine tk5 ?_ | refine tk6 ?_ | refine tk7 ?_ | refine tk8 ?_ | refine tk9 ?_ | refine tk10 (fun _ _ => ?_) | refine tk11 (fun _ => ?_)); (conv => whnf))
      rw [decide_eq_false (by simp)]
    · (conv => whnf); repeat ((first | refine tk1 ?_ | refine tk2 ?_ | refine tk3 ?_ | refine tk12 (fun _ => ?_) | refine tk4 ?_ | refine tk5 ?_ | refine tk6 ?_ | refine tk7 ?_ | refine tk8 ?_ | refine tk9 ?_ | refine tk10 (fun _ _ => ?_) | refine tk11 (fun _ => ?_)); (conv => whnf))
      refine Cmp.cases (fun h2 => ?_) (fun h2 => ?_)
      · (conv => whnf); repeat ((first | refine tk1 ?_ | refine tk2 ?_ | refine tk3 ?_ | refine tk12 (fun _ => ?_) | refine tk4 ?_ | refine tk5 ?_ | refine tk6 ?_ | refine tk7 ?_ | refine tk8 ?_ | refine tk9 ?_ | refine tk10 (fun _ _ => ?_) | refine tk11 (fun _ => ?_)); (conv => whnf))
        rw [decide_eq_true (by simp [h1, h2])]
      · (conv => whnf); repeat ((first | refine tk1 ?_ | refine tk2 ?_ | refine tk3 ?_ | refine tk12 (fun _ => ?_) | refine tk4 ?_ | refine tk5 ?_ | refine tk6 ?_ | refine tk7 ?_ | refine tk8 ?_ | refine tk9 ?_ | refine tk10 (fun _ _ => ?_) | refine tk11 (fun _ => ?_)); (conv => whnf))
        rw [decide_eq_false (by simp [h2])]
  · (conv => whnf); repeat ((first | refine tk1 ?_ | refine tk2 ?_ | refine tk3 ?_ | refine tk12 (fun _ => ?_) | refine tk4 ?_ | refine tk5 ?_ | refine tk6 ?_ | refine tk7 ?_ | refine tk8 ?_ | refine tk9 ?_ | refine tk10 (fun _ _ => ?_) | refine tk11 (fun _ => ?_)); (conv => whnf))
    rw [decide_eq_false (by simp [h1])]
theorem none_f (v : List UInt8) (b : Bool) (hv : v.length ≤ 1000000) (h : decide (chooseS [1, 2] v true = (0, false, 0)) = b) : Fn Tryd.prog gI 34 [str v] (.bool b) := by
  subst h
  refine Fn.of tys_ok Tryd.func34 rfl (by kernel_rfl) rfl rfl ?_; intro w hG
  (conv => whnf); repeat ((first | refine tk1 ?_ | refine tk2 ?_ | refine tk3 ?_ | refine tk12 (fun _ => ?_) | refine tk4 ?_ | refine tk5 ?_ | refine tk6 ?_ | refine tk7 ?_ | refine tk8 ?_ | refine tk9 ?_ | refine tk10 (fun _ _ => ?_) | refine tk11 (fun _ => ?_)); (conv => whnf))
  refine CallK.fnR (Choose_f _ 2 [1, 2] v true (by decide) (by decide) hv) ⟨RdA.ok, trivial⟩ ?_
  obtain ⟨s, hs⟩ : ∃ s, chooseS [1, 2] v true = s := ⟨_, rfl⟩
  rw [hs]
  obtain ⟨s1, s2, s3⟩ := s
  dsimp only
  (conv => whnf); repeat ((first | refine tk1 ?_ | refine tk2 ?_ | refine tk3 ?_ | refine tk12 (fun _ => ?_) | refine tk4 ?_ | refine tk5 ?_ | refine tk6 ?_ | refine tk7 ?_ | refine tk8 ?_ | refine tk9 ?_ | refine tk10 (fun _ _ => ?_) | refine tk11 (fun _ => ?_)); (conv => whnf))
  refine Cmp.cases (fun h1 => ?_) (fun h1 => ?_)
  · cases s2
    · (conv => whnf); repeat ((first | refine tk1 ?_ | refine tk2 ?_ | refine tk3 ?_ | refine tk12 (fun _ => ?_) | refine tk4 ?_ | refine tk5 ?_ | refine tk6 ?_ | refine tk7 ?_ | refine tk8 ?_ | refine tk9 ?_ | refine tk10 (fun _ _ => ?_) | refine tk11 (fun _ => ?_)); (conv => whnf))
      refine Cmp.cases (fun h2 => ?_) (fun h2 => ?_)
      · (conv => whnf); repeat ((first | refine tk1 ?_ | refine tk2 ?_ | refine tk3 ?_ | refine tk12 (fun _ => ?_) | refine tk4 ?_ | refine tk5 ?_ | refine tk6 ?_ | refine tk7 ?_ | refine tk8 ?_ | refine tk9 ?_ | refine tk10 (fun _ _ => ?_) | refine tk11 (fun _ => ?_)); (conv => whnf))
        rw [decide_eq_true (by simp [h1, h2])]
      · (conv => whnf); repeat ((first | refine tk1 ?_ | refine tk2 ?_ | refine tk3 ?_ | refine tk12 (fun _ => ?_) | refine tk4 ?_ | refine tk5 ?_ | refine tk6 ?_ | refine tk7 ?_ | refine tk8 ?_ | refine tk9 ?_ | refine tk10 (fun _ _ => ?_) | refine tk11 (fun _ => ?_)); (conv => whnf))
        rw [decide_eq_false (by simp [h2])]
    · (conv => whnf); repeat ((first | refine tk1 ?_ | refine tk2 ?_ | refine tk3 ?_ | refine tk12 (fun _ => ?_) | refine tk4 ?_ | refine tk5 ?_ | refine tk6 ?_ | refine tk7 ?_ | refine tk8 ?_ | refine tk9 ?_ | refine tk10 (fun _ _ => ?_) | refine tk11 (fun _ => ?_)); (conv => whnf))
      rw [decide_eq_false (by simp)]
  · (conv => whnf); repeat ((first | refine tk1 ?_ | refine tk2 ?_ | refine tk3 ?_ | refine tk12 (fun _ => ?_) | refine tk4 ?_ | refine tk5 ?_ | refine tk6 ?_ | refine tk7 ?_ | refine tk8 ?_ | refine tk9 ?_ | refine tk10 (fun _ _ => ?_) | refine tk11 (fun _ => ?_)); (conv => whnf))
    rw [decide_eq_false (by simp [h1])]
theorem alive23_f : Fn Tryd.prog gI 28 [] (.bool true) := by
  refine Fn.of tys_ok Tryd.func28 rfl (by kernel_rfl) rfl rfl ?_; intro w hG
  (conv => whnf); repeat ((first | refine tk1 ?_ | refine tk2 ?_ | refine tk3 ?_ | refine tk12 (fun _ => ?_) | refine tk4 ?_ | refine tk5 ?_ | refine tk6 ?_ | refine tk7 ?_ | refine tk8 ?_ | refine tk9 ?_ | refine tk10 (fun _ _ => ?_) | refine tk11 (fun _ => ?_)); (conv => whnf))
  refine CallK.fn (chooses_f [100, 101, 102, 108, 97, 116, 101, 44, 32, 103, 122, 105, 112, 59, 113, 61, 48, 46, 53] 2 true (by decide) (by kernel_rfl)) ?_
  (conv => whnf); repeat ((first | refine tk1 ?_ | refine tk2 ?_ | refine tk3 ?_ | refine tk12 (fun _ => ?_) | refine tk4 ?_ | refine tk5 ?_ | refine tk6 ?_ | refine tk7 ?_ | refine tk8 ?_ | refine tk9 ?_ | refine tk10 (fun _ _ => ?_) | refine tk11 (fun _ => ?_)); (conv => whnf))
  refine CallK.fn (chooses_f [] 0 true (by decide) (by kernel_rfl)) ?_
  (conv => whnf); repeat ((first | refine tk1 ?_ | refine tk2 ?_ | refine tk3 ?_ | refine tk12 (fun _ => ?_) | refine tk4 ?_ | refine tk5 ?_ | refine tk6 ?_ | refine tk7 ?_ | refine tk8 ?_ | refine tk9 ?_ | refine tk10 (fun _ _ => ?_) | refine tk11 (fun _ => ?_)); (conv => whnf))
theorem AcceptNames_v : Fn Tryd.prog gI 11 [] (.bool true) := by
  refine Fn.of tys_ok Tryd.func11 rfl (by kernel_rfl) rfl rfl ?_; intro w hG
  (conv => whnf); repeat ((first | refine tk1 ?_ | refine tk2 ?_ | refine tk3 ?_ | refine tk12 (fun _ => ?_) | refine tk4 ?_ | refine tk5 ?_ | refine tk6 ?_ | refine tk7 ?_ | refine tk8 ?_ | refine tk9 ?_ | refine tk10 (fun _ _ => ?_) | refine tk11 (fun _ => ?_)); (conv => whnf))
  refine CallK.fnR ((Choose_f _ 2 [1, 2] [] false (by decide) (by decide) (by decide)).toV (v' := .tuple #[.int .u8 1, .bool true, .int .i64 0]) (by kernel_rfl)) ⟨RdA.ok, trivial⟩ ?_
  (conv => whnf); repeat ((first | refine tk1 ?_ | refine tk2 ?_ | refine tk3 ?_ | refine tk12 (fun _ => ?_) | refine tk4 ?_ | refine tk5 ?_ | refine tk6 ?_ | refine tk7 ?_ | refine tk8 ?_ | refine tk9 ?_ | refine tk10 (fun _ _ => ?_) | refine tk11 (fun _ => ?_)); (conv => whnf))
  refine CallK.fnR ((Choose_f _ 2 [1, 1] [] false (by decide) (by decide) (by decide)).toV (v' := .tuple #[.int .u8 0, .bool false, .int .i64 2]) (by kernel_rfl)) ⟨RdA.ok, trivial⟩ ?_
  (conv => whnf); repeat ((first | refine tk1 ?_ | refine tk2 ?_ | refine tk3 ?_ | refine tk12 (fun _ => ?_) | refine tk4 ?_ | refine tk5 ?_ | refine tk6 ?_ | refine tk7 ?_ | refine tk8 ?_ | refine tk9 ?_ | refine tk10 (fun _ _ => ?_) | refine tk11 (fun _ => ?_)); (conv => whnf))
  refine CallK.fnR ((Choose_f _ 1 [3] [] false (by decide) (by decide) (by decide)).toV (v' := .tuple #[.int .u8 0, .bool false, .int .i64 2]) (by kernel_rfl)) ⟨RdA.ok, trivial⟩ ?_
  (conv => whnf); repeat ((first | refine tk1 ?_ | refine tk2 ?_ | refine tk3 ?_ | refine tk12 (fun _ => ?_) | refine tk4 ?_ | refine tk5 ?_ | refine tk6 ?_ | refine tk7 ?_ | refine tk8 ?_ | refine tk9 ?_ | refine tk10 (fun _ _ => ?_) | refine tk11 (fun _ => ?_)); (conv => whnf))
  refine CallK.fnR ((Choose_f none 0 [] [103, 122, 105, 112] true (by decide) (by decide) (by decide)).toV (v' := .tuple #[.int .u8 0, .bool true, .int .i64 0]) (by kernel_rfl)) ⟨RdS.nil, trivial⟩ ?_
  (conv => whnf); repeat ((first | refine tk1 ?_ | refine tk2 ?_ | refine tk3 ?_ | refine tk12 (fun _ => ?_) | refine tk4 ?_ | refine tk5 ?_ | refine tk6 ?_ | refine tk7 ?_ | refine tk8 ?_ | refine tk9 ?_ | refine tk10 (fun _ _ => ?_) | refine tk11 (fun _ => ?_)); (conv => whnf))
  refine CallK.fn (chooses_f [42] 1 true (by decide) (by kernel_rfl)) ?_
  (conv => whnf); repeat ((first | refine tk1 ?_ | refine tk2 ?_ | refine tk3 ?_ | refine tk12 (fun _ => ?_) | refine tk4 ?_ | refine tk5 ?_ | refine tk6 ?_ | refine tk7 ?_ | refine tk8 ?_ | refine tk9 ?_ | refine tk10 (fun _ _ => ?_) | refine tk11 (fun _ => ?_)); (conv => whnf))
  refine CallK.fn (chooses_f [98, 114] 0 true (by decide) (by kernel_rfl)) ?_
  (conv => whnf); repeat ((first | refine tk1 ?_ | refine tk2 ?_ | refine tk3 ?_ | refine tk12 (fun _ => ?_) | refine tk4 ?_ | refine tk5 ?_ | refine tk6 ?_ | refine tk7 ?_ | refine tk8 ?_ | refine tk9 ?_ | refine tk10 (fun _ _ => ?_) | refine tk11 (fun _ => ?_)); (conv => whnf))
  refine CallK.fn (chooses_f [103, 122, 105, 112, 59, 113, 61, 48, 44, 32, 42] 2 true (by decide) (by kernel_rfl)) ?_
  (conv => whnf); repeat ((first | refine tk1 ?_ | refine tk2 ?_ | refine tk3 ?_ | refine tk12 (fun _ => ?_) | refine tk4 ?_ | refine tk5 ?_ | refine tk6 ?_ | refine tk7 ?_ | refine tk8 ?_ | refine tk9 ?_ | refine tk10 (fun _ _ => ?_) | refine tk11 (fun _ => ?_)); (conv => whnf))
  refine CallK.fn (chooses_f [103, 122, 105, 112, 59, 113, 61, 48, 46, 48, 48, 49, 44, 32, 105, 100, 101, 110, 116, 105, 116, 121, 59, 113, 61, 48, 46, 48, 48, 50] 0 true (by decide) (by kernel_rfl)) ?_
  (conv => whnf); repeat ((first | refine tk1 ?_ | refine tk2 ?_ | refine tk3 ?_ | refine tk12 (fun _ => ?_) | refine tk4 ?_ | refine tk5 ?_ | refine tk6 ?_ | refine tk7 ?_ | refine tk8 ?_ | refine tk9 ?_ | refine tk10 (fun _ _ => ?_) | refine tk11 (fun _ => ?_)); (conv => whnf))
  refine CallK.fn (chooses_f [42, 59, 113, 61, 48, 44, 32, 100, 101, 102, 108, 97, 116, 101, 59, 113, 61, 49, 46, 48, 48, 48] 2 true (by decide) (by kernel_rfl)) ?_
  (conv => whnf); repeat ((first | refine tk1 ?_ | refine tk2 ?_ | refine tk3 ?_ | refine tk12 (fun _ => ?_) | refine tk4 ?_ | refine tk5 ?_ | refine tk6 ?_ | refine tk7 ?_ | refine tk8 ?_ | refine tk9 ?_ | refine tk10 (fun _ _ => ?_) | refine tk11 (fun _ => ?_)); (conv => whnf))
  refine CallK.fn (chooses_f [103, 122, 105, 112, 59, 113, 61, 50, 44, 32, 100, 101, 102, 108, 97, 116, 101, 59, 113, 61, 46, 53, 44, 32, 120, 32, 121] 0 true (by decide) (by kernel_rfl)) ?_
  (conv => whnf); repeat ((first | refine tk1 ?_ | refine tk2 ?_ | refine tk3 ?_ | refine tk12 (fun _ => ?_) | refine tk4 ?_ | refine tk5 ?_ | refine tk6 ?_ | refine tk7 ?_ | refine tk8 ?_ | refine tk9 ?_ | refine tk10 (fun _ _ => ?_) | refine tk11 (fun _ => ?_)); (conv => whnf))
  refine CallK.fn (none_f [105, 100, 101, 110, 116, 105, 116, 121, 59, 113, 61, 48] true (by decide) (by kernel_rfl)) ?_
  (conv => whnf); repeat ((first | refine tk1 ?_ | refine tk2 ?_ | refine tk3 ?_ | refine tk12 (fun _ => ?_) | refine tk4 ?_ | refine tk5 ?_ | refine tk6 ?_ | refine tk7 ?_ | refine tk8 ?_ | refine tk9 ?_ | refine tk10 (fun _ _ => ?_) | refine tk11 (fun _ => ?_)); (conv => whnf))
  refine CallK.fn (none_f [42, 59, 113, 61, 48] true (by decide) (by kernel_rfl)) ?_
  (conv => whnf); repeat ((first | refine tk1 ?_ | refine tk2 ?_ | refine tk3 ?_ | refine tk12 (fun _ => ?_) | refine tk4 ?_ | refine tk5 ?_ | refine tk6 ?_ | refine tk7 ?_ | refine tk8 ?_ | refine tk9 ?_ | refine tk10 (fun _ _ => ?_) | refine tk11 (fun _ => ?_)); (conv => whnf))
  refine CallK.fn (none_f [105, 100, 101, 110, 116, 105, 116, 121, 59, 113, 61, 48, 44, 32, 103, 122, 105, 112, 59, 113, 61, 48, 46, 48, 48, 48] true (by decide) (by kernel_rfl)) ?_
  (conv => whnf); repeat ((first | refine tk1 ?_ | refine tk2 ?_ | refine tk3 ?_ | refine tk12 (fun _ => ?_) | refine tk4 ?_ | refine tk5 ?_ | refine tk6 ?_ | refine tk7 ?_ | refine tk8 ?_ | refine tk9 ?_ | refine tk10 (fun _ _ => ?_) | refine tk11 (fun _ => ?_)); (conv => whnf))
  refine CallK.fn ((Weight_f [48, 46, 50, 53] (by decide)).to (v' := .tuple #[.int .i64 250, .bool true]) (by kernel_rfl)) ?_
  (conv => whnf); repeat ((first | refine tk1 ?_ | refine tk2 ?_ | refine tk3 ?_ | refine tk12 (fun _ => ?_) | refine tk4 ?_ | refine tk5 ?_ | refine tk6 ?_ | refine tk7 ?_ | refine tk8 ?_ | refine tk9 ?_ | refine tk10 (fun _ _ => ?_) | refine tk11 (fun _ => ?_)); (conv => whnf))
  refine CallK.fn ((AccOf_f [88, 45, 71, 122, 105, 112] (by decide)).to (v' := .tuple #[.int .u8 1, .bool true]) (by kernel_rfl)) ?_
  (conv => whnf); repeat ((first | refine tk1 ?_ | refine tk2 ?_ | refine tk3 ?_ | refine tk12 (fun _ => ?_) | refine tk4 ?_ | refine tk5 ?_ | refine tk6 ?_ | refine tk7 ?_ | refine tk8 ?_ | refine tk9 ?_ | refine tk10 (fun _ _ => ?_) | refine tk11 (fun _ => ?_)); (conv => whnf))
  refine CallK.fn ((Name_f 2).to (v' := .tuple #[str [100, 101, 102, 108, 97, 116, 101], .int .i64 0]) (by kernel_rfl)) ?_
  (conv => whnf); repeat ((first | refine tk1 ?_ | refine tk2 ?_ | refine tk3 ?_ | refine tk12 (fun _ => ?_) | refine tk4 ?_ | refine tk5 ?_ | refine tk6 ?_ | refine tk7 ?_ | refine tk8 ?_ | refine tk9 ?_ | refine tk10 (fun _ _ => ?_) | refine tk11 (fun _ => ?_)); (conv => whnf))
  refine CallK.fn alive23_f ?_
  (conv => whnf); repeat ((first | refine tk1 ?_ | refine tk2 ?_ | refine tk3 ?_ | refine tk12 (fun _ => ?_) | refine tk4 ?_ | refine tk5 ?_ | refine tk6 ?_ | refine tk7 ?_ | refine tk8 ?_ | refine tk9 ?_ | refine tk10 (fun _ _ => ?_) | refine tk11 (fun _ => ?_)); (conv => whnf))
theorem DivS.quo16 {x m : Nat} {K : Value → Prop} (hm : 0 < m) (h : x < 65536) (k : K (.int .u16 ((x / m : Nat) : Int))) : DivS .quo .u16 (x : Nat) (m : Nat) K := ⟨by omega, .inl ⟨rfl, _, by
  have e : ((x : Int).tdiv (m : Int)) = ((x / m : Nat) : Int) := (Int.ofNat_tdiv x m).symm
  have h2 : x / m ≤ x := Nat.div_le_self _ _
  rw [e]
  generalize x / m = q at *
  rw [IntKind.wrap]
  simp [IntKind.bits, IntKind.signed]
  omega, k⟩⟩
theorem DivS.rem16 {x m : Nat} {K : Value → Prop} (hm : 0 < m) (k : K (.int .u16 ((x % m : Nat) : Int))) : DivS .rem .u16 (x : Nat) (m : Nat) K := ⟨by omega, .inr ⟨rfl, _, (Int.ofNat_tmod x m), k⟩⟩
theorem wt_thou (n : Nat) (h : n ≤ 999) : wtB [48, 46, UInt8.ofNat (48 + n / 100), UInt8.ofNat (48 + n / 10 % 10), UInt8.ofNat (48 + n % 10)] = true ∧ wtI [48, 46, UInt8.ofNat (48 + n / 100), UInt8.ofNat (48 + n / 10 % 10), UInt8.ofNat (48 + n % 10)] = n := by
  obtain ⟨a1, a2⟩ := dec_digit (n / 100) (by omega)
  obtain ⟨b1, b2⟩ := dec_digit (n / 10 % 10) (by omega)
  obtain ⟨c1, c2⟩ := dec_digit (n % 10) (by omega)
  generalize UInt8.ofNat (48 + n / 100) = x at *
  generalize UInt8.ofNat (48 + n / 10 % 10) = y at *
  generalize UInt8.ofNat (48 + n % 10) = z at *
  obtain ⟨h1, h2, _⟩ := wt_all (s := [48, 46, x, y, z]) 48 [46, x, y, z] rfl (.inl rfl) (.inr ⟨[x, y, z], rfl⟩) (by simp)
  have hp : ppOf [48, 46, x, y, z] = [x, y, z] := by simp [ppOf]
  have hall : ∀ c ∈ ppOf [48, 46, x, y, z], wD 48 c := by
    rw [hp]
    intro c hc
    simp only [List.mem_cons, List.not_mem_nil, or_false] at hc
    rcases hc with rfl | rfl | rfl
    · exact ⟨a1, fun e => by cases e⟩
    · exact ⟨b1, fun e => by cases e⟩
    · exact ⟨c1, fun e => by cases e⟩
  refine ⟨h1.2 hall, ?_⟩
  rw [h2 hall, hp]
  simp only [numF, List.foldl_cons, List.foldl_nil, numStep, a2, b2, c2, UInt8.reduceToNat]
  omega
theorem AcceptWeights_v (s : List UInt8) (n : Nat) (hn : n < 65536) (hs : s.length ≤ 9223372036854775807) : Fn Tryd.prog gI 8 [str s, .int .u16 (n : Nat)] (.bool true) := by
  refine Fn.of tys_ok Tryd.func8 rfl (by kernel_rfl) rfl rfl ?_; intro w hG
  (conv => whnf); repeat ((first | refine tk1 ?_ | refine tk2 ?_ | refine tk3 ?_ | refine tk12 (fun _ => ?_) | refine tk4 ?_ | refine tk5 ?_ | refine tk6 ?_ | refine tk7 ?_ | refine tk8 ?_ | refine tk9 ?_ | refine tk10 (fun _ _ => ?_) | refine tk11 (fun _ => ?_)); (conv => whnf))
  refine CallK.fn alive23_f ?_
  (conv => whnf); repeat ((first | refine tk1 ?_ | refine tk2 ?_ | refine tk3 ?_ | refine tk12 (fun _ => ?_) | refine tk4 ?_ | refine tk5 ?_ | refine tk6 ?_ | refine tk7 ?_ | refine tk8 ?_ | refine tk9 ?_ | refine tk10 (fun _ _ => ?_) | refine tk11 (fun _ => ?_)); (conv => whnf))
  refine CallK.fn (Weight_f s hs) ?_
  cases hb : wtB s
  · (conv => whnf); repeat ((first | refine tk1 ?_ | refine tk2 ?_ | refine tk3 ?_ | refine tk12 (fun _ => ?_) | refine tk4 ?_ | refine tk5 ?_ | refine tk6 ?_ | refine tk7 ?_ | refine tk8 ?_ | refine tk9 ?_ | refine tk10 (fun _ _ => ?_) | refine tk11 (fun _ => ?_)); (conv => whnf))
    refine Cmp.cases (fun p1 => ?_) (fun p1 => ?_)
    · (conv => whnf); repeat ((first | refine tk1 ?_ | refine tk2 ?_ | refine tk3 ?_ | refine tk12 (fun _ => ?_) | refine tk4 ?_ | refine tk5 ?_ | refine tk6 ?_ | refine tk7 ?_ | refine tk8 ?_ | refine tk9 ?_ | refine tk10 (fun _ _ => ?_) | refine tk11 (fun _ => ?_)); (conv => whnf))
    have hn2 : n ≤ 999 := by omega
    obtain ⟨w1, w2⟩ := wt_thou n hn2
    have a2 := (dec_digit (n / 100) (by omega)).2
    have b2 := (dec_digit (n / 10 % 10) (by omega)).2
    have c2 := (dec_digit (n % 10) (by omega)).2
    obtain ⟨x, hx⟩ : ∃ x, UInt8.ofNat (48 + n / 100) = x := ⟨_, rfl⟩
    obtain ⟨y, hy⟩ : ∃ y, UInt8.ofNat (48 + n / 10 % 10) = y := ⟨_, rfl⟩
    obtain ⟨z, hz⟩ : ∃ z, UInt8.ofNat (48 + n % 10) = z := ⟨_, rfl⟩
    rw [hx] at a2 w1 w2
    rw [hy] at b2 w1 w2
    rw [hz] at c2 w1 w2
    have hcl : [Value.int .u8 48, .int .u8 46, .int .u8 (48 + ((n / 100 : Nat) : Int)), .int .u8 (48 + ((n / 10 % 10 : Nat) : Int)), .int .u8 (48 + ((n % 10 : Nat) : Int))] = [48, 46, x, y, z].map byteV := by
      show _ = [Value.int .u8 48, .int .u8 46, .int .u8 x.toNat, .int .u8 y.toNat, .int .u8 z.toNat]
      rw [a2, b2, c2]
      rfl
    (conv => whnf); repeat ((first | refine tk1 ?_ | refine tk2 ?_ | refine tk3 ?_ | refine tk12 (fun _ => ?_) | refine tk4 ?_ | refine tk5 ?_ | refine tk6 ?_ | refine tk7 ?_ | refine tk8 ?_ | refine tk9 ?_ | refine tk10 (fun _ _ => ?_) | refine tk11 (fun _ => ?_)); (conv => whnf))
    refine DivS.quo16 (m := 100) (by decide) hn ?_
    (conv => whnf); repeat ((first | refine tk1 ?_ | refine tk2 ?_ | refine tk3 ?_ | refine tk12 (fun _ => ?_) | refine tk4 ?_ | refine tk5 ?_ | refine tk6 ?_ | refine tk7 ?_ | refine tk8 ?_ | refine tk9 ?_ | refine tk10 (fun _ _ => ?_) | refine tk11 (fun _ => ?_)); (conv => whnf))
    refine Ar.in8 (by omega) (by omega) ?_
    (conv => whnf); repeat ((first | refine tk1 ?_ | refine tk2 ?_ | refine tk3 ?_ | refine tk12 (fun _ => ?_) | refine tk4 ?_ | refine tk5 ?_ | refine tk6 ?_ | refine tk7 ?_ | refine tk8 ?_ | refine tk9 ?_ | refine tk10 (fun _ _ => ?_) | refine tk11 (fun _ => ?_)); (conv => whnf))
    refine Ar.in8 (by omega) (by omega) ?_
    (conv => whnf); repeat ((first | refine tk1 ?_ | refine tk2 ?_ | refine tk3 ?_ | refine tk12 (fun _ => ?_) | refine tk4 ?_ | refine tk5 ?_ | refine tk6 ?_ | refine tk7 ?_ | refine tk8 ?_ | refine tk9 ?_ | refine tk10 (fun _ _ => ?_) | refine tk11 (fun _ => ?_)); (conv => whnf))
    refine DivS.quo16 (m := 10) (by decide) hn ?_
    (conv => whnf); repeat ((first | refine tk1 ?_ | refine tk2 ?_ | refine tk3 ?_ | refine tk12 (fun _ => ?_) | refine tk4 ?_ | refine tk5 ?_ | refine tk6 ?_ | refine tk7 ?_ | refine tk8 ?_ | refine tk9 ?_ | refine tk10 (fun _ _ => ?_) | refine tk11 (fun _ => ?_)); (conv => whnf))
    refine DivS.rem16 (m := 10) (by decide) ?_
    (conv => whnf); repeat ((first | refine tk1 ?_ | refine tk2 ?_ | refine tk3 ?_ | refine tk12 (fun _ => ?_) | refine tk4 ?_ | refine tk5 ?_ | refine tk6 ?_ | refine tk7 ?_ | refine tk8 ?_ | refine tk9 ?_ | refine tk10 (fun _ _ => ?_) | refine tk11 (fun _ => ?_)); (conv => whnf))
    refine Ar.in8 (by omega) (by omega) ?_
    (conv => whnf); repeat ((first | refine tk1 ?_ | refine tk2 ?_ | refine tk3 ?_ | refine tk12 (fun _ => ?_) | refine tk4 ?_ | refine tk5 ?_ | refine tk6 ?_ | refine tk7 ?_ | refine tk8 ?_ | refine tk9 ?_ | refine tk10 (fun _ _ => ?_) | refine tk11 (fun _ => ?_)); (conv => whnf))
    refine Ar.in8 (by omega) (by omega) ?_
    (conv => whnf); repeat ((first | refine tk1 ?_ | refine tk2 ?_ | refine tk3 ?_ | refine tk12 (fun _ => ?_) | refine tk4 ?_ | refine tk5 ?_ | refine tk6 ?_ | refine tk7 ?_ | refine tk8 ?_ | refine tk9 ?_ | refine tk10 (fun _ _ => ?_) | refine tk11 (fun _ => ?_)); (conv => whnf))
    refine DivS.rem16 (m := 10) (by decide) ?_
    (conv => whnf); repeat ((first | refine tk1 ?_ | refine tk2 ?_ | refine tk3 ?_ | refine tk12 (fun _ => ?_) | refine tk4 ?_ | refine tk5 ?_ | refine tk6 ?_ | refine tk7 ?_ | refine tk8 ?_ | refine tk9 ?_ | refine tk10 (fun _ _ => ?_) | refine tk11 (fun _ => ?_)); (conv => whnf))
    refine Ar.in8 (by omega) (by omega) ?_
    (conv => whnf); repeat ((first | refine tk1 ?_ | refine tk2 ?_ | refine tk3 ?_ | refine tk12 (fun _ => ?_) | refine tk4 ?_ | refine tk5 ?_ | refine tk6 ?_ | refine tk7 ?_ | refine tk8 ?_ | refine tk9 ?_ | refine tk10 (fun _ _ => ?_) | refine tk11 (fun _ => ?_)); (conv => whnf))
    refine Ar.in8 (by omega) (by omega) ?_
    (conv => whnf); repeat ((first | refine tk1 ?_ | refine tk2 ?_ | refine tk3 ?_ | refine tk12 (fun _ => ?_) | refine tk4 ?_ | refine tk5 ?_ | refine tk6 ?_ | refine tk7 ?_ | refine tk8 ?_ | refine tk9 ?_ | refine tk10 (fun _ _ => ?_) | refine tk11 (fun _ => ?_)); (conv => whnf))
    refine B2S.tc (l := [48, 46, x, y, z]) hcl rfl ?_
    (conv => whnf); repeat ((first | refine tk1 ?_ | refine tk2 ?_ | refine tk3 ?_ | refine tk12 (fun _ => ?_) | refine tk4 ?_ | refine tk5 ?_ | refine tk6 ?_ | refine tk7 ?_ | refine tk8 ?_ | refine tk9 ?_ | refine tk10 (fun _ _ => ?_) | refine tk11 (fun _ => ?_)); (conv => whnf))
    refine CallK.fn (Weight_f [48, 46, x, y, z] (by simp)) ?_
    rw [w1, w2]
    (conv => whnf); repeat ((first | refine tk1 ?_ | refine tk2 ?_ | refine tk3 ?_ | refine tk12 (fun _ => ?_) | refine tk4 ?_ | refine tk5 ?_ | refine tk6 ?_ | refine tk7 ?_ | refine tk8 ?_ | refine tk9 ?_ | refine tk10 (fun _ _ => ?_) | refine tk11 (fun _ => ?_)); (conv => whnf))
  · obtain ⟨a, t, hat, h5, r1, r2, r3⟩ := wt_one hb
    have hl : 1 ≤ s.length := by rw [hat]; simp
    have h0 : s[(0 : Int).toNat]? = some a := by rw [hat]; rfl
    have hat2 := a.toNat_lt
    have h49 : (a.toNat : Int) = 49 ↔ a = 49 := ⟨fun h => UInt8.toNat_inj.1 (by show a.toNat = 49; omega), fun h => by rw [h]; rfl⟩
    (conv => whnf); repeat ((first | refine tk1 ?_ | refine tk2 ?_ | refine tk3 ?_ | refine tk12 (fun _ => ?_) | refine tk4 ?_ | refine tk5 ?_ | refine tk6 ?_ | refine tk7 ?_ | refine tk8 ?_ | refine tk9 ?_ | refine tk10 (fun _ _ => ?_) | refine tk11 (fun _ => ?_)); (conv => whnf))
    refine IdxS.at a h0 (by decide) ?_
    (conv => whnf); repeat ((first | refine tk1 ?_ | refine tk2 ?_ | refine tk3 ?_ | refine tk12 (fun _ => ?_) | refine tk4 ?_ | refine tk5 ?_ | refine tk6 ?_ | refine tk7 ?_ | refine tk8 ?_ | refine tk9 ?_ | refine tk10 (fun _ _ => ?_) | refine tk11 (fun _ => ?_)); (conv => whnf))
    refine Cmp.cases (fun q1 => ?_) (fun q1 => ?_)
    · have q2 := r3.1 (h49.1 q1)
      (conv => whnf); repeat ((first | refine tk1 ?_ | refine tk2 ?_ | refine tk3 ?_ | refine tk12 (fun _ => ?_) | refine tk4 ?_ | refine tk5 ?_ | refine tk6 ?_ | refine tk7 ?_ | refine tk8 ?_ | refine tk9 ?_ | refine tk10 (fun _ _ => ?_) | refine tk11 (fun _ => ?_)); (conv => whnf))
      refine Cmp.cases (fun p1 => ?_) (fun p1 => ?_)
      · (conv => whnf); repeat ((first | refine tk1 ?_ | refine tk2 ?_ | refine tk3 ?_ | refine tk12 (fun _ => ?_) | refine tk4 ?_ | refine tk5 ?_ | refine tk6 ?_ | refine tk7 ?_ | refine tk8 ?_ | refine tk9 ?_ | refine tk10 (fun _ _ => ?_) | refine tk11 (fun _ => ?_)); (conv => whnf))
      have hn2 : n ≤ 999 := by omega
      obtain ⟨w1, w2⟩ := wt_thou n hn2
      have a2 := (dec_digit (n / 100) (by omega)).2
      have b2 := (dec_digit (n / 10 % 10) (by omega)).2
      have c2 := (dec_digit (n % 10) (by omega)).2
      obtain ⟨x, hx⟩ : ∃ x, UInt8.ofNat (48 + n / 100) = x := ⟨_, rfl⟩
      obtain ⟨y, hy⟩ : ∃ y, UInt8.ofNat (48 + n / 10 % 10) = y := ⟨_, rfl⟩
      obtain ⟨z, hz⟩ : ∃ z, UInt8.ofNat (48 + n % 10) = z := ⟨_, rfl⟩
      rw [hx] at a2 w1 w2
      rw [hy] at b2 w1 w2
      rw [hz] at c2 w1 w2
      have hcl : [Value.int .u8 48, .int .u8 46, .int .u8 (48 + ((n / 100 : Nat) : Int)), .int .u8 (48 + ((n / 10 % 10 : Nat) : Int)), .int .u8 (48 + ((n % 10 : Nat) : Int))] = [48, 46, x, y, z].map byteV := by
        show _ = [Value.int .u8 48, .int .u8 46, .int .u8 x.toNat, .int .u8 y.toNat, .int .u8 z.toNat]
        rw [a2, b2, c2]
        rfl
      (conv => whnf); repeat ((first | refine tk1 ?_ | refine tk2 ?_ | refine tk3 ?_ | refine tk12 (fun _ => ?_) | refine tk4 ?_ | refine tk5 ?_ | refine tk6 ?_ | refine tk7 ?_ | refine tk8 ?_ | refine tk9 ?_ | refine tk10 (fun _ _ => ?_) | refine tk11 (fun _ => ?_)); (conv => whnf))
      refine DivS.quo16 (m := 100) (by decide) hn ?_
      (conv => whnf); repeat ((first | refine tk1 ?_ | refine tk2 ?_ | refine tk3 ?_ | refine tk12 (fun _ => ?_) | refine tk4 ?_ | refine tk5 ?_ | refine tk6 ?_ | refine tk7 ?_ | refine tk8 ?_ | refine tk9 ?_ | refine tk10 (fun _ _ => ?_) | refine tk11 (fun _ => ?_)); (conv => whnf))
      refine Ar.in8 (by omega) (by omega) ?_
      (conv => whnf); repeat ((first | refine tk1 ?_ | refine tk2 ?_ | refine tk3 ?_ | refine tk12 (fun _ => ?_) | refine tk4 ?_ | refine tk5 ?_ | refine tk6 ?_ | refine tk7 ?_ | refine tk8 ?_ | refine tk9 ?_ | refine tk10 (fun _ _ => ?_) | refine tk11 (fun _ => ?_)); (conv => whnf))
      refine Ar.in8 (by omega) (by omega) ?_
      (conv => whnf); repeat ((first | refine tk1 ?_ | refine tk2 ?_ | refine tk3 ?_ | refine tk12 (fun _ => ?_) | refine tk4 ?_ | refine tk5 ?_ | refine tk6 ?_ | refine tk7 ?_ | refine tk8 ?_ | refine tk9 ?_ | refine tk10 (fun _ _ => ?_) | refine tk11 (fun _ => ?_)); (conv => whnf))
      refine DivS.quo16 (m := 10) (by decide) hn ?_
      (conv => whnf); repeat ((first | refine tk1 ?_ | refine tk2 ?_ | refine tk3 ?_ | refine tk12 (fun _ => ?_) | refine tk4 ?_ | refine tk5 ?_ | refine tk6 ?_ | refine tk7 ?_ | refine tk8 ?_ | refine tk9 ?_ | refine tk10 (fun _ _ => ?_) | refine tk11 (fun _ => ?_)); (conv => whnf))
      refine DivS.rem16 (m := 10) (by decide) ?_
      (conv => whnf); repeat ((first | refine tk1 ?_ | refine tk2 ?_ | refine tk3 ?_ | refine tk12 (fun _ => ?_) | refine tk4 ?_ | refine tk5 ?_ | refine tk6 ?_ | refine tk7 ?_ | refine tk8 ?_ | refine tk9 ?_ | refine tk10 (fun _ _ => ?_) | refine tk11 (fun _ => ?_)); (conv => whnf))
      refine Ar.in8 (by omega) (by omega) ?_
      (conv => whnf); repeat ((first | refine tk1 ?_ | refine tk2 ?_ | refine tk3 ?_ | refine tk12 (fun _ => ?_) | refine tk4 ?_ | refine tk5 ?_ | refine tk6 ?_ | refine tk7 ?_ | refine tk8 ?_ | refine tk9 ?_ | refine tk10 (fun _ _ => ?_) | refine tk11 (fun _ => ?_)); (conv => whnf))
      refine Ar.in8 (by omega) (by omega) ?_
      (conv => whnf); repeat ((first | refine tk1 ?_ | refine tk2 ?_ | refine tk3 ?_ | refine tk12 (fun _ => ?_) | refine tk4 ?_ | refine tk5 ?_ | refine tk6 ?_ | refine tk7 ?_ | refine tk8 ?_ | refine tk9 ?_ | refine tk10 (fun _ _ => ?_) | refine tk11 (fun _ => ?_)); (conv => whnf))
      refine DivS.rem16 (m := 10) (by decide) ?_
      (conv => whnf); repeat ((first | refine tk1 ?_ | refine tk2 ?_ | refine tk3 ?_ | refine tk12 (fun _ => ?_) | refine tk4 ?_ | refine tk5 ?_ | refine tk6 ?_ | refine tk7 ?_ | refine tk8 ?_ | refine tk9 ?_ | refine tk10 (fun _ _ => ?_) | refine tk11 (fun _ => ?_)); (conv => whnf))
      refine Ar.in8 (by omega) (by omega) ?_
      (conv => whnf); repeat ((first | refine tk1 ?_ | refine tk2 ?_ | refine tk3 ?_ | refine tk12 (fun _ => ?_) | refine tk4 ?_ | refine tk5 ?_ | refine tk6 ?_ | refine tk7 ?_ | refine tk8 ?_ | refine tk9 ?_ | refine tk10 (fun _ _ => ?_) | refine tk11 (fun _ => ?_)); (conv => whnf))
      refine Ar.in8 (by omega) (by omega) ?_
      (conv => whnf); repeat ((first | refine tk1 ?_ | refine tk2 ?_ | refine tk3 ?_ | refine tk12 (fun _ => ?_) | refine tk4 ?_ | refine tk5 ?_ | refine tk6 ?_ | refine tk7 ?_ | refine tk8 ?_ | refine tk9 ?_ | refine tk10 (fun _ _ => ?_) | refine tk11 (fun _ => ?_)); (conv => whnf))
      refine B2S.tc (l := [48, 46, x, y, z]) hcl rfl ?_
      (conv => whnf); repeat ((first | refine tk1 ?_ | refine tk2 ?_ | refine tk3 ?_ | refine tk12 (fun _ => ?_) | refine tk4 ?_ | refine tk5 ?_ | refine tk6 ?_ | refine tk7 ?_ | refine tk8 ?_ | refine tk9 ?_ | refine tk10 (fun _ _ => ?_) | refine tk11 (fun _ => ?_)); (conv => whnf))
      refine CallK.fn (Weight_f [48, 46, x, y, z] (by simp)) ?_
      rw [w1, w2]
      (conv => whnf); repeat ((first | refine tk1 ?_ | refine tk2 ?_ | refine tk3 ?_ | refine tk12 (fun _ => ?_) | refine tk4 ?_ | refine tk5 ?_ | refine tk6 ?_ | refine tk7 ?_ | refine tk8 ?_ | refine tk9 ?_ | refine tk10 (fun _ _ => ?_) | refine tk11 (fun _ => ?_)); (conv => whnf))
    · have q2 : ¬ wtI s = 1000 := fun h => q1 (h49.2 (r3.2 h))
      (conv => whnf); repeat ((first | refine tk1 ?_ | refine tk2 ?_ | refine tk3 ?_ | refine tk12 (fun _ => ?_) | refine tk4 ?_ | refine tk5 ?_ | refine tk6 ?_ | refine tk7 ?_ | refine tk8 ?_ | refine tk9 ?_ | refine tk10 (fun _ _ => ?_) | refine tk11 (fun _ => ?_)); (conv => whnf))
      refine Cmp.cases (fun p1 => ?_) (fun p1 => ?_)
      · (conv => whnf); repeat ((first | refine tk1 ?_ | refine tk2 ?_ | refine tk3 ?_ | refine tk12 (fun _ => ?_) | refine tk4 ?_ | refine tk5 ?_ | refine tk6 ?_ | refine tk7 ?_ | refine tk8 ?_ | refine tk9 ?_ | refine tk10 (fun _ _ => ?_) | refine tk11 (fun _ => ?_)); (conv => whnf))
      have hn2 : n ≤ 999 := by omega
      obtain ⟨w1, w2⟩ := wt_thou n hn2
      have a2 := (dec_digit (n / 100) (by omega)).2
      have b2 := (dec_digit (n / 10 % 10) (by omega)).2
      have c2 := (dec_digit (n % 10) (by omega)).2
      obtain ⟨x, hx⟩ : ∃ x, UInt8.ofNat (48 + n / 100) = x := ⟨_, rfl⟩
      obtain ⟨y, hy⟩ : ∃ y, UInt8.ofNat (48 + n / 10 % 10) = y := ⟨_, rfl⟩
      obtain ⟨z, hz⟩ : ∃ z, UInt8.ofNat (48 + n % 10) = z := ⟨_, rfl⟩
      rw [hx] at a2 w1 w2
      rw [hy] at b2 w1 w2
      rw [hz] at c2 w1 w2
      have hcl : [Value.int .u8 48, .int .u8 46, .int .u8 (48 + ((n / 100 : Nat) : Int)), .int .u8 (48 + ((n / 10 % 10 : Nat) : Int)), .int .u8 (48 + ((n % 10 : Nat) : Int))] = [48, 46, x, y, z].map byteV := by
        show _ = [Value.int .u8 48, .int .u8 46, .int .u8 x.toNat, .int .u8 y.toNat, .int .u8 z.toNat]
        rw [a2, b2, c2]
        rfl
      (conv => whnf); repeat ((first | refine tk1 ?_ | refine tk2 ?_ | refine tk3 ?_ | refine tk12 (fun _ => ?_) | refine tk4 ?_ | refine tk5 ?_ | refine tk6 ?_ | refine tk7 ?_ | refine tk8 ?_ | refine tk9 ?_ | refine tk10 (fun _ _ => ?_) | refine tk11 (fun _ => ?_)); (conv => whnf))
      refine DivS.quo16 (m := 100) (by decide) hn ?_
      (conv => whnf); repeat ((first | refine tk1 ?_ | refine tk2 ?_ | refine tk3 ?_ | refine tk12 (fun _ => ?_) | refine tk4 ?_ | refine tk5 ?_ | refine tk6 ?_ | refine tk7 ?_ | refine tk8 ?_ | refine tk9 ?_ | refine tk10 (fun _ _ => ?_) | refine tk11 (fun _ => ?_)); (conv => whnf))
      refine Ar.in8 (by omega) (by omega) ?_
      (conv => whnf); repeat ((first | refine tk1 ?_ | refine tk2 ?_ | refine tk3 ?_ | refine tk12 (fun _ => ?_) | refine tk4 ?_ | refine tk5 ?_ | refine tk6 ?_ | refine tk7 ?_ | refine tk8 ?_ | refine tk9 ?_ | refine tk10 (fun _ _ => ?_) | refine tk11 (fun _ => ?_)); (conv => whnf))
      refine Ar.in8 (by omega) (by omega) ?_
      (conv => whnf); repeat ((first | refine tk1 ?_ | refine tk2 ?_ | refine tk3 ?_ | refine tk12 (fun _ => ?_) | refine tk4 ?_ | refine tk5 ?_ | refine tk6 ?_ | refine tk7 ?_ | refine tk8 ?_ | refine tk9 ?_ | refine tk10 (fun _ _ => ?_) | refine tk11 (fun _ => ?_)); (conv => whnf))
      refine DivS.quo16 (m := 10) (by decide) hn ?_
      (conv => whnf); repeat ((first | refine tk1 ?_ | refine tk2 ?_ | refine tk3 ?_ | refine tk12 (fun _ => ?_) | refine tk4 ?_ | refine tk5 ?_ | refine tk6 ?_ | refine tk7 ?_ | refine tk8 ?_ | refine tk9 ?_ | refine tk10 (fun _ _ => ?_) | refine tk11 (fun _ => ?_)); (conv => whnf))
      refine DivS.rem16 (m := 10) (by decide) ?_
      (conv => whnf); repeat ((first | refine tk1 ?_ | refine tk2 ?_ | refine tk3 ?_ | refine tk12 (fun _ => ?_) | refine tk4 ?_ | refine tk5 ?_ | refine tk6 ?_ | refine tk7 ?_ | refine tk8 ?_ | refine tk9 ?_ | refine tk10 (fun _ _ => ?_) | refine tk11 (fun _ => ?_)); (conv => whnf))
      refine Ar.in8 (by omega) (by omega) ?_
      (conv => whnf); repeat ((first | refine tk1 ?_ | refine tk2 ?_ | refine tk3 ?_ | refine tk12 (fun _ => ?_) | refine tk4 ?_ | refine tk5 ?_ | refine tk6 ?_ | refine tk7 ?_ | refine tk8 ?_ | refine tk9 ?_ | refine tk10 (fun _ _ => ?_) | refine tk11 (fun _ => ?_)); (conv => whnf))
      refine Ar.in8 (by omega) (by omega) ?_
      (conv => whnf); repeat ((first | refine tk1 ?_ | refine tk2 ?_ | refine tk3 ?_ | refine tk12 (fun _ => ?_) | refine tk4 ?_ | refine tk5 ?_ | refine tk6 ?_ | refine tk7 ?_ | refine tk8 ?_ | refine tk9 ?_ | refine tk10 (fun _ _ => ?_) | refine tk11 (fun _ => ?_)); (conv => whnf))
      refine DivS.rem16 (m := 10) (by decide) ?_
      (conv => whnf); repeat ((first | refine tk1 ?_ | refine tk2 ?_ | refine tk3 ?_ | refine tk12 (fun _ => ?_) | refine tk4 ?_ | refine tk5 ?_ | refine tk6 ?_ | refine tk7 ?_ | refine tk8 ?_ | refine tk9 ?_ | refine tk10 (fun _ _ => ?_) | refine tk11 (fun _ => ?_)); (conv => whnf))
      refine Ar.in8 (by omega) (by omega) ?_
      (conv => whnf); repeat ((first | refine tk1 ?_ | refine tk2 ?_ | refine tk3 ?_ | refine tk12 (fun _ => ?_) | refine tk4 ?_ | refine tk5 ?_ | refine tk6 ?_ | refine tk7 ?_ | refine tk8 ?_ | refine tk9 ?_ | refine tk10 (fun _ _ => ?_) | refine tk11 (fun _ => ?_)); (conv => whnf))
      refine Ar.in8 (by omega) (by omega) ?_
      (conv => whnf); repeat ((first | refine tk1 ?_ | refine tk2 ?_ | refine tk3 ?_ | refine tk12 (fun _ => ?_) | refine tk4 ?_ | refine tk5 ?_ | refine tk6 ?_ | refine tk7 ?_ | refine tk8 ?_ | refine tk9 ?_ | refine tk10 (fun _ _ => ?_) | refine tk11 (fun _ => ?_)); (conv => whnf))
      refine B2S.tc (l := [48, 46, x, y, z]) hcl rfl ?_
      (conv => whnf); repeat ((first | refine tk1 ?_ | refine tk2 ?_ | refine tk3 ?_ | refine tk12 (fun _ => ?_) | refine tk4 ?_ | refine tk5 ?_ | refine tk6 ?_ | refine tk7 ?_ | refine tk8 ?_ | refine tk9 ?_ | refine tk10 (fun _ _ => ?_) | refine tk11 (fun _ => ?_)); (conv => whnf))
      refine CallK.fn (Weight_f [48, 46, x, y, z] (by simp)) ?_
      rw [w1, w2]
      (conv => whnf); repeat ((first | refine tk1 ?_ | refine tk2 ?_ | refine tk3 ?_ | refine tk12 (fun _ => ?_) | refine tk4 ?_ | refine tk5 ?_ | refine tk6 ?_ | refine tk7 ?_ | refine tk8 ?_ | refine tk9 ?_ | refine tk10 (fun _ _ => ?_) | refine tk11 (fun _ => ?_)); (conv => whnf))
end Go.Proofs.YtggokigjnaiokaaDoor.Vex
/- Items put behind and ahead of a value: what they change. No program in sight. -/
namespace Go.Proofs.YtggokigjnaiokaaDoor
/-- Thousandths, written with four digits. -/
def thouL (n : Nat) : List UInt8 := [UInt8.ofNat (48 + n / 1000), 46, UInt8.ofNat (48 + n / 100 % 10), UInt8.ofNat (48 + n / 10 % 10), UInt8.ofNat (48 + n % 10)]
theorem thou_wt (n : Nat) (h : n ≤ 1000) : wtB (thouL n) = true ∧ wtI (thouL n) = n := by
  rcases Nat.lt_or_ge n 1000 with h9 | h9
  · obtain ⟨a1, a2⟩ := dec_digit (n / 100 % 10) (by omega)
    obtain ⟨b1, b2⟩ := dec_digit (n / 10 % 10) (by omega)
    obtain ⟨c1, c2⟩ := dec_digit (n % 10) (by omega)
    have e0 : UInt8.ofNat (48 + n / 1000) = 48 := by rw [show n / 1000 = 0 by omega]; rfl
    unfold thouL
    rw [e0]
    generalize UInt8.ofNat (48 + n / 100 % 10) = x at *
    generalize UInt8.ofNat (48 + n / 10 % 10) = y at *
    generalize UInt8.ofNat (48 + n % 10) = z at *
    obtain ⟨h1, h2, _⟩ := wt_all (s := [48, 46, x, y, z]) 48 [46, x, y, z] rfl (.inl rfl) (.inr ⟨[x, y, z], rfl⟩) (by simp)
    have hp : ppOf [48, 46, x, y, z] = [x, y, z] := by simp [ppOf]
    have hall : ∀ c ∈ ppOf [48, 46, x, y, z], wD 48 c := by
      rw [hp]
      intro c hc
      simp only [List.mem_cons, List.not_mem_nil, or_false] at hc
      rcases hc with rfl | rfl | rfl
      · exact ⟨a1, fun e => by cases e⟩
      · exact ⟨b1, fun e => by cases e⟩
      · exact ⟨c1, fun e => by cases e⟩
    refine ⟨h1.2 hall, ?_⟩
    rw [h2 hall, hp]
    simp only [numF, List.foldl_cons, List.foldl_nil, numStep, a2, b2, c2, UInt8.reduceToNat]
    omega
  · obtain rfl : n = 1000 := by omega
    exact ⟨by decide +kernel, by decide +kernel⟩
theorem findW_app (nm : List UInt8) : ∀ a b : List (List UInt8), findW nm (a ++ b) = match findW nm a with | some n => some n | none => findW nm b
  | [], b => rfl
  | x :: r, b => by
    rw [List.cons_append, findW, findW, findW_app nm r b]
    split <;> rfl
theorem findW_no (nm : List UInt8) : ∀ a : List (List UInt8), (∀ s ∈ a, (itemR s).2.2 = false) → findW nm a = none
  | [], _ => rfl
  | x :: r, h => by
    rw [findW, if_neg (by rw [h x (by simp)]; simp), findW_no nm r (fun s hs => h s (by simp [hs]))]
theorem trimB_id (a z : UInt8) (r b : List UInt8) (h : a :: r = b ++ [z]) (ha : ([32, 9] : List UInt8).contains a = false) (hz : ([32, 9] : List UInt8).contains z = false) : trimB (a :: r) = a :: r := by
  have e : (a :: r).reverse = z :: b.reverse := by rw [h]; simp
  have h1 : Lib.trimRightS (a :: r) [32, 9] = a :: r := by
    unfold Lib.trimRightS
    rw [e, List.dropWhile_cons, if_neg (by rw [hz]; simp), ← e, List.reverse_reverse]
  unfold trimB Lib.trimS
  rw [h1]
  unfold Lib.trimLeftS
  rw [List.dropWhile_cons, if_neg (by rw [ha]; simp)]
/-- One item, that begins with no blank, holds no comma, and ends in thousandths. -/
theorem item_thou (a : UInt8) (p : List UInt8) (n : Nat) (h : n ≤ 1000) (ha : ([32, 9] : List UInt8).contains a = false) (hp : (44 : UInt8) ∉ a :: p) : itemsOf (a :: p ++ thouL n) = [a :: p ++ thouL n] := by
  have nb : ∀ k, k < 10 → ¬ (44 : UInt8) = UInt8.ofNat (48 + k) ∧ ([32, 9] : List UInt8).contains (UInt8.ofNat (48 + k)) = false := by
    intro k hk
    have : ∀ k : Fin 10, ¬ (44 : UInt8) = UInt8.ofNat (48 + k.val) ∧ ([32, 9] : List UInt8).contains (UInt8.ofNat (48 + k.val)) = false := by decide
    exact this ⟨k, hk⟩
  have n1 := nb (n / 1000) (by omega)
  have n2 := nb (n / 100 % 10) (by omega)
  have n3 := nb (n / 10 % 10) (by omega)
  have n4 := nb (n % 10) (by omega)
  have hno : (44 : UInt8) ∉ a :: p ++ thouL n := by
    rw [List.mem_append]
    rintro (h | h)
    · exact hp h
    · unfold thouL at h
      rcases List.mem_cons.1 h with h | h
      · exact n1.1 h
      rcases List.mem_cons.1 h with h | h
      · exact absurd h (by decide)
      rcases List.mem_cons.1 h with h | h
      · exact n2.1 h
      rcases List.mem_cons.1 h with h | h
      · exact n3.1 h
      rcases List.mem_cons.1 h with h | h
      · exact n4.1 h
      · cases h
  have ht : trimB (a :: p ++ thouL n) = a :: p ++ thouL n := by
    refine trimB_id a (UInt8.ofNat (48 + n % 10)) (p ++ thouL n) (a :: p ++ [UInt8.ofNat (48 + n / 1000), 46, UInt8.ofNat (48 + n / 100 % 10), UInt8.ofNat (48 + n / 10 % 10)]) ?_ ha n4.2
    unfold thouL
    simp only [List.cons_append, List.append_assoc, List.nil_append]
  unfold itemsOf
  rw [splitB_no 44 _ hno, List.map_cons, List.map_nil, ht, List.filter_cons, if_pos (by simp)]
  rfl
theorem item_Q (c : Nat) (hc : c ≤ 2) (n : Nat) : itemR (codNm c ++ [32, 59, 32, 81, 61] ++ thouL n) = (codNm c, wtI (thouL n), wtB (thouL n)) := by
  unfold thouL
  generalize UInt8.ofNat (48 + n / 1000) = a
  generalize UInt8.ofNat (48 + n / 100 % 10) = x
  generalize UInt8.ofNat (48 + n / 10 % 10) = y
  generalize UInt8.ofNat (48 + n % 10) = z
  rcases (show c = 0 ∨ c = 1 ∨ c = 2 by omega) with rfl | rfl | rfl <;> kernel_rfl
theorem item_q (c : Nat) (hc : c ≤ 2) (n : Nat) : itemR (codNm c ++ [59, 113, 61] ++ thouL n) = (codNm c, wtI (thouL n), wtB (thouL n)) := by
  unfold thouL
  generalize UInt8.ofNat (48 + n / 1000) = a
  generalize UInt8.ofNat (48 + n / 100 % 10) = x
  generalize UInt8.ofNat (48 + n / 10 % 10) = y
  generalize UInt8.ofNat (48 + n % 10) = z
  rcases (show c = 0 ∨ c = 1 ∨ c = 2 by omega) with rfl | rfl | rfl <;> kernel_rfl
theorem again_items (v : List UInt8) (nm : List UInt8) : findW nm (itemsOf (v ++ 44 :: [44, 40, 44, 32, 59, 113, 61, 49, 44, 120, 32, 121])) = findW nm (itemsOf v) := by
  rw [items_join, findW_app, findW_no nm (itemsOf [44, 40, 44, 32, 59, 113, 61, 49, 44, 120, 32, 121]) (by decide +kernel)]
  cases findW nm (itemsOf v) <;> rfl
end Go.Proofs.YtggokigjnaiokaaDoor
/- The law AcceptItems, reckoned. -/
namespace Go.Proofs.YtggokigjnaiokaaDoor
theorem twice_Q (v : List UInt8) (c : Nat) (hc : c ≤ 2) (n : Nat) (h : n ≤ 1000) : twiceW (itemsOf (v ++ 44 :: (codNm c ++ [32, 59, 32, 81, 61] ++ thouL n))) c = twiceW (itemsOf v) c ∨ twiceW (itemsOf (v ++ 44 :: (codNm c ++ [32, 59, 32, 81, 61] ++ thouL n))) c = 2 * (n : Int) := by
  obtain ⟨w1, w2⟩ := thou_wt n h
  have e : ∃ a p, codNm c ++ [32, 59, 32, 81, 61] = a :: p ∧ ([32, 9] : List UInt8).contains a = false ∧ (44 : UInt8) ∉ a :: p := by
    rcases (show c = 0 ∨ c = 1 ∨ c = 2 by omega) with rfl | rfl | rfl <;> exact ⟨_, _, rfl, by decide, by decide⟩
  obtain ⟨a, p, e1, e2, e3⟩ := e
  have hi : itemsOf (codNm c ++ [32, 59, 32, 81, 61] ++ thouL n) = [codNm c ++ [32, 59, 32, 81, 61] ++ thouL n] := by
    rw [e1]; exact item_thou a p n h e2 e3
  have hf : findW (codNm c) [codNm c ++ [32, 59, 32, 81, 61] ++ thouL n] = some (n : Int) := by
    rw [findW, item_Q c hc n, w1, w2, if_pos ⟨rfl, rfl⟩]
  unfold twiceW
  rw [items_join, findW_app (codNm c), hi, hf]
  cases findW (codNm c) (itemsOf v) with
  | some m => exact .inl rfl
  | none => exact .inr rfl
theorem twice_q (v : List UInt8) (c : Nat) (hc : c ≤ 2) (n : Nat) (h : n ≤ 1000) : twiceW (itemsOf (codNm c ++ [59, 113, 61] ++ thouL n ++ 44 :: v)) c = 2 * (n : Int) := by
  obtain ⟨w1, w2⟩ := thou_wt n h
  have e : ∃ a p, codNm c ++ [59, 113, 61] = a :: p ∧ ([32, 9] : List UInt8).contains a = false ∧ (44 : UInt8) ∉ a :: p := by
    rcases (show c = 0 ∨ c = 1 ∨ c = 2 by omega) with rfl | rfl | rfl <;> exact ⟨_, _, rfl, by decide, by decide⟩
  obtain ⟨a, p, e1, e2, e3⟩ := e
  have hi : itemsOf (codNm c ++ [59, 113, 61] ++ thouL n) = [codNm c ++ [59, 113, 61] ++ thouL n] := by
    rw [e1]; exact item_thou a p n h e2 e3
  have hf : findW (codNm c) [codNm c ++ [59, 113, 61] ++ thouL n] = some (n : Int) := by
    rw [findW, item_q c hc n, w1, w2, if_pos ⟨rfl, rfl⟩]
  unfold twiceW
  rw [items_join, findW_app (codNm c), hi, hf]
theorem twice_again (v : List UInt8) (c : Nat) : twiceW (itemsOf (v ++ 44 :: [44, 40, 44, 32, 59, 113, 61, 49, 44, 120, 32, 121])) c = twiceW (itemsOf v) c := by
  unfold twiceW
  rw [again_items, again_items]
end Go.Proofs.YtggokigjnaiokaaDoor
namespace Go.Proofs.YtggokigjnaiokaaDoor.Vex
open Go Go.RowKit
set_option maxRecDepth 100000
set_option linter.unusedSectionVars false
variable {gI : GI} [HasMax gI]

set_option maxHeartbeats 4000000 in
theorem AcceptItems_v (v : List UInt8) (c : UInt8) (n : Nat) (hn : n < 65536) (hv : v.length ≤ 9223372036854775807) : Fn Tryd.prog gI 10 [str v, .int .u8 c.toNat, .int .u16 (n : Nat)] (.bool true) := by
  refine Fn.of tys_ok Tryd.func10 rfl (by kernel_rfl) rfl rfl ?_; intro w hG
  (conv => whnf); repeat ((first | refine tk1 ?_ | refine tk2 ?_ | refine tk3 ?_ | refine tk12 (fun _ => ?_) | refine tk4 ?_ | refine tk5 ?_ | refine tk6 ?_ | refine tk7 ?_ | refine tk8 ?_ | refine tk9 ?_ | refine tk10 (fun _ _ => ?_) | refine tk11 (fun _ => ?_)); (conv => whnf))
  refine CallK.fn alive23_f ?_
  (conv => whnf); repeat ((first | refine tk1 ?_ | refine tk2 ?_ | refine tk3 ?_ | refine tk12 (fun _ => ?_) | refine tk4 ?_ | refine tk5 ?_ | refine tk6 ?_ | refine tk7 ?_ | refine tk8 ?_ | refine tk9 ?_ | refine tk10 (fun _ _ => ?_) | refine tk11 (fun _ => ?_)); (conv => whnf))
  refine CallK.fn (Name_f c) ?_
  (conv => whnf); repeat ((first | refine tk1 ?_ | refine tk2 ?_ | refine tk3 ?_ | refine tk12 (fun _ => ?_) | refine tk4 ?_ | refine tk5 ?_ | refine tk6 ?_ | refine tk7 ?_ | refine tk8 ?_ | refine tk9 ?_ | refine tk10 (fun _ _ => ?_) | refine tk11 (fun _ => ?_)); (conv => whnf))
  refine Cmp.cases (fun q1 => ?_) (fun q1 => ?_)
  · (conv => whnf); repeat ((first | refine tk1 ?_ | refine tk2 ?_ | refine tk3 ?_ | refine tk12 (fun _ => ?_) | refine tk4 ?_ | refine tk5 ?_ | refine tk6 ?_ | refine tk7 ?_ | refine tk8 ?_ | refine tk9 ?_ | refine tk10 (fun _ _ => ?_) | refine tk11 (fun _ => ?_)); (conv => whnf))
  by_cases hc : c.toNat ≤ 2
  case neg =>
    rw [if_neg hc, if_neg hc]
    (conv => whnf); repeat ((first | refine tk1 ?_ | refine tk2 ?_ | refine tk3 ?_ | refine tk12 (fun _ => ?_) | refine tk4 ?_ | refine tk5 ?_ | refine tk6 ?_ | refine tk7 ?_ | refine tk8 ?_ | refine tk9 ?_ | refine tk10 (fun _ _ => ?_) | refine tk11 (fun _ => ?_)); (conv => whnf))
  rw [if_pos hc, if_pos hc]
  obtain ⟨nm, hnm⟩ : ∃ nm, codNm c.toNat = nm := ⟨_, rfl⟩
  have hnl : nm.length ≤ 8 := by
    rw [← hnm]
    rcases (show c.toNat = 0 ∨ c.toNat = 1 ∨ c.toNat = 2 by omega) with h | h | h <;> rw [h] <;> decide
  rw [hnm]
  (conv => whnf); repeat ((first | refine tk1 ?_ | refine tk2 ?_ | refine tk3 ?_ | refine tk12 (fun _ => ?_) | refine tk4 ?_ | refine tk5 ?_ | refine tk6 ?_ | refine tk7 ?_ | refine tk8 ?_ | refine tk9 ?_ | refine tk10 (fun _ _ => ?_) | refine tk11 (fun _ => ?_)); (conv => whnf))
  refine Cmp.cases (fun q2 => ?_) (fun q2 => ?_)
  · (conv => whnf); repeat ((first | refine tk1 ?_ | refine tk2 ?_ | refine tk3 ?_ | refine tk12 (fun _ => ?_) | refine tk4 ?_ | refine tk5 ?_ | refine tk6 ?_ | refine tk7 ?_ | refine tk8 ?_ | refine tk9 ?_ | refine tk10 (fun _ _ => ?_) | refine tk11 (fun _ => ?_)); (conv => whnf))
  have hn1 : n ≤ 1000 := by omega
  have W : ∀ s : List UInt8, s.length ≤ 1000000 → Fn Tryd.prog gI 31 [str s, .int .u8 c.toNat] (.tuple #[.int .i64 (twiceW (itemsOf s) c.toNat), .int .i64 0]) := fun s hs => by
    have h := Weigh_f (gI := gI) s c hs
    rw [if_pos hc, if_pos hc] at h
    exact h
  have e1 := twice_Q v c.toNat hc n hn1
  have e2 := twice_q v c.toNat hc n hn1
  have e3 := twice_again v c.toNat
  rw [hnm] at e1 e2
  have R : ∀ s, 0 ≤ twiceW (itemsOf s) c.toNat ∧ twiceW (itemsOf s) c.toNat ≤ 2000 := fun s => twU_range (itemsOf s) c
  have r0 := R v
  have hd0 := (dec_digit (n / 1000) (by omega)).2
  have hd1 := (dec_digit (n / 100 % 10) (by omega)).2
  have hd2 := (dec_digit (n / 10 % 10) (by omega)).2
  have hd3 := (dec_digit (n % 10) (by omega)).2
  have htl : (thouL n).length = 5 := rfl
  have hcl : [Value.int .u8 (48 + ((n / 1000 : Nat) : Int)), .int .u8 46, .int .u8 (48 + ((n / 100 % 10 : Nat) : Int)), .int .u8 (48 + ((n / 10 % 10 : Nat) : Int)), .int .u8 (48 + ((n % 10 : Nat) : Int))] = (thouL n).map byteV := by
    show _ = [Value.int .u8 (UInt8.ofNat (48 + n / 1000)).toNat, Value.int .u8 46, .int .u8 (UInt8.ofNat (48 + n / 100 % 10)).toNat, .int .u8 (UInt8.ofNat (48 + n / 10 % 10)).toNat, .int .u8 (UInt8.ofNat (48 + n % 10)).toNat]
    rw [hd0, hd1, hd2, hd3]
    rfl
  obtain ⟨T, hT⟩ : ∃ T, thouL n = T := ⟨_, rfl⟩
  rw [hT] at e1 e2 htl hcl
  (conv => whnf); repeat ((first | refine tk1 ?_ | refine tk2 ?_ | refine tk3 ?_ | refine tk12 (fun _ => ?_) | refine tk4 ?_ | refine tk5 ?_ | refine tk6 ?_ | refine tk7 ?_ | refine tk8 ?_ | refine tk9 ?_ | refine tk10 (fun _ _ => ?_) | refine tk11 (fun _ => ?_)); (conv => whnf))
  refine CallK.fn (W v (by omega)) ?_
  (conv => whnf); repeat ((first | refine tk1 ?_ | refine tk2 ?_ | refine tk3 ?_ | refine tk12 (fun _ => ?_) | refine tk4 ?_ | refine tk5 ?_ | refine tk6 ?_ | refine tk7 ?_ | refine tk8 ?_ | refine tk9 ?_ | refine tk10 (fun _ _ => ?_) | refine tk11 (fun _ => ?_)); (conv => whnf))
  refine DivS.quo16 (m := 1000) (by decide) hn ?_
  (conv => whnf); repeat ((first | refine tk1 ?_ | refine tk2 ?_ | refine tk3 ?_ | refine tk12 (fun _ => ?_) | refine tk4 ?_ | refine tk5 ?_ | refine tk6 ?_ | refine tk7 ?_ | refine tk8 ?_ | refine tk9 ?_ | refine tk10 (fun _ _ => ?_) | refine tk11 (fun _ => ?_)); (conv => whnf))
  refine Ar.in8 (by omega) (by omega) ?_
  (conv => whnf); repeat ((first | refine tk1 ?_ | refine tk2 ?_ | refine tk3 ?_ | refine tk12 (fun _ => ?_) | refine tk4 ?_ | refine tk5 ?_ | refine tk6 ?_ | refine tk7 ?_ | refine tk8 ?_ | refine tk9 ?_ | refine tk10 (fun _ _ => ?_) | refine tk11 (fun _ => ?_)); (conv => whnf))
  refine Ar.in8 (by omega) (by omega) ?_
  (conv => whnf); repeat ((first | refine tk1 ?_ | refine tk2 ?_ | refine tk3 ?_ | refine tk12 (fun _ => ?_) | refine tk4 ?_ | refine tk5 ?_ | refine tk6 ?_ | refine tk7 ?_ | refine tk8 ?_ | refine tk9 ?_ | refine tk10 (fun _ _ => ?_) | refine tk11 (fun _ => ?_)); (conv => whnf))
  refine DivS.quo16 (m := 100) (by decide) hn ?_
  (conv => whnf); repeat ((first | refine tk1 ?_ | refine tk2 ?_ | refine tk3 ?_ | refine tk12 (fun _ => ?_) | refine tk4 ?_ | refine tk5 ?_ | refine tk6 ?_ | refine tk7 ?_ | refine tk8 ?_ | refine tk9 ?_ | refine tk10 (fun _ _ => ?_) | refine tk11 (fun _ => ?_)); (conv => whnf))
  refine DivS.rem16 (m := 10) (by decide) ?_
  (conv => whnf); repeat ((first | refine tk1 ?_ | refine tk2 ?_ | refine tk3 ?_ | refine tk12 (fun _ => ?_) | refine tk4 ?_ | refine tk5 ?_ | refine tk6 ?_ | refine tk7 ?_ | refine tk8 ?_ | refine tk9 ?_ | refine tk10 (fun _ _ => ?_) | refine tk11 (fun _ => ?_)); (conv => whnf))
  refine Ar.in8 (by omega) (by omega) ?_
  (conv => whnf); repeat ((first | refine tk1 ?_ | refine tk2 ?_ | refine tk3 ?_ | refine tk12 (fun _ => ?_) | refine tk4 ?_ | refine tk5 ?_ | refine tk6 ?_ | refine tk7 ?_ | refine tk8 ?_ | refine tk9 ?_ | refine tk10 (fun _ _ => ?_) | refine tk11 (fun _ => ?_)); (conv => whnf))
  refine Ar.in8 (by omega) (by omega) ?_
  (conv => whnf); repeat ((first | refine tk1 ?_ | refine tk2 ?_ | refine tk3 ?_ | refine tk12 (fun _ => ?_) | refine tk4 ?_ | refine tk5 ?_ | refine tk6 ?_ | refine tk7 ?_ | refine tk8 ?_ | refine tk9 ?_ | refine tk10 (fun _ _ => ?_) | refine tk11 (fun _ => ?_)); (conv => whnf))
  refine DivS.quo16 (m := 10) (by decide) hn ?_
  (conv => whnf); repeat ((first | refine tk1 ?_ | refine tk2 ?_ | refine tk3 ?_ | refine tk12 (fun _ => ?_) | refine tk4 ?_ | refine tk5 ?_ | refine tk6 ?_ | refine tk7 ?_ | refine tk8 ?_ | refine tk9 ?_ | refine tk10 (fun _ _ => ?_) | refine tk11 (fun _ => ?_)); (conv => whnf))
  refine DivS.rem16 (m := 10) (by decide) ?_
  (conv => whnf); repeat ((first | refine tk1 ?_ | refine tk2 ?_ | refine tk3 ?_ | refine tk12 (fun _ => ?_) | refine tk4 ?_ | refine tk5 ?_ | refine tk6 ?_ | refine tk7 ?_ | refine tk8 ?_ | refine tk9 ?_ | refine tk10 (fun _ _ => ?_) | refine tk11 (fun _ => ?_)); (conv => whnf))
  refine Ar.in8 (by omega) (by omega) ?_
  (conv => whnf); repeat ((first | refine tk1 ?_ | refine tk2 ?_ | refine tk3 ?_ | refine tk12 (fun _ => ?_) | refine tk4 ?_ | refine tk5 ?_ | refine tk6 ?_ | refine tk7 ?_ | refine tk8 ?_ | refine tk9 ?_ | refine tk10 (fun _ _ => ?_) | refine tk11 (fun _ => ?_)); (conv => whnf))
  refine Ar.in8 (by omega) (by omega) ?_
  (conv => whnf); repeat ((first | refine tk1 ?_ | refine tk2 ?_ | refine tk3 ?_ | refine tk12 (fun _ => ?_) | refine tk4 ?_ | refine tk5 ?_ | refine tk6 ?_ | refine tk7 ?_ | refine tk8 ?_ | refine tk9 ?_ | refine tk10 (fun _ _ => ?_) | refine tk11 (fun _ => ?_)); (conv => whnf))
  refine DivS.rem16 (m := 10) (by decide) ?_
  (conv => whnf); repeat ((first | refine tk1 ?_ | refine tk2 ?_ | refine tk3 ?_ | refine tk12 (fun _ => ?_) | refine tk4 ?_ | refine tk5 ?_ | refine tk6 ?_ | refine tk7 ?_ | refine tk8 ?_ | refine tk9 ?_ | refine tk10 (fun _ _ => ?_) | refine tk11 (fun _ => ?_)); (conv => whnf))
  refine Ar.in8 (by omega) (by omega) ?_
  (conv => whnf); repeat ((first | refine tk1 ?_ | refine tk2 ?_ | refine tk3 ?_ | refine tk12 (fun _ => ?_) | refine tk4 ?_ | refine tk5 ?_ | refine tk6 ?_ | refine tk7 ?_ | refine tk8 ?_ | refine tk9 ?_ | refine tk10 (fun _ _ => ?_) | refine tk11 (fun _ => ?_)); (conv => whnf))
  refine Ar.in8 (by omega) (by omega) ?_
  (conv => whnf); repeat ((first | refine tk1 ?_ | refine tk2 ?_ | refine tk3 ?_ | refine tk12 (fun _ => ?_) | refine tk4 ?_ | refine tk5 ?_ | refine tk6 ?_ | refine tk7 ?_ | refine tk8 ?_ | refine tk9 ?_ | refine tk10 (fun _ _ => ?_) | refine tk11 (fun _ => ?_)); (conv => whnf))
  refine B2S.tc (l := T) hcl htl ?_
  (conv => whnf); repeat ((first | refine tk1 ?_ | refine tk2 ?_ | refine tk3 ?_ | refine tk12 (fun _ => ?_) | refine tk4 ?_ | refine tk5 ?_ | refine tk6 ?_ | refine tk7 ?_ | refine tk8 ?_ | refine tk9 ?_ | refine tk10 (fun _ _ => ?_) | refine tk11 (fun _ => ?_)); (conv => whnf))
  repeat (refine CatS.at (by simp; omega) ?_; (conv => whnf); repeat ((first | refine tk1 ?_ | refine tk2 ?_ | refine tk3 ?_ | refine tk12 (fun _ => ?_) | refine tk4 ?_ | refine tk5 ?_ | refine tk6 ?_ | refine tk7 ?_ | refine tk8 ?_ | refine tk9 ?_ | refine tk10 (fun _ _ => ?_) | refine tk11 (fun _ => ?_)); (conv => whnf)))
  have w1 := W (v ++ [44] ++ nm ++ [32, 59, 32, 81, 61] ++ T) (by simp; omega)
  rw [show v ++ 44 :: (nm ++ [32, 59, 32, 81, 61] ++ T) = v ++ [44] ++ nm ++ [32, 59, 32, 81, 61] ++ T by simp] at e1
  have r1 := R (v ++ [44] ++ nm ++ [32, 59, 32, 81, 61] ++ T)
  obtain ⟨x1, hx1⟩ : ∃ x, twiceW (itemsOf (v ++ [44] ++ nm ++ [32, 59, 32, 81, 61] ++ T)) c.toNat = x := ⟨_, rfl⟩
  rw [hx1] at e1 w1 r1
  refine CallK.fn w1 ?_
  (conv => whnf); repeat ((first | refine tk1 ?_ | refine tk2 ?_ | refine tk3 ?_ | refine tk12 (fun _ => ?_) | refine tk4 ?_ | refine tk5 ?_ | refine tk6 ?_ | refine tk7 ?_ | refine tk8 ?_ | refine tk9 ?_ | refine tk10 (fun _ _ => ?_) | refine tk11 (fun _ => ?_)); (conv => whnf))
  repeat (refine CatS.at (by simp; omega) ?_; (conv => whnf); repeat ((first | refine tk1 ?_ | refine tk2 ?_ | refine tk3 ?_ | refine tk12 (fun _ => ?_) | refine tk4 ?_ | refine tk5 ?_ | refine tk6 ?_ | refine tk7 ?_ | refine tk8 ?_ | refine tk9 ?_ | refine tk10 (fun _ _ => ?_) | refine tk11 (fun _ => ?_)); (conv => whnf)))
  have w2 := W (nm ++ [59, 113, 61] ++ T ++ [44] ++ v) (by simp; omega)
  rw [show nm ++ [59, 113, 61] ++ T ++ 44 :: v = nm ++ [59, 113, 61] ++ T ++ [44] ++ v by simp] at e2
  rw [e2] at w2
  refine CallK.fn w2 ?_
  (conv => whnf); repeat ((first | refine tk1 ?_ | refine tk2 ?_ | refine tk3 ?_ | refine tk12 (fun _ => ?_) | refine tk4 ?_ | refine tk5 ?_ | refine tk6 ?_ | refine tk7 ?_ | refine tk8 ?_ | refine tk9 ?_ | refine tk10 (fun _ _ => ?_) | refine tk11 (fun _ => ?_)); (conv => whnf))
  repeat (refine CatS.at (by simp; omega) ?_; (conv => whnf); repeat ((first | refine tk1 ?_ | refine tk2 ?_ | refine tk3 ?_ | refine tk12 (fun _ => ?_) | refine tk4 ?_ | refine tk5 ?_ | refine tk6 ?_ | refine tk7 ?_ | refine tk8 ?_ | refine tk9 ?_ | refine tk10 (fun _ _ => ?_) | refine tk11 (fun _ => ?_)); (conv => whnf)))
  have w3 := W (v ++ [44, 44, 40] ++ [44, 32, 59, 113, 61, 49, 44] ++ [120, 32, 121]) (by simp; omega)
  rw [show v ++ [44, 44, 40] ++ [44, 32, 59, 113, 61, 49, 44] ++ [120, 32, 121] = v ++ 44 :: [44, 40, 44, 32, 59, 113, 61, 49, 44, 120, 32, 121] by simp, e3] at w3
  rw [show v ++ [44, 44, 40] ++ [44, 32, 59, 113, 61, 49, 44] ++ [120, 32, 121] = v ++ 44 :: [44, 40, 44, 32, 59, 113, 61, 49, 44, 120, 32, 121] by simp]
  refine CallK.fn w3 ?_
  obtain ⟨x0, hx0⟩ : ∃ x, twiceW (itemsOf v) c.toNat = x := ⟨_, rfl⟩
  rw [hx0] at e1 r0 ⊢
  (conv => whnf); repeat ((first | refine tk1 ?_ | refine tk2 ?_ | refine tk3 ?_ | refine tk12 (fun _ => ?_) | refine tk4 ?_ | refine tk5 ?_ | refine tk6 ?_ | refine tk7 ?_ | refine tk8 ?_ | refine tk9 ?_ | refine tk10 (fun _ _ => ?_) | refine tk11 (fun _ => ?_)); (conv => whnf))
  refine Cmp.cases (fun q3 => ?_) (fun q3 => ?_)
  · (conv => whnf); repeat ((first | refine tk1 ?_ | refine tk2 ?_ | refine tk3 ?_ | refine tk12 (fun _ => ?_) | refine tk4 ?_ | refine tk5 ?_ | refine tk6 ?_ | refine tk7 ?_ | refine tk8 ?_ | refine tk9 ?_ | refine tk10 (fun _ _ => ?_) | refine tk11 (fun _ => ?_)); (conv => whnf))
  · (conv => whnf); repeat ((first | refine tk1 ?_ | refine tk2 ?_ | refine tk3 ?_ | refine tk12 (fun _ => ?_) | refine tk4 ?_ | refine tk5 ?_ | refine tk6 ?_ | refine tk7 ?_ | refine tk8 ?_ | refine tk9 ?_ | refine tk10 (fun _ _ => ?_) | refine tk11 (fun _ => ?_)); (conv => whnf))
end Go.Proofs.YtggokigjnaiokaaDoor.Vex
namespace Go.Proofs.YtggokigjnaiokaaDoor.acceptItems
open Go.ChangeShapes Go.WideShapes Go.ChangeAt Go.RowKit

set_option maxRecDepth 100000 in
theorem contract (H : Type) (enc : TypeId × Value → H) (W : World) (base : Nat) (args : Array Value) (ds gs : List (DataW H)) (before : List MemPlace)
    (hval : ∀ (j : Nat) t v, Tryd.f10.params[j]? = some t → args[j]? = some v → Value.okWide Tryd.prog W .any base t v)
    (hW : DataW.Whole enc Tryd.prog Tryd.f10.params.toList Rows.acceptItemsSpec.vars false W args.toList ds gs before) (_hL : laidMetH Tryd.prog Rows.acceptItemsRow.laid W) (hS : W.ShapedOpen Tryd.prog) :
    Calls Tryd.prog 10 args W fun e W' => ∃ v, e = .returned v ∧ Rows.acceptItemsSpec.post enc Tryd.prog Tryd.f10 false true false false W args v W' := by
  have hW' := hW
  obtain ⟨p, q, hA, hV, rfl, hfz, hnd⟩ := hW
  rw [Tryd.params10] at hA hval
  obtain ⟨v0, vs0, d0, ds0, p0, q0, hargs, rfl, rfl, h0, r0⟩ := trodAll_cons hA
  obtain ⟨v1, vs1, d1, ds1, p1, q1, rfl, rfl, rfl, h1, r1⟩ := trodAll_cons r0
  obtain ⟨v2, vs2, d2, ds2, p2, q2, rfl, rfl, rfl, h2, r2⟩ := trodAll_cons r1
  obtain ⟨rfl, rfl, rfl⟩ := trodAll_nil r2
  obtain rfl : args = #[v0, v1, v2] := by rw [← Array.toList_inj]; exact hargs
  obtain ⟨rfl, rfl⟩ := trodVars_none hV
  obtain ⟨x0, e0, k0, z0⟩ := Vex.open_cell Vex.opens_string (by rw [Tryd.underlying9]) (hval 0 9 v0 rfl rfl) h0
  obtain rfl := (List.cons.inj e0).1
  obtain ⟨x1, e1, k1, z1⟩ := Vex.open_cell Vex.opens_u8 (by rw [Tryd.underlying5]) (hval 1 5 v1 rfl rfl) h1
  obtain rfl := (List.cons.inj e1).1
  obtain ⟨x2, e2, k2, z2⟩ := Vex.open_cell Vex.opens_u16 (by rw [Tryd.underlying60]) (hval 2 60 v2 rfl rfl) h2
  obtain rfl := (List.cons.inj e2).1
  have hG := Vex.gB_of hS
  refine (Vex.done_F (Vex.AcceptItems_v x0 x1 x2 k2 k0) hG).mono fun e W' ⟨he, hb⟩ => ?_
  exact ⟨_, he, law_post laidOut rfl hW' (by kernel_rfl) (by kernel_rfl) Tryd.underlying4 (by kernel_rfl) hb⟩

abbrev start : Array Value := #[.string ⟨#[]⟩, .int .u8 0, .int .u16 0]
theorem laid_met (os : Os) : laidMet Tryd.prog Rows.acceptItemsRow.laid ((laidWorld os start).forCall (fun _ _ => 0) ⟨#[], start, []⟩).memory :=
  laidMet_of_run' 8 (by kernel_rfl) (by kernel_rfl)
theorem reads (os : Os) {H : Type} (enc : TypeId × Value → H) : ∃ places, DataW.whole enc Tryd.prog ((laidWorld os start).forCall (fun _ _ => 0) ⟨#[], start, []⟩).memory Tryd.f10.params.toList Rows.acceptItemsSpec.vars false start.toList 8 = some ([.lit (.string []), .lit (.int .u8 0), .lit (.int .u16 0)], [], places) :=
  ⟨[], by kernel_rfl⟩

set_option maxRecDepth 100000 in
theorem lifted (os : Os) (started : os.Started) (H : Type) (enc : TypeId × Value → H) (F : Stop.Interp) :
    ReturnsInHanded {} Tryd.checked os 10 .any ((OpenSpec.ofChange Rows.acceptItemsSpec).preRow enc Tryd.prog Tryd.f10 Rows.acceptItemsRow.domain false Rows.acceptItemsRow.laid) (((OpenSpec.ofChange Rows.acceptItemsSpec).at F).post enc Tryd.prog Tryd.f10 false true false false) := by
  obtain ⟨places, hx⟩ := reads os enc
  refine returnsInHanded_of_row (C := Tryd.checked) (s := OpenSpec.ofChange Rows.acceptItemsSpec) own started (by kernel_rfl) Tryd.func10
    (witness_row_atRef (enc := enc) (C := Tryd.checked) false (laidWorld os start) start rfl (by kernel_rfl) (by kernel_rfl) (by kernel_rfl)
      (OpenSpec.preRow_of_cond 8 hx (by kernel_rfl) (fun k hk => by cases hk) (by kernel_rfl) (laid_met os))) ?_
  intro W base args ds gs before hval hW _ _ _ hL hS _
  exact contract H enc W base args ds gs before hval hW hL hS

theorem said : Rows.AcceptItemsSaid :=
  OpenClaim.holds_of_cond 10 Tryd.f10 rfl rfl rfl rfl rfl rfl rfl ⟨rfl, rfl, rfl, rfl, rfl⟩ rfl rfl rfl rfl rfl (by kernel_rfl) Tryd.func10 (by kernel_rfl)
    (of_decide_eq_true (by kernel_rfl)) (by unfold Func.isWrapper; first | (rw [if_pos (by decide +kernel)]; kernel_rfl) | (rw [if_neg (by decide +kernel)]; exact ⟨rfl, rfl⟩))
    (fun os started H enc _ F => by rw [OpenClaim.pre_eq_preRow]; exact lifted os started H enc F)

/-- No parameter wants a stand-in; the program's own looks. -/
theorem plain (f : FuncId) (fn : Func) (hf : Tryd.pinned.checked.prog.funcNamed "bellows/bellowslaw23.AcceptItems" = some f) (hfn : Tryd.pinned.checked.prog.funcs[f]? = some fn) :
    true = Tryd.pinned.checked.prog.looks [] ∧ ∀ (j : Nat) t, fn.params[j]? = some t → Tryd.pinned.checked.prog.wantsStandIn t = false := by
  obtain rfl : f = 10 := Option.some.inj ((show Tryd.prog.funcNamed "bellows/bellowslaw23.AcceptItems" = some 10 by kernel_rfl).symm.trans hf) |>.symm
  obtain rfl : fn = Tryd.f10 := (Option.some.inj (Tryd.func10.symm.trans hfn)).symm
  refine ⟨by kernel_rfl, fun j t ht => ?_⟩
  have hall : (Tryd.f10.params.toList.all fun t => !Tryd.prog.wantsStandIn t) = true := by kernel_rfl
  have := List.all_eq_true.1 hall t (Array.mem_toList_iff.2 (Array.mem_of_getElem? ht))
  exact (show Tryd.prog.wantsStandIn t = false by simpa using this)

theorem proved : Rows.AcceptItemsCardSaid :=
  Claim7.holds_tied_plain_at .later [] _ _ _ _ said (fun _ h => by cases h) (by kernel_rfl) (fun _ h => by cases h) acceptItems_row_tie rfl ⟨rfl, rfl⟩ (by kernel_rfl) rfl plain (by kernel_rfl)
end Go.Proofs.YtggokigjnaiokaaDoor.acceptItems
