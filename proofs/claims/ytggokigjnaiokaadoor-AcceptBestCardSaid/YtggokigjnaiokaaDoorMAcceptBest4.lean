/- For every list of preferences and value, AcceptBest returns true; the arguments read behind the call as they read before. -/
import Derived.Test.YtggokigjnaiokaaDoorMAcceptBest3
/- The laws AcceptNames and AcceptWeights, reckoned. -/
namespace Go.Proofs.YtggokigjnaiokaaDoor.Vex
open Go Go.RowKit
set_option maxRecDepth 100000
set_option linter.unusedSectionVars false
variable {gI : GI} [HasMax gI]

theorem chooses_f (v : List UInt8) (c : UInt8) (b : Bool) (hv : v.length ≤ 1000000) (h : decide (chooseS [1, 2] v true = ((c.toNat : Int), true, 0)) = b) : Fn Tryd.prog gI 33 [str v, .int .u8 c.toNat] (.bool b) := by
  subst h
  refine Fn.of tys_ok Tryd.func33 rfl (by kernel_rfl) rfl rfl ?_; intro w hG
  (conv => whnf); repeat ((first | refine tk1 ?_ | refine tk2 ?_ | refine tk3 ?_ | refine tk12 (fun _ => ?_) | refine tk4 ?_ | refine tk5 ?_ | refine tk6 ?_ | refine tk7 ?_ | refine tk8 ?_ | refine tk9 ?_ | refine tk10 (fun _ _ => ?_) | refine tk11 (fun _ => ?_)); (conv => whnf))
  refine CallK.fnR (Choose_f _ 2 [1, 2] v true (by decide) (by decide) hv) ⟨RdA.ok, trivial⟩ ?_
  obtain ⟨s, hs⟩ : ∃ s, chooseS [1, 2] v true = s := ⟨_, rfl⟩
  rw [hs]
  obtain ⟨s1, s2, s3⟩ := s
  dsimp only
  (conv => whnf); repeat ((first | refine tk1 ?_ | refine tk2 ?_ | refine tk3 ?_ | refine tk12 (fun _ => ?_) | refine tk4 ?_ | refine tk5 ?_ | refine tk6 ?_ | refine tk7 ?_ | refine tk8 ?_ | refine tk9 ?_ | refine tk10 (fun _ _ => ?_) | refine tk11 (fun _ => ?_)); (conv => whnf))
  refine Cmp.cases (fun h1 => ?_) (fun h1 => ?_)
  · cases s2
    · (conv => whnf); repeat ((first | refine tk1 ?_ | refine tk2 ?_ | refine tk3 ?_ | refine tk12 (fun _ => ?_) | refine tk4 ?_ | refine tk5 ?_ | refine tk6 ?_ | refine tk7 ?_ | refine tk8 ?_ | refine tk9 ?_ | refine tk10 (fun _ _ => ?_) | refine tk11 (fun _ => ?_)); (conv => whnf))
      rw [decide_eq_false (by simp)]
    · (conv => whnf); repeat ((first | refine tk1 ?_ | refine tk2 ?_ | refine tk3 ?_ | refine tk12 (fun _ => ?_) | refine tk4 ?_ | refine tk5 ?_ | refine tk6 ?_ | refine tk7 ?_ | refine tk8 ?_ | refine tk9 ?_ | refine tk10 (fun _ _ => ?_) | refine tk11 (fun _ => ?_)); (conv => whnf))
      refine Cmp.cases (fun h2 => ?_) (fun h2 => ?_)
      · (conv => whnf); repeat ((first | refine tk1 ?_ | refine tk2 ?_ | refine tk3 ?_ | refine tk12 (fun _ => ?_) | refine tk4 ?_ | refine tk5 ?_ | refine tk6 ?_ | refine tk7 ?_ | refine tk8 ?_ | refine tk9 ?_ | refine tk10 (fun _ _ => ?_) | refine tk11 (fun _ => ?_)); (conv => whnf))
        rw [decide_eq_true (by simp [h1, h2])]
      · (conv => whnf); repeat ((first | refine tk1 ?_ | refine tk2 ?_ | refine tk3 ?_ | refine tk12 (fun _ => ?_) | refine tk4 ?_ | refine tk5 ?_ | refine tk6 ?_ | refine tk7 ?_ | refine tk8 ?_ | refine tk9 ?_ | refine tk10 (fun _ _ => ?_) | refine tk11 (fun _ => ?_)); (conv => whnf))
        rw [decide_eq_false (by simp [h2])]
  · (conv => whnf); repeat ((first | refine tk1 ?_ | refine tk2 ?_ | refine tk3 ?_ | refine tk12 (fun _ => ?_) | refine tk4 ?_ | refine tk5 ?_ | refine tk6 ?_ | refine tk7 ?_ | refine tk8 ?_ | refine tk9 ?_ | refine tk10 (fun _ _ => ?_) | refine tk11 (fun _ => ?_)); (conv => whnf))
    rw [decide_eq_false (by simp [h1])]
theorem none_f (v : List UInt8) (b : Bool) (hv : v.length ≤ 1000000) (h : decide (chooseS [1, 2] v true = (0, false, 0)) = b) : Fn Tryd.prog gI 34 [str v] (.bool b) := by
  subst h
  refine Fn.of tys_ok Tryd.func34 rfl (by kernel_rfl) rfl rfl ?_; intro w hG
  (conv => whnf); repeat ((first | refine tk1 ?_ | refine tk2 ?_ | refine tk3 ?_ | refine tk12 (fun _ => ?_) | refine tk4 ?_ | refine tk5 ?_ | refine tk6 ?_ | refine tk7 ?_ | refine tk8 ?_ | refine tk9 ?_ | refine tk10 (fun _ _ => ?_) | refine tk11 (fun _ => ?_)); (conv => whnf))
  refine CallK.fnR (Choose_f _ 2 [1, 2] v true (by decide) (by decide) hv) ⟨RdA.ok, trivial⟩ ?_
  obtain ⟨s, hs⟩ : ∃ s, chooseS [1, 2] v true = s := ⟨_, rfl⟩
  rw [hs]
  obtain ⟨s1, s2, s3⟩ := s
  dsimp only
  (conv => whnf); repeat ((first | refine tk1 ?_ | refine tk2 ?_ | refine tk3 ?_ | refine tk12 (fun _ => ?_) | refine tk4 ?_ | refine tk5 ?_ | refine tk6 ?_ | refine tk7 ?_ | refine tk8 ?_ | refine tk9 ?_ | refine tk10 (fun _ _ => ?_) | refine tk11 (fun _ => ?_)); (conv => whnf))
  refine Cmp.cases (fun h1 => ?_) (fun h1 => ?_)
  · cases s2
    · (conv => whnf); repeat ((first | refine tk1 ?_ | refine tk2 ?_ | refine tk3 ?_ | refine tk12 (fun _ => ?_) | refine tk4 ?_ | refine tk5 ?_ | refine tk6 ?_ | refine tk7 ?_ | refine tk8 ?_ | refine tk9 ?_ | refine tk10 (fun _ _ => ?_) | refine tk11 (fun _ => ?_)); (conv => whnf))
      refine Cmp.cases (fun h2 => ?_) (fun h2 => ?_)
      · (conv => whnf); repeat ((first | refine tk1 ?_ | refine tk2 ?_ | refine tk3 ?_ | refine tk12 (fun _ => ?_) | refine tk4 ?_ | refine tk5 ?_ | refine tk6 ?_ | refine tk7 ?_ | refine tk8 ?_ | refine tk9 ?_ | refine tk10 (fun _ _ => ?_) | refine tk11 (fun _ => ?_)); (conv => whnf))
        rw [decide_eq_true (by simp [h1, h2])]
      · (conv => whnf); repeat ((first | refine tk1 ?_ | refine tk2 ?_ | refine tk3 ?_ | refine tk12 (fun _ => ?_) | refine tk4 ?_ | refine tk5 ?_ | refine tk6 ?_ | refine tk7 ?_ | refine tk8 ?_ | refine tk9 ?_ | refine tk10 (fun _ _ => ?_) | refine tk11 (fun _ => ?_)); (conv => whnf))
        rw [decide_eq_false (by simp [h2])]
    · (conv => whnf); repeat ((first | refine tk1 ?_ | refine tk2 ?_ | refine tk3 ?_ | refine tk12 (fun _ => ?_) | refine tk4 ?_ | refine tk5 ?_ | refine tk6 ?_ | refine tk7 ?_ | refine tk8 ?_ | refine tk9 ?_ | refine tk10 (fun _ _ => ?_) | refine tk11 (fun _ => ?_)); (conv => whnf))
      rw [decide_eq_false (by simp)]
  · (conv => whnf); repeat ((first | refine tk1 ?_ | refine tk2 ?_ | refine tk3 ?_ | refine tk12 (fun _ => ?_) | refine tk4 ?_ | refine tk5 ?_ | refine tk6 ?_ | refine tk7 ?_ | refine tk8 ?_ | refine tk9 ?_ | refine tk10 (fun _ _ => ?_) | refine tk11 (fun _ => ?_)); (conv => whnf))
    rw [decide_eq_false (by simp [h1])]
theorem alive23_f : Fn Tryd.prog gI 28 [] (.bool true) := by
  refine Fn.of tys_ok Tryd.func28 rfl (by kernel_rfl) rfl rfl ?_; intro w hG
  (conv => whnf); repeat ((first | refine tk1 ?_ | refine tk2 ?_ | refine tk3 ?_ | refine tk12 (fun _ => ?_) | refine tk4 ?_ | refine tk5 ?_ | refine tk6 ?_ | refine tk7 ?_ | refine tk8 ?_ | refine tk9 ?_ | refine tk10 (fun _ _ => ?_) | refine tk11 (fun _ => ?_)); (conv => whnf))
  refine CallK.fn (chooses_f [100, 101, 102, 108, 97, 116, 101, 44, 32, 103, 122, 105, 112, 59, 113, 61, 48, 46, 53] 2 true (by decide) (by kernel_rfl)) ?_
  (conv => whnf); repeat ((first | refine tk1 ?_ | refine tk2 ?_ | refine tk3 ?_ | refine tk12 (fun _ => ?_) | refine tk4 ?_ | refine tk5 ?_ | refine tk6 ?_ | refine tk7 ?_ | refine tk8 ?_ | refine tk9 ?_ | refine tk10 (fun _ _ => ?_) | refine tk11 (fun _ => ?_)); (conv => whnf))
  refine CallK.fn (chooses_f [] 0 true (by decide) (by kernel_rfl)) ?_
  (conv => whnf); repeat ((first | refine tk1 ?_ | refine tk2 ?_ | refine tk3 ?_ | refine tk12 (fun _ => ?_) | refine tk4 ?_ | refine tk5 ?_ | refine tk6 ?_ | refine tk7 ?_ | refine tk8 ?_ | refine tk9 ?_ | refine tk10 (fun _ _ => ?_) | refine tk11 (fun _ => ?_)); (conv => whnf))
theorem AcceptNames_v : Fn Tryd.prog gI 11 [] (.bool true) := by
  refine Fn.of tys_ok Tryd.func11 rfl (by kernel_rfl) rfl rfl ?_; intro w hG
  (conv => whnf); repeat ((first | refine tk1 ?_ | refine tk2 ?_ | refine tk3 ?_ | refine tk12 (fun _ => ?_) | refine tk4 ?_ | refine tk5 ?_ | refine tk6 ?_ | refine tk7 ?_ | refine tk8 ?_ | refine tk9 ?_ | refine tk10 (fun _ _ => ?_) | refine tk11 (fun _ => ?_)); (conv => whnf))
  refine CallK.fnR ((Choose_f _ 2 [1, 2] [] false (by decide) (by decide) (by decide)).toV (v' := .tuple #[.int .u8 1, .bool true, .int .i64 0]) (by kernel_rfl)) ⟨RdA.ok, trivial⟩ ?_
  (conv => whnf); repeat ((first | refine tk1 ?_ | refine tk2 ?_ | refine tk3 ?_ | refine tk12 (fun _ => ?_) | refine tk4 ?_ | refine tk5 ?_ | refine tk6 ?_ | refine tk7 ?_ | refine tk8 ?_ | refine tk9 ?_ | refine tk10 (fun _ _ => ?_) | refine tk11 (fun _ => ?_)); (conv => whnf))
  refine CallK.fnR ((Choose_f _ 2 [1, 1] [] false (by decide) (by decide) (by decide)).toV (v' := .tuple #[.int .u8 0, .bool false, .int .i64 2]) (by kernel_rfl)) ⟨RdA.ok, trivial⟩ ?_
  (conv => whnf); repeat ((first | refine tk1 ?_ | refine tk2 ?_ | refine tk3 ?_ | refine tk12 (fun _ => ?_) | refine tk4 ?_ | refine tk5 ?_ | refine tk6 ?_ | refine tk7 ?_ | refine tk8 ?_ | refine tk9 ?_ | refine tk10 (fun _ _ => ?_) | refine tk11 (fun _ => ?_)); (conv => whnf))
  refine CallK.fnR ((Choose_f _ 1 [3] [] false (by decide) (by decide) (by decide)).toV (v' := .tuple #[.int .u8 0, .bool false, .int .i64 2]) (by kernel_rfl)) ⟨RdA.ok, trivial⟩ ?_
  (conv => whnf); repeat ((first | refine tk1 ?_ | refine tk2 ?_ | refine tk3 ?_ | refine tk12 (fun _ => ?_) | refine tk4 ?_ | refine tk5 ?_ | refine tk6 ?_ | refine tk7 ?_ | refine tk8 ?_ | refine tk9 ?_ | refine tk10 (fun _ _ => ?_) | refine tk11 (fun _ => ?_)); (conv => whnf))
  refine CallK.fnR ((Choose_f none 0 [] [103, 122, 105, 112] true (by decide) (by decide) (by decide)).toV (v' := .tuple #[.int .u8 0, .bool true, .int .i64 0]) (by kernel_rfl)) ⟨RdS.nil, trivial⟩ ?_
  (conv => whnf); repeat ((first | refine tk1 ?_ | refine tk2 ?_ | refine tk3 ?_ | refine tk12 (fun _ => ?_) | refine tk4 ?_ | refine tk5 ?_ | refine tk6 ?_ | refine tk7 ?_ | refine tk8 ?_ | refine tk9 ?_ | refine tk10 (fun _ _ => ?_) | refine tk11 (fun _ => ?_)); (conv => whnf))
  refine CallK.fn (chooses_f [42] 1 true (by decide) (by kernel_rfl)) ?_
  (conv => whnf); repeat ((first | refine tk1 ?_ | refine tk2 ?_ | refine tk3 ?_ | refine tk12 (fun _ => ?_) | refine tk4 ?_ | refine tk5 ?_ | refine tk6 ?_ | refine tk7 ?_ | refine tk8 ?_ | refine tk9 ?_ | refine tk10 (fun _ _ => ?_) | refine tk11 (fun _ => ?_)); (conv => whnf))
  refine CallK.fn (chooses_f [98, 114] 0 true (by decide) (by kernel_rfl)) ?_
  (conv => whnf); repeat ((first | refine tk1 ?_ | refine tk2 ?_ | refine tk3 ?_ | refine tk12 (fun _ => ?_) | refine tk4 ?_ | refine tk5 ?_ | refine tk6 ?_ | refine tk7 ?_ | refine tk8 ?_ | refine tk9 ?_ | refine tk10 (fun _ _ => ?_) | refine tk11 (fun _ => ?_)); (conv => whnf))
  refine CallK.fn (chooses_f [103, 122, 105, 112, 59, 113, 61, 48, 44, 32, 42] 2 true (by decide) (by kernel_rfl)) ?_
  (conv => whnf); repeat ((first | refine tk1 ?_ | refine tk2 ?_ | refine tk3 ?_ | refine tk12 (fun _ => ?_) | refine tk4 ?_ | refine tk5 ?_ | refine tk6 ?_ | refine tk7 ?_ | refine tk8 ?_ | refine tk9 ?_ | refine tk10 (fun _ _ => ?_) | refine tk11 (fun _ => ?_)); (conv => whnf))
  refine CallK.fn (chooses_f [103, 122, 105, 112, 59, 113, 61, 48, 46, 48, 48, 49, 44, 32, 105, 100, 101, 110, 116, 105, 116, 121, 59, 113, 61, 48, 46, 48, 48, 50] 0 true (by decide) (by kernel_rfl)) ?_
  (conv => whnf); repeat ((first | refine tk1 ?_ | refine tk2 ?_ | refine tk3 ?_ | refine tk12 (fun _ => ?_) | refine tk4 ?_ | refine tk5 ?_ | refine tk6 ?_ | refine tk7 ?_ | refine tk8 ?_ | refine tk9 ?_ | refine tk10 (fun _ _ => ?_) | refine tk11 (fun _ => ?_)); (conv => whnf))
  refine CallK.fn (chooses_f [42, 59, 113, 61, 48, 44, 32, 100, 101, 102, 108, 97, 116, 101, 59, 113, 61, 49, 46, 48, 48, 48] 2 true (by decide) (by kernel_rfl)) ?_
  (conv => whnf); repeat ((first | refine tk1 ?_ | refine tk2 ?_ | refine tk3 ?_ | refine tk12 (fun _ => ?_) | refine tk4 ?_ | refine tk5 ?_ | refine tk6 ?_ | refine tk7 ?_ | refine tk8 ?_ | refine tk9 ?_ | refine tk10 (fun _ _ => ?_) | refine tk11 (fun _ => ?_)); (conv => whnf))
  refine CallK.fn (chooses_f [103, 122, 105, 112, 59, 113, 61, 50, 44, 32, 100, 101, 102, 108, 97, 116, 101, 59, 113, 61, 46, 53, 44, 32, 120, 32, 121] 0 true (by decide) (by kernel_rfl)) ?_
  (conv => whnf); repeat ((first | refine tk1 ?_ | refine tk2 ?_ | refine tk3 ?_ | refine tk12 (fun _ => ?_) | refine tk4 ?_ | refine tk5 ?_ | refine tk6 ?_ | refine tk7 ?_ | refine tk8 ?_ | refine tk9 ?_ | refine tk10 (fun _ _ => ?_) | refine tk11 (fun _ => ?_)); (conv => whnf))
  refine CallK.fn (none_f [105, 100, 101, 110, 116, 105, 116, 121, 59, 113, 61, 48] true (by decide) (by kernel_rfl)) ?_
  (conv => whnf); repeat ((first | refine tk1 ?_ | refine tk2 ?_ | refine tk3 ?_ | refine tk12 (fun _ => ?_) | refine tk4 ?_ | refine tk5 ?_ | refine tk6 ?_ | refine tk7 ?_ | refine tk8 ?_ | refine tk9 ?_ | refine tk10 (fun _ _ => ?_) | refine tk11 (fun _ => ?_)); (conv => whnf))
  refine CallK.fn (none_f [42, 59, 113, 61, 48] true (by decide) (by kernel_rfl)) ?_
  (conv => whnf); repeat ((first | refine tk1 ?_ | refine tk2 ?_ | refine tk3 ?_ | refine tk12 (fun _ => ?_) | refine tk4 ?_ | refine tk5 ?_ | refine tk6 ?_ | refine tk7 ?_ | refine tk8 ?_ | refine tk9 ?_ | refine tk10 (fun _ _ => ?_) | refine tk11 (fun _ => ?_)); (conv => whnf))
  refine CallK.fn (none_f [105, 100, 101, 110, 116, 105, 116, 121, 59, 113, 61, 48, 44, 32, 103, 122, 105, 112, 59, 113, 61, 48, 46, 48, 48, 48] true (by decide) (by kernel_rfl)) ?_
  (conv => whnf); repeat ((first | refine tk1 ?_ | refine tk2 ?_ | refine tk3 ?_ | refine tk12 (fun _ => ?_) | refine tk4 ?_ | refine tk5 ?_ | refine tk6 ?_ | refine tk7 ?_ | refine tk8 ?_ | refine tk9 ?_ | refine tk10 (fun _ _ => ?_) | refine tk11 (fun _ => ?_)); (conv => whnf))
  refine CallK.fn ((Weight_f [48, 46, 50, 53] (by decide)).to (v' := .tuple #[.int .i64 250, .bool true]) (by kernel_rfl)) ?_
  (conv => whnf); repeat ((first | refine tk1 ?_ | refine tk2 ?_ | refine tk3 ?_ | refine tk12 (fun _ => ?_) | refine tk4 ?_ | refine tk5 ?_ | refine tk6 ?_ | refine tk7 ?_ | refine tk8 ?_ | refine tk9 ?_ | refine tk10 (fun _ _ => ?_) | refine tk11 (fun _ => ?_)); (conv => whnf))
  refine CallK.fn ((AccOf_f [88, 45, 71, 122, 105, 112] (by decide)).to (v' := .tuple #[.int .u8 1, .bool true]) (by kernel_rfl)) ?_
  (conv => whnf); repeat ((first | refine tk1 ?_ | refine tk2 ?_ | refine tk3 ?_ | refine tk12 (fun _ => ?_) | refine tk4 ?_ | refine tk5 ?_ | refine tk6 ?_ | refine tk7 ?_ | refine tk8 ?_ | refine tk9 ?_ | refine tk10 (fun _ _ => ?_) | refine tk11 (fun _ => ?_)); (conv => whnf))
  refine CallK.fn ((Name_f 2).to (v' := .tuple #[str [100, 101, 102, 108, 97, 116, 101], .int .i64 0]) (by kernel_rfl)) ?_
  (conv => whnf); repeat ((first | refine tk1 ?_ | refine tk2 ?_ | refine tk3 ?_ | refine tk12 (fun _ => ?_) | refine tk4 ?_ | refine tk5 ?_ | refine tk6 ?_ | refine tk7 ?_ | refine tk8 ?_ | refine tk9 ?_ | refine tk10 (fun _ _ => ?_) | refine tk11 (fun _ => ?_)); (conv => whnf))
  refine CallK.fn alive23_f ?_
  (conv => whnf); repeat ((first | refine tk1 ?_ | refine tk2 ?_ | refine tk3 ?_ | refine tk12 (fun _ => ?_) | refine tk4 ?_ | refine tk5 ?_ | refine tk6 ?_ | refine tk7 ?_ | refine tk8 ?_ | refine tk9 ?_ | refine tk10 (fun _ _ => ?_) | refine tk11 (fun _ => ?_)); (conv => whnf))
theorem DivS.quo16 {x m : Nat} {K : Value → Prop} (hm : 0 < m) (h : x < 65536) (k : K (.int .u16 ((x / m : Nat) : Int))) : DivS .quo .u16 (x : Nat) (m : Nat) K := ⟨by omega, .inl ⟨rfl, _, by
  have e : ((x : Int).tdiv (m : Int)) = ((x / m : Nat) : Int) := (Int.ofNat_tdiv x m).symm
  have h2 : x / m ≤ x := Nat.div_le_self _ _
  rw [e]
  generalize x / m = q at *
  rw [IntKind.wrap]
  simp [IntKind.bits, IntKind.signed]
  omega, k⟩⟩
theorem DivS.rem16 {x m : Nat} {K : Value → Prop} (hm : 0 < m) (k : K (.int .u16 ((x % m : Nat) : Int))) : DivS .rem .u16 (x : Nat) (m : Nat) K := ⟨by omega, .inr ⟨rfl, _, (Int.ofNat_tmod x m), k⟩⟩
theorem wt_thou (n : Nat) (h : n ≤ 999) : wtB [48, 46, UInt8.ofNat (48 + n / 100), UInt8.ofNat (48 + n / 10 % 10), UInt8.ofNat (48 + n % 10)] = true ∧ wtI [48, 46, UInt8.ofNat (48 + n / 100), UInt8.ofNat (48 + n / 10 % 10), UInt8.ofNat (48 + n % 10)] = n := by
  obtain ⟨a1, a2⟩ := dec_digit (n / 100) (by omega)
  obtain ⟨b1, b2⟩ := dec_digit (n / 10 % 10) (by omega)
  obtain ⟨c1, c2⟩ := dec_digit (n % 10) (by omega)
  generalize UInt8.ofNat (48 + n / 100) = x at *
  generalize UInt8.ofNat (48 + n / 10 % 10) = y at *
  generalize UInt8.ofNat (48 + n % 10) = z at *
  obtain ⟨h1, h2, _⟩ := wt_all (s := [48, 46, x, y, z]) 48 [46, x, y, z] rfl (.inl rfl) (.inr ⟨[x, y, z], rfl⟩) (by simp)
  have hp : ppOf [48, 46, x, y, z] = [x, y, z] := by simp [ppOf]
  have hall : ∀ c ∈ ppOf [48, 46, x, y, z], wD 48 c := by
    rw [hp]
    intro c hc
    simp only [List.mem_cons, List.not_mem_nil, or_false] at hc
    rcases hc with rfl | rfl | rfl
    · exact ⟨a1, fun e => by cases e⟩
    · exact ⟨b1, fun e => by cases e⟩
    · exact ⟨c1, fun e => by cases e⟩
  refine ⟨h1.2 hall, ?_⟩
  rw [h2 hall, hp]
  simp only [numF, List.foldl_cons, List.foldl_nil, numStep, a2, b2, c2, UInt8.reduceToNat]
  omega
theorem AcceptWeights_v (s : List UInt8) (n : Nat) (hn : n < 65536) (hs : s.length ≤ 9223372036854775807) : Fn Tryd.prog gI 8 [str s, .int .u16 (n : Nat)] (.bool true) := by
  refine Fn.of tys_ok Tryd.func8 rfl (by kernel_rfl) rfl rfl ?_; intro w hG
  (conv => whnf); repeat ((first | refine tk1 ?_ | refine tk2 ?_ | refine tk3 ?_ | refine tk12 (fun _ => ?_) | refine tk4 ?_ | refine tk5 ?_ | refine tk6 ?_ | refine tk7 ?_ | refine tk8 ?_ | refine tk9 ?_ | refine tk10 (fun _ _ => ?_) | refine tk11 (fun _ => ?_)); (conv => whnf))
  refine CallK.fn alive23_f ?_
  (conv => whnf); repeat ((first | refine tk1 ?_ | refine tk2 ?_ | refine tk3 ?_ | refine tk12 (fun _ => ?_) | refine tk4 ?_ | refine tk5 ?_ | refine tk6 ?_ | refine tk7 ?_ | refine tk8 ?_ | refine tk9 ?_ | refine tk10 (fun _ _ => ?_) | refine tk11 (fun _ => ?_)); (conv => whnf))
  refine CallK.fn (Weight_f s hs) ?_
  cases hb : wtB s
  · (conv => whnf); repeat ((first | refine tk1 ?_ | refine tk2 ?_ | refine tk3 ?_ | refine tk12 (fun _ => ?_) | refine tk4 ?_ | refine tk5 ?_ | refine tk6 ?_ | refine tk7 ?_ | refine tk8 ?_ | refine tk9 ?_ | refine tk10 (fun _ _ => ?_) | refine tk11 (fun _ => ?_)); (conv => whnf))
    refine Cmp.cases (fun p1 => ?_) (fun p1 => ?_)
    · (conv => whnf); repeat ((first | refine tk1 ?_ | refine tk2 ?_ | refine tk3 ?_ | refine tk12 (fun _ => ?_) | refine tk4 ?_ | refine tk5 ?_ | refine tk6 ?_ | refine tk7 ?_ | refine tk8 ?_ | refine tk9 ?_ | refine tk10 (fun _ _ => ?_) | refine tk11 (fun _ => ?_)); (conv => whnf))
    have hn2 : n ≤ 999 := by omega
    obtain ⟨w1, w2⟩ := wt_thou n hn2
    have a2 := (dec_digit (n / 100) (by omega)).2
    have b2 := (dec_digit (n / 10 % 10) (by omega)).2
    have c2 := (dec_digit (n % 10) (by omega)).2
    obtain ⟨x, hx⟩ : ∃ x, UInt8.ofNat (48 + n / 100) = x := ⟨_, rfl⟩
    obtain ⟨y, hy⟩ : ∃ y, UInt8.ofNat (48 + n / 10 % 10) = y := ⟨_, rfl⟩
    obtain ⟨z, hz⟩ : ∃ z, UInt8.ofNat (48 + n % 10) = z := ⟨_, rfl⟩
    rw [hx] at a2 w1 w2
    rw [hy] at b2 w1 w2
    rw [hz] at c2 w1 w2
    have hcl : [Value.int .u8 48, .int .u8 46, .int .u8 (48 + ((n / 100 : Nat) : Int)), .int .u8 (48 + ((n / 10 % 10 : Nat) : Int)), .int .u8 (48 + ((n % 10 : Nat) : Int))] = [48, 46, x, y, z].map byteV := by
      show _ = [Value.int .u8 48, .int .u8 46, .int .u8 x.toNat, .int .u8 y.toNat, .int .u8 z.toNat]
      rw [a2, b2, c2]
      rfl
    (conv => whnf); repeat ((first | refine tk1 ?_ | refine tk2 ?_ | refine tk3 ?_ | refine tk12 (fun _ => ?_) | refine tk4 ?_ | refine tk5 ?_ | refine tk6 ?_ | refine tk7 ?_ | refine tk8 ?_ | refine tk9 ?_ | refine tk10 (fun _ _ => ?_) | refine tk11 (fun _ => ?_)); (conv => whnf))
    refine DivS.quo16 (m := 100) (by decide) hn ?_
    (conv => whnf); repeat ((first | refine tk1 ?_ | refine tk2 ?_ | refine tk3 ?_ | refine tk12 (fun _ => ?_) | refine tk4 ?_ | refine tk5 ?_ | refine tk6 ?_ | refine tk7 ?_ | refine tk8 ?_ | refine tk9 ?_ | refine tk10 (fun _ _ => ?_) | refine tk11 (fun _ => ?_)); (conv => whnf))
    refine Ar.in8 (by omega) (by omega) ?_
    (conv => whnf); repeat ((first | refine tk1 ?_ | refine tk2 ?_ | refine tk3 ?_ | refine tk12 (fun _ => ?_) | refine tk4 ?_ | refine tk5 ?_ | refine tk6 ?_ | refine tk7 ?_ | refine tk8 ?_ | refine tk9 ?_ | refine tk10 (fun _ _ => ?_) | refine tk11 (fun _ => ?_)); (conv => whnf))
    refine Ar.in8 (by omega) (by omega) ?_
    (conv => whnf); repeat ((first | refine tk1 ?_ | refine tk2 ?_ | refine tk3 ?_ | refine tk12 (fun _ => ?_) | refine tk4 ?_ | refine tk5 ?_ | refine tk6 ?_ | refine tk7 ?_ | refine tk8 ?_ | refine tk9 ?_ | refine tk10 (fun _ _ => ?_) | refine tk11 (fun _ => ?_)); (conv => whnf))
    refine DivS.quo16 (m := 10) (by decide) hn ?_
    (conv => whnf); repeat ((first | refine tk1 ?_ | refine tk2 ?_ | refine tk3 ?_ | refine tk12 (fun _ => ?_) | refine tk4 ?_ | refine tk5 ?_ | refine tk6 ?_ | refine tk7 ?_ | refine tk8 ?_ | refine tk9 ?_ | refine tk10 (fun _ _ => ?_) | refine tk11 (fun _ => ?_)); (conv => whnf))
    refine DivS.rem16 (m := 10) (by decide) ?_
    (conv => whnf); repeat ((first | refine tk1 ?_ | refine tk2 ?_ | refine tk3 ?_ | refine tk12 (fun _ => ?_) | refine tk4 ?_ | refine tk5 ?_ | refine tk6 ?_ | refine tk7 ?_ | refine tk8 ?_ | refine tk9 ?_ | refine tk10 (fun _ _ => ?_) | refine tk11 (fun _ => ?_)); (conv => whnf))
    refine Ar.in8 (by omega) (by omega) ?_
    (conv => whnf); repeat ((first | refine tk1 ?_ | refine tk2 ?_ | refine tk3 ?_ | refine tk12 (fun _ => ?_) | refine tk4 ?_ | refine tk5 ?_ | refine tk6 ?_ | refine tk7 ?_ | refine tk8 ?_ | refine tk9 ?_ | refine tk10 (fun _ _ => ?_) | refine tk11 (fun _ => ?_)); (conv => whnf))
    refine Ar.in8 (by omega) (by omega) ?_
    (conv => whnf); repeat ((first | refine tk1 ?_ | refine tk2 ?_ | refine tk3 ?_ | refine tk12 (fun _ => ?_) | refine tk4 ?_ | refine tk5 ?_ | refine tk6 ?_ | refine tk7 ?_ | refine tk8 ?_ | refine tk9 ?_ | refine tk10 (fun _ _ => ?_) | refine tk11 (fun _ => ?_)); (conv => whnf))
    refine DivS.rem16 (m := 10) (by decide) ?_
    (conv => whnf); repeat ((first | refine tk1 ?_ | refine tk2 ?_ | refine tk3 ?_ | refine tk12 (fun _ => ?_) | refine tk4 ?_ | refine tk5 ?_ | refine tk6 ?_ | refine tk7 ?_ | refine tk8 ?_ | refine tk9 ?_ | refine tk10 (fun _ _ => ?_) | refine tk11 (fun _ => ?_)); (conv => whnf))
    refine Ar.in8 (by omega) (by omega) ?_
    (conv => whnf); repeat ((first | refine tk1 ?_ | refine tk2 ?_ | refine tk3 ?_ | refine tk12 (fun _ => ?_) | refine tk4 ?_ | refine tk5 ?_ | refine tk6 ?_ | refine tk7 ?_ | refine tk8 ?_ | refine tk9 ?_ | refine tk10 (fun _ _ => ?_) | refine tk11 (fun _ => ?_)); (conv => whnf))
    refine Ar.in8 (by omega) (by omega) ?_
    (conv => whnf); repeat ((first | refine tk1 ?_ | refine tk2 ?_ | refine tk3 ?_ | refine tk12 (fun _ => ?_) | refine tk4 ?_ | refine tk5 ?_ | refine tk6 ?_ | refine tk7 ?_ | refine tk8 ?_ | refine tk9 ?_ | refine tk10 (fun _ _ => ?_) | refine tk11 (fun _ => ?_)); (conv => whnf))
    refine B2S.tc (l := [48, 46, x, y, z]) hcl rfl ?_
    (conv => whnf); repeat ((first | refine tk1 ?_ | refine tk2 ?_ | refine tk3 ?_ | refine tk12 (fun _ => ?_) | refine tk4 ?_ | refine tk5 ?_ | refine tk6 ?_ | refine tk7 ?_ | refine tk8 ?_ | refine tk9 ?_ | refine tk10 (fun _ _ => ?_) | refine tk11 (fun _ => ?_)); (conv => whnf))
    refine CallK.fn (Weight_f [48, 46, x, y, z] (by simp)) ?_
    rw [w1, w2]
    (conv => whnf); repeat ((first | refine tk1 ?_ | refine tk2 ?_ | refine tk3 ?_ | refine tk12 (fun _ => ?_) | refine tk4 ?_ | refine tk5 ?_ | refine tk6 ?_ | refine tk7 ?_ | refine tk8 ?_ | refine tk9 ?_ | refine tk10 (fun _ _ => ?_) | refine tk11 (fun _ => ?_)); (conv => whnf))
  · obtain ⟨a, t, hat, h5, r1, r2, r3⟩ := wt_one hb
    have hl : 1 ≤ s.length := by rw [hat]; simp
    have h0 : s[(0 : Int).toNat]? = some a := by rw [hat]; rfl
    have hat2 := a.toNat_lt
    have h49 : (a.toNat : Int) = 49 ↔ a = 49 := ⟨fun h => UInt8.toNat_inj.1 (by show a.toNat = 49; omega), fun h => by rw [h]; rfl⟩
    (conv => whnf); repeat ((first | refine tk1 ?_ | refine tk2 ?_ | refine tk3 ?_ | refine tk12 (fun _ => ?_) | refine tk4 ?_ | refine tk5 ?_ | refine tk6 ?_ | refine tk7 ?_ | refine tk8 ?_ | refine tk9 ?_ | refine tk10 (fun _ _ => ?_) | refine tk11 (fun _ => ?_)); (conv => whnf))
    refine IdxS.at a h0 (by decide) ?_
    (conv => whnf); repeat ((first | refine tk1 ?_ | refine tk2 ?_ | refine tk3 ?_ | refine tk12 (fun _ => ?_) | refine tk4 ?_ | refine tk5 ?_ | refine tk6 ?_ | refine tk7 ?_ | refine tk8 ?_ | refine tk9 ?_ | refine tk10 (fun _ _ => ?_) | refine tk11 (fun _ => ?_)); (conv => whnf))
    refine Cmp.cases (fun q1 => ?_) (fun q1 => ?_)
    · have q2 := r3.1 (h49.1 q1)
      (conv => whnf); repeat ((first | refine tk1 ?_ | refine tk2 ?_ | refine tk3 ?_ | refine tk12 (fun _ => ?_) | refine tk4 ?_ | refine tk5 ?_ | refine tk6 ?_ | refine tk7 ?_ | refine tk8 ?_ | refine tk9 ?_ | refine tk10 (fun _ _ => ?_) | refine tk11 (fun _ => ?_)); (conv => whnf))
      refine Cmp.cases (fun p1 => ?_) (fun p1 => ?_)
      · (conv => whnf); repeat ((first | refine tk1 ?_ | refine tk2 ?_ | refine tk3 ?_ | refine tk12 (fun _ => ?_) | refine tk4 ?_ | refine tk5 ?_ | refine tk6 ?_ | refine tk7 ?_ | refine tk8 ?_ | refine tk9 ?_ | refine tk10 (fun _ _ => ?_) | refine tk11 (fun _ => ?_)); (conv => whnf))
      have hn2 : n ≤ 999 := by omega
      obtain ⟨w1, w2⟩ := wt_thou n hn2
      have a2 := (dec_digit (n / 100) (by omega)).2
      have b2 := (dec_digit (n / 10 % 10) (by omega)).2
      have c2 := (dec_digit (n % 10) (by omega)).2
      obtain ⟨x, hx⟩ : ∃ x, UInt8.ofNat (48 + n / 100) = x := ⟨_, rfl⟩
      obtain ⟨y, hy⟩ : ∃ y, UInt8.ofNat (48 + n / 10 % 10) = y := ⟨_, rfl⟩
      obtain ⟨z, hz⟩ : ∃ z, UInt8.ofNat (48 + n % 10) = z := ⟨_, rfl⟩
      rw [hx] at a2 w1 w2
      rw [hy] at b2 w1 w2
      rw [hz] at c2 w1 w2
      have hcl : [Value.int .u8 48, .int .u8 46, .int .u8 (48 + ((n / 100 : Nat) : Int)), .int .u8 (48 + ((n / 10 % 10 : Nat) : Int)), .int .u8 (48 + ((n % 10 : Nat) : Int))] = [48, 46, x, y, z].map byteV := by
        show _ = [Value.int .u8 48, .int .u8 46, .int .u8 x.toNat, .int .u8 y.toNat, .int .u8 z.toNat]
        rw [a2, b2, c2]
        rfl
      (conv => whnf); repeat ((first | refine tk1 ?_ | refine tk2 ?_ | refine tk3 ?_ | refine tk12 (fun _ => ?_) | refine tk4 ?_ | refine tk5 ?_ | refine tk6 ?_ | refine tk7 ?_ | refine tk8 ?_ | refine tk9 ?_ | refine tk10 (fun _ _ => ?_) | refine tk11 (fun _ => ?_)); (conv => whnf))
      refine DivS.quo16 (m := 100) (by decide) hn ?_
      (conv => whnf); repeat ((first | refine tk1 ?_ | refine tk2 ?_ | refine tk3 ?_ | refine tk12 (fun _ => ?_) | refine tk4 ?_ | refine tk5 ?_ | refine tk6 ?_ | refine tk7 ?_ | refine tk8 ?_ | refine tk9 ?_ | refine tk10 (fun _ _ => ?_) | refine tk11 (fun _ => ?_)); (conv => whnf))
      refine Ar.in8 (by omega) (by omega) ?_
      (conv => whnf); repeat ((first | refine tk1 ?_ | refine tk2 ?_ | refine tk3 ?_ | refine tk12 (fun _ => ?_) | refine tk4 ?_ | refine tk5 ?_ | refine tk6 ?_ | refine tk7 ?_ | refine tk8 ?_ | refine tk9 ?_ | refine tk10 (fun _ _ => ?_) | refine tk11 (fun _ => ?_)); (conv => whnf))
      refine Ar.in8 (by omega) (by omega) ?_
      (conv => whnf); repeat ((first | refine tk1 ?_ | refine tk2 ?_ | refine tk3 ?_ | refine tk12 (fun _ => ?_) | refine tk4 ?_ | refine tk5 ?_ | refine tk6 ?_ | refine tk7 ?_ | refine tk8 ?_ | refine tk9 ?_ | refine tk10 (fun _ _ => ?_) | refine tk11 (fun _ => ?_)); (conv => whnf))
      refine DivS.quo16 (m := 10) (by decide) hn ?_
      (conv => whnf); repeat ((first | refine tk1 ?_ | refine tk2 ?_ | refine tk3 ?_ | refine tk12 (fun _ => ?_) | refine tk4 ?_ | refine tk5 ?_ | refine tk6 ?_ | refine tk7 ?_ | refine tk8 ?_ | refine tk9 ?_ | refine tk10 (fun _ _ => ?_) | refine tk11 (fun _ => ?_)); (conv => whnf))
      refine DivS.rem16 (m := 10) (by decide) ?_
      (conv => whnf); repeat ((first | refine tk1 ?_ | refine tk2 ?_ | refine tk3 ?_ | refine tk12 (fun _ => ?_) | refine tk4 ?_ | refine tk5 ?_ | refine tk6 ?_ | refine tk7 ?_ | refine tk8 ?_ | refine tk9 ?_ | refine tk10 (fun _ _ => ?_) | refine tk11 (fun _ => ?_)); (conv => whnf))
      refine Ar.in8 (by omega) (by omega) ?_
      (conv => whnf); repeat ((first | refine tk1 ?_ | refine tk2 ?_ | refine tk3 ?_ | refine tk12 (fun _ => ?_) | refine tk4 ?_ | refine tk5 ?_ | refine tk6 ?_ | refine tk7 ?_ | refine tk8 ?_ | refine tk9 ?_ | refine tk10 (fun _ _ => ?_) | refine tk11 (fun _ => ?_)); (conv => whnf))
      refine Ar.in8 (by omega) (by omega) ?_
      (conv => whnf); repeat ((first | refine tk1 ?_ | refine tk2 ?_ | refine tk3 ?_ | refine tk12 (fun _ => ?_) | refine tk4 ?_ | refine tk5 ?_ | refine tk6 ?_ | refine tk7 ?_ | refine tk8 ?_ | refine tk9 ?_ | refine tk10 (fun _ _ => ?_) | refine tk11 (fun _ => ?_)); (conv => whnf))
      refine DivS.rem16 (m := 10) (by decide) ?_
      (conv => whnf); repeat ((first | refine tk1 ?_ | refine tk2 ?_ | refine tk3 ?_ | refine tk12 (fun _ => ?_) | refine tk4 ?_ | refine tk5 ?_ | refine tk6 ?_ | refine tk7 ?_ | refine tk8 ?_ | refine tk9 ?_ | refine tk10 (fun _ _ => ?_) | refine tk11 (fun _ => ?_)); (conv => whnf))
      refine Ar.in8 (by omega) (by omega) ?_
      (conv => whnf); repeat ((first | refine tk1 ?_ | refine tk2 ?_ | refine tk3 ?_ | refine tk12 (fun _ => ?_) | refine tk4 ?_ | refine tk5 ?_ | refine tk6 ?_ | refine tk7 ?_ | refine tk8 ?_ | refine tk9 ?_ | refine tk10 (fun _ _ => ?_) | refine tk11 (fun _ => ?_)); (conv => whnf))
      refine Ar.in8 (by omega) (by omega) ?_
      (conv => whnf); repeat ((first | refine tk1 ?_ | refine tk2 ?_ | refine tk3 ?_ | refine tk12 (fun _ => ?_) | refine tk4 ?_ | refine tk5 ?_ | refine tk6 ?_ | refine tk7 ?_ | refine tk8 ?_ | refine tk9 ?_ | refine tk10 (fun _ _ => ?_) | refine tk11 (fun _ => ?_)); (conv => whnf))
      refine B2S.tc (l := [48, 46, x, y, z]) hcl rfl ?_
      (conv => whnf); repeat ((first | refine tk1 ?_ | refine tk2 ?_ | refine tk3 ?_ | refine tk12 (fun _ => ?_) | refine tk4 ?_ | refine tk5 ?_ | refine tk6 ?_ | refine tk7 ?_ | refine tk8 ?_ | refine tk9 ?_ | refine tk10 (fun _ _ => ?_) | refine tk11 (fun _ => ?_)); (conv => whnf))
      refine CallK.fn (Weight_f [48, 46, x, y, z] (by simp)) ?_
      rw [w1, w2]
      (conv => whnf); repeat ((first | refine tk1 ?_ | refine tk2 ?_ | refine tk3 ?_ | refine tk12 (fun _ => ?_) | refine tk4 ?_ | refine tk5 ?_ | refine tk6 ?_ | refine tk7 ?_ | refine tk8 ?_ | refine tk9 ?_ | refine tk10 (fun _ _ => ?_) | refine tk11 (fun _ => ?_)); (conv => whnf))
    · have q2 : ¬ wtI s = 1000 := fun h => q1 (h49.2 (r3.2 h))
      (conv => whnf); repeat ((first | refine tk1 ?_ | refine tk2 ?_ | refine tk3 ?_ | refine tk12 (fun _ => ?_) | refine tk4 ?_ | refine tk5 ?_ | refine tk6 ?_ | refine tk7 ?_ | refine tk8 ?_ | refine tk9 ?_ | refine tk10 (fun _ _ => ?_) | refine tk11 (fun _ => ?_)); (conv => whnf))
      refine Cmp.cases (fun p1 => ?_) (fun p1 => ?_)
      · (conv => whnf); repeat ((first | refine tk1 ?_ | refine tk2 ?_ | refine tk3 ?_ | refine tk12 (fun _ => ?_) | refine tk4 ?_ | refine tk5 ?_ | refine tk6 ?_ | refine tk7 ?_ | refine tk8 ?_ | refine tk9 ?_ | refine tk10 (fun _ _ => ?_) | refine tk11 (fun _ => ?_)); (conv => whnf))
      have hn2 : n ≤ 999 := by omega
      obtain ⟨w1, w2⟩ := wt_thou n hn2
      have a2 := (dec_digit (n / 100) (by omega)).2
      have b2 := (dec_digit (n / 10 % 10) (by omega)).2
      have c2 := (dec_digit (n % 10) (by omega)).2
      obtain ⟨x, hx⟩ : ∃ x, UInt8.ofNat (48 + n / 100) = x := ⟨_, rfl⟩
      obtain ⟨y, hy⟩ : ∃ y, UInt8.ofNat (48 + n / 10 % 10) = y := ⟨_, rfl⟩
      obtain ⟨z, hz⟩ : ∃ z, UInt8.ofNat (48 + n % 10) = z := ⟨_, rfl⟩
      rw [hx] at a2 w1 w2
      rw [hy] at b2 w1 w2
      rw [hz] at c2 w1 w2
      have hcl : [Value.int .u8 48, .int .u8 46, .int .u8 (48 + ((n / 100 : Nat) : Int)), .int .u8 (48 + ((n / 10 % 10 : Nat) : Int)), .int .u8 (48 + ((n % 10 : Nat) : Int))] = [48, 46, x, y, z].map byteV := by
        show _ = [Value.int .u8 48, .int .u8 46, .int .u8 x.toNat, .int .u8 y.toNat, .int .u8 z.toNat]
        rw [a2, b2, c2]
        rfl
      (conv => whnf); repeat ((first | refine tk1 ?_ | refine tk2 ?_ | refine tk3 ?_ | refine tk12 (fun _ => ?_) | refine tk4 ?_ | refine tk5 ?_ | refine tk6 ?_ | refine tk7 ?_ | refine tk8 ?_ | refine tk9 ?_ | refine tk10 (fun _ _ => ?_) | refine tk11 (fun _ => ?_)); (conv => whnf))
      refine DivS.quo16 (m := 100) (by decide) hn ?_
      (conv => whnf); repeat ((first | refine tk1 ?_ | refine tk2 ?_ | refine tk3 ?_ | refine tk12 (fun _ => ?_) | refine tk4 ?_ | refine tk5 ?_ | refine tk6 ?_ | refine tk7 ?_ | refine tk8 ?_ | refine tk9 ?_ | refine tk10 (fun _ _ => ?_) | refine tk11 (fun _ => ?_)); (conv => whnf))
      refine Ar.in8 (by omega) (by omega) ?_
      (conv => whnf); repeat ((first | refine tk1 ?_ | refine tk2 ?_ | refine tk3 ?_ | refine tk12 (fun _ => ?_) | refine tk4 ?_ | refine tk5 ?_ | refine tk6 ?_ | refine tk7 ?_ | refine tk8 ?_ | refine tk9 ?_ | refine tk10 (fun _ _ => ?_) | refine tk11 (fun _ => ?_)); (conv => whnf))
      refine Ar.in8 (by omega) (by omega) ?_
      (conv => whnf); repeat ((first | refine tk1 ?_ | refine tk2 ?_ | refine tk3 ?_ | refine tk12 (fun _ => ?_) | refine tk4 ?_ | refine tk5 ?_ | refine tk6 ?_ | refine tk7 ?_ | refine tk8 ?_ | refine tk9 ?_ | refine tk10 (fun _ _ => ?_) | refine tk11 (fun _ => ?_)); (conv => whnf))
      refine DivS.quo16 (m := 10) (by decide) hn ?_
      (conv => whnf); repeat ((first | refine tk1 ?_ | refine tk2 ?_ | refine tk3 ?_ | refine tk12 (fun _ => ?_) | refine tk4 ?_ | refine tk5 ?_ | refine tk6 ?_ | refine tk7 ?_ | refine tk8 ?_ | refine tk9 ?_ | refine tk10 (fun _ _ => ?_) | refine tk11 (fun _ => ?_)); (conv => whnf))
      refine DivS.rem16 (m := 10) (by decide) ?_
      (conv => whnf); repeat ((first | refine tk1 ?_ | refine tk2 ?_ | refine tk3 ?_ | refine tk12 (fun _ => ?_) | refine tk4 ?_ | refine tk5 ?_ | refine tk6 ?_ | refine tk7 ?_ | refine tk8 ?_ | refine tk9 ?_ | refine tk10 (fun _ _ => ?_) | refine tk11 (fun _ => ?_)); (conv => whnf))
      refine Ar.in8 (by omega) (by omega) ?_
      (conv => whnf); repeat ((first | refine tk1 ?_ | refine tk2 ?_ | refine tk3 ?_ | refine tk12 (fun _ => ?_) | refine tk4 ?_ | refine tk5 ?_ | refine tk6 ?_ | refine tk7 ?_ | refine tk8 ?_ | refine tk9 ?_ | refine tk10 (fun _ _ => ?_) | refine tk11 (fun _ => ?_)); (conv => whnf))
      refine Ar.in8 (by omega) (by omega) ?_
      (conv => whnf); repeat ((first | refine tk1 ?_ | refine tk2 ?_ | refine tk3 ?_ | refine tk12 (fun _ => ?_) | refine tk4 ?_ | refine tk5 ?_ | refine tk6 ?_ | refine tk7 ?_ | refine tk8 ?_ | refine tk9 ?_ | refine tk10 (fun _ _ => ?_) | refine tk11 (fun _ => ?_)); (conv => whnf))
      refine DivS.rem16 (m := 10) (by decide) ?_
      (conv => whnf); repeat ((first | refine tk1 ?_ | refine tk2 ?_ | refine tk3 ?_ | refine tk12 (fun _ => ?_) | refine tk4 ?_ | refine tk5 ?_ | refine tk6 ?_ | refine tk7 ?_ | refine tk8 ?_ | refine tk9 ?_ | refine tk10 (fun _ _ => ?_) | refine tk11 (fun _ => ?_)); (conv => whnf))
      refine Ar.in8 (by omega) (by omega) ?_
      (conv => whnf); repeat ((first | refine tk1 ?_ | refine tk2 ?_ | refine tk3 ?_ | refine tk12 (fun _ => ?_) | refine tk4 ?_ | refine tk5 ?_ | refine tk6 ?_ | refine tk7 ?_ | refine tk8 ?_ | refine tk9 ?_ | refine tk10 (fun _ _ => ?_) | refine tk11 (fun _ => ?_)); (conv => whnf))
      refine Ar.in8 (by omega) (by omega) ?_
      (conv => whnf); repeat ((first | refine tk1 ?_ | refine tk2 ?_ | refine tk3 ?_ | refine tk12 (fun _ => ?_) | refine tk4 ?_ | refine tk5 ?_ | refine tk6 ?_ | refine tk7 ?_ | refine tk8 ?_ | refine tk9 ?_ | refine tk10 (fun _ _ => ?_) | refine tk11 (fun _ => ?_)); (conv => whnf))
      refine B2S.tc (l := [48, 46, x, y, z]) hcl rfl ?_
      (conv => whnf); repeat ((first | refine tk1 ?_ | refine tk2 ?_ | refine tk3 ?_ | refine tk12 (fun _ => ?_) | refine tk4 ?_ | refine tk5 ?_ | refine tk6 ?_ | refine tk7 ?_ | refine tk8 ?_ | refine tk9 ?_ | refine tk10 (fun _ _ => ?_) | refine tk11 (fun _ => ?_)); (conv => whnf))
      refine CallK.fn (Weight_f [48, 46, x, y, z] (by simp)) ?_
      rw [w1, w2]
      (conv => whnf); repeat ((first | refine tk1 ?_ | refine tk2 ?_ | refine tk3 ?_ | refine tk12 (fun _ => ?_) | refine tk4 ?_ | refine tk5 ?_ | refine tk6 ?_ | refine tk7 ?_ | refine tk8 ?_ | refine tk9 ?_ | refine tk10 (fun _ _ => ?_) | refine tk11 (fun _ => ?_)); (conv => whnf))
end Go.Proofs.YtggokigjnaiokaaDoor.Vex
/- The law AcceptBest, reckoned. -/
namespace Go.Proofs.YtggokigjnaiokaaDoor
/-- What is chosen stands among all, nothing is better, and nothing ahead of it as good. -/
theorem bestL_is (tw : UInt8 → Int) : ∀ (n : Nat) (a : List UInt8), a.length = n + 1 → ∃ i, ∃ h : i < a.length, a[i] = (bestL tw a).1 ∧ tw (bestL tw a).1 = (bestL tw a).2 ∧ (∀ x ∈ a, tw x ≤ (bestL tw a).2) ∧ ∀ x ∈ a.take i, tw x < (bestL tw a).2 := by
  intro n
  induction n with
  | zero =>
    intro a h
    match a, h with
    | [x], _ => exact ⟨0, by simp, rfl, rfl, by simp [bestL], by simp⟩
  | succ n ih =>
    intro a h
    have hne : a ≠ [] := fun e => by rw [e] at h; simp at h
    obtain ⟨b, y, rfl⟩ : ∃ b y, a = b ++ [y] := ⟨a.take (n + 1), a[n + 1]'(by omega), by rw [← List.take_succ_eq_append_getElem (by omega), List.take_of_length_le (by omega)]⟩
    have hb : b.length = n + 1 := by simpa using h
    have hbn : b ≠ [] := fun e => by rw [e] at hb; simp at hb
    obtain ⟨i, hi, h1, h2, h3, h4⟩ := ih b hb
    rw [bestL_snoc tw b y hbn]
    by_cases hq : (bestL tw b).2 < tw y
    · rw [if_pos hq]
      refine ⟨b.length, by simp, by simp, rfl, fun x hx => ?_, fun x hx => ?_⟩
      · rcases List.mem_append.1 hx with h | h
        · have := h3 x h; dsimp only; omega
        · simp at h; subst h; exact Int.le_refl _
      · rw [List.take_left' rfl] at hx
        have := h3 x hx
        dsimp only
        omega
    · rw [if_neg hq]
      refine ⟨i, by simp; omega, by rw [List.getElem_append_left hi]; exact h1, h2, fun x hx => ?_, fun x hx => ?_⟩
      · rcases List.mem_append.1 hx with h | h
        · exact h3 x h
        · simp at h; subst h; omega
      · rw [List.take_append_of_le_length (by omega)] at hx
        exact h4 x hx
/-- .. among the preferences with identity behind them. -/
theorem best_all (tw : UInt8 → Int) (l : List UInt8) : ∃ i, ∃ h : i < (l ++ [0]).length, (l ++ [0])[i] = (bestL tw (allP l)).1 ∧ tw (bestL tw (allP l)).1 = (bestL tw (allP l)).2 ∧ (∀ x ∈ l ++ [0], tw x ≤ (bestL tw (allP l)).2) ∧ ∀ x ∈ (l ++ [0]).take i, tw x < (bestL tw (allP l)).2 := by
  unfold allP
  split
  · rename_i h0
    have hne : l ≠ [] := fun e => by rw [e] at h0; cases h0
    have hpos := List.length_pos_iff.2 hne
    obtain ⟨i, hi, h1, h2, h3, h4⟩ := bestL_is tw (l.length - 1) l (by omega)
    refine ⟨i, by simp; omega, by rw [List.getElem_append_left hi]; exact h1, h2, fun x hx => ?_, fun x hx => ?_⟩
    · rcases List.mem_append.1 hx with h | h
      · exact h3 x h
      · simp at h; subst h; exact h3 0 h0
    · rw [List.take_append_of_le_length (by omega)] at hx
      exact h4 x hx
  · exact bestL_is tw l.length (l ++ [0]) (by simp)
end Go.Proofs.YtggokigjnaiokaaDoor
namespace Go.Proofs.YtggokigjnaiokaaDoor.Vex
open Go Go.RowKit
set_option maxRecDepth 100000
set_option linter.unusedSectionVars false
variable {gI : GI} [HasMax gI]

theorem allP_le {l : List UInt8} (hok : prefsG [] l = true) : ∀ x ∈ l ++ [0], x.toNat ≤ 2 := by
  obtain ⟨p1, _⟩ := prefsG_le l [] hok (by simp) (by simp) (by simp)
  intro x hx
  rcases List.mem_append.1 hx with h | h
  · exact p1 x h
  · simp at h; subst h; decide
theorem AcceptBest_v (A : Option Addr) (cp : Nat) (l value : List UInt8) (hcp : l.length ≤ cp) :
    FnR Tryd.prog gI 9 [.slice A l.length cp, str value] [(A, l.map byteV)] (.bool true) := by
  refine FnE.of tys_ok Tryd.func9 rfl (by kernel_rfl) rfl rfl ?_; intro w hG hP
  have hR : ∀ H, RdA (mkC Tryd.prog gI w hG) H A (l.map byteV) := fun H => ⟨hP.1.now⟩
  (conv => whnf); repeat ((first | refine tk1 ?_ | refine tk2 ?_ | refine tk3 ?_ | refine tk12 (fun _ => ?_) | refine tk4 ?_ | refine tk5 ?_ | refine tk6 ?_ | refine tk7 ?_ | refine tk8 ?_ | refine tk9 ?_ | refine tk10 (fun _ _ => ?_) | refine tk11 (fun _ => ?_)); (conv => whnf))
  refine CallK.fn alive23_f ?_
  (conv => whnf); repeat ((first | refine tk1 ?_ | refine tk2 ?_ | refine tk3 ?_ | refine tk12 (fun _ => ?_) | refine tk4 ?_ | refine tk5 ?_ | refine tk6 ?_ | refine tk7 ?_ | refine tk8 ?_ | refine tk9 ?_ | refine tk10 (fun _ _ => ?_) | refine tk11 (fun _ => ?_)); (conv => whnf))
  refine Cmp.cases (fun q1 => ?_) (fun q1 => ?_)
  · (conv => whnf); repeat ((first | refine tk1 ?_ | refine tk2 ?_ | refine tk3 ?_ | refine tk12 (fun _ => ?_) | refine tk4 ?_ | refine tk5 ?_ | refine tk6 ?_ | refine tk7 ?_ | refine tk8 ?_ | refine tk9 ?_ | refine tk10 (fun _ _ => ?_) | refine tk11 (fun _ => ?_)); (conv => whnf))
    exact fun w' _ => rfl
  (conv => whnf); repeat ((first | refine tk1 ?_ | refine tk2 ?_ | refine tk3 ?_ | refine tk12 (fun _ => ?_) | refine tk4 ?_ | refine tk5 ?_ | refine tk6 ?_ | refine tk7 ?_ | refine tk8 ?_ | refine tk9 ?_ | refine tk10 (fun _ _ => ?_) | refine tk11 (fun _ => ?_)); (conv => whnf))
  refine Cmp.cases (fun q2 => ?_) (fun q2 => ?_)
  · (conv => whnf); repeat ((first | refine tk1 ?_ | refine tk2 ?_ | refine tk3 ?_ | refine tk12 (fun _ => ?_) | refine tk4 ?_ | refine tk5 ?_ | refine tk6 ?_ | refine tk7 ?_ | refine tk8 ?_ | refine tk9 ?_ | refine tk10 (fun _ _ => ?_) | refine tk11 (fun _ => ?_)); (conv => whnf))
    exact fun w' _ => rfl
  (conv => whnf); repeat ((first | refine tk1 ?_ | refine tk2 ?_ | refine tk3 ?_ | refine tk12 (fun _ => ?_) | refine tk4 ?_ | refine tk5 ?_ | refine tk6 ?_ | refine tk7 ?_ | refine tk8 ?_ | refine tk9 ?_ | refine tk10 (fun _ _ => ?_) | refine tk11 (fun _ => ?_)); (conv => whnf))
  refine CallK.fnR (Choose_f A cp l value true (by omega) hcp (by omega)) ⟨RdA.ok, trivial⟩ ?_
  obtain ⟨L, hL⟩ : ∃ L, itemsOf value = L := ⟨_, rfl⟩
  cases hok : prefsG [] l
  · have e : chooseS l value true = (0, false, 2) := by unfold chooseS; rw [hok]; rfl
    rw [e]
    (conv => whnf); repeat ((first | refine tk1 ?_ | refine tk2 ?_ | refine tk3 ?_ | refine tk12 (fun _ => ?_) | refine tk4 ?_ | refine tk5 ?_ | refine tk6 ?_ | refine tk7 ?_ | refine tk8 ?_ | refine tk9 ?_ | refine tk10 (fun _ _ => ?_) | refine tk11 (fun _ => ?_)); (conv => whnf))
    exact fun w' _ => rfl
  obtain ⟨a, ha⟩ : ∃ a, l ++ [0] = a := ⟨_, rfl⟩
  have hal : a.length = l.length + 1 := by rw [← ha]; simp
  have hle : ∀ x ∈ a, x.toNat ≤ 2 := by rw [← ha]; exact allP_le hok
  obtain ⟨i, hi, h1, h2, h3, h4⟩ := best_all (twU L) l
  have hbr := bestL_range L (allP l)
  have hS : chooseS l value true = if (bestL (twU L) (allP l)).2 = 0 then (0, false, 0) else (((bestL (twU L) (allP l)).1.toNat : Int), true, 0) := by unfold chooseS; rw [hok, hL]; rfl
  obtain ⟨B, hB⟩ : ∃ B, bestL (twU L) (allP l) = B := ⟨_, rfl⟩
  rw [hB] at h1 h2 h3 h4 hbr hS
  obtain ⟨c, most⟩ := B
  dsimp only at h1 h2 h3 h4 hbr hS
  have hC2 : c.toNat ≤ 2 := by
    refine hle c ?_
    rw [← ha, ← h1]
    exact List.getElem_mem hi
  have hca : c ∈ a := by rw [← ha, ← h1]; exact List.getElem_mem hi
  have key : ∀ (k : Nat) (hk : k < a.length), c ∉ a.take (k + 1) → twU L a[k] < most := fun k hk hn => by
    have hki : k < i := by
      rcases Nat.lt_or_ge k i with h | h
      · exact h
      · exfalso
        apply hn
        subst ha
        rw [← h1]
        exact List.mem_take_iff_getElem.2 ⟨i, by omega, rfl⟩
    subst ha
    exact h4 _ (List.mem_take_iff_getElem.2 ⟨k, by omega, rfl⟩)
  have h3a : ∀ (k : Nat) (hk : k < a.length), twU L a[k] ≤ most := fun k hk => by
    subst ha
    exact h3 _ (List.getElem_mem hk)
  by_cases hm : most = 0
  · rw [if_pos hm] at hS
    rw [hS]
    have hC0 : (0 : UInt8).toNat ≤ 2 := by decide
    (conv => whnf); repeat ((first | refine tk1 ?_ | refine tk2 ?_ | refine tk3 ?_ | refine tk12 (fun _ => ?_) | refine tk4 ?_ | refine tk5 ?_ | refine tk6 ?_ | refine tk7 ?_ | refine tk8 ?_ | refine tk9 ?_ | refine tk10 (fun _ _ => ?_) | refine tk11 (fun _ => ?_)); (conv => whnf))
    refine AppS.t0 (m := l.length) (news := l.map byteV) SrcK.tc (by simp) (by simp; intro a _; rfl) (by decide) (by omega) (by omega) (fun B1 c1 => ?_)
    (conv => whnf); repeat ((first | refine tk1 ?_ | refine tk2 ?_ | refine tk3 ?_ | refine tk12 (fun _ => ?_) | refine tk4 ?_ | refine tk5 ?_ | refine tk6 ?_ | refine tk7 ?_ | refine tk8 ?_ | refine tk9 ?_ | refine tk10 (fun _ _ => ?_) | refine tk11 (fun _ => ?_)); (conv => whnf))
    refine AppS.tc (m := 1) (news := [byteV 0]) SrcK.tc rfl (by simp [Value.oneCell', byteV]) (by decide) (by omega) (by omega) (zs := a.map byteV) (by rw [← ha, List.map_append]; rfl) (fun B2 c2 => ?_)
    rw [← hal]
    (conv => whnf); repeat ((first | refine tk1 ?_ | refine tk2 ?_ | refine tk3 ?_ | refine tk12 (fun _ => ?_) | refine tk4 ?_ | refine tk5 ?_ | refine tk6 ?_ | refine tk7 ?_ | refine tk8 ?_ | refine tk9 ?_ | refine tk10 (fun _ _ => ?_) | refine tk11 (fun _ => ?_)); (conv => whnf))
    have hwC := Weigh_f (gI := gI) value 0 (by omega)
    rw [if_pos hC0, if_pos hC0, hL] at hwC
    have hrC := twU_range L 0
    refine CallK.fn hwC ?_
    rw [show twiceW L (0 : UInt8).toNat = twU L 0 from rfl]
    (conv => whnf); repeat ((first | refine tk1 ?_ | refine tk2 ?_ | refine tk3 ?_ | refine tk12 (fun _ => ?_) | refine tk4 ?_ | refine tk5 ?_ | refine tk6 ?_ | refine tk7 ?_ | refine tk8 ?_ | refine tk9 ?_ | refine tk10 (fun _ _ => ?_) | refine tk11 (fun _ => ?_)); (conv => whnf))
    refine LoopS.lp tys_ok (fun (x : Nat × Bool) u => [u 0, str value, u 2, u 3, u 4, .bool true, .int .u8 (0 : UInt8).toNat, .bool false, u 8, .slice B2 a.length c2, .int .i64 (twU L 0), .int .i64 0, .bool x.2, .int .i64 (x.1 : Nat), u 14, u 15, u 16, u 17, u 18, u 19, u 20, u 21, u 22, u 23, u 24, u 25, u 26, u 27, u 28, u 29, u 30, u 31, u 32, u 33, u 34, u 35, u 36, u 37, u 38, u 39, u 40, u 41, u 42, u 43, u 44, u 45, u 46, u 47, u 48, u 49, u 50, u 51, u 52, u 53, u 54, u 55, u 56, u 57, u 58, u 59, u 60, u 61, u 62, u 63, u 64, u 65, u 66, u 67, u 68, u 69, u 70, u 71, u 72, u 73, u 74, u 75, u 76, u 77, u 78, u 79, u 80, u 81, u 82, u 83, u 84, u 85, u 86, u 87, u 88, u 89, u 90, u 91, u 92, u 93, u 94, u 95, u 96, u 97, u 98, u 99, u 100, u 101, u 102, u 103, u 104, u 105, u 106, u 107, u 108, u 109, u 110, u 111, u 112, u 113, u 114, u 115, u 116, u 117, u 118, u 119, u 120, u 121, u 122, u 123, u 124])
      (fun _ => [.row (.slice B2 a.length c2) 5 1 a.length (a.map byteV)])
      (fun x => x.1 ≤ a.length ∧ x.2 = decide ((0 : UInt8) ∈ a.take x.1)) (fun x => a.length - x.1) (0, false) ⟨Nat.zero_le _, by simp⟩ rfl (by repeat' (first | exact List.Sublist.refl _ | exact List.nil_sublist _ | apply List.Sublist.cons_cons | apply List.Sublist.cons)) ?_
    rintro ⟨k, met⟩ u ⟨hk, hmet⟩
    dsimp only at hk hmet ⊢
    (conv => whnf); repeat ((first | refine tk1 ?_ | refine tk2 ?_ | refine tk3 ?_ | refine tk12 (fun _ => ?_) | refine tk4 ?_ | refine tk5 ?_ | refine tk6 ?_ | refine tk7 ?_ | refine tk8 ?_ | refine tk9 ?_ | refine tk10 (fun _ _ => ?_) | refine tk11 (fun _ => ?_)); (conv => whnf))
    refine Cmp.cases (fun hlt => ?_) (fun hlt => ?_)
    · have hlt' : k < a.length := by omega
      have hgk : (a.map byteV)[k]? = some (byteV a[k]) := by simp [hlt']
      have htk : a.take (k + 1) = a.take k ++ [a[k]] := List.take_succ_eq_append_getElem hlt'
      have hkey := key k hlt'
      have hyle := hle _ (List.getElem_mem hlt')
      have hy3 := h3a k hlt'
      obtain ⟨y, hy⟩ : ∃ y, a[k] = y := ⟨_, rfl⟩
      rw [hy] at hgk htk hkey hyle hy3
      have hwy := Weigh_f (gI := gI) value y (by omega)
      rw [if_pos hyle, if_pos hyle, hL] at hwy
      have hry := twU_range L y
      have hmn : ((0 : UInt8) ∈ a.take (k + 1)) ↔ (met = true ∨ y = 0) := by
        rw [htk, List.mem_append, hmet]
        simp only [List.mem_singleton, decide_eq_true_eq]
        exact or_congr Iff.rfl eq_comm
      (conv => whnf); repeat ((first | refine tk1 ?_ | refine tk2 ?_ | refine tk3 ?_ | refine tk12 (fun _ => ?_) | refine tk4 ?_ | refine tk5 ?_ | refine tk6 ?_ | refine tk7 ?_ | refine tk8 ?_ | refine tk9 ?_ | refine tk10 (fun _ _ => ?_) | refine tk11 (fun _ => ?_)); (conv => whnf))
      refine IdxA.tc (xs := a.map byteV) (by rw [List.length_map]; omega) (by omega) (by omega) ?_
      (conv => whnf); repeat ((first | refine tk1 ?_ | refine tk2 ?_ | refine tk3 ?_ | refine tk12 (fun _ => ?_) | refine tk4 ?_ | refine tk5 ?_ | refine tk6 ?_ | refine tk7 ?_ | refine tk8 ?_ | refine tk9 ?_ | refine tk10 (fun _ _ => ?_) | refine tk11 (fun _ => ?_)); (conv => whnf))
      refine Ld.ta (xs := a.map byteV) (v := byteV y) (by simpa using hgk) ?_
      (conv => whnf); repeat ((first | refine tk1 ?_ | refine tk2 ?_ | refine tk3 ?_ | refine tk12 (fun _ => ?_) | refine tk4 ?_ | refine tk5 ?_ | refine tk6 ?_ | refine tk7 ?_ | refine tk8 ?_ | refine tk9 ?_ | refine tk10 (fun _ _ => ?_) | refine tk11 (fun _ => ?_)); (conv => whnf))
      refine CallK.fn hwy ?_
      rw [show twiceW L y.toNat = twU L y from rfl]
      cases met
      · (conv => whnf); repeat ((first | refine tk1 ?_ | refine tk2 ?_ | refine tk3 ?_ | refine tk12 (fun _ => ?_) | refine tk4 ?_ | refine tk5 ?_ | refine tk6 ?_ | refine tk7 ?_ | refine tk8 ?_ | refine tk9 ?_ | refine tk10 (fun _ _ => ?_) | refine tk11 (fun _ => ?_)); (conv => whnf))
        refine IdxA.tc (xs := a.map byteV) (by rw [List.length_map]; omega) (by omega) (by omega) ?_
        (conv => whnf); repeat ((first | refine tk1 ?_ | refine tk2 ?_ | refine tk3 ?_ | refine tk12 (fun _ => ?_) | refine tk4 ?_ | refine tk5 ?_ | refine tk6 ?_ | refine tk7 ?_ | refine tk8 ?_ | refine tk9 ?_ | refine tk10 (fun _ _ => ?_) | refine tk11 (fun _ => ?_)); (conv => whnf))
        refine Ld.ta (xs := a.map byteV) (v := byteV y) (by simpa using hgk) ?_
        (conv => whnf); repeat ((first | refine tk1 ?_ | refine tk2 ?_ | refine tk3 ?_ | refine tk12 (fun _ => ?_) | refine tk4 ?_ | refine tk5 ?_ | refine tk6 ?_ | refine tk7 ?_ | refine tk8 ?_ | refine tk9 ?_ | refine tk10 (fun _ _ => ?_) | refine tk11 (fun _ => ?_)); (conv => whnf))
        refine Cmp.cases (fun q5 => ?_) (fun q5 => ?_)
        · have hmd : decide ((0 : UInt8) ∈ a.take (k + 1)) = true := decide_eq_true (hmn.2 (.inr ((byteV_eq y 0).1 q5)))
          (conv => whnf); repeat ((first | refine tk1 ?_ | refine tk2 ?_ | refine tk3 ?_ | refine tk12 (fun _ => ?_) | refine tk4 ?_ | refine tk5 ?_ | refine tk6 ?_ | refine tk7 ?_ | refine tk8 ?_ | refine tk9 ?_ | refine tk10 (fun _ _ => ?_) | refine tk11 (fun _ => ?_)); (conv => whnf))
          exact ⟨(k + 1, true), ⟨by dsimp only; omega, hmd.symm⟩, rfl, (by repeat' (first | exact List.Sublist.refl _ | exact List.nil_sublist _ | apply List.Sublist.cons_cons | apply List.Sublist.cons)), by dsimp only; omega⟩
        · have hnin : ¬ (0 : UInt8) ∈ a.take (k + 1) := fun h => by
            rcases hmn.1 h with h | h
            · cases h
            · exact q5 (by rw [h])
          have hmd : decide ((0 : UInt8) ∈ a.take (k + 1)) = false := decide_eq_false hnin
          (conv => whnf); repeat ((first | refine tk1 ?_ | refine tk2 ?_ | refine tk3 ?_ | refine tk12 (fun _ => ?_) | refine tk4 ?_ | refine tk5 ?_ | refine tk6 ?_ | refine tk7 ?_ | refine tk8 ?_ | refine tk9 ?_ | refine tk10 (fun _ _ => ?_) | refine tk11 (fun _ => ?_)); (conv => whnf))
          exact ⟨(k + 1, false), ⟨by dsimp only; omega, hmd.symm⟩, rfl, (by repeat' (first | exact List.Sublist.refl _ | exact List.nil_sublist _ | apply List.Sublist.cons_cons | apply List.Sublist.cons)), by dsimp only; omega⟩
      · have hmd : decide ((0 : UInt8) ∈ a.take (k + 1)) = true := decide_eq_true (hmn.2 (.inl rfl))
        (conv => whnf); repeat ((first | refine tk1 ?_ | refine tk2 ?_ | refine tk3 ?_ | refine tk12 (fun _ => ?_) | refine tk4 ?_ | refine tk5 ?_ | refine tk6 ?_ | refine tk7 ?_ | refine tk8 ?_ | refine tk9 ?_ | refine tk10 (fun _ _ => ?_) | refine tk11 (fun _ => ?_)); (conv => whnf))
        exact ⟨(k + 1, true), ⟨by dsimp only; omega, hmd.symm⟩, rfl, (by repeat' (first | exact List.Sublist.refl _ | exact List.nil_sublist _ | apply List.Sublist.cons_cons | apply List.Sublist.cons)), by dsimp only; omega⟩
    · rw [List.take_of_length_le (by omega)] at hmet
      (conv => whnf); repeat ((first | refine tk1 ?_ | refine tk2 ?_ | refine tk3 ?_ | refine tk12 (fun _ => ?_) | refine tk4 ?_ | refine tk5 ?_ | refine tk6 ?_ | refine tk7 ?_ | refine tk8 ?_ | refine tk9 ?_ | refine tk10 (fun _ _ => ?_) | refine tk11 (fun _ => ?_)); (conv => whnf))
      exact fun w' _ => rfl
  · rw [if_neg hm] at hS
    rw [hS]
    (conv => whnf); repeat ((first | refine tk1 ?_ | refine tk2 ?_ | refine tk3 ?_ | refine tk12 (fun _ => ?_) | refine tk4 ?_ | refine tk5 ?_ | refine tk6 ?_ | refine tk7 ?_ | refine tk8 ?_ | refine tk9 ?_ | refine tk10 (fun _ _ => ?_) | refine tk11 (fun _ => ?_)); (conv => whnf))
    refine AppS.t0 (m := l.length) (news := l.map byteV) SrcK.tc (by simp) (by simp; intro a _; rfl) (by decide) (by omega) (by omega) (fun B1 c1 => ?_)
    (conv => whnf); repeat ((first | refine tk1 ?_ | refine tk2 ?_ | refine tk3 ?_ | refine tk12 (fun _ => ?_) | refine tk4 ?_ | refine tk5 ?_ | refine tk6 ?_ | refine tk7 ?_ | refine tk8 ?_ | refine tk9 ?_ | refine tk10 (fun _ _ => ?_) | refine tk11 (fun _ => ?_)); (conv => whnf))
    refine AppS.tc (m := 1) (news := [byteV 0]) SrcK.tc rfl (by simp [Value.oneCell', byteV]) (by decide) (by omega) (by omega) (zs := a.map byteV) (by rw [← ha, List.map_append]; rfl) (fun B2 c2 => ?_)
    rw [← hal]
    (conv => whnf); repeat ((first | refine tk1 ?_ | refine tk2 ?_ | refine tk3 ?_ | refine tk12 (fun _ => ?_) | refine tk4 ?_ | refine tk5 ?_ | refine tk6 ?_ | refine tk7 ?_ | refine tk8 ?_ | refine tk9 ?_ | refine tk10 (fun _ _ => ?_) | refine tk11 (fun _ => ?_)); (conv => whnf))
    have hwC := Weigh_f (gI := gI) value c (by omega)
    rw [if_pos hC2, if_pos hC2, hL] at hwC
    have hrC := twU_range L c
    refine CallK.fn hwC ?_
    rw [show twiceW L (c : UInt8).toNat = twU L c from rfl]
    (conv => whnf); repeat ((first | refine tk1 ?_ | refine tk2 ?_ | refine tk3 ?_ | refine tk12 (fun _ => ?_) | refine tk4 ?_ | refine tk5 ?_ | refine tk6 ?_ | refine tk7 ?_ | refine tk8 ?_ | refine tk9 ?_ | refine tk10 (fun _ _ => ?_) | refine tk11 (fun _ => ?_)); (conv => whnf))
    refine LoopS.lp tys_ok (fun (x : Nat × Bool) u => [u 0, str value, u 2, u 3, u 4, .bool true, .int .u8 (c : UInt8).toNat, .bool true, u 8, .slice B2 a.length c2, .int .i64 (twU L c), .int .i64 0, .bool x.2, .int .i64 (x.1 : Nat), u 14, u 15, u 16, u 17, u 18, u 19, u 20, u 21, u 22, u 23, u 24, u 25, u 26, u 27, u 28, u 29, u 30, u 31, u 32, u 33, u 34, u 35, u 36, u 37, u 38, u 39, u 40, u 41, u 42, u 43, u 44, u 45, u 46, u 47, u 48, u 49, u 50, u 51, u 52, u 53, u 54, u 55, u 56, u 57, u 58, u 59, u 60, u 61, u 62, u 63, u 64, u 65, u 66, u 67, u 68, u 69, u 70, u 71, u 72, u 73, u 74, u 75, u 76, u 77, u 78, u 79, u 80, u 81, u 82, u 83, u 84, u 85, u 86, u 87, u 88, u 89, u 90, u 91, u 92, u 93, u 94, u 95, u 96, u 97, u 98, u 99, u 100, u 101, u 102, u 103, u 104, u 105, u 106, u 107, u 108, u 109, u 110, u 111, u 112, u 113, u 114, u 115, u 116, u 117, u 118, u 119, u 120, u 121, u 122, u 123, u 124])
      (fun _ => [.row (.slice B2 a.length c2) 5 1 a.length (a.map byteV)])
      (fun x => x.1 ≤ a.length ∧ x.2 = decide ((c : UInt8) ∈ a.take x.1)) (fun x => a.length - x.1) (0, false) ⟨Nat.zero_le _, by simp⟩ rfl (by repeat' (first | exact List.Sublist.refl _ | exact List.nil_sublist _ | apply List.Sublist.cons_cons | apply List.Sublist.cons)) ?_
    rintro ⟨k, met⟩ u ⟨hk, hmet⟩
    dsimp only at hk hmet ⊢
    (conv => whnf); repeat ((first | refine tk1 ?_ | refine tk2 ?_ | refine tk3 ?_ | refine tk12 (fun _ => ?_) | refine tk4 ?_ | refine tk5 ?_ | refine tk6 ?_ | refine tk7 ?_ | refine tk8 ?_ | refine tk9 ?_ | refine tk10 (fun _ _ => ?_) | refine tk11 (fun _ => ?_)); (conv => whnf))
    refine Cmp.cases (fun hlt => ?_) (fun hlt => ?_)
    · have hlt' : k < a.length := by omega
      have hgk : (a.map byteV)[k]? = some (byteV a[k]) := by simp [hlt']
      have htk : a.take (k + 1) = a.take k ++ [a[k]] := List.take_succ_eq_append_getElem hlt'
      have hkey := key k hlt'
      have hyle := hle _ (List.getElem_mem hlt')
      have hy3 := h3a k hlt'
      obtain ⟨y, hy⟩ : ∃ y, a[k] = y := ⟨_, rfl⟩
      rw [hy] at hgk htk hkey hyle hy3
      have hwy := Weigh_f (gI := gI) value y (by omega)
      rw [if_pos hyle, if_pos hyle, hL] at hwy
      have hry := twU_range L y
      have hmn : ((c : UInt8) ∈ a.take (k + 1)) ↔ (met = true ∨ y = c) := by
        rw [htk, List.mem_append, hmet]
        simp only [List.mem_singleton, decide_eq_true_eq]
        exact or_congr Iff.rfl eq_comm
      (conv => whnf); repeat ((first | refine tk1 ?_ | refine tk2 ?_ | refine tk3 ?_ | refine tk12 (fun _ => ?_) | refine tk4 ?_ | refine tk5 ?_ | refine tk6 ?_ | refine tk7 ?_ | refine tk8 ?_ | refine tk9 ?_ | refine tk10 (fun _ _ => ?_) | refine tk11 (fun _ => ?_)); (conv => whnf))
      refine IdxA.tc (xs := a.map byteV) (by rw [List.length_map]; omega) (by omega) (by omega) ?_
      (conv => whnf); repeat ((first | refine tk1 ?_ | refine tk2 ?_ | refine tk3 ?_ | refine tk12 (fun _ => ?_) | refine tk4 ?_ | refine tk5 ?_ | refine tk6 ?_ | refine tk7 ?_ | refine tk8 ?_ | refine tk9 ?_ | refine tk10 (fun _ _ => ?_) | refine tk11 (fun _ => ?_)); (conv => whnf))
      refine Ld.ta (xs := a.map byteV) (v := byteV y) (by simpa using hgk) ?_
      (conv => whnf); repeat ((first | refine tk1 ?_ | refine tk2 ?_ | refine tk3 ?_ | refine tk12 (fun _ => ?_) | refine tk4 ?_ | refine tk5 ?_ | refine tk6 ?_ | refine tk7 ?_ | refine tk8 ?_ | refine tk9 ?_ | refine tk10 (fun _ _ => ?_) | refine tk11 (fun _ => ?_)); (conv => whnf))
      refine CallK.fn hwy ?_
      rw [show twiceW L y.toNat = twU L y from rfl]
      cases met
      · (conv => whnf); repeat ((first | refine tk1 ?_ | refine tk2 ?_ | refine tk3 ?_ | refine tk12 (fun _ => ?_) | refine tk4 ?_ | refine tk5 ?_ | refine tk6 ?_ | refine tk7 ?_ | refine tk8 ?_ | refine tk9 ?_ | refine tk10 (fun _ _ => ?_) | refine tk11 (fun _ => ?_)); (conv => whnf))
        refine IdxA.tc (xs := a.map byteV) (by rw [List.length_map]; omega) (by omega) (by omega) ?_
        (conv => whnf); repeat ((first | refine tk1 ?_ | refine tk2 ?_ | refine tk3 ?_ | refine tk12 (fun _ => ?_) | refine tk4 ?_ | refine tk5 ?_ | refine tk6 ?_ | refine tk7 ?_ | refine tk8 ?_ | refine tk9 ?_ | refine tk10 (fun _ _ => ?_) | refine tk11 (fun _ => ?_)); (conv => whnf))
        refine Ld.ta (xs := a.map byteV) (v := byteV y) (by simpa using hgk) ?_
        (conv => whnf); repeat ((first | refine tk1 ?_ | refine tk2 ?_ | refine tk3 ?_ | refine tk12 (fun _ => ?_) | refine tk4 ?_ | refine tk5 ?_ | refine tk6 ?_ | refine tk7 ?_ | refine tk8 ?_ | refine tk9 ?_ | refine tk10 (fun _ _ => ?_) | refine tk11 (fun _ => ?_)); (conv => whnf))
        refine Cmp.cases (fun q5 => ?_) (fun q5 => ?_)
        · have hmd : decide ((c : UInt8) ∈ a.take (k + 1)) = true := decide_eq_true (hmn.2 (.inr ((byteV_eq y c).1 q5)))
          (conv => whnf); repeat ((first | refine tk1 ?_ | refine tk2 ?_ | refine tk3 ?_ | refine tk12 (fun _ => ?_) | refine tk4 ?_ | refine tk5 ?_ | refine tk6 ?_ | refine tk7 ?_ | refine tk8 ?_ | refine tk9 ?_ | refine tk10 (fun _ _ => ?_) | refine tk11 (fun _ => ?_)); (conv => whnf))
          refine Cmp.cases (fun q7 => ?_) (fun q7 => ?_)
          · (conv => whnf); repeat ((first | refine tk1 ?_ | refine tk2 ?_ | refine tk3 ?_ | refine tk12 (fun _ => ?_) | refine tk4 ?_ | refine tk5 ?_ | refine tk6 ?_ | refine tk7 ?_ | refine tk8 ?_ | refine tk9 ?_ | refine tk10 (fun _ _ => ?_) | refine tk11 (fun _ => ?_)); (conv => whnf))
            exact ⟨(k + 1, true), ⟨by dsimp only; omega, hmd.symm⟩, rfl, (by repeat' (first | exact List.Sublist.refl _ | exact List.nil_sublist _ | apply List.Sublist.cons_cons | apply List.Sublist.cons)), by dsimp only; omega⟩
          · (conv => whnf); repeat ((first | refine tk1 ?_ | refine tk2 ?_ | refine tk3 ?_ | refine tk12 (fun _ => ?_) | refine tk4 ?_ | refine tk5 ?_ | refine tk6 ?_ | refine tk7 ?_ | refine tk8 ?_ | refine tk9 ?_ | refine tk10 (fun _ _ => ?_) | refine tk11 (fun _ => ?_)); (conv => whnf))
            exact ⟨(k + 1, true), ⟨by dsimp only; omega, hmd.symm⟩, rfl, (by repeat' (first | exact List.Sublist.refl _ | exact List.nil_sublist _ | apply List.Sublist.cons_cons | apply List.Sublist.cons)), by dsimp only; omega⟩
        · have hnin : ¬ (c : UInt8) ∈ a.take (k + 1) := fun h => by
            rcases hmn.1 h with h | h
            · cases h
            · exact q5 (by rw [h])
          have hmd : decide ((c : UInt8) ∈ a.take (k + 1)) = false := decide_eq_false hnin
          have hlt9 := hkey hnin
          (conv => whnf); repeat ((first | refine tk1 ?_ | refine tk2 ?_ | refine tk3 ?_ | refine tk12 (fun _ => ?_) | refine tk4 ?_ | refine tk5 ?_ | refine tk6 ?_ | refine tk7 ?_ | refine tk8 ?_ | refine tk9 ?_ | refine tk10 (fun _ _ => ?_) | refine tk11 (fun _ => ?_)); (conv => whnf))
          exact ⟨(k + 1, false), ⟨by dsimp only; omega, hmd.symm⟩, rfl, (by repeat' (first | exact List.Sublist.refl _ | exact List.nil_sublist _ | apply List.Sublist.cons_cons | apply List.Sublist.cons)), by dsimp only; omega⟩
      · have hmd : decide ((c : UInt8) ∈ a.take (k + 1)) = true := decide_eq_true (hmn.2 (.inl rfl))
        (conv => whnf); repeat ((first | refine tk1 ?_ | refine tk2 ?_ | refine tk3 ?_ | refine tk12 (fun _ => ?_) | refine tk4 ?_ | refine tk5 ?_ | refine tk6 ?_ | refine tk7 ?_ | refine tk8 ?_ | refine tk9 ?_ | refine tk10 (fun _ _ => ?_) | refine tk11 (fun _ => ?_)); (conv => whnf))
        refine Cmp.cases (fun q7 => ?_) (fun q7 => ?_)
        · (conv => whnf); repeat ((first | refine tk1 ?_ | refine tk2 ?_ | refine tk3 ?_ | refine tk12 (fun _ => ?_) | refine tk4 ?_ | refine tk5 ?_ | refine tk6 ?_ | refine tk7 ?_ | refine tk8 ?_ | refine tk9 ?_ | refine tk10 (fun _ _ => ?_) | refine tk11 (fun _ => ?_)); (conv => whnf))
          exact ⟨(k + 1, true), ⟨by dsimp only; omega, hmd.symm⟩, rfl, (by repeat' (first | exact List.Sublist.refl _ | exact List.nil_sublist _ | apply List.Sublist.cons_cons | apply List.Sublist.cons)), by dsimp only; omega⟩
        · (conv => whnf); repeat ((first | refine tk1 ?_ | refine tk2 ?_ | refine tk3 ?_ | refine tk12 (fun _ => ?_) | refine tk4 ?_ | refine tk5 ?_ | refine tk6 ?_ | refine tk7 ?_ | refine tk8 ?_ | refine tk9 ?_ | refine tk10 (fun _ _ => ?_) | refine tk11 (fun _ => ?_)); (conv => whnf))
          exact ⟨(k + 1, true), ⟨by dsimp only; omega, hmd.symm⟩, rfl, (by repeat' (first | exact List.Sublist.refl _ | exact List.nil_sublist _ | apply List.Sublist.cons_cons | apply List.Sublist.cons)), by dsimp only; omega⟩
    · rw [List.take_of_length_le (by omega)] at hmet
      rw [decide_eq_true hca] at hmet
      rw [hmet]
      (conv => whnf); repeat ((first | refine tk1 ?_ | refine tk2 ?_ | refine tk3 ?_ | refine tk12 (fun _ => ?_) | refine tk4 ?_ | refine tk5 ?_ | refine tk6 ?_ | refine tk7 ?_ | refine tk8 ?_ | refine tk9 ?_ | refine tk10 (fun _ _ => ?_) | refine tk11 (fun _ => ?_)); (conv => whnf))
      exact fun w' _ => rfl
end Go.Proofs.YtggokigjnaiokaaDoor.Vex
namespace Go.Proofs.YtggokigjnaiokaaDoor.acceptBest
open Go.ChangeShapes Go.WideShapes Go.ChangeAt Go.RowKit

set_option maxRecDepth 100000 in
theorem contract (H : Type) (enc : TypeId × Value → H) (W : World) (base : Nat) (args : Array Value) (ds gs : List (DataW H)) (before : List MemPlace)
    (hval : ∀ (j : Nat) t v, Tryd.f9.params[j]? = some t → args[j]? = some v → Value.okWide Tryd.prog W .any base t v)
    (hW : DataW.Whole enc Tryd.prog Tryd.f9.params.toList Rows.acceptBestSpec.vars false W args.toList ds gs before) (_hL : laidMetH Tryd.prog Rows.acceptBestRow.laid W) (hS : W.ShapedOpen Tryd.prog) :
    Calls Tryd.prog 9 args W fun e W' => ∃ v, e = .returned v ∧ Rows.acceptBestSpec.post enc Tryd.prog Tryd.f9 false true false false W args v W' := by
  have hW' := hW
  obtain ⟨p, q, hA, hV, rfl, hfz, hnd⟩ := hW
  rw [Tryd.params9] at hA hval
  obtain ⟨v0, vs0, d0, ds0, p0, q0, hargs, rfl, rfl, h0, r0⟩ := trodAll_cons hA
  obtain ⟨v1, vs1, d1, ds1, p1, q1, rfl, rfl, rfl, h1, r1⟩ := trodAll_cons r0
  obtain ⟨rfl, rfl, rfl⟩ := trodAll_nil r1
  obtain rfl : args = #[v0, v1] := by rw [← Array.toList_inj]; exact hargs
  obtain ⟨rfl, rfl⟩ := trodVars_none hV
  obtain ⟨x0, e0, k0, z0⟩ := Vex.open_cell Vex.opens_bytes (by rw [Tryd.underlying26]) (hval 0 26 v0 rfl rfl) h0
  obtain rfl := (List.cons.inj e0).1
  obtain ⟨x1, e1, k1, z1⟩ := Vex.open_cell Vex.opens_string (by rw [Tryd.underlying9]) (hval 1 9 v1 rfl rfl) h1
  obtain rfl := (List.cons.inj e1).1
  have hG := Vex.gB_of hS
  refine (Vex.done_E (Vex.AcceptBest_v x0.A x0.cp x0.l x1 k0.1) hG ⟨Vex.rd_bytes k0, trivial⟩).mono fun e W' ⟨he, hb⟩ => ?_
  exact ⟨_, he, law_post laidOut rfl hW' (by kernel_rfl) (by kernel_rfl) Tryd.underlying4 (by kernel_rfl) hb⟩

abbrev start : Array Value := #[.slice none 0 0, .string ⟨#[]⟩]
theorem laid_met (os : Os) : laidMet Tryd.prog Rows.acceptBestRow.laid ((laidWorld os start).forCall (fun _ _ => 0) ⟨#[], start, []⟩).memory :=
  laidMet_of_run' 8 (by kernel_rfl) (by kernel_rfl)
theorem reads (os : Os) {H : Type} (enc : TypeId × Value → H) : ∃ places, DataW.whole enc Tryd.prog ((laidWorld os start).forCall (fun _ _ => 0) ⟨#[], start, []⟩).memory Tryd.f9.params.toList Rows.acceptBestSpec.vars false start.toList 8 = some ([.nil, .lit (.string [])], [], places) :=
  ⟨[], by kernel_rfl⟩

set_option maxRecDepth 100000 in
theorem lifted (os : Os) (started : os.Started) (H : Type) (enc : TypeId × Value → H) (F : Stop.Interp) :
    ReturnsInHanded {} Tryd.checked os 9 .any ((OpenSpec.ofChange Rows.acceptBestSpec).preRow enc Tryd.prog Tryd.f9 Rows.acceptBestRow.domain false Rows.acceptBestRow.laid) (((OpenSpec.ofChange Rows.acceptBestSpec).at F).post enc Tryd.prog Tryd.f9 false true false false) := by
  obtain ⟨places, hx⟩ := reads os enc
  refine returnsInHanded_of_row (C := Tryd.checked) (s := OpenSpec.ofChange Rows.acceptBestSpec) own started (by kernel_rfl) Tryd.func9
    (witness_row_atRef (enc := enc) (C := Tryd.checked) false (laidWorld os start) start rfl (by kernel_rfl) (by kernel_rfl) (by kernel_rfl)
      (OpenSpec.preRow_of_cond 8 hx (by kernel_rfl) (fun k hk => by cases hk) (by kernel_rfl) (laid_met os))) ?_
  intro W base args ds gs before hval hW _ _ _ hL hS _
  exact contract H enc W base args ds gs before hval hW hL hS

theorem said : Rows.AcceptBestSaid :=
  OpenClaim.holds_of_cond 9 Tryd.f9 rfl rfl rfl rfl rfl rfl rfl ⟨rfl, rfl, rfl, rfl, rfl⟩ rfl rfl rfl rfl rfl (by kernel_rfl) Tryd.func9 (by kernel_rfl)
    (of_decide_eq_true (by kernel_rfl)) (by unfold Func.isWrapper; first | (rw [if_pos (by decide +kernel)]; kernel_rfl) | (rw [if_neg (by decide +kernel)]; exact ⟨rfl, rfl⟩))
    (fun os started H enc _ F => by rw [OpenClaim.pre_eq_preRow]; exact lifted os started H enc F)

/-- No parameter wants a stand-in; the program's own looks. -/
theorem plain (f : FuncId) (fn : Func) (hf : Tryd.pinned.checked.prog.funcNamed "bellows/bellowslaw23.AcceptBest" = some f) (hfn : Tryd.pinned.checked.prog.funcs[f]? = some fn) :
    true = Tryd.pinned.checked.prog.looks [] ∧ ∀ (j : Nat) t, fn.params[j]? = some t → Tryd.pinned.checked.prog.wantsStandIn t = false := by
  obtain rfl : f = 9 := Option.some.inj ((show Tryd.prog.funcNamed "bellows/bellowslaw23.AcceptBest" = some 9 by kernel_rfl).symm.trans hf) |>.symm
  obtain rfl : fn = Tryd.f9 := (Option.some.inj (Tryd.func9.symm.trans hfn)).symm
  refine ⟨by kernel_rfl, fun j t ht => ?_⟩
  have hall : (Tryd.f9.params.toList.all fun t => !Tryd.prog.wantsStandIn t) = true := by kernel_rfl
  have := List.all_eq_true.1 hall t (Array.mem_toList_iff.2 (Array.mem_of_getElem? ht))
  exact (show Tryd.prog.wantsStandIn t = false by simpa using this)

theorem proved : Rows.AcceptBestCardSaid :=
  Claim7.holds_tied_plain_at .later [] _ _ _ _ said (fun _ h => by cases h) (by kernel_rfl) (fun _ h => by cases h) acceptBest_row_tie rfl ⟨rfl, rfl⟩ (by kernel_rfl) rfl plain (by kernel_rfl)
end Go.Proofs.YtggokigjnaiokaaDoor.acceptBest
