/- What of the program's variables the walks lean on; the library's functions, restated over byte lists. -/
import Derived.Test.YtflfajcaicackaaDoorVexT
import Derived.Test.YtflfajcaicackaaDoorShelf
import Derived.Test.YtflfajcaicackaaDoorLib
namespace Go.Proofs.YtflfajcaicackaaDoor.Vex
open Go Go.RowKit

/-- What a walk may know of the program's variables. -/
class HasMax (g : GI) : Prop where
  ok : ∀ w, g.G w → ∃ m, w.cell? ⟨0, 0, none⟩ = some (.int .i64 m)
class HasErr (g : GI) : Prop where
  ok : ∀ w, g.G w → ∃ ev, w.cell? ⟨4, 0, none⟩ = some ev ∧ (ev = .nilIface ∨ ∃ te pe, ev = .iface te pe)
class HasPow (g : GI) : Prop where
  ok : ∀ w, g.G w → Lib.TabIs Tryd.prog w "internal/strconv.uint64pow10" .u64 Lib.pow10Tab
def gB : GI where
  n := 0 + 1
  G w := ∃ m, w.cell? ⟨0, 0, none⟩ = some (.int .i64 m)
  keep w w' h := fun ⟨m, h2⟩ => ⟨m, (World.cell?_of_block (h 0 (by omega))).trans h2⟩
  size w := fun ⟨_, h⟩ => World.block_lt_of_cell? _ _ h
instance : HasMax gB := ⟨fun _ h => h⟩
def gE : GI where
  n := max (0 + 1) (4 + 1)
  G w := gB.G w ∧ ∃ ev, w.cell? ⟨4, 0, none⟩ = some ev ∧ (ev = .nilIface ∨ ∃ te pe, ev = .iface te pe)
  keep w w' h := fun ⟨h1, ev, h2, h3⟩ => ⟨gB.keep w w' (fun k hk => h k (Nat.lt_of_lt_of_le hk (Nat.le_max_left _ _))) h1, ev, (World.cell?_of_block (h 4 (by omega))).trans h2, h3⟩
  size w := fun ⟨h1, ev, h2, _⟩ => Nat.max_le.2 ⟨gB.size w h1, World.block_lt_of_cell? _ _ h2⟩
instance : HasMax gE := ⟨fun _ h => h.1⟩
instance : HasErr gE := ⟨fun _ h => h.2⟩
theorem pow_name : Tryd.prog.globalNamed "internal/strconv.uint64pow10" = some 1 := by kernel_rfl
def gP : GI where
  n := max gE.n (1 + 1)
  G w := gE.G w ∧ Lib.TabIs Tryd.prog w "internal/strconv.uint64pow10" .u64 Lib.pow10Tab
  keep w w' h := fun ⟨h1, h2⟩ => ⟨gE.keep w w' (fun k hk => h k (Nat.lt_of_lt_of_le hk (Nat.le_max_left _ _))) h1, by
    unfold Lib.TabIs World.var? at *
    rw [pow_name] at *
    simp only [Option.bind_some] at *
    rw [h 1 (by omega)]
    exact h2⟩
  size w := fun ⟨h1, h2⟩ => Nat.max_le.2 ⟨gE.size w h1, by
    have := h2.cell pow_name 0 (by decide)
    exact World.block_lt_of_cell? _ _ this⟩
instance : HasMax gP := ⟨fun _ h => h.1.1⟩
instance : HasErr gP := ⟨fun _ h => h.1.2⟩
instance : HasPow gP := ⟨fun _ h => h.2⟩
set_option linter.unusedSectionVars false
variable {gI : GI} [HasMax gI]
abbrev qs (n : Nat) : List (Nat × Bool) := (List.range n).map fun i => (i, true)
theorem b2b {w w' : World} (h : Below w.heap.size w w') : R w w' := h

theorem Trim_f (l : List UInt8) (hs : l.length ≤ 9223372036854775807) : Fn Tryd.prog gI 78 [str l, str [32, 9]] (str (trimB l)) :=
  ⟨callable Tryd.func78 rfl (by kernel_rfl), fun w _ => (Trim_c ⟨⟨l⟩⟩ w hs).mono fun e w' ⟨r, he, _, hr, hb⟩ => ⟨by rw [he, str_L]; exact congrArg (fun x => Ending.returned (str x)) hr.out, hb⟩⟩
theorem IndexByte_f (l : List UInt8) (x : Int) : Fn Tryd.prog gI 55 [str l, .int .u8 x] (.int .i64 (Lib.indexByte l x.toNat.toUInt8)) :=
  ⟨callable Tryd.func55 rfl (by kernel_rfl), fun w _ => (Tryd.strings_IndexByte ⟨⟨l⟩⟩ x w).mono fun _ _ ⟨he, hw⟩ => ⟨he, by rw [hw]; exact R.refl _⟩⟩
theorem Index_f (l p : List UInt8) (hs : l.length < 4294967281) : Fn Tryd.prog gI 108 [str l, str p] (.int .i64 (Lib.index l p)) :=
  ⟨callable Tryd.func108 rfl (by kernel_rfl), fun w hG => by
    obtain ⟨m, hm⟩ := HasMax.ok w hG
    exact (Tryd.strings_Index ⟨⟨l⟩⟩ ⟨⟨p⟩⟩ m w hs hm).mono fun _ _ ⟨he, hw⟩ => ⟨he, by rw [hw]; exact R.refl _⟩⟩
theorem Cut_f (l p : List UInt8) (hs : l.length < 4294967281) : Fn Tryd.prog gI 64 [str l, str p] (.tuple #[str (Lib.cut l p).1, str (Lib.cut l p).2.1, .bool (Lib.cut l p).2.2]) :=
  ⟨callable Tryd.func64 rfl (by kernel_rfl), fun w hG => by
    obtain ⟨m, hm⟩ := HasMax.ok w hG
    exact (Tryd.strings_Cut ⟨⟨l⟩⟩ ⟨⟨p⟩⟩ m w hs hm).mono fun _ _ ⟨he, n, hw⟩ => ⟨he, by rw [hw]; exact ⟨rfl, rfl, rfl, Nat.le_refl _, fun _ _ => rfl⟩⟩⟩
end Go.Proofs.YtflfajcaicackaaDoor.Vex
