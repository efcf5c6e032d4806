/- What of the program's variables the walks lean on; the library's functions, restated over byte lists. -/
import Derived.Test.YtgemjpoggbdfaaaDoorVexT
import Derived.Test.YtgemjpoggbdfaaaDoorShelf
import Derived.Test.YtgemjpoggbdfaaaDoorLib
namespace Go.Proofs.YtgemjpoggbdfaaaDoor.Vex
open Go Go.RowKit

def gI : GI where
  n := 0 + 1
  G w := 0 + 1 ≤ w.heap.size ∧ ∃ m, w.cell? ⟨0, 0, none⟩ = some (.int .i64 m)
  keep w w' h := fun ⟨h1, m, h2⟩ => by
    have h3 : w'.cell? ⟨0, 0, none⟩ = some (.int .i64 m) := (World.cell?_of_block (h 0 (by omega))).trans h2
    exact ⟨by have := World.block_lt_of_cell? _ _ h3; simp at this; omega, m, h3⟩
  size w h := h.1
abbrev F := Fn Tryd.prog gI
abbrev qs (n : Nat) : List (Nat × Bool) := (List.range n).map fun i => (i, true)
theorem b2b {w w' : World} (h : Below w.heap.size w w') : R w w' := h

theorem Trim_f (l : List UInt8) (hs : l.length ≤ 9223372036854775807) : F 39 [str l, str [32, 9]] (str (trimB l)) :=
  ⟨callable Tryd.func39 rfl (by kernel_rfl), fun w _ => (Trim_c ⟨⟨l⟩⟩ w hs).mono fun e w' ⟨r, he, _, hr, hb⟩ => ⟨by rw [he, str_L]; exact congrArg (fun x => Ending.returned (str x)) hr.out, hb⟩⟩
theorem TrimLeft_f (l : List UInt8) : F 81 [str l, str [32, 9]] (str (trimLB l)) :=
  ⟨callable Tryd.func81 rfl (by kernel_rfl), fun w _ => (TrimLeft_c ⟨⟨l⟩⟩ w).mono fun e w' ⟨r, he, _, hr, hb⟩ => ⟨by rw [he, str_L]; exact congrArg (fun x => Ending.returned (str x)) hr.out, hb⟩⟩
theorem IndexByte_f (l : List UInt8) (x : Int) : F 56 [str l, .int .u8 x] (.int .i64 (Lib.indexByte l x.toNat.toUInt8)) :=
  ⟨callable Tryd.func56 rfl (by kernel_rfl), fun w _ => (Tryd.strings_IndexByte ⟨⟨l⟩⟩ x w).mono fun _ _ ⟨he, hw⟩ => ⟨he, by rw [hw]; exact R.refl _⟩⟩
theorem Index_f (l p : List UInt8) (hs : l.length < 4294967281) : F 87 [str l, str p] (.int .i64 (Lib.index l p)) :=
  ⟨callable Tryd.func87 rfl (by kernel_rfl), fun w hG => by
    obtain ⟨_, m, hm⟩ := hG
    exact (Tryd.strings_Index ⟨⟨l⟩⟩ ⟨⟨p⟩⟩ m w hs hm).mono fun _ _ ⟨he, hw⟩ => ⟨he, by rw [hw]; exact R.refl _⟩⟩
theorem Cut_f (l p : List UInt8) (hs : l.length < 4294967281) : F 50 [str l, str p] (.tuple #[str (Lib.cut l p).1, str (Lib.cut l p).2.1, .bool (Lib.cut l p).2.2]) :=
  ⟨callable Tryd.func50 rfl (by kernel_rfl), fun w hG => by
    obtain ⟨_, m, hm⟩ := hG
    exact (Tryd.strings_Cut ⟨⟨l⟩⟩ ⟨⟨p⟩⟩ m w hs hm).mono fun _ _ ⟨he, n, hw⟩ => ⟨he, by rw [hw]; exact ⟨rfl, rfl, rfl, Nat.le_refl _, fun _ _ => rfl⟩⟩⟩
end Go.Proofs.YtgemjpoggbdfaaaDoor.Vex
