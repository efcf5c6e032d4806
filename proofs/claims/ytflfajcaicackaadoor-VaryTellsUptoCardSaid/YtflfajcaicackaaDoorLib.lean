/- The library's functions, restated over byte lists: what each call computes, and that nothing that lay before has turned. -/
import Derived.Test.YtflfajcaicackaaDoorBase
import Derived.Test.YtflfajcaicackaaDoorShelf
import Derived.Shelf.Strings.SlTrimAscii
namespace Go.Proofs.YtflfajcaicackaaDoor
open Go.RowKit

theorem dropWhile_le (p : UInt8 → Bool) (l : List UInt8) : (l.dropWhile p).length ≤ l.length := (List.dropWhile_sublist p).length_le
theorem trimLS_le (l c : List UInt8) : (Lib.trimLeftS l c).length ≤ l.length := dropWhile_le _ _
theorem trimRS_le (l c : List UInt8) : (Lib.trimRightS l c).length ≤ l.length := by
  unfold Lib.trimRightS
  have := dropWhile_le (c.contains ·) l.reverse
  simpa using this
theorem trimS_le (l c : List UInt8) : (Lib.trimS l c).length ≤ l.length := Nat.le_trans (trimLS_le _ _) (trimRS_le _ _)

theorem Trim_c (s : ByteArray) (w : World) (hs : s.size ≤ 9223372036854775807) :
    Calls Tryd.prog 78 #[.string s, .string ⟨#[32, 9]⟩] w fun e w' => ∃ r, e = .returned (.string r) ∧ r.size ≤ s.size ∧ Hid (L r = trimB (L s)) ∧ Below w.heap.size w w' :=
  (Any.strings_Trim_laid Tryd.lays160 (by kernel_rfl) s ⟨#[32, 9]⟩ w hs (by decide) (ascii_of_all (by decide))).mono fun e w' ⟨he, hb⟩ =>
    ⟨_, he, by rw [← L_length, L_mk, ← L_length]; exact trimS_le _ _, L_mk _, hb⟩
theorem CutPrefix_c (s p : ByteArray) (w : World) :
    Calls Tryd.prog 87 #[.string s, .string p] w fun e w' => ∃ r, e = .returned (.tuple #[.string r, .bool (Lib.hasPrefix (L s) (L p))]) ∧ r.size ≤ s.size ∧ Hid (L r = Lib.trimPrefix (L s) (L p)) ∧ w = w' :=
  (Tryd.strings_CutPrefix s p w).mono fun e w' ⟨he, hb⟩ =>
    ⟨_, he, by rw [← L_length, L_mk, ← L_length]; unfold Lib.trimPrefix L; split <;> simp, L_mk _, hb.symm⟩

end Go.Proofs.YtflfajcaicackaaDoor
