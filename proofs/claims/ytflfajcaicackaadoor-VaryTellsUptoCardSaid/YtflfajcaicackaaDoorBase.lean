/- General lemmas on byte lists, endings and worlds that all walks of this seat use. -/
import Derived.Test.YtflfajcaicackaaDoorProg
import Derived.Test.YtflfajcaicackaaDoorBytes
import Derived.WalkKit
import Derived.WalkSpells
import Derived.WalkLawsBesides
import Derived.WalkSmall
import Derived.Outline
import Derived.OneCell
import Derived.RangeFuncBox
import Derived.Maps.AppendAt
import Derived.Lib.Hide
import Derived.Lib.Strings
namespace Go.Proofs.YtflfajcaicackaaDoor
open Go.RowKit

/-- The bytes of a string. -/
def L (s : ByteArray) : List UInt8 := s.data.toList

theorem L_length (s : ByteArray) : (L s).length = s.size := by unfold L; simp
theorem L_mk (l : List UInt8) : L ⟨l.toArray⟩ = l := by simp [L]
theorem L_nil : L ⟨#[]⟩ = [] := rfl
theorem toList_L (s : ByteArray) : s.toList = L s := Lib.toList_data s
theorem L_inj {a b : ByteArray} (h : L a = L b) : a = b := by
  unfold L at h
  cases a; cases b
  simp only [ByteArray.mk.injEq]
  exact Array.toList_inj.1 h
theorem L_get (s : ByteArray) (k : Nat) (h : k < s.size) : (L s)[k]'(by rw [L_length]; exact h) = s[k] := rfl
theorem L_get? (s : ByteArray) (k : Nat) (h : k < s.size) : (L s)[k]? = some s[k] := by
  rw [List.getElem?_eq_getElem (by rw [L_length]; exact h), L_get s k h]
theorem L_drop (s : ByteArray) (k : Nat) (h : k < s.size) : (L s).drop k = s[k] :: (L s).drop (k + 1) := by
  rw [List.drop_eq_getElem_cons (by rw [L_length]; exact h), L_get s k h]
theorem L_take (s : ByteArray) (k : Nat) (h : k < s.size) : (L s).take (k + 1) = (L s).take k ++ [s[k]] := by
  rw [List.take_succ_eq_append_getElem (by rw [L_length]; exact h), L_get s k h]

theorem size_lit (a : Array UInt8) : (⟨a⟩ : ByteArray).size = a.size := rfl

theorem ret_int {k : IntKind} {a b : Int} (h : a = b) : Ending.returned (.int k a) = .returned (.int k b) := by rw [h]
theorem ret_bool {a b : Bool} (h : a = b) : Ending.returned (.bool a) = .returned (.bool b) := by rw [h]

theorem grown_of_below {w w' : World} (h : Below w.heap.size w w') (row : Option Nat) : w.grownBy w' row := ⟨h.os, h.tape, h.output, h.size, fun i hi _ => h.block i hi⟩
theorem boxed_below {w w' : World} {b : Nat} {t : TypeId} {v : Value} (h : Boxed w b t v) (hb : Below w.heap.size w w') : Boxed w' b t v := (hb.block b h.lt).trans h
theorem grown_set {w w1 : World} {b : Nat} (h : w.grownBy w1 (some b)) (v : Value) : w.grownBy (w1.setCell ⟨b, 0, none⟩ v) (some b) := h.trans (grownBy_setCell' w1 b v)

/-- What owns a row is a slice value of just that length. -/
theorem row_form {w : World} {base : Nat} {e : TypeId} {size n : Nat} {v : Value} {xs : List Value} (h : w.ownsRow base e size v n xs) : ∃ A cap, v = .slice A n cap := by
  rcases h.2 with ⟨rfl, rfl⟩ | ⟨g, cap, _, rfl, _⟩
  · exact ⟨none, 0, rfl⟩
  · exact ⟨_, cap, rfl⟩

end Go.Proofs.YtflfajcaicackaaDoor
