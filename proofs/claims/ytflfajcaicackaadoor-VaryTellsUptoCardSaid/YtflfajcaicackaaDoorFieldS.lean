/- Plain definitions on fields, as byte lists: tokens, values, small letters, lines. No program in sight. -/
import Derived.Test.YtflfajcaicackaaDoorBytes
namespace Go.Proofs.YtflfajcaicackaaDoor

def smallI (x : Int) : Bool := (decide (97 ≤ x) && decide (x ≤ 122)) || (decide (48 ≤ x) && decide (x ≤ 57))
def greatI (x : Int) : Bool := decide (65 ≤ x) && decide (x ≤ 90)
def marksL : List UInt8 := [33, 35, 36, 37, 38, 39, 42, 43, 45, 46, 94, 95, 96, 124, 126]
def markI (x : Int) : Bool := marksL.any fun m => ((m.toNat : Nat) : Int) == x
def tokI (x : Int) : Bool := smallI x || greatI x || markI x
def tokB (x : UInt8) : Bool := tokI x.toNat
def valI (x : Int) : Bool := (decide (32 ≤ x) && x != 127) || x == 9
def valB (x : UInt8) : Bool := valI x.toNat
def tokenOf (l : List UInt8) : Bool := !l.isEmpty && l.all tokB
def valueOf (l : List UInt8) : Bool := (trimB l == l) && l.all valB
def lowI (x : Int) : Int := if greatI x then x + 32 else x
def lowB (x : UInt8) : UInt8 := if greatI x.toNat then x + 32 else x
def smallOf (l : List UInt8) : List UInt8 := l.map lowB
def fieldOK (n v : List UInt8) : Bool := decide (n.length ≤ 4096) && (decide (v.length ≤ 4096) && (tokenOf n && ((smallOf n == n) && valueOf v)))
def fieldE (n v : List UInt8) : Int := if fieldOK n v then 0 else 3
/-- What stands ahead of the first colon, what behind it, and whether there is one. -/
def cutC : List UInt8 → List UInt8 × List UInt8 × Bool
  | [] => ([], [], false)
  | x :: r => if x.toNat = 58 then ([], r, true) else (x :: (cutC r).1, (cutC r).2.1, (cutC r).2.2)
def parseOK (l : List UInt8) : Bool := decide (l.length ≤ 4096) && ((cutC l).2.2 && fieldOK (smallOf (cutC l).1) (trimB (cutC l).2.1))
def parseE (l : List UInt8) : Int := if parseOK l then 0 else 3
def parseN (l : List UInt8) : List UInt8 := if parseOK l then smallOf (cutC l).1 else []
def parseV (l : List UInt8) : List UInt8 := if parseOK l then trimB (cutC l).2.1 else []
def lineOf (n v : List UInt8) : List UInt8 := if fieldOK n v then n ++ [58, 32] ++ v else []

theorem lowB_toNat (x : UInt8) : (((lowB x).toNat : Nat) : Int) = lowI x.toNat := by
  unfold lowB lowI
  split
  · rename_i h
    simp [greatI] at h
    have h1 : x.toNat + 32 < 256 := by omega
    rw [UInt8.toNat_add]
    simp only [UInt8.reduceToNat]
    rw [Nat.mod_eq_of_lt (by omega)]
    omega
  · rfl
theorem smallOf_length (l : List UInt8) : (smallOf l).length = l.length := by simp [smallOf]
end Go.Proofs.YtflfajcaicackaaDoor
