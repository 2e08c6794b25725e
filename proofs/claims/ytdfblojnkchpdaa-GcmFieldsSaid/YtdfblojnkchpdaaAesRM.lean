/- The document's own functions on bytes, as its package computes them, and that they are the program's. No program in sight. -/
import Derived.Test.YtdfblojnkchpdaaAesP
namespace Aes
open Go.Rw
def tms : Nat → UInt8 → UInt8 → UInt8 → UInt8
  | 0, _, _, c => c
  | f + 1, a, b, c => if b == 0 then c else tms f (double a) (shr8 b 1) (if b &&& 1 == 1 then c ^^^ a else c)
def times (a b : UInt8) : UInt8 := tms 8 a b 0
def invAt (b : UInt8) : Nat → UInt8
  | 0 => 0
  | k + 1 => if times b (UInt8.ofNat k + 1) == 1 then UInt8.ofNat k + 1 else invAt b k
def affAt (v : UInt8) : Nat → UInt8
  | 0 => 99
  | i + 1 => affAt v i ^^^ (shl8 v i ||| shr8 v (8 - i))
def refBox (b : UInt8) : UInt8 := affAt (if b == 0 then 0 else invAt b 255) 5
theorem refBox_eq (b : UInt8) : refBox b = box b := all8 (p := fun b => refBox b = box b) (by decide +kernel) b
end Aes
