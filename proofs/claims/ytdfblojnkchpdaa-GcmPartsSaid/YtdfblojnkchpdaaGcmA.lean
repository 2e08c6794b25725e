/- What is one: two seals, reckoned. No program in sight. -/
import Derived.Test.YtdfblojnkchpdaaGcmT
namespace Gcm
open Go.Rw Aes
def k0 : List UInt8 := [0, 0, 0, 0, 0, 0, 0, 0, 0, 0, 0, 0, 0, 0, 0, 0]
def n0 : List UInt8 := [0, 0, 0, 0, 0, 0, 0, 0, 0, 0, 0, 0]
def k1 : List UInt8 := [1, 0, 0, 0, 0, 0, 0, 0, 0, 0, 0, 0, 0, 0, 0, 0]
def n2 : List UInt8 := [2, 0, 0, 0, 0, 0, 0, 0, 0, 0, 0, 0]
def abc : List UInt8 := [97, 98, 99]
theorem aw_0 : nth (sealed k0 n0 [] []) 0 = 88 := by decide +kernel
theorem aw_1 : nth (sealed k0 n0 [] []) 1 = 226 := by decide +kernel
theorem aw_15 : nth (sealed k0 n0 [] []) 15 = 90 := by decide +kernel
theorem aw_open : opened k0 n0 (sealed k1 n2 abc []) [] = (7, []) := by decide +kernel
end Gcm
