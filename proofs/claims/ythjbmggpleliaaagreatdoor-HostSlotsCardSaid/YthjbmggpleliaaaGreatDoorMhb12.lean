/- HdrM; HdrW1. -/
import Derived.Test.YthjbmggpleliaaaGreatDoorMhb1
import Derived.Test.YthjbmggpleliaaaGreatDoorMhb3
import Derived.Test.YthjbmggpleliaaaGreatDoorMhb7
import Derived.RegionTactic
import Derived.BigRegion
section
namespace Hdr
open Go.Rw
def cutD (d : Nat) : Nat := if d ≤ 128 then 1 else if d ≤ 32768 then 2 else if d ≤ 8388608 then 3 else 4
def cut (num acked : Nat) (any : Bool) : Nat :=
 if any then (if num < acked then 1 else cutD (num - acked)) else cutD (if num + 1 < 18446744073709551616 then num + 1 else num)
def wide (n : Int) : Nat := if n = 1 then 256 else if n = 2 then 65536 else if n = 3 then 16777216 else 4294967296
def be (n many : Nat) : List UInt8 := (List.range many).map fun k => UInt8.ofNat (n / 256 ^ (many - 1 - k))
theorem be_length (n many : Nat) : (be n many).length = many := by simp [be]
def num (b : List UInt8) : Nat := b.foldl (fun n c => n * 256 + n8 c) 0
end Hdr

end
section
namespace Go.Proofs.YthjbmggpleliaaaGreatDoor
open Go.RowKit Go.Rw Hdr
attribute [local go_sem ↓] shift_shl8 shift_shr8 shift_shl64 shift_shr64
theorem sh7 : Op.shift .shl .u64 1 .i64 7 = pure (.int .u64 128) := by kernel_rfl
theorem sh15 : Op.shift .shl .u64 1 .i64 15 = pure (.int .u64 32768) := by kernel_rfl
theorem sh23 : Op.shift .shl .u64 1 .i64 23 = pure (.int .u64 8388608) := by kernel_rfl
theorem sh8 : Op.shift .shl .u64 1 .i64 8 = pure (.int .u64 256) := by kernel_rfl
theorem sh16 : Op.shift .shl .u64 1 .i64 16 = pure (.int .u64 65536) := by kernel_rfl
theorem sh24 : Op.shift .shl .u64 1 .i64 24 = pure (.int .u64 16777216) := by kernel_rfl
theorem sh32 : Op.shift .shl .u64 1 .i64 32 = pure (.int .u64 4294967296) := by kernel_rfl
attribute [local go_sem ↓] sh7 sh15 sh23 sh8 sh16 sh24 sh32
theorem andn_aux (a : BitVec 64) (k : Nat) : a &&& ~~~(BitVec.allOnes 64 >>> (64 - k)) = (a >>> k) <<< k := by
 apply BitVec.eq_of_getLsbD_eq
 intro i hi
 simp only [BitVec.getLsbD_and, BitVec.getLsbD_not, BitVec.getLsbD_ushiftRight, BitVec.getLsbD_shiftLeft, BitVec.getLsbD_allOnes, hi, decide_true, Bool.true_and]
 by_cases h : i < k
 ·have : 64 - k + i < 64 := by omega
  simp [h, this]
 ·have : ¬ (64 - k + i < 64) := by omega
  simp [h, this, Nat.add_sub_cancel' (Nat.le_of_not_lt h)]
theorem u64_ofInt_toNat (x : Int) : (UInt64.ofInt x).toNat = (x % 18446744073709551616).toNat := by
 simp [UInt64.ofInt]
 omega
theorem and_255 (x : Int) : bits .and .u64 x 255 = x % 256 := by
 rw [bits_and64]
 have e : n64 (UInt64.ofInt x &&& UInt64.ofInt 255) = (x % 18446744073709551616).toNat &&& (2 ^ 8 - 1) := by
  show (UInt64.ofInt x &&& UInt64.ofInt 255).toNat = _
  rw [UInt64.toNat_and, u64_ofInt_toNat]; rfl
 rw [e, Nat.and_two_pow_sub_one_eq_mod]
 omega
theorem andn_255 (x : Int) : bits .andNot .u64 x 255 = x % 18446744073709551616 / 256 * 256 := by
 have e : (BitVec.ofInt 64 x &&& ~~~ BitVec.ofInt 64 255) = ((BitVec.ofInt 64 x) >>> 8) <<< 8 := andn_aux (BitVec.ofInt 64 x) 8
 have e2 : ((BitVec.ofInt 64 x &&& ~~~ BitVec.ofInt 64 255).toNat : Int) = x % 18446744073709551616 / 256 * 256 := by
  rw [e, BitVec.toNat_shiftLeft, BitVec.toNat_ushiftRight, BitVec.toNat_ofInt, Nat.shiftRight_eq_div_pow, Nat.shiftLeft_eq]
  omega
 show IntKind.u64.wrap ((BitVec.ofInt 64 x &&& ~~~ BitVec.ofInt 64 255).toNat : Int) = _
 rw [e2]
 simp only [IntKind.wrap, IntKind.signed, IntKind.bits]
 simp
 omega
theorem or_255 (x y : Int) : bits .or .u64 (x % 18446744073709551616 / 256 * 256) (y % 256) = x % 18446744073709551616 / 256 * 256 + y % 256 := by
 rw [bits_or64]
 have e : n64 (UInt64.ofInt (x % 18446744073709551616 / 256 * 256) ||| UInt64.ofInt (y % 256)) = ((x % 18446744073709551616).toNat / 2 ^ 8) <<< 8 ||| (y % 256).toNat := by
  show (UInt64.ofInt _ ||| UInt64.ofInt _).toNat = _
  rw [UInt64.toNat_or, u64_ofInt_toNat, u64_ofInt_toNat, Nat.shiftLeft_eq]
  congr 1 <;> omega
 rw [e, ← Nat.shiftLeft_add_eq_or_of_lt (by omega), Nat.shiftLeft_eq]
 omega
theorem and_65535 (x : Int) : bits .and .u64 x 65535 = x % 65536 := by
 rw [bits_and64]
 have e : n64 (UInt64.ofInt x &&& UInt64.ofInt 65535) = (x % 18446744073709551616).toNat &&& (2 ^ 16 - 1) := by
  show (UInt64.ofInt x &&& UInt64.ofInt 65535).toNat = _
  rw [UInt64.toNat_and, u64_ofInt_toNat]; rfl
 rw [e, Nat.and_two_pow_sub_one_eq_mod]
 omega
theorem andn_65535 (x : Int) : bits .andNot .u64 x 65535 = x % 18446744073709551616 / 65536 * 65536 := by
 have e : (BitVec.ofInt 64 x &&& ~~~ BitVec.ofInt 64 65535) = ((BitVec.ofInt 64 x) >>> 16) <<< 16 := andn_aux (BitVec.ofInt 64 x) 16
 have e2 : ((BitVec.ofInt 64 x &&& ~~~ BitVec.ofInt 64 65535).toNat : Int) = x % 18446744073709551616 / 65536 * 65536 := by
  rw [e, BitVec.toNat_shiftLeft, BitVec.toNat_ushiftRight, BitVec.toNat_ofInt, Nat.shiftRight_eq_div_pow, Nat.shiftLeft_eq]
  omega
 show IntKind.u64.wrap ((BitVec.ofInt 64 x &&& ~~~ BitVec.ofInt 64 65535).toNat : Int) = _
 rw [e2]
 simp only [IntKind.wrap, IntKind.signed, IntKind.bits]
 simp
 omega
theorem or_65535 (x y : Int) : bits .or .u64 (x % 18446744073709551616 / 65536 * 65536) (y % 65536) = x % 18446744073709551616 / 65536 * 65536 + y % 65536 := by
 rw [bits_or64]
 have e : n64 (UInt64.ofInt (x % 18446744073709551616 / 65536 * 65536) ||| UInt64.ofInt (y % 65536)) = ((x % 18446744073709551616).toNat / 2 ^ 16) <<< 16 ||| (y % 65536).toNat := by
  show (UInt64.ofInt _ ||| UInt64.ofInt _).toNat = _
  rw [UInt64.toNat_or, u64_ofInt_toNat, u64_ofInt_toNat, Nat.shiftLeft_eq]
  congr 1 <;> omega
 rw [e, ← Nat.shiftLeft_add_eq_or_of_lt (by omega), Nat.shiftLeft_eq]
 omega
theorem and_16777215 (x : Int) : bits .and .u64 x 16777215 = x % 16777216 := by
 rw [bits_and64]
 have e : n64 (UInt64.ofInt x &&& UInt64.ofInt 16777215) = (x % 18446744073709551616).toNat &&& (2 ^ 24 - 1) := by
  show (UInt64.ofInt x &&& UInt64.ofInt 16777215).toNat = _
  rw [UInt64.toNat_and, u64_ofInt_toNat]; rfl
 rw [e, Nat.and_two_pow_sub_one_eq_mod]
 omega
theorem andn_16777215 (x : Int) : bits .andNot .u64 x 16777215 = x % 18446744073709551616 / 16777216 * 16777216 := by
 have e : (BitVec.ofInt 64 x &&& ~~~ BitVec.ofInt 64 16777215) = ((BitVec.ofInt 64 x) >>> 24) <<< 24 := andn_aux (BitVec.ofInt 64 x) 24
 have e2 : ((BitVec.ofInt 64 x &&& ~~~ BitVec.ofInt 64 16777215).toNat : Int) = x % 18446744073709551616 / 16777216 * 16777216 := by
  rw [e, BitVec.toNat_shiftLeft, BitVec.toNat_ushiftRight, BitVec.toNat_ofInt, Nat.shiftRight_eq_div_pow, Nat.shiftLeft_eq]
  omega
 show IntKind.u64.wrap ((BitVec.ofInt 64 x &&& ~~~ BitVec.ofInt 64 16777215).toNat : Int) = _
 rw [e2]
 simp only [IntKind.wrap, IntKind.signed, IntKind.bits]
 simp
 omega
theorem or_16777215 (x y : Int) : bits .or .u64 (x % 18446744073709551616 / 16777216 * 16777216) (y % 16777216) = x % 18446744073709551616 / 16777216 * 16777216 + y % 16777216 := by
 rw [bits_or64]
 have e : n64 (UInt64.ofInt (x % 18446744073709551616 / 16777216 * 16777216) ||| UInt64.ofInt (y % 16777216)) = ((x % 18446744073709551616).toNat / 2 ^ 24) <<< 24 ||| (y % 16777216).toNat := by
  show (UInt64.ofInt _ ||| UInt64.ofInt _).toNat = _
  rw [UInt64.toNat_or, u64_ofInt_toNat, u64_ofInt_toNat, Nat.shiftLeft_eq]
  congr 1 <;> omega
 rw [e, ← Nat.shiftLeft_add_eq_or_of_lt (by omega), Nat.shiftLeft_eq]
 omega
theorem and_4294967295 (x : Int) : bits .and .u64 x 4294967295 = x % 4294967296 := by
 rw [bits_and64]
 have e : n64 (UInt64.ofInt x &&& UInt64.ofInt 4294967295) = (x % 18446744073709551616).toNat &&& (2 ^ 32 - 1) := by
  show (UInt64.ofInt x &&& UInt64.ofInt 4294967295).toNat = _
  rw [UInt64.toNat_and, u64_ofInt_toNat]; rfl
 rw [e, Nat.and_two_pow_sub_one_eq_mod]
 omega
theorem andn_4294967295 (x : Int) : bits .andNot .u64 x 4294967295 = x % 18446744073709551616 / 4294967296 * 4294967296 := by
 have e : (BitVec.ofInt 64 x &&& ~~~ BitVec.ofInt 64 4294967295) = ((BitVec.ofInt 64 x) >>> 32) <<< 32 := andn_aux (BitVec.ofInt 64 x) 32
 have e2 : ((BitVec.ofInt 64 x &&& ~~~ BitVec.ofInt 64 4294967295).toNat : Int) = x % 18446744073709551616 / 4294967296 * 4294967296 := by
  rw [e, BitVec.toNat_shiftLeft, BitVec.toNat_ushiftRight, BitVec.toNat_ofInt, Nat.shiftRight_eq_div_pow, Nat.shiftLeft_eq]
  omega
 show IntKind.u64.wrap ((BitVec.ofInt 64 x &&& ~~~ BitVec.ofInt 64 4294967295).toNat : Int) = _
 rw [e2]
 simp only [IntKind.wrap, IntKind.signed, IntKind.bits]
 simp
 omega
theorem or_4294967295 (x y : Int) : bits .or .u64 (x % 18446744073709551616 / 4294967296 * 4294967296) (y % 4294967296) = x % 18446744073709551616 / 4294967296 * 4294967296 + y % 4294967296 := by
 rw [bits_or64]
 have e : n64 (UInt64.ofInt (x % 18446744073709551616 / 4294967296 * 4294967296) ||| UInt64.ofInt (y % 4294967296)) = ((x % 18446744073709551616).toNat / 2 ^ 32) <<< 32 ||| (y % 4294967296).toNat := by
  show (UInt64.ofInt _ ||| UInt64.ofInt _).toNat = _
  rw [UInt64.toNat_or, u64_ofInt_toNat, u64_ofInt_toNat, Nat.shiftLeft_eq]
  congr 1 <;> omega
 rw [e, ← Nat.shiftLeft_add_eq_or_of_lt (by omega), Nat.shiftLeft_eq]
 omega
attribute [local go_sem high] and_255 and_65535 and_16777215 and_4294967295 andn_255 andn_65535 andn_16777215 andn_4294967295 or_255 or_65535 or_16777215 or_4294967295
end Go.Proofs.YthjbmggpleliaaaGreatDoor

end
