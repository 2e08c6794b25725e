/- The walks of a number that tells its own length, and of package header's reader with it: a name, a number. -/
import Derived.Test.YthjbmggpleliaaaGreatDoorMhb14
import Derived.Test.YthjbmggpleliaaaGreatDoorMhb16
import Derived.Test.YthjbmggpleliaaaGreatDoorMhb4
import Derived.RegionTactic
import Derived.BigRegion
namespace Go.Proofs.YthjbmggpleliaaaGreatDoor
open Go.RowKit Go.Rw Hdr
attribute [local go_sem ↓] shift_shl8 shift_shr8 shift_shl64 shift_shr64
theorem shl1_0 : Op.shift .shl .i64 1 .u8 ((0 : Nat) : Int) = pure (.int .i64 1) := by kernel_rfl
theorem shl1_1 : Op.shift .shl .i64 1 .u8 ((1 : Nat) : Int) = pure (.int .i64 2) := by kernel_rfl
theorem shl1_2 : Op.shift .shl .i64 1 .u8 ((2 : Nat) : Int) = pure (.int .i64 4) := by kernel_rfl
theorem shl1_3 : Op.shift .shl .i64 1 .u8 ((3 : Nat) : Int) = pure (.int .i64 8) := by kernel_rfl
theorem shl1_many (c : UInt8) : Op.shift .shl .i64 1 .u8 (n8 (shr8 c 6) : Nat) = pure (.int .i64 (vmany c : Nat)) := by
 have h : n8 (shr8 c 6) = n8 c / 64 := n8_shr8 c 6
 have hc := n8_lt c
 have h3 : n8 c / 64 < 4 := by omega
 unfold vmany
 rw [h]
 generalize n8 c / 64 = k at h3
 match k, h3 with
 | 0, _ => exact shl1_0
 | 1, _ => exact shl1_1
 | 2, _ => exact shl1_2
 | 3, _ => exact shl1_3
attribute [local go_sem ↓] shl1_many
end Go.Proofs.YthjbmggpleliaaaGreatDoor
