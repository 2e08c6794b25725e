/- HdrW8; HdrW9; HdrW10; HdrW11. -/
import Derived.Test.YthjbmggpleliaaaGreatDoorMhbHdrW7
import Derived.Test.YthjbmggpleliaaaGreatDoorMhbLibX
import Derived.Test.YthjbmggpleliaaaGreatDoorMhb13
import Derived.ScopeJumps
import Derived.WalkMore
section


end
section


end
section


end
section
namespace Hdr
open Go.Rw
theorem and3_lt (f : UInt8) : n8 (f &&& 3) < 4 := by
 unfold n8
 rw [UInt8.toNat_and]
 exact Nat.lt_of_le_of_lt (Nat.and_le_right) (by decide)
end Hdr
namespace Go.Proofs.YthjbmggpleliaaaGreatDoor
open Go.RowKit Go.Rw Hdr
attribute [local go_sem ↓] bdH hvA_0 hvA_1 hvA_2 hvA_3 hvA_4 hvA_5 hvA_6 hvA_7 hvA_8 hvA_9
attribute [local go_sem] buildH buildH0
attribute [local go_sem ↓] ldH stH alH shift_shl8 shift_shr8 shift_shl64 shift_shr64
attribute [local go_sem] rldH rstH ralH setRow_alloc_at setRow_alloc_past setRow_drew
end Go.Proofs.YthjbmggpleliaaaGreatDoor

end
