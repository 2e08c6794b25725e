/- HdrW6; HdrL1. -/
import Derived.Test.YthjbmggpleliaaaGreatDoorMhb13
import Derived.Test.YthjbmggpleliaaaGreatDoorMhb12
import Derived.Test.YthjbmggpleliaaaGreatDoorMhb14
section


end
section
namespace Go.Proofs.YthjbmggpleliaaaGreatDoor
open Go.RowKit Go.Rw Hdr Aes
theorem buildAw (ao : Option Addr) (m cap : Nat) (w : World) : (buildP 150 #[(3, .slice ao m cap), (8, .int .u64 5), (9, .int .i64 2), (6, .bool true)]).run Tryz.prog w = .ok (.agg (hvA false 0 0 (.slice ao m cap) (.slice none 0 0) (.slice none 0 0) true false 5 2)) w := Go.run_build w _ _ _ (by kernel_rfl)
attribute [local go_sem ↓] ldH stH alH bdH hvA_0 hvA_1 hvA_2 hvA_3 hvA_4 hvA_5 hvA_6 hvA_7 hvA_8 hvA_9
attribute [local go_sem] rldH rstH ralH setRow_alloc_at setRow_alloc_past setRow_drew buildAw buildH0
end Go.Proofs.YthjbmggpleliaaaGreatDoor

end
