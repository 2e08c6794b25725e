/- HdrW6; HdrL1. -/
import Derived.Test.YtjlpppnpdgenfaaMvb5
import Derived.Test.YtjlpppnpdgenfaaMvbHdrW1
import Derived.Test.YtjlpppnpdgenfaaMvbHdrW4
import Derived.Test.YtjlpppnpdgenfaaMvbHdrW5
section
namespace Go.Proofs.Ytjlpppnpdgenfaa
open Go.RowKit Go.Rw Hdr
attribute [local go_sem ↓] ldH stH alH bdR bdH hvA_0 hvA_1 hvA_2 hvA_3 hvA_4 hvA_5 hvA_6 hvA_7 hvA_8 hvA_9
attribute [local go_sem] rldH rstH ralH setRow_alloc_at setRow_alloc_past setRow_drew
end Go.Proofs.Ytjlpppnpdgenfaa

end
section
namespace Go.Proofs.Ytjlpppnpdgenfaa
open Go.RowKit Go.Rw Hdr Aes
theorem buildAw (ao : Option Addr) (m cap : Nat) (w : World) : (buildP 30 #[(3, .slice ao m cap), (8, .int .u64 5), (9, .int .i64 2), (6, .bool true)]).run Try.prog w = .ok (.agg (hvA false 0 0 (.slice ao m cap) (.slice none 0 0) (.slice none 0 0) true false 5 2)) w := Go.run_build w _ _ _ (by kernel_rfl)
attribute [local go_sem ↓] ldH stH alH bdR bdH hvA_0 hvA_1 hvA_2 hvA_3 hvA_4 hvA_5 hvA_6 hvA_7 hvA_8 hvA_9
attribute [local go_sem] rldH rstH ralH setRow_alloc_at setRow_alloc_past setRow_drew buildAw buildH0
def aw : List UInt8 := [97, 0, 0, 0, 0, 0, 0, 0, 0, 0, 5]
theorem aw_get : aw = [97] ++ List.replicate 8 0 ++ [0, 5] := by decide
end Go.Proofs.Ytjlpppnpdgenfaa

end
