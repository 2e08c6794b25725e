/- The walk of package header's Get at a short header. -/
import Derived.Test.YtjlpppnpdgenfaaMvb3
import Derived.Test.YtjlpppnpdgenfaaMvb5
import Derived.ScopeJumps
import Derived.WalkMore
namespace Go.Proofs.Ytjlpppnpdgenfaa
open Go.RowKit Go.Rw Hdr
attribute [local go_sem ↓] bdR bdH hvA_0 hvA_1 hvA_2 hvA_3 hvA_4 hvA_5 hvA_6 hvA_7 hvA_8 hvA_9
attribute [local go_sem] buildR buildH buildH0
attribute [local go_sem ↓] ldH stH alH shift_shl8 shift_shr8 shift_shl64 shift_shr64
attribute [local go_sem] rldH rstH ralH setRow_alloc_at setRow_alloc_past setRow_drew
end Go.Proofs.Ytjlpppnpdgenfaa
