/- Appending as many zeros as is told, append(b, make([]byte, n)...), to an owned slice of bytes. Over any program. -/
import Derived.Test.YtjlpppnpdgenfaaMvb4
namespace Go.Rw
open Go Go.RowKit
def zs (m : Nat) : List Value := List.replicate m (.int .u8 0)
section
variable {P : Program} (w : World)
end
end Go.Rw
