/- HdrW2; HdrW5. -/
import Derived.Test.YthjbmggpleliaaaGreatDoorMhb3
import Derived.Test.YthjbmggpleliaaaGreatDoorMhb7
import Derived.Test.YthjbmggpleliaaaGreatDoorMhb4
import Derived.Test.YthjbmggpleliaaaGreatDoorMhb12
import Derived.RegionTactic
import Derived.BigRegion
import Derived.Test.YthjbmggpleliaaaGreatDoorMhb13
import Derived.ScopeJumps
import Derived.WalkMore
section
namespace Hdr
open Go.Rw
def rfail (is : Bool) (x : Int) (s : Nat × Int) : Nat × Int := if is && s.2 == 0 then (s.1, x) else s
def rtake (b : List UInt8) (n : Nat) (s : Nat × Int) : (Nat × Int) × List UInt8 :=
 if s.2 ≠ 0 then (s, []) else if b.length - s.1 < n then ((s.1, 3), []) else ((s.1 + n, 0), (b.drop s.1).take n)
def rnum (b : List UInt8) (n : Nat) (s : Nat × Int) : (Nat × Int) × Nat := ((rtake b n s).1, num (rtake b n s).2)
end Hdr
namespace Go.Proofs.YthjbmggpleliaaaGreatDoor
open Go.RowKit Go.Rw Hdr
attribute [local go_sem ↓] shift_shl64
end Go.Proofs.YthjbmggpleliaaaGreatDoor

end
section


end
