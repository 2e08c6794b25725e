/- LibH; HdrR1. -/
import Derived.Test.YthjbmggpleliaaaGreatDoorMhb2
import Derived.Test.YthjbmggpleliaaaGreatDoorMhbVarW
import Derived.Test.YthjbmggpleliaaaGreatDoorMhb16
import Derived.Test.YthjbmggpleliaaaGreatDoorMhb18
import Derived.Test.YthjbmggpleliaaaGreatDoorMhbHdrW7
import Derived.Test.YthjbmggpleliaaaGreatDoorMhb3
import Derived.Test.YthjbmggpleliaaaGreatDoorMhb17
import Derived.RegionTactic
import Derived.BigRegion
section
namespace Go.Rw
open Go Go.RowKit
structure Held (p : Prop) (_x : PLift p → Unit) : Prop where
 mk ::
 out : p
theorem hold_ops (d : Nat) {P : Program} {op : Op} {t : TypeId} {p : String} {af : Array Edge} {g : Option (Nat × Bool)} {l rest : List Oper} {Q : Exit → Act → World → Prop} {a : Act} {w : World}
  (h : Held (wpList P (List.toArray (⟨some d, op, t, p, af, g⟩ :: l)) Q rest a w) (fun _ => ())) : wpList P (List.toArray (⟨some d, op, t, p, af, g⟩ :: l)) Q rest a w := h.out
end Go.Rw
namespace Go.Rg
open Go Go.RowKit
theorem plan_skipB {P : Program} {ops : Array Oper} {Q : Exit → Act → World → Prop} {a : Act} {w : World} {o : Oper} {k : Nat} {t : PT Oper} (g : Nat) (b : Bool) (_ : o.guard = some (g, b)) (hg : Region.wanted o (yielded ops a.tmps) = false)
  (h : wpPlan P ops Q t (a.put o.dst undef) w) : wpPlan P ops Q (.op o k t) a w := plan_skip hg h
end Go.Rg

end
section


end
