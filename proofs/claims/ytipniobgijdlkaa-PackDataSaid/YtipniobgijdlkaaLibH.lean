/- Stopping a walk ahead of a region, told by the number that its first operation writes. Over any program. -/
import Derived.Test.YtipniobgijdlkaaLibA
namespace Go.Rw
open Go Go.RowKit
/-- A goal held back from the walk: its second part's type names the goal, so that no rule of the walk opens it. -/
structure Held (p : Prop) (_x : PLift p → Unit) : Prop where
  mk ::
  out : p
theorem hold_ops (d : Nat) {P : Program} {op : Op} {t : TypeId} {p : String} {af : Array Edge} {g : Option (Nat × Bool)} {l rest : List Oper} {Q : Exit → Act → World → Prop} {a : Act} {w : World}
    (h : Held (wpList P (List.toArray (⟨some d, op, t, p, af, g⟩ :: l)) Q rest a w) (fun _ => ())) : wpList P (List.toArray (⟨some d, op, t, p, af, g⟩ :: l)) Q rest a w := h.out
end Go.Rw
