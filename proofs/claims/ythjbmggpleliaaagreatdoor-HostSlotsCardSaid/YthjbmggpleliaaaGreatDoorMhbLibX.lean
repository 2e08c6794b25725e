/- How single operations of a region run, told by their kinds. Over any program. -/
import Derived.Test.YthjbmggpleliaaaGreatDoorMhb2
namespace Go.Rg
open Go Go.RowKit Go.Rw
theorem exec_fun {P : Program} {o : Oper} {a : Act} {w : World} {K : Act → World → Prop} {f : FuncId} {xs : Array Operand} {ts : Array TypeId} {args : Array Value} {post : Ending → World → Prop} (hcf : ∀ args w, (callFunc f args).run P w = .ok (.enter f args) w) (ho : o.op = .call { callee := .value (.func f), args := xs, argTypes := ts }) (hx : xs.map a.eval = args) (hc : Calls P f args w post)
  (h : ∀ e w', post e w' → ∃ v, e = .returned v ∧ K (a.put o.dst v) w') : o.wp P a w K NoQ := by
 refine exec_call (args := args) ?_ hc h
 subst hx
 simp [go_sem, execOp, ho, hcf]
end Go.Rg
