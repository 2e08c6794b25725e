/- How single operations of a region run, told by their kinds. Over any program. -/
import Derived.Test.YtjlpppnpdgenfaaMvbLibF
namespace Go.Rg
open Go Go.RowKit Go.Rw
theorem exec_pure {P : Program} {o : Oper} {a : Act} {w : World} {v : Value} {K : Act → World → Prop} (ho : execOp a.eval o = pure (.value v)) (h : K (a.put o.dst v) w) : o.wp P a w K NoQ := by
 refine exec_value (v := v) (w' := w) ?_ h
 rw [ho]; rfl
theorem exec_fun {P : Program} {o : Oper} {a : Act} {w : World} {K : Act → World → Prop} {f : FuncId} {xs : Array Operand} {ts : Array TypeId} {args : Array Value} {post : Ending → World → Prop} (hcf : ∀ args w, (callFunc f args).run P w = .ok (.enter f args) w) (ho : o.op = .call { callee := .value (.func f), args := xs, argTypes := ts }) (hx : xs.map a.eval = args) (hc : Calls P f args w post)
  (h : ∀ e w', post e w' → ∃ v, e = .returned v ∧ K (a.put o.dst v) w') : o.wp P a w K NoQ := by
 refine exec_call (args := args) ?_ hc h
 subst hx
 simp [go_sem, execOp, ho, hcf]
theorem exec_extract {P : Program} {o : Oper} {a : Act} {w : World} {K : Act → World → Prop} {x : Operand} {ix : Nat} {xv v : Value} (ho : o.op = .extract x ix) (ha : a.eval x = xv) (hs : (Instr.extract xv ix).run P w = .ok v w) (h : K (a.put o.dst v) w) : o.wp P a w K NoQ := by
 refine exec_value (v := v) (w' := w) ?_ h
 generalize a.eval = ρ at ha
 simp [execOp, ho, ha, hs, Result.andThen]
theorem extract3_0 (P : Program) (w : World) (u x y : Value) : (Instr.extract (.tuple #[u, x, y]) 0).run P w = .ok u w := rfl
theorem extract3_1 (P : Program) (w : World) (u x y : Value) : (Instr.extract (.tuple #[u, x, y]) 1).run P w = .ok x w := rfl
theorem extract3_2 (P : Program) (w : World) (u x y : Value) : (Instr.extract (.tuple #[u, x, y]) 2).run P w = .ok y w := rfl
end Go.Rg
