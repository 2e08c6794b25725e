/- How single operations of a region run, told by their kinds. Over any program. -/
import Derived.Test.YtjlpppnpdgenfaaMvaLibF
namespace Go.Rg
open Go Go.RowKit Go.Rw
theorem exec_pure {P : Program} {o : Oper} {a : Act} {w : World} {v : Value} {K : Act → World → Prop} (ho : execOp a.eval o = pure (.value v)) (h : K (a.put o.dst v) w) : o.wp P a w K NoQ := by
  refine exec_value (v := v) (w' := w) ?_ h
  rw [ho]; rfl
theorem exec_sem {P : Program} {o : Oper} {a : Act} {w w' : World} {v : Value} {s : Sem Value} {K : Act → World → Prop} (ho : execOp a.eval o = (do pure (.value (← s)))) (hs : s.run P w = .ok v w') (h : K (a.put o.dst v) w') : o.wp P a w K NoQ := by
  refine exec_value (v := v) (w' := w') ?_ h
  rw [ho]; simp [hs, Result.andThen]
theorem exec_fun {P : Program} {o : Oper} {a : Act} {w : World} {K : Act → World → Prop} {f : FuncId} {xs : Array Operand} {ts : Array TypeId} {args : Array Value} {post : Ending → World → Prop} (hcf : ∀ args w, (callFunc f args).run P w = .ok (.enter f args) w) (ho : o.op = .call { callee := .value (.func f), args := xs, argTypes := ts }) (hx : xs.map a.eval = args) (hc : Calls P f args w post)
    (h : ∀ e w', post e w' → ∃ v, e = .returned v ∧ K (a.put o.dst v) w') : o.wp P a w K NoQ := by
  refine exec_call (args := args) ?_ hc h
  subst hx
  simp [go_sem, execOp, ho, hcf]
theorem exec_len {P : Program} {o : Oper} {a : Act} {w : World} {K : Act → World → Prop} {x : Operand} {ts : Array TypeId} {v : Value} {n : Int} (ho : o.op = .call { callee := .builtin .len, args := #[x], argTypes := ts }) (ha : a.eval x = v) (hl : (Builtin.len_ ts o.type #[v]).run P w = .ok (.int .i64 n) w) (h : K (a.put o.dst (.int .i64 n)) w) : o.wp P a w K NoQ := by
  refine exec_value (v := .int .i64 n) (w' := w) ?_ h
  generalize a.eval = ρ at ha
  simp [go_sem, execOp, ho, ha, hl]
theorem exec_min {P : Program} {o : Oper} {a : Act} {w : World} {K : Act → World → Prop} {x : Operand} {ts : Array TypeId} {c n : Int} (ho : o.op = .call { callee := .builtin .min, args := #[.const (.int .i64 c), x], argTypes := ts }) (ha : a.eval x = .int .i64 n) (hn : c ≤ n) (h : K (a.put o.dst (.int .i64 c)) w) : o.wp P a w K NoQ := by
  refine exec_value (v := .int .i64 c) (w' := w) ?_ h
  have hc : a.eval (.const (.int .i64 c)) = .int .i64 c := rfl
  generalize a.eval = ρ at ha hc
  have : ¬ n < c := by omega
  simp [go_sem, execOp, ho, ha, hc, this]
theorem extract_0 (P : Program) (w : World) (u x : Value) : (Instr.extract (.tuple #[u, x]) 0).run P w = .ok u w := rfl
theorem extract_1 (P : Program) (w : World) (u x : Value) : (Instr.extract (.tuple #[u, x]) 1).run P w = .ok x w := rfl
theorem exec_extract {P : Program} {o : Oper} {a : Act} {w : World} {K : Act → World → Prop} {x : Operand} {ix : Nat} {xv v : Value} (ho : o.op = .extract x ix) (ha : a.eval x = xv) (hs : (Instr.extract xv ix).run P w = .ok v w) (h : K (a.put o.dst v) w) : o.wp P a w K NoQ := by
  refine exec_value (v := v) (w' := w) ?_ h
  generalize a.eval = ρ at ha
  simp [execOp, ho, ha, hs, Result.andThen]
theorem exec_load {P : Program} {o : Oper} {a : Act} {w : World} {K : Act → World → Prop} {x : Operand} {t : TypeId} {xv v : Value} (ho : o.op = .load t x) (ha : a.eval x = xv) (hs : (Instr.loadAt t xv).run P w = .ok v w) (h : K (a.put o.dst v) w) : o.wp P a w K NoQ := by
  refine exec_value (v := v) (w' := w) ?_ h
  generalize a.eval = ρ at ha
  simp [execOp, ho, ha, hs, Result.andThen]
theorem exec_slice {P : Program} {o : Oper} {a : Act} {w : World} {K : Act → World → Prop} {x y : Operand} {t : TypeId} {xv yv v : Value} (ho : o.op = .slice t x none (some y) none) (ha : a.eval x = xv) (hb : a.eval y = yv) (hs : (Instr.sliceAt t xv none (some yv) none).run P w = .ok v w) (h : K (a.put o.dst v) w) : o.wp P a w K NoQ := by
  refine exec_value (v := v) (w' := w) ?_ h
  generalize a.eval = ρ at ha hb
  simp [execOp, ho, ha, hb, hs, Result.andThen]
theorem extract3_0 (P : Program) (w : World) (u x y : Value) : (Instr.extract (.tuple #[u, x, y]) 0).run P w = .ok u w := rfl
theorem extract3_1 (P : Program) (w : World) (u x y : Value) : (Instr.extract (.tuple #[u, x, y]) 1).run P w = .ok x w := rfl
theorem extract3_2 (P : Program) (w : World) (u x y : Value) : (Instr.extract (.tuple #[u, x, y]) 2).run P w = .ok y w := rfl
end Go.Rg
