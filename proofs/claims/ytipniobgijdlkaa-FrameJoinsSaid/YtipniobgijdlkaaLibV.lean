/- How single operations of a region run, told by their kinds, continued: build, a slice literal, an element's address, a new variable. Over any program. -/
import Derived.Test.YtipniobgijdlkaaLibX
import Derived.Great.BuildSlice
namespace Go.Rg
open Go Go.RowKit Go.Rw
variable {P : Program}
/-- What a phase asks of one operation. -/
def ExecOk (P : Program) (ops : Array Oper) (R : List Flo) (a0 : Act) (w0 : World) (r : Flo) : Prop :=
  ∀ us w, Below w0.heap.size w0 w → (∀ r' ∈ R, r'.i ∈ r.deps → r'.J (us r'.i) w) → ∀ K : Act → World → Prop,
    (∀ v a' w', a' = (puts us R a0).put (some r.d) v → r.J v w' → Below w.heap.size w w' → (r.fresh = true → w.heap.size ≤ vblk v ∧ vblk v < w'.heap.size) → K a' w') →
    (ops.toList.getD r.i default).wp P (puts us R a0) w K NoQ
theorem phase_mk {ops : Array Oper} {Q : Exit → Act → World → Prop} {R : List Flo} {tail : List Nat} {a0 : Act} {w0 : World}
    (h1 : ∀ r ∈ R, ∀ v w w', Below w.heap.size w w' → r.J v w → r.J v w') (h2 : ∀ r ∈ R, ExecOk P ops R a0 w0 r)
    (h3 : ∀ us w, Below w0.heap.size w0 w → (∀ r ∈ R, r.J (us r.i) w) → (∀ r ∈ R, r.fresh = true → w0.heap.size ≤ vblk (us r.i) ∧ vblk (us r.i) < w.heap.size) →
    (∀ r ∈ R, ∀ r' ∈ R, r.i ≠ r'.i → r.fresh = true → r'.fresh = true → vblk (us r.i) ≠ vblk (us r'.i)) → wpList P ops (Calm Q) (tail.map fun i => ops.toList.getD i default) (puts us R a0) w) : Phase P ops Q R tail a0 w0 :=
  ⟨h1, h2, h3⟩
theorem ph_gen {ops : Array Oper} {R : List Flo} {a0 : Act} {w0 : World} (i : Nat) (d : Tmp) (deps : List Nat) (fr : Bool) (J : Value → World → Prop) (hd : (ops.toList.getD i default).dst = some d) (M : Nat) (hM : M ≤ w0.heap.size)
    (hx : ∀ us w, M ≤ w.heap.size → (∀ r' ∈ R, r'.i ∈ deps → r'.J (us r'.i) w) → ∃ v w', (execOp (puts us R a0).eval (ops.toList.getD i default)).run P w = .ok (.value v) w' ∧ J v w' ∧ Below w.heap.size w w' ∧ (fr = true → w.heap.size ≤ vblk v ∧ vblk v < w'.heap.size)) :
    ExecOk P ops R a0 w0 ⟨i, d, deps, fr, J⟩ := by
  intro us w hb hdep K hK
  obtain ⟨v, w', hr, hj, hb', hf⟩ := hx us w (Nat.le_trans hM hb.size) hdep
  show (ops.toList.getD i default).wp P (puts us R a0) w K NoQ
  refine exec_value hr ?_
  rw [hd]
  exact hK v _ w' rfl hj hb' hf
theorem ph_call {ops : Array Oper} {R : List Flo} {a0 : Act} {w0 : World} (i : Nat) (d : Tmp) (deps : List Nat) (J : Value → World → Prop) {f : FuncId} {xs : Array Operand} {ts : Array TypeId} {args : Array Value}
    (hcf : ∀ args w, (callFunc f args).run P w = .ok (.enter f args) w) (ho : (ops.toList.getD i default).op = .call { callee := .value (.func f), args := xs, argTypes := ts }) (hd : (ops.toList.getD i default).dst = some d)
    (ha : ∀ us, xs.map (puts us R a0).eval = args) (M : Nat) (hM : M ≤ w0.heap.size)
    (hc : ∀ w, M ≤ w.heap.size → Calls P f args w fun e w' => ∃ v, e = .returned v ∧ J v w' ∧ Below w.heap.size w w') : ExecOk P ops R a0 w0 ⟨i, d, deps, false, J⟩ := by
  intro us w hb hdep K hK
  show (ops.toList.getD i default).wp P (puts us R a0) w K NoQ
  refine exec_fun hcf ho (ha us) (hc w (Nat.le_trans hM hb.size)) ?_
  rintro e w' ⟨v, rfl, hj, hb'⟩
  refine ⟨v, rfl, ?_⟩
  rw [hd]
  exact hK v _ w' rfl hj hb' (fun h => by cases h)
theorem run_exec_build {o : Oper} {ρ : Operand → Value} {w w' : World} {t : TypeId} {parts : Array (Nat × Operand)} {vs : Array (Nat × Value)} {v : Value} (ho : o.op = .build t parts) (hx : (parts.map fun (i, x) => (i, ρ x)) = vs) (hs : (Instr.build t vs).run P w = .ok v w') : (execOp ρ o).run P w = .ok (.value v) w' := by
  subst hx
  simp only [execOp, ho, Sem.run_bind, hs, Result.andThen_ok]
  rfl
theorem run_exec_bslice {o : Oper} {ρ : Operand → Value} {w : World} (t e : TypeId) (s : Nat) (parts : Array (Nat × Operand)) (vs : List Value) (ho : o.op = .buildSlice t vs.length parts) (hs : 0 < s)
    (ie : TypeInfo) (z : Value) (hu : P.underlying t = some (.slice e)) (hie : P.info? e = some ie) (hz : ie.zero = some z) (hsz : ie.size = s) (hsmall : ¬ vs.length * s > 2 ^ 24) (hpos : ¬ vs.length * s = 0)
    (hx : (parts.map fun (i, x) => (i, ρ x)).toList = (vs.zipIdx 0).map fun x => (x.2, x.1)) (hc : ∀ v ∈ vs, v.cells.size = s) :
    (execOp ρ o).run P w = .ok (.value (.slice (some ⟨w.heap.size, 0, none⟩) vs.length vs.length)) (w.alloc (.cells (vs.flatMap fun v => v.cells.toList).toArray e)) := by
  have hr := run_buildSlice (P := P) w t e vs.length (parts.map fun (i, x) => (i, ρ x)) _ ie z hu hie hz (by rw [hsz]; exact hsmall) (by rw [hsz]; exact hpos) (by rw [hx, hsz]; exact Great.fill_whole hs vs _ hc (by simp))
  simp only [execOp, ho, Sem.run_bind, hr, Result.andThen_ok]
  rfl
theorem run_exec_index {o : Oper} {ρ : Operand → Value} {w : World} {t : TypeId} {x y : Operand} {xv yv v : Value} (ho : o.op = .indexAddr t x y) (hx : ρ x = xv) (hy : ρ y = yv) (hs : (Instr.indexAt t xv yv).run P w = .ok v w) : (execOp ρ o).run P w = .ok (.value v) w := by
  simp only [execOp, ho, hx, hy, Sem.run_bind, hs, Result.andThen_ok]
  rfl
theorem run_exec_load {o : Oper} {ρ : Operand → Value} {w : World} {t : TypeId} {x : Operand} {xv v : Value} (ho : o.op = .load t x) (hx : ρ x = xv) (hs : (Instr.loadAt t xv).run P w = .ok v w) : (execOp ρ o).run P w = .ok (.value v) w := by
  simp only [execOp, ho, hx, Sem.run_bind, hs, Result.andThen_ok]
  rfl
theorem run_exec_alloc {o : Oper} {ρ : Operand → Value} {w w' : World} {t : TypeId} {v : Value} (ho : o.op = .alloc t) (hs : (Instr.alloc t true (.tuple #[])).run P w = .ok v w') : (execOp ρ o).run P w = .ok (.value v) w' := by
  simp only [execOp, ho, Sem.run_bind, hs, Result.andThen_ok]
  rfl
end Go.Rg
