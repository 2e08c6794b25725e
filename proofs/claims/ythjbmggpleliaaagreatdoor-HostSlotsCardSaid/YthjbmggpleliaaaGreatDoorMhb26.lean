/- LibMt; HstF. -/
import Derived.Test.YthjbmggpleliaaaGreatDoorMhb4
import Derived.Test.YthjbmggpleliaaaGreatDoorMhb21
import Derived.Test.YthjbmggpleliaaaGreatDoorMhb25
section
namespace Go.Rw
open Go Go.RowKit
variable {P : Program}
theorem run_storeAt_one {w : World} {b o : Nat} {ty : TypeId} {v : Value} (hc : (w.cell? ⟨b, o, none⟩).isSome = true) (hf : w.frozen? ⟨b, o, none⟩ = false) (hi : (P.info? ty).map (·.size) = some 1) (h1 : v.oneCell' = true) (hv : v.cells = #[v]) :
  (Instr.storeAt ty (.pointer (some ⟨b, o, none⟩)) v).run P w = .ok () (w.setCell ⟨b, o, none⟩ v) := by
 have := run_storeCells_cells (P := P) b o [v] 0 w (fun j hj => by obtain rfl : j = 0 := (by simpa using hj); simpa using hc) (fun j hj => by obtain rfl : j = 0 := (by simpa using hj); simpa using hf) (fun u hu => by simp at hu; subst hu; exact h1)
 cases hq : P.info? ty with
 | none => simp [hq] at hi
 | some i =>
  have hs : i.size = 1 := by simp [hq] at hi; omega
  simp only [Nat.add_zero, World.setCells] at this
  simp [Instr.storeAt, Instr.sureAddr, storeVar, sizeOf, typeInfo, hq, hs, hv, this, Result.andThen]
theorem hold_store {ops : Array Oper} {ty t : TypeId} {x y : Operand} {p : String} {af : Array Edge} {rest : List Oper} {Q : Exit → Act → World → Prop} {a : Act} {w : World}
  (h : Held (wpList P ops Q (⟨none, .store ty x y, t, p, af, none⟩ :: rest) a w) (fun _ => ())) : wpList P ops Q (⟨none, .store ty x y, t, p, af, none⟩ :: rest) a w := h.out
theorem hold_mk {ops : Array Oper} {d : Nat} {ty t : TypeId} {p : String} {af : Array Edge} {rest : List Oper} {Q : Exit → Act → World → Prop} {a : Act} {w : World}
  (h : Held (wpList P ops Q (⟨some d, .makeMap ty none, t, p, af, none⟩ :: rest) a w) (fun _ => ())) : wpList P ops Q (⟨some d, .makeMap ty none, t, p, af, none⟩ :: rest) a w := h.out
theorem wp_setRT {w : World} {ops : Array Oper} {rest : List Oper} {o : Oper} {a : Act} {Q : Exit → Act → World → Prop} (hg : o.guard = none) (ty : TypeId) (x y : Operand) (ho : o.op = .store ty x y) {S : Nat → Prop} {w0 : World} {H i : Nat} {T : TypeId} {c : Array Value} {v : Value}
  (hx : a.eval x = .pointer (some ⟨H, i, none⟩)) (hy : a.eval y = v) (R : Hid (RT w H T c)) (M : Hid (MutS S w0 w)) (hS : S H ∨ w0.heap.size ≤ H) (hi : i < c.size) (ht : (P.info? ty).map (·.size) = some 1) (h1 : v.oneCell' = true) (hv : v.cells = #[v])
  (hK : ∀ w', Hid (RT w' H T (c.setIfInBounds i v)) → Hid (MutS S w0 w') → Hid (MutS (fun k => k = H) w w' ∧ w'.heap.size = w.heap.size) → wpList P ops Q rest (a.put o.dst undef) w') : wpList P ops Q (o :: rest) a w := by
 refine wpList_plain hg fun K' hK' => ?_
 have hr := run_storeAt_one (P := P) (w := w) (b := H) (o := i) (ty := ty) (v := v) (by rw [row?_cell R.out.row i]; simp [hi]) (row?_frozen R.out.row i) ht h1 hv
 unfold Oper.wp
 simp [execOp, ho, hx, hy, hr, Result.andThen]
 exact hK' _ _ (hK _ (Lib.hid (R.out.set i v)) (Lib.hid (M.out.setCell H i none v hS)) (Lib.hid ⟨(MutS.refl _ w).setCell H i none v (.inl rfl), by simp⟩))
theorem wp_mkMap {w : World} {ops : Array Oper} {rest : List Oper} {o : Oper} {a : Act} {Q : Exit → Act → World → Prop} (hg : o.guard = none) (t : TypeId) (ho : o.op = .makeMap t none)
  (hK : wpList P ops Q rest (a.put o.dst (.map (some w.heap.size))) (w.alloc (.map #[] 0))) : wpList P ops Q (o :: rest) a w := by
 refine wpList_plain hg fun K' hK' => ?_
 have hr : (Instr.makeMap t none).run P w = .ok (.map (some w.heap.size)) (w.alloc (.map #[] 0)) := rfl
 unfold Oper.wp
 simp [execOp, ho, hr, Result.andThen]
 exact hK' _ _ hK
theorem wp_mkRT {w : World} {ops : Array Oper} {rest : List Oper} {o : Oper} {a : Act} {Q : Exit → Act → World → Prop} (hg : o.guard = none) (t : TypeId) (ho : o.op = .makeMap t none) {S : Nat → Prop} {w0 : World} {H : Nat} {T : TypeId} {c : Array Value} (R : Hid (RT w H T c)) (M : Hid (MutS S w0 w))
  (hK : ∀ w' n, Hid (RT w' H T c) → Hid (MutS S w0 w') → Hid (Below w.heap.size w w' ∧ n = w.heap.size ∧ w'.heap[n]? = some (.map #[] 0) ∧ n < w'.heap.size) → wpList P ops Q rest (a.put o.dst (.map (some n))) w') : wpList P ops Q (o :: rest) a w := by
 have hb : Below w.heap.size w (w.alloc (.map #[] 0)) := (Below.refl _ _).alloc (Nat.le_refl _) _
 exact wp_mkMap hg t ho (hK _ _ (Lib.hid (R.out.below hb)) (Lib.hid (M.out.below' hb)) (Lib.hid ⟨hb, rfl, heap_alloc_new w _, by simp⟩))
structure FI (S : Nat → Prop) (w0 : World) (H : Nat) (T : TypeId) (c : Array Value) (k : Nat) (w : World) : Prop where
 row : RT w H T c
 mt : MutS S w0 w
 size : w.heap.size = w0.heap.size + k
 maps : ∀ i, i < k → w.heap[w0.heap.size + i]? = some (.map #[] 0)
theorem wp_fiMk {w : World} {ops : Array Oper} {rest : List Oper} {o : Oper} {a : Act} {Q : Exit → Act → World → Prop} (hg : o.guard = none) (t : TypeId) (ho : o.op = .makeMap t none) {S : Nat → Prop} {w0 : World} {H : Nat} {T : TypeId} {c : Array Value} {k : Nat} (I : Hid (FI S w0 H T c k w))
  (hK : ∀ w', Hid (FI S w0 H T c (k + 1) w') → wpList P ops Q rest (a.put o.dst (.map (some (w0.heap.size + k)))) w') : wpList P ops Q (o :: rest) a w := by
 have hb : Below w.heap.size w (w.alloc (.map #[] 0)) := (Below.refl _ _).alloc (Nat.le_refl _) _
 refine wp_mkMap hg t ho ?_
 rw [I.out.size]
 refine hK _ (Lib.hid ⟨I.out.row.below hb, I.out.mt.below' hb, by simp [I.out.size]; omega, fun i hi => ?_⟩)
 by_cases e : i = k
 ·subst e
  rw [← I.out.size]; exact heap_alloc_new w _
 ·rw [hb.block _ (by rw [I.out.size]; omega)]
  exact I.out.maps i (by omega)
theorem wp_fiSet {w : World} {ops : Array Oper} {rest : List Oper} {o : Oper} {a : Act} {Q : Exit → Act → World → Prop} (hg : o.guard = none) (ty : TypeId) (x y : Operand) (ho : o.op = .store ty x y) {S : Nat → Prop} {w0 : World} {H i : Nat} {T : TypeId} {c : Array Value} {k : Nat} {v : Value}
  (hx : a.eval x = .pointer (some ⟨H, i, none⟩)) (hy : a.eval y = v) (I : Hid (FI S w0 H T c k w)) (hS : S H) (hi : i < c.size) (ht : (P.info? ty).map (·.size) = some 1) (h1 : v.oneCell' = true) (hv : v.cells = #[v])
  (hK : ∀ w', Hid (FI S w0 H T (c.setIfInBounds i v) k w') → wpList P ops Q rest (a.put o.dst undef) w') : wpList P ops Q (o :: rest) a w := by
 refine wp_setRT hg ty x y ho hx hy (Lib.hid I.out.row) (Lib.hid I.out.mt) (.inl hS) hi ht h1 hv fun w' R M Z => hK w' (Lib.hid ⟨R.out, M.out, Z.out.2.trans I.out.size, fun j hj => ?_⟩)
 have hm := I.out.maps j hj
 rw [Z.out.1.block _ (Array.getElem?_eq_some_iff.1 hm).1 (fun e => ?_)]
 ·exact hm
 ·subst e
  have := I.out.row.symm.trans hm
  cases this
end Go.Rw

end
section
namespace Go.Proofs.YthjbmggpleliaaaGreatDoor
open Go.RowKit Go.Rw Aes Hdr Vlt Hst
set_option maxRecDepth 100000 in
set_option maxHeartbeats 4000000 in
theorem forget_any (H : Nat) (s : HS) (w : World) (hr : HR w H s) :
  Calls Tryz.prog 38 #[.pointer (some ⟨H, 0, none⟩)] w fun e w' => e = .returned (.tuple #[]) ∧ HR w' H (s.bare w.heap.size) ∧ (∀ i, i < 5 → w'.heap[w.heap.size + i]? = some (.map #[] 0)) ∧ MutS (fun k => k = H) w w' := by
 have I := Lib.hid (show FI (fun k => k = H) w H 61 s.row 0 w from ⟨hr, MutS.refl _ _, rfl, fun i hi => absurd hi (Nat.not_lt_zero i)⟩)
 clear hr
 go_enter Tryz.func38, Tryz.ntmps38
 go_wp2_with (first
  | ((with_reducible refine hold_store ?_); refine Rw.Held.mk ?_; refine wp_fiSet rfl _ _ _ rfl rfl rfl I rfl (by simp [HS.row_size]) (by kernel_rfl) rfl rfl ?_; intro w1 I)
  | ((with_reducible refine hold_mk ?_); refine Rw.Held.mk ?_; refine wp_fiMk rfl _ rfl I ?_; intro w1 I))
 go_end0
 refine ⟨rfl, ?_, I.out.maps, I.out.mt⟩
 have := I.out.row
 simp only [HS.row, List.setIfInBounds_toArray, List.set_cons_zero, List.set_cons_succ] at this
 exact this
end Go.Proofs.YthjbmggpleliaaaGreatDoor

end
