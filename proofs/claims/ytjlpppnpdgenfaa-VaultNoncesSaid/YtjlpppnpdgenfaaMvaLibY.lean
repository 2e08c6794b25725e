/- A region that puts one byte, and then what a slice reads, behind what an owned slice reads: append(append(b, c), s...), in whatever order its operations come. Over any program. -/
import Derived.Test.YtjlpppnpdgenfaaMvaLibG
import Derived.Test.YtjlpppnpdgenfaaMvaLibX
import Derived.Test.YtjlpppnpdgenfaaMva4
namespace Go.Rg
open Go Go.RowKit Go.Rw
theorem exec_app {P : Program} {o : Oper} {a : Act} {w : World} {K : Act → World → Prop} {t e : TypeId} {i : TypeInfo} (s x : Operand) (ho : o.op = .call { callee := .builtin .append, args := #[s, x], argTypes := #[t, t] })
    (ht : P.underlying t = some (.slice e)) (hi : P.info? e = some i) (hz : i.zero = some (.int .u8 0)) (hsz : i.size = 1) (hby : i.bytes = 1) {B : Nat} (hB : B ≤ w.heap.size) {v0 v : Value} {l0 l : List UInt8} (h0 : a.eval s = v0) (hown : w.ownsRow B e 1 v0 l0.length (l0.map bv)) (hx : a.eval x = v) (hs : Sl w v l) (hl : l0.length + l.length ≤ 2000000)
    (h : ∀ v' w', w'.ownsRow B e 1 v' (l0 ++ l).length ((l0 ++ l).map bv) → w.grownBy w' v0.ownBlock → K (a.put o.dst v') w') : o.wp P a w K NoQ := by
  obtain ⟨ao, cap, rfl, hc, hnn, hp⟩ := hs
  cases ao with
  | none =>
    obtain rfl := hnn rfl
    obtain rfl : l = [] := List.eq_nil_of_length_eq_zero (by omega)
    have hrun := run_append_owned_none (P := P) (w := w) B t o.type e i 1 ht hi v0 l0.length (l0.map bv) hown
    refine exec_value (v := v0) (w' := w) ?_ (h _ _ (by simpa using hown) ⟨rfl, rfl, rfl, Nat.le_refl _, fun _ _ _ => rfl⟩)
    have hx' : a.eval x = .slice none 0 0 := hx
    simp [execOp, ho, resolve, invoke, builtin, h0, hx', hrun, Result.andThen]
  | some ad =>
    refine wp_append_own w s x t ho B e i (.int .u8 0) 1 1 ht hi hz hsz hby rfl (by decide) v0 l0.length (l0.map bv) h0 hown ad l.length cap (l.map bv) hx (by simp) ?_ (map_bv_one _) (by unfold maxLen; omega) (by omega) hB ?_
    · intro j u hj
      have hjl : j < l.length := by have := (List.getElem?_eq_some_iff.1 hj).1; simpa using this
      obtain ⟨b, off, e, hcell⟩ := hp (by omega)
      cases e
      rw [Addr.add_lit, hcell j hjl, ← hj]
      simp [nth, bv, n8, hjl]
    · intro v' w' h1 h2 _
      refine h v' w' ?_ h2
      rw [List.length_append, List.map_append]
      exact h1
theorem row_below {B b : Nat} {w w' : World} {c : Array Value} (h : Below B w w') (hr : row? w b = some c) (hb : b < B) : row? w' b = some c := by
  have := h.block b hb
  unfold row? at hr ⊢
  rw [this]; exact hr
theorem lit_sl (w : World) (c : UInt8) (t : TypeId) : Sl (w.alloc (.cells #[.int .u8 (n8 c : Nat)] t)) (.slice (some ⟨w.heap.size, 0, none⟩) 1 1) [c] := by
  refine ⟨_, 1, rfl, Nat.le_refl _, fun h => (by cases h), fun _ => ⟨w.heap.size, 0, rfl, fun k hk => ?_⟩⟩
  rw [row?_cell (row?_alloc_at _ _ _ _ rfl)]
  match k, hk with
  | 0, _ => rfl
theorem phase_app2 {P : Program} {ops : Array Oper} {Q : Exit → Act → World → Prop} {tail : List Nat} {a0 : Act} {w0 : World} (ib i1 id i2 : Nat) (db d1 dd d2 : Tmp) (J1 J2 J3 J4 : Value → World → Prop)
    (hne : ib ≠ i1 ∧ ib ≠ id ∧ ib ≠ i2 ∧ i1 ≠ id ∧ i1 ≠ i2 ∧ id ≠ i2) (N : Nat) (hN : N ≤ w0.heap.size) (v0 u : Value) (l0 m : List UInt8) (c : UInt8) {t e : TypeId} {i : TypeInfo} (s1 x1 s2 x2 : Operand)
    (ht : P.underlying t = some (.slice e)) (hi : P.info? e = some i) (hz : i.zero = some (.int .u8 0)) (hsz : i.size = 1) (hby : i.bytes = 1)
    (own : w0.ownsRow N e 1 v0 l0.length (l0.map bv)) (src : ∀ w', Below N w0 w' → Sl w' u m) (hl : l0.length + m.length ≤ 1000000)
    (o1 : (ops.toList.getD i1 default).op = .call { callee := .builtin .append, args := #[s1, x1], argTypes := #[t, t] }) (t1 : (ops.toList.getD i1 default).dst = some d1)
    (o2 : (ops.toList.getD i2 default).op = .call { callee := .builtin .append, args := #[s2, x2], argTypes := #[t, t] }) (t2 : (ops.toList.getD i2 default).dst = some d2)
    (e1 : ∀ us, (puts us [⟨ib, db, [], false, J1⟩, ⟨i1, d1, [ib], false, J2⟩, ⟨id, dd, [], false, J3⟩, ⟨i2, d2, [i1, id], false, J4⟩] a0).eval s1 = v0)
    (f1 : ∀ us, (puts us [⟨ib, db, [], false, J1⟩, ⟨i1, d1, [ib], false, J2⟩, ⟨id, dd, [], false, J3⟩, ⟨i2, d2, [i1, id], false, J4⟩] a0).eval x1 = us ib)
    (e2 : ∀ us, (puts us [⟨ib, db, [], false, J1⟩, ⟨i1, d1, [ib], false, J2⟩, ⟨id, dd, [], false, J3⟩, ⟨i2, d2, [i1, id], false, J4⟩] a0).eval s2 = us i1)
    (f2 : ∀ us, (puts us [⟨ib, db, [], false, J1⟩, ⟨i1, d1, [ib], false, J2⟩, ⟨id, dd, [], false, J3⟩, ⟨i2, d2, [i1, id], false, J4⟩] a0).eval x2 = us id)
    (hb : ∀ us w (K : Act → World → Prop), K ((puts us [⟨ib, db, [], false, J1⟩, ⟨i1, d1, [ib], false, J2⟩, ⟨id, dd, [], false, J3⟩, ⟨i2, d2, [i1, id], false, J4⟩] a0).put (some db) (.slice (some ⟨w.heap.size, 0, none⟩) 1 1)) (w.alloc (.cells #[.int .u8 (n8 c : Nat)] e)) → (ops.toList.getD ib default).wp P (puts us [⟨ib, db, [], false, J1⟩, ⟨i1, d1, [ib], false, J2⟩, ⟨id, dd, [], false, J3⟩, ⟨i2, d2, [i1, id], false, J4⟩] a0) w K NoQ)
    (hd : ∀ us w (K : Act → World → Prop), Below N w0 w → K ((puts us [⟨ib, db, [], false, J1⟩, ⟨i1, d1, [ib], false, J2⟩, ⟨id, dd, [], false, J3⟩, ⟨i2, d2, [i1, id], false, J4⟩] a0).put (some dd) u) w → (ops.toList.getD id default).wp P (puts us [⟨ib, db, [], false, J1⟩, ⟨i1, d1, [ib], false, J2⟩, ⟨id, dd, [], false, J3⟩, ⟨i2, d2, [i1, id], false, J4⟩] a0) w K NoQ)
    (last : ∀ us w, Below N w0 w → w.ownsRow N e 1 (us i2) (l0 ++ [c] ++ m).length ((l0 ++ [c] ++ m).map bv) → wpList P ops (Calm Q) (tail.map fun i => ops.toList.getD i default) (puts us [⟨ib, db, [], false, J1⟩, ⟨i1, d1, [ib], false, J2⟩, ⟨id, dd, [], false, J3⟩, ⟨i2, d2, [i1, id], false, J4⟩] a0) w)
    {X : List Nat} (hX1 : X.contains i1 = true) (hX2 : X.contains i2 = true) :
    ∃ I, PhaseI P ops Q [⟨ib, db, [], false, J1⟩, ⟨i1, d1, [ib], false, J2⟩, ⟨id, dd, [], false, J3⟩, ⟨i2, d2, [i1, id], false, J4⟩] X tail a0 w0 I := by
  obtain ⟨n1, n2, n3, n4, n5, n6⟩ := hne
  refine ⟨fun L us w' => Below N w0 w' ∧ (L ib = true → L i1 = false → Sl w' (us ib) [c]) ∧ (L i1 = false → w'.ownsRow N e 1 v0 l0.length (l0.map bv)) ∧ (L i1 = true → L i2 = false → w'.ownsRow N e 1 (us i1) (l0 ++ [c]).length ((l0 ++ [c]).map bv)) ∧ (L id = true → us id = u) ∧ (L i2 = true → w'.ownsRow N e 1 (us i2) (l0 ++ [c] ++ m).length ((l0 ++ [c] ++ m).map bv)) ∧ (L i2 = true → L i1 = true), ?_, ?_, ?_⟩
  · intro us
    exact ⟨Below.refl _ _, by simp, fun _ => own, by simp, by simp, by simp, by simp⟩
  · refine List.forall_mem_cons.2 ⟨?_, List.forall_mem_cons.2 ⟨?_, List.forall_mem_cons.2 ⟨?_, List.forall_mem_cons.2 ⟨?_, fun r hr => (by cases hr)⟩⟩⟩⟩
    · intro L us w hnot hdep hI K hK
      obtain ⟨hB, k1, k2, k3, k4, k5, k6⟩ := hI
      refine hb us w K (hK _ _ ⟨hB.alloc (Nat.le_trans hN hB.size) _, ?_, ?_, ?_, ?_, ?_, ?_⟩ (.inr (Keep.of_below ((Below.refl _ _).alloc (Nat.le_refl _) _))))
      · intro _ _; simp only [upd, if_true]; exact lit_sl w c e
      · intro h; simp only [updB, if_neg n1.symm] at h; exact (k2 h).alloc _
      · intro h h'; simp only [updB, upd, if_neg n1.symm, if_neg n3.symm] at h h' ⊢; exact (k3 h h').alloc _
      · intro h; simp only [updB, upd, if_neg n2.symm] at h ⊢; exact k4 h
      · intro h; simp only [updB, upd, if_neg n3.symm] at h ⊢; exact (k5 h).alloc _
      · intro h; simp only [updB, if_neg n3.symm, if_neg n1.symm] at h ⊢; exact k6 h
    · intro L us w hnot hdep hI K hK
      obtain ⟨hB, k1, k2, k3, k4, k5, k6⟩ := hI
      have hLb : L ib = true := hdep ib (by simp)
      have hown := k2 hnot
      have hsz' := Nat.le_trans hN hB.size
      refine exec_app s1 x1 o1 ht hi hz hsz hby hsz' (e1 us) hown (f1 us) (k1 hLb hnot) (by simp; omega) ?_
      intro v' w' h1 h2
      rw [t1]
      have hB' : Below N w w' := (Below.refl _ _).grown h2 hsz' (fun q hq => (hown.lt q hq).1)
      refine hK _ _ ⟨hB.trans hB', ?_, ?_, ?_, ?_, ?_, ?_⟩ (.inl hX1)
      · intro _ h; simp [updB] at h
      · intro h; simp [updB] at h
      · intro _ _; simp only [upd, if_true]; exact h1
      · intro h; simp only [updB, upd, if_neg n4.symm] at h ⊢; exact k4 h
      · intro h; simp only [updB, upd, if_neg n5.symm] at h ⊢
        have := k6 h
        rw [hnot] at this; cases this
      · intro _; simp [updB]
    · intro L us w hnot hdep hI K hK
      obtain ⟨hB, k1, k2, k3, k4, k5, k6⟩ := hI
      refine hd us w K hB (hK _ _ ⟨hB, ?_, ?_, ?_, ?_, ?_, ?_⟩ (.inr (Keep.refl _)))
      · intro h h'; simp only [updB, upd, if_neg n2, if_neg n4] at h h' ⊢; exact k1 h h'
      · intro h; simp only [updB, if_neg n4] at h ⊢; exact k2 h
      · intro h h'; simp only [updB, upd, if_neg n4, if_neg n6.symm] at h h' ⊢; exact k3 h h'
      · intro h; simp only [upd, if_true]
      · intro h; simp only [updB, upd, if_neg n6.symm] at h ⊢; exact k5 h
      · intro h; simp only [updB, if_neg n6.symm, if_neg n4] at h ⊢; exact k6 h
    · intro L us w hnot hdep hI K hK
      obtain ⟨hB, k1, k2, k3, k4, k5, k6⟩ := hI
      have hL1 : L i1 = true := hdep i1 (by simp)
      have hLd : L id = true := hdep id (by simp)
      have hown := k3 hL1 hnot
      have hsz' := Nat.le_trans hN hB.size
      refine exec_app s2 x2 o2 ht hi hz hsz hby hsz' (e2 us) hown (f2 us) (by rw [k4 hLd]; exact src _ hB) (by simp; omega) ?_
      intro v' w' h1 h2
      rw [t2]
      have hB' : Below N w w' := (Below.refl _ _).grown h2 hsz' (fun q hq => (hown.lt q hq).1)
      refine hK _ _ ⟨hB.trans hB', ?_, ?_, ?_, ?_, ?_, ?_⟩ (.inl hX2)
      · intro _ h; simp only [updB, if_neg n5] at h; rw [hL1] at h; cases h
      · intro h; simp only [updB, if_neg n5] at h; rw [hL1] at h; cases h
      · intro _ h; simp [updB] at h
      · intro h; simp only [updB, upd, if_neg n6] at h ⊢; exact k4 h
      · intro _; simp only [upd, if_true]; exact h1
      · intro _; simp only [updB, if_neg n5]; exact hL1
  · intro L us w hall hI
    obtain ⟨hB, k1, k2, k3, k4, k5, k6⟩ := hI
    exact last us w hB (k5 (hall ⟨i2, d2, [i1, id], false, J4⟩ (by simp)))
end Go.Rg
