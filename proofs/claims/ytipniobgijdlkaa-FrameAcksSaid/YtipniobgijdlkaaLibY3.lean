/- A region that puts what two slices read behind what an owned slice reads: append(append(b, s...), t...), in whatever order its operations come. Over any program. -/
import Derived.Test.YtipniobgijdlkaaLibY
namespace Go.Rg
open Go Go.RowKit Go.Rw
theorem phase_app3 {P : Program} {ops : Array Oper} {Q : Exit → Act → World → Prop} {tail : List Nat} {a0 : Act} {w0 : World} (i1 id i2 : Nat) (d1 dd d2 : Tmp) (J2 J3 J4 : Value → World → Prop)
    (hne : i1 ≠ id ∧ i1 ≠ i2 ∧ id ≠ i2) (N : Nat) (hN : N ≤ w0.heap.size) (v0 u1 u : Value) (l0 m1 m : List UInt8) {t e : TypeId} {i : TypeInfo} (s1 x1 s2 x2 : Operand)
    (ht : P.underlying t = some (.slice e)) (hi : P.info? e = some i) (hz : i.zero = some (.int .u8 0)) (hsz : i.size = 1) (hby : i.bytes = 1)
    (own : w0.ownsRow N e 1 v0 l0.length (l0.map bv)) (src1 : ∀ w', Below N w0 w' → Sl w' u1 m1) (src : ∀ w', Below N w0 w' → Sl w' u m) (hl : l0.length + m1.length + m.length ≤ 1000000)
    (o1 : (ops.toList.getD i1 default).op = .call { callee := .builtin .append, args := #[s1, x1], argTypes := #[t, t] }) (t1 : (ops.toList.getD i1 default).dst = some d1)
    (o2 : (ops.toList.getD i2 default).op = .call { callee := .builtin .append, args := #[s2, x2], argTypes := #[t, t] }) (t2 : (ops.toList.getD i2 default).dst = some d2)
    (e1 : ∀ us, (puts us [⟨i1, d1, [], false, J2⟩, ⟨id, dd, [], false, J3⟩, ⟨i2, d2, [i1, id], false, J4⟩] a0).eval s1 = v0)
    (f1 : ∀ us, (puts us [⟨i1, d1, [], false, J2⟩, ⟨id, dd, [], false, J3⟩, ⟨i2, d2, [i1, id], false, J4⟩] a0).eval x1 = u1)
    (e2 : ∀ us, (puts us [⟨i1, d1, [], false, J2⟩, ⟨id, dd, [], false, J3⟩, ⟨i2, d2, [i1, id], false, J4⟩] a0).eval s2 = us i1)
    (f2 : ∀ us, (puts us [⟨i1, d1, [], false, J2⟩, ⟨id, dd, [], false, J3⟩, ⟨i2, d2, [i1, id], false, J4⟩] a0).eval x2 = us id)
    (hd : ∀ us w (K : Act → World → Prop), Below N w0 w → K ((puts us [⟨i1, d1, [], false, J2⟩, ⟨id, dd, [], false, J3⟩, ⟨i2, d2, [i1, id], false, J4⟩] a0).put (some dd) u) w → (ops.toList.getD id default).wp P (puts us [⟨i1, d1, [], false, J2⟩, ⟨id, dd, [], false, J3⟩, ⟨i2, d2, [i1, id], false, J4⟩] a0) w K NoQ)
    (last : ∀ us w, Below N w0 w → w.ownsRow N e 1 (us i2) (l0 ++ m1 ++ m).length ((l0 ++ m1 ++ m).map bv) → wpList P ops (Calm Q) (tail.map fun i => ops.toList.getD i default) (puts us [⟨i1, d1, [], false, J2⟩, ⟨id, dd, [], false, J3⟩, ⟨i2, d2, [i1, id], false, J4⟩] a0) w)
    {X : List Nat} (hX1 : X.contains i1 = true) (hX2 : X.contains i2 = true) :
    ∃ I, PhaseI P ops Q [⟨i1, d1, [], false, J2⟩, ⟨id, dd, [], false, J3⟩, ⟨i2, d2, [i1, id], false, J4⟩] X tail a0 w0 I := by
  obtain ⟨n4, n5, n6⟩ := hne
  refine ⟨fun L us w' => Below N w0 w' ∧ (L i1 = false → w'.ownsRow N e 1 v0 l0.length (l0.map bv)) ∧ (L i1 = true → L i2 = false → w'.ownsRow N e 1 (us i1) (l0 ++ m1).length ((l0 ++ m1).map bv)) ∧ (L id = true → us id = u) ∧ (L i2 = true → w'.ownsRow N e 1 (us i2) (l0 ++ m1 ++ m).length ((l0 ++ m1 ++ m).map bv)) ∧ (L i2 = true → L i1 = true), ?_, ?_, ?_⟩
  · intro us
    exact ⟨Below.refl _ _, fun _ => own, by simp, by simp, by simp, by simp⟩
  · refine List.forall_mem_cons.2 ⟨?_, List.forall_mem_cons.2 ⟨?_, List.forall_mem_cons.2 ⟨?_, fun r hr => (by cases hr)⟩⟩⟩
    · intro L us w hnot hdep hI K hK
      obtain ⟨hB, k2, k3, k4, k5, k6⟩ := hI
      have hown := k2 hnot
      have hsz' := Nat.le_trans hN hB.size
      refine exec_app s1 x1 o1 ht hi hz hsz hby hsz' (e1 us) hown (f1 us) (src1 _ hB) (by omega) ?_
      intro v' w' h1 h2
      rw [t1]
      have hB' : Below N w w' := (Below.refl _ _).grown h2 hsz' (fun q hq => (hown.lt q hq).1)
      refine hK _ _ ⟨hB.trans hB', ?_, ?_, ?_, ?_, ?_⟩ (.inl hX1)
      · intro h; simp [updB] at h
      · intro _ _; simp only [upd, if_true]; exact h1
      · intro h; simp only [updB, upd, if_neg n4.symm] at h ⊢; exact k4 h
      · intro h; simp only [updB, upd, if_neg n5.symm] at h ⊢
        have := k6 h
        rw [hnot] at this; cases this
      · intro _; simp [updB]
    · intro L us w hnot hdep hI K hK
      obtain ⟨hB, k2, k3, k4, k5, k6⟩ := hI
      refine hd us w K hB (hK _ _ ⟨hB, ?_, ?_, ?_, ?_, ?_⟩ (.inr (Keep.refl _)))
      · intro h; simp only [updB, if_neg n4] at h ⊢; exact k2 h
      · intro h h'; simp only [updB, upd, if_neg n4, if_neg n6.symm] at h h' ⊢; exact k3 h h'
      · intro h; simp only [upd, if_true]
      · intro h; simp only [updB, upd, if_neg n6.symm] at h ⊢; exact k5 h
      · intro h; simp only [updB, if_neg n6.symm, if_neg n4] at h ⊢; exact k6 h
    · intro L us w hnot hdep hI K hK
      obtain ⟨hB, k2, k3, k4, k5, k6⟩ := hI
      have hL1 : L i1 = true := hdep i1 (by simp)
      have hLd : L id = true := hdep id (by simp)
      have hown := k3 hL1 hnot
      have hsz' := Nat.le_trans hN hB.size
      refine exec_app s2 x2 o2 ht hi hz hsz hby hsz' (e2 us) hown (f2 us) (by rw [k4 hLd]; exact src _ hB) (by simp; omega) ?_
      intro v' w' h1 h2
      rw [t2]
      have hB' : Below N w w' := (Below.refl _ _).grown h2 hsz' (fun q hq => (hown.lt q hq).1)
      refine hK _ _ ⟨hB.trans hB', ?_, ?_, ?_, ?_, ?_⟩ (.inl hX2)
      · intro h; simp only [updB, if_neg n5] at h; rw [hL1] at h; cases h
      · intro _ h; simp [updB] at h
      · intro h; simp only [updB, upd, if_neg n6] at h ⊢; exact k4 h
      · intro _; simp only [upd, if_true]; exact h1
      · intro _; simp only [updB, if_neg n5]; exact hL1
  · intro L us w hall hI
    obtain ⟨hB, k2, k3, k4, k5, k6⟩ := hI
    exact last us w hB (k5 (hall ⟨i2, d2, [i1, id], false, J4⟩ (by simp)))
end Go.Rg
