/- A reader and the frame that it fills, at work. -/
import Derived.Test.YtipniobgijdlkaaMga6
import Derived.Test.YtipniobgijdlkaaLibP
namespace Frm
open Go Go.RowKit Go.Rw Hdr
/-- A reader at B and the frame that it fills, at Bf; all that stood at wS, but these two, is as it was. -/
structure FS (b : List UInt8) (w0 : World) (vb : Value) (B Bf N : Nat) (tr tb : TypeId) (wS : World) (w : World) (s : Nat × Int) (f : Fr) : Prop where
  rs : RS b w0 vb B w s
  fa : ∃ vr vd vc vt, FA N tr tb Bf w vr vd vc vt f
  ne : Bf ≠ B
  hB : B < N
  hBf : Bf < N
  low : w0.heap.size ≤ Bf
  hN : N ≤ w.heap.size
  kept : Mut2 B Bf wS w
variable {b : List UInt8} {w0 : World} {vb : Value} {B Bf N : Nat} {tr tb : TypeId} {wS w w' : World} {s s' : Nat × Int} {f : Fr}
theorem FS.step (h : FS b w0 vb B Bf N tr tb wS w s f) (m : Mut B w w') (r : RS b w0 vb B w' s') : FS b w0 vb B Bf N tr tb wS w' s' f := by
  obtain ⟨vr, vd, vc, vt, fa⟩ := h.fa
  exact ⟨r, ⟨vr, vd, vc, vt, fa.mut m h.ne h.hB⟩, h.ne, h.hB, h.hBf, h.low, Nat.le_trans h.hN m.size, h.kept.trans (m.left Bf)⟩
theorem FS.cells (h : FS b w0 vb B Bf N tr tb wS w s f) : (∃ vr vd vc vt, row? w Bf = some (fvA f.k f.n f.d vr f.i f.o f.fin vd vc vt)) ∧ ∀ j, w.frozen? ⟨Bf, j, none⟩ = false := by
  obtain ⟨vr, vd, vc, vt, fa⟩ := h.fa
  exact ⟨⟨vr, vd, vc, vt, fa.row⟩, row?_frozen fa.row⟩
theorem FS.set_k (h : FS b w0 vb B Bf N tr tb wS w s f) (x : Int) : FS b w0 vb B Bf N tr tb wS (w.setCell ⟨Bf, 0, none⟩ (.int .i64 x)) s { f with k := x } := by
  obtain ⟨vr, vd, vc, vt, fa⟩ := h.fa
  have m : Mut Bf w (w.setCell ⟨Bf, 0, none⟩ (.int .i64 x)) := (Mut.refl _ _).setCell _ _ _
  exact ⟨h.rs.far m h.ne.symm h.low, ⟨vr, vd, vc, vt, fa.set h.hBf 0 (.int .i64 x) rfl fa.rs fa.dat fa.cid fa.tok⟩, h.ne, h.hB, h.hBf, h.low, Nat.le_trans h.hN m.size, h.kept.trans (m.right B)⟩
theorem FS.set_n (h : FS b w0 vb B Bf N tr tb wS w s f) (x : Nat) : FS b w0 vb B Bf N tr tb wS (w.setCell ⟨Bf, 1, none⟩ (.int .u64 (x : Nat))) s { f with n := x } := by
  obtain ⟨vr, vd, vc, vt, fa⟩ := h.fa
  have m : Mut Bf w (w.setCell ⟨Bf, 1, none⟩ (.int .u64 (x : Nat))) := (Mut.refl _ _).setCell _ _ _
  exact ⟨h.rs.far m h.ne.symm h.low, ⟨vr, vd, vc, vt, fa.set h.hBf 1 (.int .u64 (x : Nat)) rfl fa.rs fa.dat fa.cid fa.tok⟩, h.ne, h.hB, h.hBf, h.low, Nat.le_trans h.hN m.size, h.kept.trans (m.right B)⟩
theorem FS.set_d (h : FS b w0 vb B Bf N tr tb wS w s f) (x : Nat) : FS b w0 vb B Bf N tr tb wS (w.setCell ⟨Bf, 2, none⟩ (.int .u64 (x : Nat))) s { f with d := x } := by
  obtain ⟨vr, vd, vc, vt, fa⟩ := h.fa
  have m : Mut Bf w (w.setCell ⟨Bf, 2, none⟩ (.int .u64 (x : Nat))) := (Mut.refl _ _).setCell _ _ _
  exact ⟨h.rs.far m h.ne.symm h.low, ⟨vr, vd, vc, vt, fa.set h.hBf 2 (.int .u64 (x : Nat)) rfl fa.rs fa.dat fa.cid fa.tok⟩, h.ne, h.hB, h.hBf, h.low, Nat.le_trans h.hN m.size, h.kept.trans (m.right B)⟩
theorem FS.set_i (h : FS b w0 vb B Bf N tr tb wS w s f) (x : Nat) : FS b w0 vb B Bf N tr tb wS (w.setCell ⟨Bf, 4, none⟩ (.int .u64 (x : Nat))) s { f with i := x } := by
  obtain ⟨vr, vd, vc, vt, fa⟩ := h.fa
  have m : Mut Bf w (w.setCell ⟨Bf, 4, none⟩ (.int .u64 (x : Nat))) := (Mut.refl _ _).setCell _ _ _
  exact ⟨h.rs.far m h.ne.symm h.low, ⟨vr, vd, vc, vt, fa.set h.hBf 4 (.int .u64 (x : Nat)) rfl fa.rs fa.dat fa.cid fa.tok⟩, h.ne, h.hB, h.hBf, h.low, Nat.le_trans h.hN m.size, h.kept.trans (m.right B)⟩
theorem FS.set_o (h : FS b w0 vb B Bf N tr tb wS w s f) (x : Nat) : FS b w0 vb B Bf N tr tb wS (w.setCell ⟨Bf, 5, none⟩ (.int .u64 (x : Nat))) s { f with o := x } := by
  obtain ⟨vr, vd, vc, vt, fa⟩ := h.fa
  have m : Mut Bf w (w.setCell ⟨Bf, 5, none⟩ (.int .u64 (x : Nat))) := (Mut.refl _ _).setCell _ _ _
  exact ⟨h.rs.far m h.ne.symm h.low, ⟨vr, vd, vc, vt, fa.set h.hBf 5 (.int .u64 (x : Nat)) rfl fa.rs fa.dat fa.cid fa.tok⟩, h.ne, h.hB, h.hBf, h.low, Nat.le_trans h.hN m.size, h.kept.trans (m.right B)⟩
theorem FS.set_fin (h : FS b w0 vb B Bf N tr tb wS w s f) (x : Bool) : FS b w0 vb B Bf N tr tb wS (w.setCell ⟨Bf, 6, none⟩ (.bool x)) s { f with fin := x } := by
  obtain ⟨vr, vd, vc, vt, fa⟩ := h.fa
  have m : Mut Bf w (w.setCell ⟨Bf, 6, none⟩ (.bool x)) := (Mut.refl _ _).setCell _ _ _
  exact ⟨h.rs.far m h.ne.symm h.low, ⟨vr, vd, vc, vt, fa.set h.hBf 6 (.bool x) rfl fa.rs fa.dat fa.cid fa.tok⟩, h.ne, h.hB, h.hBf, h.low, Nat.le_trans h.hN m.size, h.kept.trans (m.right B)⟩
theorem FS.set_dat (h : FS b w0 vb B Bf N tr tb wS w s f) (x : Value) (l : List UInt8) (ho : w.ownsRow N tb 1 x l.length (l.map bv)) : FS b w0 vb B Bf N tr tb wS (w.setCell ⟨Bf, 7, none⟩ x) s { f with dat := l } := by
  obtain ⟨vr, vd, vc, vt, fa⟩ := h.fa
  have m : Mut Bf w (w.setCell ⟨Bf, 7, none⟩ x) := (Mut.refl _ _).setCell _ _ _
  exact ⟨h.rs.far m h.ne.symm h.low, ⟨vr, x, vc, vt, fa.set h.hBf 7 x rfl fa.rs ho fa.cid fa.tok⟩, h.ne, h.hB, h.hBf, h.low, Nat.le_trans h.hN m.size, h.kept.trans (m.right B)⟩
theorem FS.set_cid (h : FS b w0 vb B Bf N tr tb wS w s f) (x : Value) (l : List UInt8) (ho : w.ownsRow N tb 1 x l.length (l.map bv)) : FS b w0 vb B Bf N tr tb wS (w.setCell ⟨Bf, 8, none⟩ x) s { f with cid := l } := by
  obtain ⟨vr, vd, vc, vt, fa⟩ := h.fa
  have m : Mut Bf w (w.setCell ⟨Bf, 8, none⟩ x) := (Mut.refl _ _).setCell _ _ _
  exact ⟨h.rs.far m h.ne.symm h.low, ⟨vr, vd, x, vt, fa.set h.hBf 8 x rfl fa.rs fa.dat ho fa.tok⟩, h.ne, h.hB, h.hBf, h.low, Nat.le_trans h.hN m.size, h.kept.trans (m.right B)⟩
theorem FS.set_tok (h : FS b w0 vb B Bf N tr tb wS w s f) (x : Value) (l : List UInt8) (ho : w.ownsRow N tb 1 x l.length (l.map bv)) : FS b w0 vb B Bf N tr tb wS (w.setCell ⟨Bf, 9, none⟩ x) s { f with tok := l } := by
  obtain ⟨vr, vd, vc, vt, fa⟩ := h.fa
  have m : Mut Bf w (w.setCell ⟨Bf, 9, none⟩ x) := (Mut.refl _ _).setCell _ _ _
  exact ⟨h.rs.far m h.ne.symm h.low, ⟨vr, vd, vc, x, fa.set h.hBf 9 x rfl fa.rs fa.dat fa.cid ho⟩, h.ne, h.hB, h.hBf, h.low, Nat.le_trans h.hN m.size, h.kept.trans (m.right B)⟩
end Frm
