/- FrmH; FrmW2. -/
import Derived.Test.YthjbmggpleliaaaGreatDoorMhb36
import Derived.Test.YthjbmggpleliaaaGreatDoorMhb4
import Derived.Test.YthjbmggpleliaaaGreatDoorMhb18
import Derived.Test.YthjbmggpleliaaaGreatDoorMhb21
section
namespace Frm
open Go Go.RowKit Go.Rw Hdr
structure FS (b : List UInt8) (w0 : World) (vb : Value) (B Bf N : Nat) (tr tb : TypeId) (wS : World) (w : World) (s : Nat × Int) (f : Fr) : Prop where
 rs : RS b w0 vb B w s
 fa : ∃ vr vd vc vt, FA N tr tb Bf w vr vd vc vt f
 ne : Bf ≠ B
 hB : B < N
 hBf : Bf < N
 low : w0.heap.size ≤ Bf
 hN : N ≤ w.heap.size
 kept : Mut2 B Bf wS w
variable {b : List UInt8} {w0 : World} {vb : Value} {B Bf N : Nat} {tr tb : TypeId} {wS w w' : World} {s s' : Nat × Int} {f : Fr}
theorem FS.step (h : FS b w0 vb B Bf N tr tb wS w s f) (m : Mut B w w') (r : RS b w0 vb B w' s') : FS b w0 vb B Bf N tr tb wS w' s' f := by
 obtain ⟨vr, vd, vc, vt, fa⟩ := h.fa
 exact ⟨r, ⟨vr, vd, vc, vt, fa.mut m h.ne h.hB⟩, h.ne, h.hB, h.hBf, h.low, Nat.le_trans h.hN m.size, h.kept.trans (m.left Bf)⟩
theorem FS.cells (h : FS b w0 vb B Bf N tr tb wS w s f) : (∃ vr vd vc vt, row? w Bf = some (fvA f.k f.n f.d vr f.i f.o f.fin vd vc vt)) ∧ ∀ j, w.frozen? ⟨Bf, j, none⟩ = false := by
 obtain ⟨vr, vd, vc, vt, fa⟩ := h.fa
 exact ⟨⟨vr, vd, vc, vt, fa.row⟩, row?_frozen fa.row⟩
end Frm

end
section


end
