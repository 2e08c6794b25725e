/- A slice of frames that is lent. -/
import Derived.Test.YtipniobgijdlkaaMgs19
namespace Frm
open Go Go.RowKit Go.Rw Hdr
/-- A value is a slice of frames that lie so. -/
def Fsl (w : World) (v : Value) (fs : List Fr) : Prop :=
  ∃ ao cap, v = .slice ao fs.length cap ∧ (0 < fs.length → ∃ b off, ao = some ⟨b, off, none⟩ ∧ ∀ k, k < fs.length → ∃ A : Array Value, A.size = 10 ∧ Fv w (.agg A) (fs.getD k fr0) ∧ ∀ j, j < 10 → w.cell? ⟨b, off + k * 10 + j, none⟩ = A[j]?)
theorem Fsl.nil (w : World) : Fsl w (.slice none 0 0) [] := ⟨none, 0, rfl, fun h => by simp at h⟩
theorem tenb {w w' : World} {b o : Nat} {A : Array Value} (h : ∀ j, j < 10 → w.cell? ⟨b, o + j, none⟩ = A[j]?) (hA : A.size = 10) (hb : Below w.heap.size w w') : ∀ j, j < 10 → w'.cell? ⟨b, o + j, none⟩ = A[j]? := by
  intro j hj
  have hs : A[j]? = some A[j] := Array.getElem?_eq_getElem (by omega)
  have hc := (h j hj).trans hs
  rw [hs]
  exact below_cell hb hc (cell_lt hc)
theorem Fsl.below {w w' : World} {v : Value} {fs : List Fr} (h : Fsl w v fs) (hb : Below w.heap.size w w') : Fsl w' v fs := by
  obtain ⟨ao, cap, rfl, hp⟩ := h
  refine ⟨ao, cap, rfl, fun h0 => ?_⟩
  obtain ⟨b, off, rfl, hc⟩ := hp h0
  refine ⟨b, off, rfl, fun k hk => ?_⟩
  obtain ⟨A, hA, fv, hj⟩ := hc k hk
  exact ⟨A, hA, fv.below hb, tenb hj hA hb⟩
/-- A frame's value whose slices lie below M, in no block from M on. -/
theorem Fv.fva {w : World} {A : Array Value} {f : Fr} (h : Fv w (.agg A) f) (g : Option Nat) (hg : ∀ k, g = some k → w.heap.size ≤ k) : FvA w g A f := by
  obtain ⟨vr, vd, vc, vt, e, h1, h2, h3, h4⟩ := h
  injection e with e
  exact ⟨vr, vd, vc, vt, e, ⟨h1, h2, h3, h4⟩, ap_new hg (sr_lt h1), ap_new hg (sl_lt h2), ap_new hg (sl_lt h3), ap_new hg (sl_lt h4)⟩
end Frm
