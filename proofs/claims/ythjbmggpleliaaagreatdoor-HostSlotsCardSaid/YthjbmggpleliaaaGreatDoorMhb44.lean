/- FrmE; FrmS1; FrmN; LibG2. -/
import Derived.Test.YthjbmggpleliaaaGreatDoorMhb36
import Derived.Test.YthjbmggpleliaaaGreatDoorMhb21
import Derived.Laws.StructEq
import Derived.Test.YthjbmggpleliaaaGreatDoorMhb40
import Derived.Test.YthjbmggpleliaaaGreatDoorMhb43
section


end
section


end
section
namespace Frm
open Go Go.RowKit Go.Rw Hdr
theorem flat_get (As : List (Array Value)) : ∀ (k : Nat), k < As.length → (∀ q, q < As.length → (As.getD q #[]).size = 10) → ∀ j, j < 10 → (As.flatMap Array.toList)[k * 10 + j]? = (As.getD k #[])[j]? := by
 induction As with
 | nil => intro k hk; simp at hk
 | cons A As ih =>
  intro k hk hs j hj
  have hA : A.size = 10 := hs 0 (by simp)
  rw [List.flatMap_cons]
  cases k with
  | zero =>
   rw [Nat.zero_mul, Nat.zero_add, List.getElem?_append_left (by rw [Array.length_toList, hA]; exact hj), Array.getElem?_toList]
   rfl
  | succ k =>
   rw [List.getElem?_append_right (by rw [Array.length_toList, hA]; omega), Array.length_toList, hA]
   have := ih k (by simpa using hk) (fun q hq => by have := hs (q + 1) (by simpa using hq); simpa using this) j hj
   rw [show (k + 1) * 10 + j - 10 = k * 10 + j by omega, this]
   simp [List.getD]
theorem OwnFs.get {w : World} {N : Nat} {tF : TypeId} {v : Value} {fs : List Fr} (h : OwnFs w N tF v fs) (k : Nat) (hk : k < fs.length) :
  ∃ g cap A, v = .slice (some ⟨g, 0, none⟩) fs.length cap ∧ FvA w v.ownBlock A (fs.getD k fr0) ∧ A.size = 10 ∧ ∀ j, j < 10 → w.cell? ⟨g, k * 10 + j, none⟩ = A[j]? := by
 obtain ⟨As, hl, ho, hf⟩ := h
 have hsz : ∀ q, q < As.length → (As.getD q #[]).size = 10 := fun q hq => (hf q (by omega)).size.1
 rcases ho.2 with ⟨rfl, h0⟩ | ⟨g, cap, cur, rfl, hb, hg, hnc, hcm, hcs, htake⟩
 ·omega
 ·refine ⟨g, cap, _, rfl, hf k hk, (hf k hk).size.1, fun j hj => ?_⟩
  rw [cell_of_row w g _ cur _ (0, 0) hg, ← flat_get As k (by omega) hsz j hj, ← htake, List.getElem?_take, if_pos (by omega), Array.getElem?_toList]
theorem load_ten {P : Program} {t : Nat} (A0 : Agg P t 10) (w : World) (b o : Nat) (A : Array Value) (hA : A.size = 10) (hc : ∀ j, j < 10 → w.cell? ⟨b, o + j, none⟩ = A[j]?) :
  (loadAgg t (.pointer (some ⟨b, o, none⟩))).run P w = .ok (.agg A) w := by
 obtain ⟨d, hu, hd⟩ := A0.und
 have := run_loadAt_mid (P := P) w b o t A.toList d (fun j v hv => by
  have hj : j < 10 := by have := (List.getElem?_eq_some_iff.1 hv).1; simpa [hA] using this
  rw [hc j hj, ← Array.getElem?_toList]; exact hv) hu hd (by rw [A0.size]; simp [hA])
 rw [Array.toArray_toList] at this
 exact this
def frA : Fr := ⟨8, 0, 0, [], 2, 70, true, [97, 98], [], []⟩
def frZ2 : Fr := ⟨0, 2, 0, [], 0, 0, false, [], [], []⟩
structure AS (w : World) (b1 : Nat) (F : Array Value) (b2 : Nat) (G : Array Value) (w' : World) : Prop where
 r1 : row? w' b1 = some F
 r2 : row? w' b2 = some G
 f1 : Fv w' (.agg F) frA
 f2 : Fv w' (.agg G) frA
 bel : Below w.heap.size w w'
theorem AS.step {w : World} {b1 b2 : Nat} {F G : Array Value} {w' w'' : World} (h : AS w b1 F b2 G w') (hb : Below w'.heap.size w' w'') : AS w b1 F b2 G w'' :=
 ⟨by rw [row?_below hb (row?_lt h.r1)]; exact h.r1, by rw [row?_below hb (row?_lt h.r2)]; exact h.r2, h.f1.below hb, h.f2.below hb, h.bel.trans (hb.mono h.bel.size)⟩
theorem AS.alloc {w : World} {b1 b2 : Nat} {F G : Array Value} {w' : World} (h : AS w b1 F b2 G w') (A : Array Value) (t : TypeId) : AS w b1 F b2 G (w'.alloc (.cells A t)) :=
 h.step ((Below.refl _ _).alloc (Nat.le_refl _) _)
structure BS (w : World) (b1 : Nat) (F : Array Value) (b2 : Nat) (G : Array Value) (g : Nat) (A : Array Value) (w' : World) : Prop where
 pr : AS w b1 F b2 G w'
 fz : Fv w' (.agg A) frZ2
 hA : A.size = 10
 cz : ∀ j, j < 10 → w'.cell? ⟨g, 0 + j, none⟩ = A[j]?
theorem BS.step {w : World} {b1 b2 g : Nat} {F G A : Array Value} {w' w'' : World} (h : BS w b1 F b2 G g A w') (hb : Below w'.heap.size w' w'') : BS w b1 F b2 G g A w'' :=
 ⟨h.pr.step hb, h.fz.below hb, h.hA, fun j hj => by
  have h0 := h.cz j hj
  obtain ⟨v, hv⟩ : ∃ v, A[j]? = some v := ⟨A[j]'(by rw [h.hA]; exact hj), Array.getElem?_eq_getElem _⟩
  rw [hv] at h0 ⊢
  exact below_cell hb h0 (cell_lt h0)⟩
end Frm
namespace Go.Proofs.YthjbmggpleliaaaGreatDoor
open Go.RowKit Go.Rw Frm Hdr
attribute [local go_sem ↓] ldFF stFF alFF
attribute [local go_sem] rldFF rstFF ralFF setRow_alloc_at setRow_alloc_past setRow_drew
theorem buildFA (ao : Option Addr) (m cap : Nat) (w : World) : (buildQ 159 #[(0, .int .i64 8), (4, .int .u64 2), (5, .int .u64 70), (6, .bool true), (7, .slice ao m cap)]).run Tryz.prog w = .ok (.agg (fvA 8 0 0 (.slice none 0 0) 2 70 true (.slice ao m cap) (.slice none 0 0) (.slice none 0 0))) w := Go.run_build w _ _ _ (by kernel_rfl)
attribute [local go_sem ↓] bdFQ
attribute [local go_sem] buildFA
end Go.Proofs.YthjbmggpleliaaaGreatDoor

end
section
namespace Frm
open Go Go.RowKit Go.Rw Hdr
def Fsl (w : World) (v : Value) (fs : List Fr) : Prop :=
 ∃ ao cap, v = .slice ao fs.length cap ∧ (0 < fs.length → ∃ b off, ao = some ⟨b, off, none⟩ ∧ ∀ k, k < fs.length → ∃ A : Array Value, A.size = 10 ∧ Fv w (.agg A) (fs.getD k fr0) ∧ ∀ j, j < 10 → w.cell? ⟨b, off + k * 10 + j, none⟩ = A[j]?)
theorem Fsl.nil (w : World) : Fsl w (.slice none 0 0) [] := ⟨none, 0, rfl, fun h => by simp at h⟩
theorem tenb {w w' : World} {b o : Nat} {A : Array Value} (h : ∀ j, j < 10 → w.cell? ⟨b, o + j, none⟩ = A[j]?) (hA : A.size = 10) (hb : Below w.heap.size w w') : ∀ j, j < 10 → w'.cell? ⟨b, o + j, none⟩ = A[j]? := by
 intro j hj
 have hs : A[j]? = some A[j] := Array.getElem?_eq_getElem (by omega)
 have hc := (h j hj).trans hs
 rw [hs]
 exact below_cell hb hc (cell_lt hc)
theorem Fsl.below {w w' : World} {v : Value} {fs : List Fr} (h : Fsl w v fs) (hb : Below w.heap.size w w') : Fsl w' v fs := by
 obtain ⟨ao, cap, rfl, hp⟩ := h
 refine ⟨ao, cap, rfl, fun h0 => ?_⟩
 obtain ⟨b, off, rfl, hc⟩ := hp h0
 refine ⟨b, off, rfl, fun k hk => ?_⟩
 obtain ⟨A, hA, fv, hj⟩ := hc k hk
 exact ⟨A, hA, fv.below hb, tenb hj hA hb⟩
theorem Fv.fva {w : World} {A : Array Value} {f : Fr} (h : Fv w (.agg A) f) (g : Option Nat) (hg : ∀ k, g = some k → w.heap.size ≤ k) : FvA w g A f := by
 obtain ⟨vr, vd, vc, vt, e, h1, h2, h3, h4⟩ := h
 injection e with e
 exact ⟨vr, vd, vc, vt, e, ⟨h1, h2, h3, h4⟩, ap_new hg (sr_lt h1), ap_new hg (sl_lt h2), ap_new hg (sl_lt h3), ap_new hg (sl_lt h4)⟩
end Frm

end
