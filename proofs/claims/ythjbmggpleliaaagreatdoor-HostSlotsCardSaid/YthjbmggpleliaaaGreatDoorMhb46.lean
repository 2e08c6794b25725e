/- LibT; FrmJ2. -/
import Derived.Test.YthjbmggpleliaaaGreatDoorMhb44
import Derived.Test.YthjbmggpleliaaaGreatDoorMhb4
import Derived.Test.YthjbmggpleliaaaGreatDoorMhb45
section
namespace Frm
open Go Go.RowKit Go.Rw Hdr
def OF2 (w : World) (N : Nat) (tF : TypeId) (v : Value) (fs : List Fr) (g : Option Nat) : Prop :=
 ∃ As : List (Array Value), As.length = fs.length ∧ w.ownsRow N tF 10 v fs.length (As.flatMap Array.toList) ∧ (∀ k, k < fs.length → FvA w v.ownBlock (As.getD k #[]) (fs.getD k fr0)) ∧
  (∀ k, k < fs.length → FvA w g (As.getD k #[]) (fs.getD k fr0)) ∧ ∀ k, v.ownBlock = some k → some k ≠ g
theorem OF2.fs {w : World} {N : Nat} {tF : TypeId} {v : Value} {fs : List Fr} {g : Option Nat} (h : OF2 w N tF v fs g) : OwnFs w N tF v fs := by
 obtain ⟨As, h1, h2, h3, _, _⟩ := h
 exact ⟨As, h1, h2, h3⟩
theorem OF2.nil (w : World) (N : Nat) (tF : TypeId) (g : Option Nat) : OF2 w N tF (.slice none 0 0) [] g :=
 ⟨[], rfl, World.ownsRow_nil _ _ _ _, fun k hk => by simp at hk, fun k hk => by simp at hk, fun k hk => by cases hk⟩
theorem OF2.below {w w' : World} {N : Nat} {tF : TypeId} {v : Value} {fs : List Fr} {g : Option Nat} (h : OF2 w N tF v fs g) (hb : Below w.heap.size w w') : OF2 w' N tF v fs g := by
 obtain ⟨As, hl, ho, hf, hf2, hne⟩ := h
 exact ⟨As, hl, ho.kept (row := none) ⟨hb.os, hb.tape, hb.output, hb.size, fun k hk _ => hb.block k hk⟩ (by cases v.ownBlock <;> simp), fun k hk => (hf k hk).below hb, fun k hk => (hf2 k hk).below hb, hne⟩
theorem FvA.other {w w' : World} {g g' : Option Nat} {A : Array Value} {f : Fr} (h : FvA w g A f) (h2 : FvA w g' A f) (hb : w.grownBy w' g) : FvA w' g' A f := by
 obtain ⟨vr, vd, vc, vt, rfl, ⟨h1, h2', h3, h4⟩, p1, p2, p3, p4⟩ := h
 obtain ⟨ur, ud, uc, ut, e, _, q1, q2, q3, q4⟩ := h2
 have e3 := congrArg (fun A : Array Value => A[3]?) e
 have e7 := congrArg (fun A : Array Value => A[7]?) e
 have e8 := congrArg (fun A : Array Value => A[8]?) e
 have e9 := congrArg (fun A : Array Value => A[9]?) e
 simp only [fvA_3, fvA_7, fvA_8, fvA_9, Option.some.injEq] at e3 e7 e8 e9
 subst e3 e7 e8 e9
 exact ⟨vr, vd, vc, vt, rfl, ⟨h1.grown hb p1, slGrown h2' hb p2, slGrown h3 hb p3, slGrown h4 hb p4⟩, q1, q2, q3, q4⟩
theorem OF2.turn {w w' : World} {N : Nat} {tF : TypeId} {v : Value} {fs : List Fr} {g g' : Option Nat} (h : OF2 w N tF v fs g) (hb : w.grownBy w' g) (hg : g' = g ∨ ∀ k, g' = some k → w.heap.size ≤ k) : OF2 w' N tF v fs g' := by
 obtain ⟨As, hl, ho, hf, hf2, hne⟩ := h
 refine ⟨As, hl, ho.kept hb ?_, fun k hk => (hf2 k hk).other (hf k hk) hb, fun k hk => ?_, fun k hk => ?_⟩
 ·cases hv : v.ownBlock with
  | none => exact .inl rfl
  | some k => exact .inr (hne k hv)
 ·rcases hg with rfl | hg
  ·exact (hf2 k hk).grown hb
  ·exact (hf2 k hk).turn hb hg
 ·rcases hg with rfl | hg
  ·exact hne k hk
  ·intro e
   have := hg k e.symm
   have := (ho.lt k hk).2
   omega
end Frm

end
section
namespace Frm
open Go Go.RowKit Go.Rw Hdr
def GoodF (f : Fr) : Prop := f.may = true ∧ f.k ≠ 0 ∧ f.fits ∧ f.put.length ≤ 2000
theorem GoodF.laid {f : Fr} (h : GoodF f) : f.laid = f.put := by unfold Fr.laid; rw [if_pos h.1]
def zF : Array Value := fvA 0 0 0 (.slice none 0 0) 0 0 false (.slice none 0 0) (.slice none 0 0) (.slice none 0 0)
def FvN (M : Nat) (w : World) (A : Array Value) (f : Fr) : Prop := ∀ g : Option Nat, (∀ k, g = some k → k < M ∨ row? w k = some zF) → FvA w g A f
theorem FvN.no {M : Nat} {w : World} {A : Array Value} {f : Fr} (h : FvN M w A f) : FvA w none A f := h none (fun k e => by cases e)
theorem FvN.below {M : Nat} {w w' : World} {A : Array Value} {f : Fr} (h : FvN M w A f) (hb : Below w.heap.size w w') : FvN M w' A f := by
 intro g hg
 cases g with
 | none => exact h.no.below hb
 | some k =>
  by_cases hk : k < w.heap.size
  ·refine (h (some k) fun k' e => ?_).below hb
   cases e
   rcases hg k rfl with h1 | h1
   ·exact .inl h1
   ·right; rw [← row?_below hb hk]; exact h1
  ·exact (h.no.new (g' := some k) (fun k' e => by cases e; omega)).below hb
theorem FvN.fv {M : Nat} {w : World} {A : Array Value} {f : Fr} (h : FvN M w A f) : Fv w (.agg A) f := h.no.fv
theorem FvN.size {M : Nat} {w : World} {A : Array Value} {f : Fr} (h : FvN M w A f) : A.size = 10 ∧ allOne A = true := h.no.size
def Row8 (M : Nat) (w : World) (B : Nat) : Prop :=
 ∃ As : List (Array Value), As.length = 8 ∧ row? w B = some (As.flatMap Array.toList).toArray ∧ ∀ k, k < 8 → ∃ f, FvN M w (As.getD k #[]) f ∧ GoodF f
theorem Row8.stable {M : Nat} {w w' : World} {B : Nat} (h : Row8 M w B) (hb : Below w.heap.size w w') : Row8 M w' B := by
 obtain ⟨As, h1, h2, h3⟩ := h
 exact ⟨As, h1, Rg.stable_row hb h2, fun k hk => by obtain ⟨f, a, b⟩ := h3 k hk; exact ⟨f, a.below hb, b⟩⟩
theorem Row8.get {M : Nat} {w : World} {B : Nat} (h : Row8 M w B) (k : Nat) (hk : k < 8) : ∃ A f, FvN M w A f ∧ GoodF f ∧ A.size = 10 ∧ ∀ j, j < 10 → w.cell? ⟨B, k * 10 + j, none⟩ = A[j]? := by
 obtain ⟨As, h1, h2, h3⟩ := h
 obtain ⟨f, a, b⟩ := h3 k hk
 refine ⟨_, f, a, b, a.size.1, fun j hj => ?_⟩
 have hsz : ∀ q, q < As.length → (As.getD q #[]).size = 10 := fun q hq => by obtain ⟨_, x, _⟩ := h3 q (by omega); exact x.size.1
 rw [row?_cell h2, ← flat_get As k (by omega) hsz j hj]
 simp
def JD (M m : Nat) (v : Value) (w : World) : Prop := ∃ l B, v = .slice (some ⟨B, 0, none⟩) l.length l.length ∧ l.length = m ∧ M ≤ B ∧ row? w B = some (bvs l)
def JF (M : Nat) (v : Value) (w : World) : Prop := ∃ A f, v = .agg A ∧ FvN M w A f ∧ GoodF f
def JR (M x n : Nat) (v : Value) (w : World) : Prop := ∃ B, v = .slice (some ⟨B, 0, none⟩) 1 1 ∧ M ≤ B ∧ row? w B = some #[.int .u64 (x : Nat), .int .u64 (n : Nat)]
def JS (M : Nat) (v : Value) (w : World) : Prop := ∃ B, v = .slice (some ⟨B, 0, none⟩) 8 8 ∧ Row8 M w B
def JP (M j : Nat) (v : Value) (w : World) : Prop := ∃ B, v = .pointer (some ⟨B, j * 10, none⟩) ∧ Row8 M w B
def JZ (v : Value) (w : World) : Prop := ∃ B, v = .pointer (some ⟨B, 0, none⟩) ∧ row? w B = some zF
theorem JD.stable {M m : Nat} {v : Value} {w w' : World} (hb : Below w.heap.size w w') (h : JD M m v w) : JD M m v w' := by
 obtain ⟨l, B, h1, h2, h3, h4⟩ := h; exact ⟨l, B, h1, h2, h3, Rg.stable_row hb h4⟩
theorem JF.stable {M : Nat} {v : Value} {w w' : World} (hb : Below w.heap.size w w') (h : JF M v w) : JF M v w' := by
 obtain ⟨A, f, h1, h2, h3⟩ := h; exact ⟨A, f, h1, h2.below hb, h3⟩
theorem JR.stable {M x n : Nat} {v : Value} {w w' : World} (hb : Below w.heap.size w w') (h : JR M x n v w) : JR M x n v w' := by
 obtain ⟨B, h1, h2, h3⟩ := h; exact ⟨B, h1, h2, Rg.stable_row hb h3⟩
theorem JS.stable {M : Nat} {v : Value} {w w' : World} (hb : Below w.heap.size w w') (h : JS M v w) : JS M v w' := by
 obtain ⟨B, h1, h2⟩ := h; exact ⟨B, h1, h2.stable hb⟩
theorem JP.stable {M j : Nat} {v : Value} {w w' : World} (hb : Below w.heap.size w w') (h : JP M j v w) : JP M j v w' := by
 obtain ⟨B, h1, h2⟩ := h; exact ⟨B, h1, h2.stable hb⟩
theorem JZ.stable {v : Value} {w w' : World} (hb : Below w.heap.size w w') (h : JZ v w) : JZ v w' := by
 obtain ⟨B, h1, h2⟩ := h; exact ⟨B, h1, Rg.stable_row hb h2⟩
theorem meas {n i : Nat} (h : i < n) : n - (intOf (Value.int .i64 ((i : Int) + 1))).toNat < n - (intOf (Value.int .i64 (i : Nat))).toNat := by
 simp [intOf]; omega
end Frm

end
