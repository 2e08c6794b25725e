/- What stays where a call writes one block alone. Over any program. -/
import Derived.Test.YtjlpppnpdgenfaaMvb1
namespace Go.Rw
open Go Go.RowKit
structure Mut (B : Nat) (w w' : World) : Prop where
 os : w'.os = w.os
 tape : w'.tape = w.tape
 output : w'.output = w.output
 size : w.heap.size ≤ w'.heap.size
 block : ∀ k, k < w.heap.size → k ≠ B → w'.heap[k]? = w.heap[k]?
theorem Mut.refl (B : Nat) (w : World) : Mut B w w := ⟨rfl, rfl, rfl, Nat.le_refl _, fun _ _ _ => rfl⟩
theorem Mut.trans {B : Nat} {a b c : World} (h : Mut B a b) (k : Mut B b c) : Mut B a c :=
 ⟨k.os.trans h.os, k.tape.trans h.tape, k.output.trans h.output, Nat.le_trans h.size k.size, fun i hi hn => (k.block i (Nat.lt_of_lt_of_le hi h.size) hn).trans (h.block i hi hn)⟩
theorem Mut.of_below {B : Nat} {w w' : World} (h : Below w.heap.size w w') : Mut B w w' := ⟨h.os, h.tape, h.output, h.size, fun k hk _ => h.block k hk⟩
theorem Mut.drew {B : Nat} {w w' : World} (h : Mut B w w') : Mut B w w'.drew := h.trans (Mut.of_below (Below.refl _ _).drew)
theorem Mut.setCell {B : Nat} {w w' : World} (h : Mut B w w') (i : Nat) (p : Option _) (v : Value) : Mut B w (w'.setCell ⟨B, i, p⟩ v) := by
 have k : Below B w' (w'.setCell ⟨B, i, p⟩ v) := (Below.refl _ _).setCell (p := ⟨B, i, p⟩) (Nat.le_refl _) v
 refine ⟨k.os.trans h.os, k.tape.trans h.tape, k.output.trans h.output, Nat.le_trans h.size k.size, fun j hj hn => ?_⟩
 rw [← h.block j hj hn]
 exact Below.heap_setCell w' ⟨B, i, p⟩ v j hn
theorem Mut.setRow {B : Nat} {w w' : World} (h : Mut B w w') (c : Array Value) : Mut B w (w'.setRow B c) :=
 ⟨h.os, h.tape, h.output, by simpa using h.size, fun k hk hn => by rw [setRow_other w' B k c hn]; exact h.block k hk hn⟩
theorem Mut.below {B N : Nat} {w w' : World} (h : Mut B w w') (hN : N ≤ B) (hs : N ≤ w.heap.size) : Below N w w' :=
 ⟨h.os, h.tape, h.output, h.size, fun k hk => h.block k (Nat.lt_of_lt_of_le hk hs) (by omega)⟩
theorem Mut.row {B b : Nat} {w w' : World} {c : Array Value} (h : Mut B w w') (hr : row? w b = some c) (hn : b ≠ B) : row? w' b = some c := by
 have := h.block b (row?_lt hr) hn
 unfold row? at hr ⊢
 rw [this]; exact hr
theorem Mut.sl {B : Nat} {w w' : World} {v : Value} {l : List UInt8} (h : Mut B w w') (hs : Sl w v l) (hne : ∀ b off n cap, v = .slice (some ⟨b, off, none⟩) n cap → 0 < n → b ≠ B) : Sl w' v l := by
 obtain ⟨ao, cap, rfl, hc, hnn, hp⟩ := hs
 refine ⟨ao, cap, rfl, hc, hnn, fun h0 => ?_⟩
 obtain ⟨b, off, rfl, hcell⟩ := hp h0
 refine ⟨b, off, rfl, fun k hk => ?_⟩
 have hb := h.block b (cell_lt (hcell k hk)) (hne b off _ cap rfl h0)
 rw [← hcell k hk]
 unfold World.cell?
 rw [hb]
theorem cut_lh {P : Program} {t e : TypeId} (T : SlT P t e) (w : World) (ao : Option Addr) (len cap : Nat) (kl kh : IntKind) (l h : Int) (h0 : 0 ≤ l) (h1 : l ≤ h) (h2 : h ≤ cap) :
  (Instr.sliceAt t (.slice ao len cap) (some (.int kl l)) (some (.int kh h)) none).run P w = .ok (.slice (cutA ao l.toNat cap) (h.toNat - l.toNat) (cap - l.toNat)) w := by
 rw [run_sliceAt_slice w t _ _ _ _ T.und, run_slice_lh w t ao len cap T.und kl kh l h h0 h1 h2, T.run, Result.andThen_ok, sliced_cut]
theorem results_row4 {P : Program} {fn : Func} {p a b c : Tmp} {t n : Nat} (A : Agg P t n) (hr : fn.results = #[.cell p t, .tmp a, .tmp b, .tmp c]) (tmps : Array Value) (w : World) (blk : Nat) (cells : Array Value)
  (hp : tmps.getD p undef = .pointer (some ⟨blk, 0, none⟩)) (h : row? w blk = some cells) (hn : cells.size = n) : (results fn tmps).run P w = .ok (.tuple #[.agg cells, tmps.getD a undef, tmps.getD b undef, tmps.getD c undef]) w := by
 have h1 := results_row (fn := { fn with results := #[.cell p t] }) A rfl tmps w blk cells hp h hn
 simp only [results] at h1 ⊢
 simp [hr, Sem.run_bind, Result.andThen] at h1 ⊢
 cases hq : Sem.run P (asAddr (tmps[p]?.getD undef)) w with
 | ok x w1 =>
  rw [hq] at h1
  simp only [] at h1 ⊢
  rw [h1]
 | halt x w1 => rw [hq] at h1; cases h1
end Go.Rw
