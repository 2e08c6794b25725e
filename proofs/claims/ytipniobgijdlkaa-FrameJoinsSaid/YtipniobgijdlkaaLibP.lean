/- Bytes of a slice put behind those of an owned one; what stays where calls write two blocks alone. Over any program. -/
import Derived.Test.YtipniobgijdlkaaLibM
import Derived.Laws.AppendOwn
import Derived.Laws.AppendOwnNone
namespace Go.Rw
open Go Go.RowKit
theorem Mut.own {B N n : Nat} {e : TypeId} {v : Value} {xs : List Value} {w w' : World} (h : Mut B w w') (ho : w.ownsRow N e 1 v n xs) (hN : B < N) : w'.ownsRow N e 1 v n xs :=
  own_grown (r := some B) ho ⟨h.os, h.tape, h.output, h.size, fun k hk hne => h.block k hk (fun e => hne (by rw [e]))⟩ (fun k hk he => by have := (ho.lt k hk).1; injection he; omega)
/-- All that stood is as it was, but the blocks B and C. -/
structure Mut2 (B C : Nat) (w w' : World) : Prop where
  os : w'.os = w.os
  tape : w'.tape = w.tape
  output : w'.output = w.output
  size : w.heap.size ≤ w'.heap.size
  block : ∀ k, k < w.heap.size → k ≠ B → k ≠ C → w'.heap[k]? = w.heap[k]?
theorem Mut2.refl (B C : Nat) (w : World) : Mut2 B C w w := ⟨rfl, rfl, rfl, Nat.le_refl _, fun _ _ _ _ => rfl⟩
theorem Mut2.trans {B C : Nat} {a b c : World} (h : Mut2 B C a b) (k : Mut2 B C b c) : Mut2 B C a c :=
  ⟨k.os.trans h.os, k.tape.trans h.tape, k.output.trans h.output, Nat.le_trans h.size k.size, fun i hi h1 h2 => (k.block i (Nat.lt_of_lt_of_le hi h.size) h1 h2).trans (h.block i hi h1 h2)⟩
theorem Mut.left {B : Nat} (C : Nat) {w w' : World} (h : Mut B w w') : Mut2 B C w w' := ⟨h.os, h.tape, h.output, h.size, fun k hk h1 _ => h.block k hk h1⟩
theorem Mut.right {C : Nat} (B : Nat) {w w' : World} (h : Mut C w w') : Mut2 B C w w' := ⟨h.os, h.tape, h.output, h.size, fun k hk _ h2 => h.block k hk h2⟩
theorem Mut2.below {B C N : Nat} {w w' : World} (h : Mut2 B C w w') (hB : N ≤ B) (hC : N ≤ C) (hs : N ≤ w.heap.size) : Below N w w' :=
  ⟨h.os, h.tape, h.output, h.size, fun k hk => h.block k (Nat.lt_of_lt_of_le hk hs) (by omega) (by omega)⟩
theorem Mut2.row {B C b : Nat} {w w' : World} {c : Array Value} (h : Mut2 B C w w') (hr : row? w b = some c) (h1 : b ≠ B) (h2 : b ≠ C) : row? w' b = some c := by
  have := h.block b (row?_lt hr) h1 h2
  unfold row? at hr ⊢
  rw [this]; exact hr
/-- Appending what a slice reads to an owned slice. -/
theorem app_sl {P : Program} {w : World} {ops : Array Oper} {rest : List Oper} {o : Oper} {a : Act} {Q : Exit → Act → World → Prop} (hgd : o.guard = none) (s x : Operand) (t : TypeId)
    (ho : o.op = .call { callee := .builtin .append, args := #[s, x], argTypes := #[t, t] })
    (base : Nat) (e : TypeId) (i : TypeInfo) (ht : P.underlying t = some (.slice e)) (hi : P.info? e = some i) (hz : i.zero = some (.int .u8 0))
    (hsize : i.size = 1) (hby : i.bytes = 1)
    (v : Value) (l : List UInt8) (hs : a.eval s = v) (hown : w.ownsRow base e 1 v l.length (l.map bv))
    (u : Value) (m : List UInt8) (hx : a.eval x = u) (hu : Sl w u m) (hlen : l.length + m.length ≤ 2000000) (hbase : base ≤ w.heap.size)
    (h : ∀ v' w', w'.ownsRow base e 1 v' (l ++ m).length ((l ++ m).map bv) → w.grownBy w' v.ownBlock → wpList P ops Q rest (a.put o.dst v') w') : wpList P ops Q (o :: rest) a w := by
  obtain ⟨ao, cap, rfl, hc, hnn, hp⟩ := hu
  cases ao with
  | none =>
    obtain rfl := hnn rfl
    obtain rfl : m = [] := List.eq_nil_of_length_eq_zero (by omega)
    refine wpList_append_own_none hgd s x t ho base e i 1 ht hi v l.length (l.map bv) hs hown hx (h v w ?_ ⟨rfl, rfl, rfl, Nat.le_refl _, fun _ _ _ => rfl⟩)
    simpa using hown
  | some ad =>
    refine wpList_append_own w hgd s x t ho base e i (.int .u8 0) 1 1 ht hi hz hsize hby rfl (by decide) v l.length (l.map bv) hs hown ad m.length cap (m.map bv) hx (by simp) ?_ (map_bv_one m) (by unfold maxLen; omega) (by omega) hbase ?_
    · intro j u hj
      have hjl : j < m.length := by have := (List.getElem?_eq_some_iff.1 hj).1; simpa using this
      obtain ⟨b, off, e, hcell⟩ := hp (by omega)
      cases e
      rw [Addr.add_lit, hcell j hjl, ← hj]
      simp [nth, bv, n8, hjl]
    · intro v' w' h2 h3 _
      refine h v' w' ?_ h3
      rw [List.length_append, List.map_append]
      exact h2
end Go.Rw
