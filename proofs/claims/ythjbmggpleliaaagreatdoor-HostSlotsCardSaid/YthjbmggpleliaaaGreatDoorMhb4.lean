/- LibM; LibP; LibMs; HstL. -/
import Derived.Test.YthjbmggpleliaaaGreatDoorMhb1
import Derived.Laws.AppendOwn
import Derived.Laws.AppendOwnNone
import Derived.Maps.OwnSet
import Derived.Maps.OwnOps
import Derived.Test.YthjbmggpleliaaaGreatDoorRows
import Derived.Test.YthjbmggpleliaaaGreatDoorMhb3
section
namespace Go.Rw
open Go Go.RowKit
structure Mut (B : Nat) (w w' : World) : Prop where
 os : w'.os = w.os
 tape : w'.tape = w.tape
 output : w'.output = w.output
 size : w.heap.size ≤ w'.heap.size
 block : ∀ k, k < w.heap.size → k ≠ B → w'.heap[k]? = w.heap[k]?
theorem Mut.refl (B : Nat) (w : World) : Mut B w w := ⟨rfl, rfl, rfl, Nat.le_refl _, fun _ _ _ => rfl⟩
theorem Mut.trans {B : Nat} {a b c : World} (h : Mut B a b) (k : Mut B b c) : Mut B a c :=
 ⟨k.os.trans h.os, k.tape.trans h.tape, k.output.trans h.output, Nat.le_trans h.size k.size, fun i hi hn => (k.block i (Nat.lt_of_lt_of_le hi h.size) hn).trans (h.block i hi hn)⟩
theorem Mut.of_below {B : Nat} {w w' : World} (h : Below w.heap.size w w') : Mut B w w' := ⟨h.os, h.tape, h.output, h.size, fun k hk _ => h.block k hk⟩
theorem Mut.drew {B : Nat} {w w' : World} (h : Mut B w w') : Mut B w w'.drew := h.trans (Mut.of_below (Below.refl _ _).drew)
theorem Mut.setCell {B : Nat} {w w' : World} (h : Mut B w w') (i : Nat) (p : Option _) (v : Value) : Mut B w (w'.setCell ⟨B, i, p⟩ v) := by
 have k : Below B w' (w'.setCell ⟨B, i, p⟩ v) := (Below.refl _ _).setCell (p := ⟨B, i, p⟩) (Nat.le_refl _) v
 refine ⟨k.os.trans h.os, k.tape.trans h.tape, k.output.trans h.output, Nat.le_trans h.size k.size, fun j hj hn => ?_⟩
 rw [← h.block j hj hn]
 exact Below.heap_setCell w' ⟨B, i, p⟩ v j hn
theorem Mut.setRow {B : Nat} {w w' : World} (h : Mut B w w') (c : Array Value) : Mut B w (w'.setRow B c) :=
 ⟨h.os, h.tape, h.output, by simpa using h.size, fun k hk hn => by rw [setRow_other w' B k c hn]; exact h.block k hk hn⟩
theorem Mut.below {B N : Nat} {w w' : World} (h : Mut B w w') (hN : N ≤ B) (hs : N ≤ w.heap.size) : Below N w w' :=
 ⟨h.os, h.tape, h.output, h.size, fun k hk => h.block k (Nat.lt_of_lt_of_le hk hs) (by omega)⟩
theorem Mut.row {B b : Nat} {w w' : World} {c : Array Value} (h : Mut B w w') (hr : row? w b = some c) (hn : b ≠ B) : row? w' b = some c := by
 have := h.block b (row?_lt hr) hn
 unfold row? at hr ⊢
 rw [this]; exact hr
theorem Mut.sl {B : Nat} {w w' : World} {v : Value} {l : List UInt8} (h : Mut B w w') (hs : Sl w v l) (hne : ∀ b off n cap, v = .slice (some ⟨b, off, none⟩) n cap → 0 < n → b ≠ B) : Sl w' v l := by
 obtain ⟨ao, cap, rfl, hc, hnn, hp⟩ := hs
 refine ⟨ao, cap, rfl, hc, hnn, fun h0 => ?_⟩
 obtain ⟨b, off, rfl, hcell⟩ := hp h0
 refine ⟨b, off, rfl, fun k hk => ?_⟩
 have hb := h.block b (cell_lt (hcell k hk)) (hne b off _ cap rfl h0)
 rw [← hcell k hk]
 unfold World.cell?
 rw [hb]
end Go.Rw

end
section
namespace Go.Rw
open Go Go.RowKit
theorem Mut.own {B N n : Nat} {e : TypeId} {v : Value} {xs : List Value} {w w' : World} (h : Mut B w w') (ho : w.ownsRow N e 1 v n xs) (hN : B < N) : w'.ownsRow N e 1 v n xs :=
 own_grown (r := some B) ho ⟨h.os, h.tape, h.output, h.size, fun k hk hne => h.block k hk (fun e => hne (by rw [e]))⟩ (fun k hk he => by have := (ho.lt k hk).1; injection he; omega)
structure Mut2 (B C : Nat) (w w' : World) : Prop where
 os : w'.os = w.os
 tape : w'.tape = w.tape
 output : w'.output = w.output
 size : w.heap.size ≤ w'.heap.size
 block : ∀ k, k < w.heap.size → k ≠ B → k ≠ C → w'.heap[k]? = w.heap[k]?
theorem Mut2.refl (B C : Nat) (w : World) : Mut2 B C w w := ⟨rfl, rfl, rfl, Nat.le_refl _, fun _ _ _ _ => rfl⟩
theorem Mut2.trans {B C : Nat} {a b c : World} (h : Mut2 B C a b) (k : Mut2 B C b c) : Mut2 B C a c :=
 ⟨k.os.trans h.os, k.tape.trans h.tape, k.output.trans h.output, Nat.le_trans h.size k.size, fun i hi h1 h2 => (k.block i (Nat.lt_of_lt_of_le hi h.size) h1 h2).trans (h.block i hi h1 h2)⟩
theorem Mut.left {B : Nat} (C : Nat) {w w' : World} (h : Mut B w w') : Mut2 B C w w' := ⟨h.os, h.tape, h.output, h.size, fun k hk h1 _ => h.block k hk h1⟩
theorem Mut.right {C : Nat} (B : Nat) {w w' : World} (h : Mut C w w') : Mut2 B C w w' := ⟨h.os, h.tape, h.output, h.size, fun k hk _ h2 => h.block k hk h2⟩
theorem Mut2.below {B C N : Nat} {w w' : World} (h : Mut2 B C w w') (hB : N ≤ B) (hC : N ≤ C) (hs : N ≤ w.heap.size) : Below N w w' :=
 ⟨h.os, h.tape, h.output, h.size, fun k hk => h.block k (Nat.lt_of_lt_of_le hk hs) (by omega) (by omega)⟩
theorem Mut2.row {B C b : Nat} {w w' : World} {c : Array Value} (h : Mut2 B C w w') (hr : row? w b = some c) (h1 : b ≠ B) (h2 : b ≠ C) : row? w' b = some c := by
 have := h.block b (row?_lt hr) h1 h2
 unfold row? at hr ⊢
 rw [this]; exact hr
theorem app_sl {P : Program} {w : World} {ops : Array Oper} {rest : List Oper} {o : Oper} {a : Act} {Q : Exit → Act → World → Prop} (hgd : o.guard = none) (s x : Operand) (t : TypeId)
  (ho : o.op = .call { callee := .builtin .append, args := #[s, x], argTypes := #[t, t] })
  (base : Nat) (e : TypeId) (i : TypeInfo) (ht : P.underlying t = some (.slice e)) (hi : P.info? e = some i) (hz : i.zero = some (.int .u8 0))
  (hsize : i.size = 1) (hby : i.bytes = 1)
  (v : Value) (l : List UInt8) (hs : a.eval s = v) (hown : w.ownsRow base e 1 v l.length (l.map bv))
  (u : Value) (m : List UInt8) (hx : a.eval x = u) (hu : Sl w u m) (hlen : l.length + m.length ≤ 2000000) (hbase : base ≤ w.heap.size)
  (h : ∀ v' w', w'.ownsRow base e 1 v' (l ++ m).length ((l ++ m).map bv) → w.grownBy w' v.ownBlock → wpList P ops Q rest (a.put o.dst v') w') : wpList P ops Q (o :: rest) a w := by
 obtain ⟨ao, cap, rfl, hc, hnn, hp⟩ := hu
 cases ao with
 | none =>
  obtain rfl := hnn rfl
  obtain rfl : m = [] := List.eq_nil_of_length_eq_zero (by omega)
  refine wpList_append_own_none hgd s x t ho base e i 1 ht hi v l.length (l.map bv) hs hown hx (h v w ?_ ⟨rfl, rfl, rfl, Nat.le_refl _, fun _ _ _ => rfl⟩)
  simpa using hown
 | some ad =>
  refine wpList_append_own w hgd s x t ho base e i (.int .u8 0) 1 1 ht hi hz hsize hby rfl (by decide) v l.length (l.map bv) hs hown ad m.length cap (m.map bv) hx (by simp) ?_ (map_bv_one m) (by unfold maxLen; omega) (by omega) hbase ?_
  ·intro j u hj
   have hjl : j < m.length := by have := (List.getElem?_eq_some_iff.1 hj).1; simpa using this
   obtain ⟨b, off, e, hcell⟩ := hp (by omega)
   cases e
   rw [Addr.add_lit, hcell j hjl, ← hj]
   simp [nth, bv, n8, hjl]
  ·intro v' w' h2 h3 _
   refine h v' w' ?_ h3
   rw [List.length_append, List.map_append]
   exact h2
end Go.Rw

end
section
namespace Go.Rw
open Go Go.RowKit Go.Maps
structure MutS (S : Nat → Prop) (w w' : World) : Prop where
 os : w'.os = w.os
 tape : w'.tape = w.tape
 output : w'.output = w.output
 size : w.heap.size ≤ w'.heap.size
 block : ∀ k, k < w.heap.size → ¬ S k → w'.heap[k]? = w.heap[k]?
theorem MutS.refl (S : Nat → Prop) (w : World) : MutS S w w := ⟨rfl, rfl, rfl, Nat.le_refl _, fun _ _ _ => rfl⟩
theorem MutS.trans' {S T : Nat → Prop} {a b c : World} (h : MutS S a b) (k : MutS T b c) (hT : ∀ i, T i → S i ∨ a.heap.size ≤ i) : MutS S a c :=
 ⟨k.os.trans h.os, k.tape.trans h.tape, k.output.trans h.output, Nat.le_trans h.size k.size, fun i hi hn => (k.block i (Nat.lt_of_lt_of_le hi h.size) (fun ht => by rcases hT i ht with h' | h'; exact hn h'; omega)).trans (h.block i hi hn)⟩
theorem MutS.trans {S : Nat → Prop} {a b c : World} (h : MutS S a b) (k : MutS S b c) : MutS S a c := h.trans' k fun _ hi => .inl hi
theorem MutS.mono {S T : Nat → Prop} {a b : World} (h : MutS S a b) (hT : ∀ i, S i → T i ∨ a.heap.size ≤ i) : MutS T a b :=
 ⟨h.os, h.tape, h.output, h.size, fun i hi hn => h.block i hi (fun hs => by rcases hT i hs with h' | h'; exact hn h'; omega)⟩
theorem MutS.of_below {S : Nat → Prop} {w w' : World} (h : Below w.heap.size w w') : MutS S w w' := ⟨h.os, h.tape, h.output, h.size, fun k hk _ => h.block k hk⟩
theorem MutS.of_mut {S : Nat → Prop} {B : Nat} {w w' : World} (h : Mut B w w') (hB : S B ∨ w.heap.size ≤ B) : MutS S w w' :=
 ⟨h.os, h.tape, h.output, h.size, fun k hk hn => h.block k hk (fun e => by subst e; rcases hB with h' | h'; exact hn h'; omega)⟩
theorem MutS.of_grown {S : Nat → Prop} {r : Option Nat} {w w' : World} (h : w.grownBy w' r) (hB : ∀ b, r = some b → S b ∨ w.heap.size ≤ b) : MutS S w w' :=
 ⟨h.os, h.tape, h.output, h.size, fun k hk hn => h.block k hk (fun e => by rcases hB k e.symm with h' | h'; exact hn h'; omega)⟩
theorem MutS.drew {S : Nat → Prop} {w w' : World} (h : MutS S w w') : MutS S w w'.drew := ⟨h.os, h.tape, h.output, h.size, h.block⟩
theorem MutS.below' {S : Nat → Prop} {w w' w'' : World} (h : MutS S w w') (k : Below w'.heap.size w' w'') : MutS S w w'' := h.trans (MutS.of_below k)
theorem MutS.alloc {S : Nat → Prop} {w w' : World} (h : MutS S w w') (o : Obj) : MutS S w (w'.alloc o) := h.below' ((Below.refl _ _).alloc (Nat.le_refl _) o)
theorem MutS.setCell {S : Nat → Prop} {w w' : World} (h : MutS S w w') (B i : Nat) (p : Option _) (v : Value) (hB : S B ∨ w.heap.size ≤ B) : MutS S w (w'.setCell ⟨B, i, p⟩ v) :=
 h.trans' (T := fun k => k = B) (MutS.of_mut ((Mut.refl B w').setCell i p v) (.inl rfl)) (fun k hk => by subst hk; exact hB)
theorem MutS.setRow {S : Nat → Prop} {w w' : World} (h : MutS S w w') (B : Nat) (c : Array Value) (hB : S B ∨ w.heap.size ≤ B) : MutS S w (w'.setRow B c) :=
 h.trans' (T := fun k => k = B) (MutS.of_mut ((Mut.refl B w').setRow c) (.inl rfl)) (fun k hk => by subst hk; exact hB)
theorem MutS.grown {S : Nat → Prop} {w w1 w2 : World} {r : Option Nat} (h : MutS S w w1) (hg : w1.grownBy w2 r) (hB : ∀ b, r = some b → S b ∨ w.heap.size ≤ b) : MutS S w w2 :=
 h.trans' (T := fun k => r = some k) (MutS.of_grown hg (fun b e => .inl e)) (fun k hk => hB k hk)
theorem MutS.lower {S : Nat → Prop} {N : Nat} {w w' : World} (h : MutS S w w') (hN : ∀ k, S k → N ≤ k) (hs : N ≤ w.heap.size) : Below N w w' :=
 ⟨h.os, h.tape, h.output, h.size, fun k hk => h.block k (Nat.lt_of_lt_of_le hk hs) (fun hS => by have := hN k hS; omega)⟩
theorem MutS.row {S : Nat → Prop} {b : Nat} {w w' : World} {c : Array Value} (h : MutS S w w') (hr : row? w b = some c) (hn : ¬ S b) : row? w' b = some c := by
 have := h.block b (row?_lt hr) hn
 unfold row? at hr ⊢
 rw [this]; exact hr
theorem sl_of_blocks {w w' : World} {v : Value} {l : List UInt8} (hs : Sl w v l) (hb : ∀ b off n cap, v = .slice (some ⟨b, off, none⟩) n cap → 0 < n → w'.heap[b]? = w.heap[b]?) : Sl w' v l := by
 obtain ⟨ao, cap, rfl, hc, hnn, hp⟩ := hs
 refine ⟨ao, cap, rfl, hc, hnn, fun h0 => ?_⟩
 obtain ⟨b, off, rfl, hcell⟩ := hp h0
 refine ⟨b, off, rfl, fun k hk => ?_⟩
 rw [← hcell k hk]
 unfold World.cell?
 rw [hb b off _ cap rfl h0]
def Off (S : Nat → Prop) (v : Value) : Prop := ∀ b off n cap, v = .slice (some ⟨b, off, none⟩) n cap → 0 < n → ¬ S b
theorem MutS.sl {S : Nat → Prop} {w w' : World} {v : Value} {l : List UInt8} (h : MutS S w w') (hs : Sl w v l) (hne : Off S v) : Sl w' v l := by
 obtain ⟨ao, cap, rfl, hc, hnn, hp⟩ := id hs
 refine sl_of_blocks hs fun b off n cap e h0 => ?_
 obtain ⟨b', off', e', hcell⟩ := hp (by injection e with _ e2 _; omega)
 have hlt : b < w.heap.size := by
  injection e with e1 e2 e3
  subst e1; injection e' with e'; injection e' with e1 e2; subst e1
  exact cell_lt (hcell 0 (by omega))
 exact h.block b hlt (hne b off n cap e h0)
theorem MutS.own {S : Nat → Prop} {N n : Nat} {e : TypeId} {v : Value} {xs : List Value} {w w' : World} (h : MutS S w w') (ho : w.ownsRow N e 1 v n xs) (hne : ∀ k, v.ownBlock = some k → ¬ S k) : w'.ownsRow N e 1 v n xs := by
 refine ⟨ho.1, ?_⟩
 rcases ho.2 with h' | ⟨g, cap, cur, e1, hb, hg, r⟩
 ·exact .inl h'
 ·refine .inr ⟨g, cap, cur, e1, hb, ?_, r⟩
  rw [h.block g (Array.getElem?_eq_some_iff.1 hg).1 (hne g (by rw [e1]; rfl))]; exact hg
theorem ownsMap_of_block {H : Type} {P : Program} {k : TypeId} {R : Value → Option (DataW H × List MemPlace)} {b n : Nat} {D : DataW H} {w w' : World} (h : w.ownsMap P k R b n D) (e : w'.heap[b]? = w.heap[b]?) : w'.ownsMap P k R b n D := by
 obtain ⟨es, clock, hb, r⟩ := h
 exact ⟨es, clock, e.trans hb, r⟩
theorem MutS.map {S : Nat → Prop} {H : Type} {P : Program} {k : TypeId} {R : Value → Option (DataW H × List MemPlace)} {b n : Nat} {D : DataW H} {w w' : World} (hm : MutS S w w') (h : w.ownsMap P k R b n D) (hn : ¬ S b) : w'.ownsMap P k R b n D :=
 ownsMap_of_block h (hm.block b h.lt hn)
def anyElem (_ : Value) : Option (DataW Unit × List MemPlace) := some (.agg [], [])
def MapA (w : World) (P : Program) (k : TypeId) (b n : Nat) : Prop := ∃ D, w.ownsMap P k anyElem b n D
def SetI (w : World) (P : Program) (k : TypeId) (b n : Nat) (s : Int → Bool) : Prop := ∃ D : DataW Unit, w.ownsMap P k unitElem b n D ∧ ∀ x, Maps.has D (.int .i64 x) = s x
def NumI (w : World) (P : Program) (k e : TypeId) (b n : Nat) : Prop := ∃ D : DataW Unit, w.ownsMap P k (plainElem P e) b n D
theorem MutS.setI {S : Nat → Prop} {P : Program} {k : TypeId} {b n : Nat} {s : Int → Bool} {w w' : World} (hm : MutS S w w') (h : SetI w P k b n s) (hn : ¬ S b) : SetI w' P k b n s := by
 obtain ⟨D, h1, h2⟩ := h
 exact ⟨D, hm.map h1 hn, h2⟩
theorem MutS.numI {S : Nat → Prop} {P : Program} {k e : TypeId} {b n : Nat} {w w' : World} (hm : MutS S w w') (h : NumI w P k e b n) (hn : ¬ S b) : NumI w' P k e b n := by
 obtain ⟨D, h1⟩ := h
 exact ⟨D, hm.map h1 hn⟩
theorem MutS.mapA {S : Nat → Prop} {P : Program} {k : TypeId} {b n : Nat} {w w' : World} (hm : MutS S w w') (h : MapA w P k b n) (hn : ¬ S b) : MapA w' P k b n := by
 obtain ⟨D, h1⟩ := h
 exact ⟨D, hm.map h1 hn⟩
theorem SetI.lt {P : Program} {k : TypeId} {b n : Nat} {s : Int → Bool} {w : World} (h : SetI w P k b n s) : b < w.heap.size := h.elim fun _ h => h.1.lt
theorem NumI.lt {P : Program} {k e : TypeId} {b n : Nat} {w : World} (h : NumI w P k e b n) : b < w.heap.size := h.elim fun _ h => h.lt
theorem MapA.lt {P : Program} {k : TypeId} {b n : Nat} {w : World} (h : MapA w P k b n) : b < w.heap.size := h.elim fun _ h => h.lt
theorem SetI.new (w : World) (P : Program) (k : TypeId) : SetI (w.alloc (.map #[] 0)) P k w.heap.size 0 (fun _ => false) := ⟨_, World.ownsMap_made w P k unitElem, fun _ => rfl⟩
theorem NumI.new (w : World) (P : Program) (k e : TypeId) : NumI (w.alloc (.map #[] 0)) P k e w.heap.size 0 := ⟨_, World.ownsMap_made w P k _⟩
theorem MapA.new (w : World) (P : Program) (k : TypeId) : MapA (w.alloc (.map #[] 0)) P k w.heap.size 0 := ⟨_, World.ownsMap_made w P k _⟩
theorem MapA.of {P : Program} {k : TypeId} {b : Nat} {w : World} {clock : Nat} (h : w.heap[b]? = some (.map #[] clock)) : MapA w P k b 0 := ⟨_, #[], clock, h, ⟨by simp, MapKept.stamped_empty clock, by simp⟩, Nat.le_refl _, rfl⟩
theorem SetI.below {P : Program} {k : TypeId} {b n : Nat} {s : Int → Bool} {w w' : World} (h : SetI w P k b n s) (hb : Below w.heap.size w w') : SetI w' P k b n s := (MutS.of_below (S := fun _ => False) hb).setI h id
theorem NumI.below {P : Program} {k e : TypeId} {b n : Nat} {w w' : World} (h : NumI w P k e b n) (hb : Below w.heap.size w w') : NumI w' P k e b n := (MutS.of_below (S := fun _ => False) hb).numI h id
theorem MapA.below {P : Program} {k : TypeId} {b n : Nat} {w w' : World} (h : MapA w P k b n) (hb : Below w.heap.size w w') : MapA w' P k b n := (MutS.of_below (S := fun _ => False) hb).mapA h id
theorem wp_seen {P : Program} {w : World} {ops : Array Oper} {rest : List Oper} {o : Oper} {a : Act} {Q : Exit → Act → World → Prop} (hg : o.guard = none) (m x : Operand) (t : TypeId) (hop : o.op = Op.lookup t m x true)
  (k e : TypeId) (hk : P.underlying k = some (.int .i64)) (ht : P.underlying t = some (.map k e)) (hz : (zeroValue e).run P w = .ok (.agg #[]) w) (b n : Nat) (s : Int → Bool) (hm : a.eval m = .map (some b)) (hs : SetI w P k b n s) (i : Int)
  (hx : a.eval x = .int .i64 i) (hi : (Lit.int .i64 i).wf = true) (hK : wpList P ops Q rest (a.put o.dst (.tuple #[.agg #[], .bool (s i)])) w) : wpList P ops Q (o :: rest) a w := by
 obtain ⟨D, h1, h2⟩ := hs
 refine wpList_lookup_own_unit w hg m x t hop k e (int_keyed hk) ht hz b n D hm h1 _ _ hx (keyOf_int_mk hk hi) ?_
 rw [h2]; exact hK
theorem wp_enter {P : Program} {w : World} {ops : Array Oper} {rest : List Oper} {o : Oper} {a : Act} {Q : Exit → Act → World → Prop} (hg : o.guard = none) (m x v : Operand) (t : TypeId) (hop : o.op = Op.mapUpdate t m x v)
  (k e : TypeId) (hk : P.underlying k = some (.int .i64)) (ht : P.underlying t = some (.map k e)) (b n : Nat) (s : Int → Bool) (hm : a.eval m = .map (some b)) (hs : SetI w P k b n s) (hn : n < maxLen) (i : Int) (hx : a.eval x = .int .i64 i) (hv : a.eval v = .agg #[]) (hi : (Lit.int .i64 i).wf = true)
  (hK : ∀ w', SetI w' P k b (n + 1) (fun y => y == i || s y) → w.grownBy w' (some b) → wpList P ops Q rest (a.put o.dst undef) w') : wpList P ops Q (o :: rest) a w := by
 obtain ⟨D, h1, h2⟩ := hs
 refine wpList_mapUpdate_own w hg m x v t hop k e (int_keyed hk) ht unitElem b n D hm h1 hn _ _ _ hx hv (keyOf_int_mk hk hi) _ _ unitElem_mk ?_
 intro w' h3 h4
 refine hK w' ⟨_, h3, fun y => ?_⟩ h4
 by_cases hy : y = i
 ·subst hy
  rw [Maps.has_put_same h1.isMap (by first | exact trivial | exact rfl | simp [WideAt.IsKeyLit])]; simp
 ·rw [Maps.has_put_other (by intro e; injection e with _ e; exact hy e), h2]
  simp [hy]
theorem wp_numAt {P : Program} {w : World} {ops : Array Oper} {rest : List Oper} {o : Oper} {a : Act} {Q : Exit → Act → World → Prop} (hg : o.guard = none) (m x : Operand) (t : TypeId) (hop : o.op = Op.lookup t m x false)
  (k e : TypeId) (hk : P.underlying k = some (.int .i64)) (ht : P.underlying t = some (.map k e)) (he : P.underlying e = some (.int .i64)) (hz : (zeroValue e).run P w = .ok (.int .i64 0) w) (b n : Nat) (hm : a.eval m = .map (some b)) (hs : NumI w P k e b n) (i : Int)
  (hx : a.eval x = .int .i64 i) (hi : (Lit.int .i64 i).wf = true) (hK : ∀ c : Int, (Lit.int .i64 c).wf = true → wpList P ops Q rest (a.put o.dst (.int .i64 c)) w) : wpList P ops Q (o :: rest) a w := by
 obtain ⟨D, h1⟩ := hs
 exact wpList_lookup_own_int w hg m x t hop k e .i64 (int_keyed hk) ht he hz b n D hm h1 _ _ hx (keyOf_int_mk hk hi) fun c _ hc => hK c hc
theorem wp_numSet {P : Program} {w : World} {ops : Array Oper} {rest : List Oper} {o : Oper} {a : Act} {Q : Exit → Act → World → Prop} (hg : o.guard = none) (m x v : Operand) (t : TypeId) (hop : o.op = Op.mapUpdate t m x v)
  (k e : TypeId) (hk : P.underlying k = some (.int .i64)) (ht : P.underlying t = some (.map k e)) (he : P.underlying e = some (.int .i64)) (b n : Nat) (hm : a.eval m = .map (some b)) (hs : NumI w P k e b n) (hn : n < maxLen) (i c : Int) (hx : a.eval x = .int .i64 i) (hv : a.eval v = .int .i64 c) (hi : (Lit.int .i64 i).wf = true) (hc : (Lit.int .i64 c).wf = true)
  (hK : ∀ w', NumI w' P k e b (n + 1) → w.grownBy w' (some b) → wpList P ops Q rest (a.put o.dst undef) w') : wpList P ops Q (o :: rest) a w := by
 obtain ⟨D, h1⟩ := hs
 refine wpList_mapUpdate_own w hg m x v t hop k e (int_keyed hk) ht _ b n D hm h1 hn _ _ _ hx hv (keyOf_int_mk hk hi) _ _ (plainElem_int he hc) ?_
 intro w' h3 h4
 exact hK w' ⟨_, h3⟩ h4
theorem wp_mapSet {P : Program} {w : World} {ops : Array Oper} {rest : List Oper} {o : Oper} {a : Act} {Q : Exit → Act → World → Prop} (hg : o.guard = none) (m x v : Operand) (t : TypeId) (hop : o.op = Op.mapUpdate t m x v)
  (k e : TypeId) (hk : P.underlying k = some (.int .i64)) (ht : P.underlying t = some (.map k e)) (b n : Nat) (hm : a.eval m = .map (some b)) (hs : MapA w P k b n) (hn : n < maxLen) (i : Int) (u : Value) (hx : a.eval x = .int .i64 i) (hv : a.eval v = u) (hi : (Lit.int .i64 i).wf = true)
  (hK : ∀ w', MapA w' P k b (n + 1) → w.grownBy w' (some b) → wpList P ops Q rest (a.put o.dst undef) w') : wpList P ops Q (o :: rest) a w := by
 obtain ⟨D, h1⟩ := hs
 refine wpList_mapUpdate_own w hg m x v t hop k e (int_keyed hk) ht anyElem b n D hm h1 hn _ u _ hx hv (keyOf_int_mk hk hi) (.agg []) [] rfl ?_
 intro w' h3 h4
 exact hK w' ⟨_, h3⟩ h4
def RT (w : World) (b : Nat) (t : TypeId) (c : Array Value) : Prop := w.heap[b]? = some (.cells c t (0, 0))
theorem RT.row {w : World} {b : Nat} {t : TypeId} {c : Array Value} (h : RT w b t c) : row? w b = some c := row?_of h
theorem RT.lt {w : World} {b : Nat} {t : TypeId} {c : Array Value} (h : RT w b t c) : b < w.heap.size := row?_lt h.row
theorem RT.new (w : World) (c : Array Value) (t : TypeId) (n : Nat) (hn : n = w.heap.size) : RT (w.alloc (.cells c t)) n t c := by subst hn; exact heap_alloc_new w _
theorem RT.set {w : World} {b : Nat} {t : TypeId} {c : Array Value} (h : RT w b t c) (i : Nat) (v : Value) : RT (w.setCell ⟨b, i, none⟩ v) b t (c.setIfInBounds i v) := heap_setCell_same w b i c t v h
theorem RT.keep {S : Nat → Prop} {w w' : World} {b : Nat} {t : TypeId} {c : Array Value} (hm : MutS S w w') (h : RT w b t c) (hn : ¬ S b) : RT w' b t c := (hm.block b h.lt hn).trans h
theorem RT.below {w w' : World} {b : Nat} {t : TypeId} {c : Array Value} (h : RT w b t c) (hb : Below w.heap.size w w') : RT w' b t c := (hb.block b h.lt).trans h
theorem RT.mut {B : Nat} {w w' : World} {b : Nat} {t : TypeId} {c : Array Value} (hm : Mut B w w') (h : RT w b t c) (hn : b ≠ B) : RT w' b t c := (hm.block b h.lt hn).trans h
theorem RT.drew {w : World} {b : Nat} {t : TypeId} {c : Array Value} (h : RT w b t c) : RT w.drew b t c := h
theorem RT.ne {w : World} {b b' : Nat} {t t' : TypeId} {c c' : Array Value} (h : RT w b t c) (h' : RT w b' t' c') (hne : t ≠ t') : b ≠ b' := by
 rintro rfl
 have := h.symm.trans h'
 injection this with this; injection this with _ h2
 exact hne h2
theorem RT.neMap {H : Type} {P : Program} {k : TypeId} {R : Value → Option (DataW H × List MemPlace)} {b b' n : Nat} {D : DataW H} {t : TypeId} {c : Array Value} {w : World} (h : RT w b t c) (h' : w.ownsMap P k R b' n D) : b ≠ b' := by
 rintro rfl
 obtain ⟨es, cl, hb, _⟩ := h'
 have := h.symm.trans hb
 cases this
theorem RT.neSet {P : Program} {k : TypeId} {b b' n : Nat} {s : Int → Bool} {t : TypeId} {c : Array Value} {w : World} (h : RT w b t c) (h' : SetI w P k b' n s) : b ≠ b' := h'.elim fun _ h' => h.neMap h'.1
theorem RT.neNum {P : Program} {k e : TypeId} {b b' n : Nat} {t : TypeId} {c : Array Value} {w : World} (h : RT w b t c) (h' : NumI w P k e b' n) : b ≠ b' := h'.elim fun _ h' => h.neMap h'
theorem own_of_RT {w : World} {N g n : Nat} {e : TypeId} {l : List UInt8} (h : RT w g e (bvs l)) (hl : l.length = n) (hN : N ≤ g) (hn : n ≤ 1000000) : w.ownsRow N e 1 (.slice (some ⟨g, 0, none⟩) n n) n (l.map bv) := by
 refine ⟨by simp [hl], .inr ⟨g, n, bvs l, rfl, hN, h, Nat.le_refl _, by unfold maxLen; omega, by rw [bvs_size]; omega, ?_⟩⟩
 rw [List.take_of_length_le (by simp [bvs]; omega)]
 simp [bvs]
theorem own_ne {w : World} {N n b : Nat} {e t : TypeId} {v : Value} {xs : List Value} {c : Array Value} (ho : w.ownsRow N e 1 v n xs) (h : RT w b t c) (hne : e ≠ t) : ∀ k, v.ownBlock = some k → k ≠ b := by
 intro k hk
 rcases ho.2 with ⟨rfl, _⟩ | ⟨g, cap, cur, rfl, hb, hg, _⟩
 ·cases hk
 ·simp [Value.ownBlock] at hk
  subst hk
  exact RT.ne (show RT w g e cur from hg) h hne
theorem wrap_nat {x : Int} {n : Nat} (h : x = (n : Int)) (hn : n ≤ 1000000000000) : wrap64 x = (n : Int) := by
 rw [IntWalk.wrap64_in _ (by omega)]; exact h
theorem bm2 (w : World) (o1 o2 : Obj) : Below w.heap.size w ((w.alloc o1).alloc o2) := ((Below.refl _ _).alloc (Nat.le_refl _) _).alloc (by simp) _
theorem bm3 (w : World) (o1 o2 o3 : Obj) : Below w.heap.size w (((w.alloc o1).alloc o2).alloc o3) := (((Below.refl _ _).alloc (Nat.le_refl _) _).alloc (by simp) _).alloc (by simp; omega) _
theorem meas_up {N k : Nat} {x : Int} (h : k < N) (e : x = (k : Int) + 1) : N - (intOf (.int .i64 x)).toNat < N - (intOf (.int .i64 (k : Nat))).toNat := by
 subst e
 simp only [intOf]
 omega
end Go.Rw

end
section
namespace Hst
open Go Go.Rw
def busyB (s : Int → Bool) (t : Int) : Bool := (List.range 24).any fun k => decide ((k : Int) ≤ t) && s (t - k)
def slotB (host : Int) (s : Int → Bool) (t : Int) : Bool := decide (0 ≤ t) && (busyB s t || (t + 2 * host) % 4 == 0)
theorem busy_yes {s : Int → Bool} {t : Int} {k : Nat} (hk : k < 24) (h1 : (k : Int) ≤ t) (h2 : s (t - k) = true) : busyB s t = true := by
 unfold busyB
 rw [List.any_eq_true]
 exact ⟨k, List.mem_range.2 hk, by simp [h1, h2]⟩
theorem busy_no {s : Int → Bool} {t : Int} {k : Nat} (hk : k = 24 ∨ t < k) (h : ∀ j : Nat, j < k → s (t - j) = false) : busyB s t = false := by
 unfold busyB
 rw [List.any_eq_false]
 intro j hj
 rw [List.mem_range] at hj
 by_cases h1 : (j : Int) ≤ t
 ·have := h j (by omega)
  simp [this]
 ·simp [h1]
end Hst
namespace Go.Proofs.YthjbmggpleliaaaGreatDoor
open Go.RowKit Go.Rw Hst
theorem hmkS (w : World) : (Instr.makeMap 58 none).run Tryz.prog w = .ok (.map (some w.heap.size)) (w.alloc (.map #[] 0)) := rfl
theorem zU (w : World) : (zeroValue 115).run Tryz.prog w = .ok (.agg #[]) w := by kernel_rfl
def LadR (w : World) (L M : Nat) (host : Int) (n : Nat) (s : Int → Bool) : Prop := row? w L = some #[.int .i64 host, .map (some M)] ∧ SetI w Tryz.prog 3 M n s
theorem LadR.keep {S : Nat → Prop} {w w' : World} {L M : Nat} {host : Int} {n : Nat} {s : Int → Bool} (hm : MutS S w w') (h : LadR w L M host n s) (h1 : ¬ S L) (h2 : ¬ S M) : LadR w' L M host n s := ⟨hm.row h.1 h1, hm.setI h.2 h2⟩
set_option maxRecDepth 100000 in
theorem ladnew_any (host : Int) (w : World) :
  Calls Tryz.prog 36 #[.int .i64 host] w fun e w' => ∃ L M, e = .returned (.pointer (some ⟨L, 0, none⟩)) ∧ w.heap.size ≤ L ∧ w.heap.size ≤ M ∧ L ≠ M ∧ LadR w' L M host 0 (fun _ => false) ∧ Below w.heap.size w w' := by
 have hmk := hmkS
 go_enter Tryz.func36, Tryz.ntmps36
 go_wp2_with fail
 go_ret
 refine ⟨w.heap.size + 1, w.heap.size, rfl, by omega, by omega, by omega, ⟨row?_alloc_at _ _ _ _ (by simp), ?_⟩, bel2 w _ _⟩
 exact (SetI.new w _ _).below ((Below.refl _ _).alloc (Nat.le_refl _) _)
set_option maxRecDepth 100000 in
theorem ask_any (L M : Nat) (host : Int) (n : Nat) (hn : n ≤ 1000000) (s : Int → Bool) (t : Int) (ht : 0 ≤ t ∧ t ≤ 1000000) (w : World) (h : LadR w L M host n s) :
  Calls Tryz.prog 18 #[.pointer (some ⟨L, 0, none⟩), .int .i64 t] w fun e w' => e = .returned (.tuple #[]) ∧ LadR w' L M host (n + 1) (fun y => y == t || s y) ∧ MutS (fun k => k = M) w w' := by
 obtain ⟨h1, h2⟩ := h
 have c1 : w.cell? ⟨L, 1, none⟩ = some (.map (some M)) := row?_cell h1 1
 have p0 : decide (0 ≤ t) = true := decide_eq_true ht.1
 have p0' : decide (t < 0) = false := decide_eq_false (by omega)
 have hwf : (Lit.int .i64 t).wf = true := WalkArith.wf_i64 (by omega)
 have hne : M ≠ L := by
  rintro rfl
  obtain ⟨_, hh⟩ := row?_some h1
  obtain ⟨D, ⟨es, cl, hb, _⟩, _⟩ := h2
  rw [hh] at hb; cases hb
 have H1 := Lib.hid h1
 have H2 := Lib.hid h2
 clear h1 h2
 go_enter Tryz.func18, Tryz.ntmps18
 go_wp2_with (at_mapUpdate; refine wp_enter rfl _ _ _ 58 rfl 3 115 Tryz.underlying3 Tryz.underlying58 M n s rfl H2.out (by unfold maxLen; omega) t rfl rfl hwf ?_; intro w1 hs1 hg1)
 go_wp2_with fail
 go_end0
 have hm : MutS (fun k => k = M) w w1 := MutS.of_grown hg1 (fun b e => .inl (by injection e with e; exact e.symm))
 exact ⟨rfl, ⟨hm.row H1.out (fun e => hne e.symm), hs1⟩, hm⟩
set_option maxRecDepth 100000 in
theorem busy_any (L M : Nat) (host : Int) (n : Nat) (s : Int → Bool) (t : Int) (ht : 0 ≤ t ∧ t ≤ 1000000) (w : World) (h : LadR w L M host n s) :
  Calls Tryz.prog 60 #[.pointer (some ⟨L, 0, none⟩), .int .i64 t] w fun e w' => e = .returned (.bool (busyB s t)) ∧ Below w.heap.size w w' := by
 have H := Lib.hid h
 have HT := Lib.hid ht
 clear h ht
 go_enter Tryz.func60, Tryz.ntmps60
 go_wp2_with fail
 go_loopw [5, 6, 7] (fun v5 _ _ wr => ∃ k : Nat, k ≤ 24 ∧ (k : Int) ≤ t + 1 ∧ v5 = .int .i64 (k : Nat) ∧ (∀ j : Nat, j < k → s (t - j) = false) ∧ Below w.heap.size w wr) (fun v5 _ _ _ => 24 - (intOf v5).toNat)
 case atStart => exact ⟨0, by omega, by have := HT.out; omega, rfl, fun j hj => by omega, Below.refl _ _⟩
 case round =>
  obtain ⟨k, hk, hkt, rfl, hj, hb⟩ := hrel
  have hT := HT.out
  have HJ := Lib.hid hj
  have HB := Lib.hid hb
  have cL : wr.cell? ⟨L, 1, none⟩ = some (.map (some M)) := row?_cell (by rw [row?_below hb (row?_lt H.out.1)]; exact H.out.1) 1
  have HS := Lib.hid (H.out.2.below hb)
  have hzU := zU wr
  by_cases h24 : k = 24
  ·have p1 : decide ((k : Int) < 24) = false := decide_eq_false (by omega)
   have hres : busyB s t = false := busy_no (.inl h24) hj
   have HR := Lib.hid hres
   clear hj hb hres
   go_wp2_with fail
   go_ret
   exact ⟨by rw [HR.out]; rfl, HB.out⟩
  have p1 : decide ((k : Int) < 24) = true := decide_eq_true (by omega)
  by_cases hle : (k : Int) ≤ t
  case neg =>
   have p2 : decide ((k : Int) ≤ t) = false := decide_eq_false hle
   have hres : busyB s t = false := busy_no (.inr (by omega)) hj
   have HR := Lib.hid hres
   clear hj hb hres
   go_wp2_with fail
   go_ret
   exact ⟨by rw [HR.out]; rfl, HB.out⟩
  have p2 : decide ((k : Int) ≤ t) = true := decide_eq_true hle
  have hw : wrap64 (t - (k : Int)) = t - k := IntWalk.wrap64_in _ (by omega)
  have hw1 : wrap64 ((k : Int) + 1) = (k : Int) + 1 := IntWalk.wrap64_in _ (by omega)
  have hwf : (Lit.int .i64 (t - (k : Int))).wf = true := WalkArith.wf_i64 (by omega)
  have HK := Lib.hid (And.intro hk (And.intro hkt (And.intro h24 hle)))
  have HW := Lib.hid hw
  have HW1 := Lib.hid hw1
  clear hj hb hk hkt h24 hT hw hw1
  cases hsv : s (t - (k : Int))
  ·go_wp2_with (at_lookup; refine wp_seen rfl _ _ 58 rfl 3 115 Tryz.underlying3 Tryz.underlying58 hzU M n s rfl HS.out (t - (k : Int)) (congrArg (Value.int .i64) HW.out) hwf ?_; rw [hsv])
   go_roundw
   case rel =>
    have := HK.out
    refine ⟨k + 1, by omega, by omega, by push_cast; rw [HW1.out], fun j hj => ?_, HB.out.alloc HB.out.size _⟩
    by_cases e : j = k
    ·subst e; exact hsv
    ·exact HJ.out j (by omega)
   case measure => exact meas_up (by have := HK.out; omega) HW1.out
  ·go_wp2_with (at_lookup; refine wp_seen rfl _ _ 58 rfl 3 115 Tryz.underlying3 Tryz.underlying58 hzU M n s rfl HS.out (t - (k : Int)) (congrArg (Value.int .i64) HW.out) hwf ?_; rw [hsv])
   go_ret
   have := HK.out
   exact ⟨by rw [busy_yes (s := s) (t := t) (k := k) (by omega) (by omega) hsv]; rfl, HB.out.alloc HB.out.size _⟩
set_option maxRecDepth 100000 in
theorem slot_any (L M : Nat) (host : Nat) (hh : host ≤ 1) (n : Nat) (s : Int → Bool) (t : Int) (ht : 0 ≤ t ∧ t ≤ 1000000) (w : World) (h : LadR w L M (host : Nat) n s) :
  Calls Tryz.prog 26 #[.pointer (some ⟨L, 0, none⟩), .int .i64 t] w fun e w' => e = .returned (.bool (slotB (host : Nat) s t)) ∧ Below w.heap.size w w' := by
 have H := Lib.hid h
 have hb := busy_any L M (host : Nat) n s t ht w h
 have HB := Lib.hid hb
 have p0 : decide (t < 0) = false := decide_eq_false (by omega)
 have p0' : decide (0 ≤ t) = true := decide_eq_true ht.1
 have HT := Lib.hid ht
 clear h hb ht
 cases hbv : busyB s t
 ·go_enter Tryz.func26, Tryz.ntmps26
  go_wp2_with fail
  refine HB.out.mono ?_
  rintro e w1 ⟨rfl, b1⟩
  rw [hbv]
  have c0 : w1.cell? ⟨L, 0, none⟩ = some (.int .i64 (host : Nat)) := row?_cell (by rw [row?_below b1 (row?_lt H.out.1)]; exact H.out.1) 0
  have B1 := Lib.hid b1
  have hT := HT.out
  have e1 : wrap64 (2 * ((host : Nat) : Int)) = 2 * (host : Nat) := IntWalk.wrap64_in _ (by omega)
  have e2 : wrap64 (t + 2 * ((host : Nat) : Int)) = t + 2 * (host : Nat) := IntWalk.wrap64_in _ (by omega)
  have e3 : (t + 2 * ((host : Nat) : Int)).tmod 4 = (t + 2 * ((host : Nat) : Int)) % 4 := Int.tmod_eq_emod_of_nonneg (by omega)
  have e4 : wrap64 ((t + 2 * ((host : Nat) : Int)) % 4) = (t + 2 * ((host : Nat) : Int)) % 4 := IntWalk.wrap64_in _ (by omega)
  have hres : slotB (host : Nat) s t = ((t + 2 * ((host : Nat) : Int)) % 4 == 0) := by unfold slotB; rw [hbv, p0']; rfl
  have HR := Lib.hid hres
  clear b1 hT hres HB
  go_wp2_with fail
  go_ret
  exact ⟨by rw [HR.out]; rfl, B1.out⟩
 ·go_enter Tryz.func26, Tryz.ntmps26
  go_wp2_with fail
  refine HB.out.mono ?_
  rintro e w1 ⟨rfl, b1⟩
  rw [hbv]
  have B1 := Lib.hid b1
  have hres : slotB (host : Nat) s t = true := by unfold slotB; rw [hbv, p0']; rfl
  have HR := Lib.hid hres
  clear b1 hres HB
  go_wp2_with fail
  go_ret
  exact ⟨by rw [HR.out]; rfl, B1.out⟩
end Go.Proofs.YthjbmggpleliaaaGreatDoor

end
