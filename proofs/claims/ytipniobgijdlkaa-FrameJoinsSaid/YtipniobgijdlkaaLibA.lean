/- Rows of cells, whole: what a load and a store of an array by value do to a block that is known whole. Over any program. -/
import Derived.WalkKit
import Derived.WalkSpells
import Derived.WalkLawsBesides
import Derived.Deep.WholeRow
import Derived.Deep.MidRow
import Derived.Lib.Hide
import Derived.Deep.Draws
namespace Go.Rw
open Go Go.RowKit
variable {P : Program}

/-- A block's cells, where it is an unfrozen block of cells. -/
def row? (w : World) (b : Nat) : Option (Array Value) :=
  match w.heap[b]? with
  | some (.cells c _ (0, 0)) => some c
  | _ => none

theorem row?_some {w : World} {b : Nat} {c : Array Value} (h : row? w b = some c) : ∃ t, w.heap[b]? = some (.cells c t (0, 0)) := by
  unfold row? at h
  split at h
  · rename_i c' t hh; cases h; exact ⟨t, hh⟩
  · cases h

theorem row?_of {w : World} {b : Nat} {c : Array Value} {t : TypeId} (h : w.heap[b]? = some (.cells c t (0, 0))) : row? w b = some c := by
  simp [row?, h]

theorem row?_lt {w : World} {b : Nat} {c : Array Value} (h : row? w b = some c) : b < w.heap.size := by
  obtain ⟨t, ht⟩ := row?_some h
  exact (Array.getElem?_eq_some_iff.1 ht).1

@[go_sem] theorem row?_drew (w : World) (b : Nat) : row? w.drew b = row? w b := rfl
@[go_sem] theorem row?_alloc_at (w : World) (c : Array Value) (t : TypeId) (n : Nat) (hn : n = w.heap.size) : row? (w.alloc (.cells c t)) n = some c := by
  subst hn
  exact row?_of (heap_alloc_new w _)
@[go_sem] theorem row?_alloc_past (w : World) (o : Obj) (n : Nat) (hn : n < w.heap.size) : row? (w.alloc o) n = row? w n := by
  unfold row?
  rw [Below.heap_alloc w o n hn]

-- what the walk asks of the numbers of blocks
@[go_sem] theorem lt_up2 (n : Nat) : (n < n + 1 + 1) = True := by simp only [eq_iff_iff, iff_true]; omega
@[go_sem] theorem ne_up2 (n : Nat) : (n = n + 1 + 1) = False := by simp only [eq_iff_iff, iff_false]; omega
@[go_sem] theorem lt_up3 (n : Nat) : (n < n + 1 + 1 + 1) = True := by simp only [eq_iff_iff, iff_true]; omega
@[go_sem] theorem ne_up3 (n : Nat) : (n = n + 1 + 1 + 1) = False := by simp only [eq_iff_iff, iff_false]; omega
@[go_sem] theorem lt_up4 (n : Nat) : (n < n + 1 + 1 + 1 + 1) = True := by simp only [eq_iff_iff, iff_true]; omega
@[go_sem] theorem ne_up4 (n : Nat) : (n = n + 1 + 1 + 1 + 1) = False := by simp only [eq_iff_iff, iff_false]; omega
@[go_sem] theorem lt_up5 (n : Nat) : (n < n + 1 + 1 + 1 + 1 + 1) = True := by simp only [eq_iff_iff, iff_true]; omega
@[go_sem] theorem ne_up5 (n : Nat) : (n = n + 1 + 1 + 1 + 1 + 1) = False := by simp only [eq_iff_iff, iff_false]; omega
@[go_sem] theorem lt_up6 (n : Nat) : (n < n + 1 + 1 + 1 + 1 + 1 + 1) = True := by simp only [eq_iff_iff, iff_true]; omega
@[go_sem] theorem ne_up6 (n : Nat) : (n = n + 1 + 1 + 1 + 1 + 1 + 1) = False := by simp only [eq_iff_iff, iff_false]; omega
@[go_sem] theorem lt_up7 (n : Nat) : (n < n + 1 + 1 + 1 + 1 + 1 + 1 + 1) = True := by simp only [eq_iff_iff, iff_true]; omega
@[go_sem] theorem ne_up7 (n : Nat) : (n = n + 1 + 1 + 1 + 1 + 1 + 1 + 1) = False := by simp only [eq_iff_iff, iff_false]; omega
@[go_sem] theorem lt_up8 (n : Nat) : (n < n + 1 + 1 + 1 + 1 + 1 + 1 + 1 + 1) = True := by simp only [eq_iff_iff, iff_true]; omega
@[go_sem] theorem ne_up8 (n : Nat) : (n = n + 1 + 1 + 1 + 1 + 1 + 1 + 1 + 1) = False := by simp only [eq_iff_iff, iff_false]; omega
@[go_sem] theorem lt_up9 (n : Nat) : (n < n + 1 + 1 + 1 + 1 + 1 + 1 + 1 + 1 + 1) = True := by simp only [eq_iff_iff, iff_true]; omega
@[go_sem] theorem ne_up9 (n : Nat) : (n = n + 1 + 1 + 1 + 1 + 1 + 1 + 1 + 1 + 1) = False := by simp only [eq_iff_iff, iff_false]; omega
@[go_sem] theorem lt_up10 (n : Nat) : (n < n + 1 + 1 + 1 + 1 + 1 + 1 + 1 + 1 + 1 + 1) = True := by simp only [eq_iff_iff, iff_true]; omega
@[go_sem] theorem ne_up10 (n : Nat) : (n = n + 1 + 1 + 1 + 1 + 1 + 1 + 1 + 1 + 1 + 1) = False := by simp only [eq_iff_iff, iff_false]; omega
@[go_sem] theorem lt_up11 (n : Nat) : (n < n + 1 + 1 + 1 + 1 + 1 + 1 + 1 + 1 + 1 + 1 + 1) = True := by simp only [eq_iff_iff, iff_true]; omega
@[go_sem] theorem ne_up11 (n : Nat) : (n = n + 1 + 1 + 1 + 1 + 1 + 1 + 1 + 1 + 1 + 1 + 1) = False := by simp only [eq_iff_iff, iff_false]; omega
@[go_sem] theorem lt_up12 (n : Nat) : (n < n + 1 + 1 + 1 + 1 + 1 + 1 + 1 + 1 + 1 + 1 + 1 + 1) = True := by simp only [eq_iff_iff, iff_true]; omega
@[go_sem] theorem ne_up12 (n : Nat) : (n = n + 1 + 1 + 1 + 1 + 1 + 1 + 1 + 1 + 1 + 1 + 1 + 1) = False := by simp only [eq_iff_iff, iff_false]; omega

theorem row?_cell {w : World} {b : Nat} {c : Array Value} (h : row? w b = some c) (i : Nat) : w.cell? ⟨b, i, none⟩ = c[i]? := by
  obtain ⟨t, ht⟩ := row?_some h
  exact cell_of_row w b i c t (0, 0) ht
theorem row?_frozen {w : World} {b : Nat} {c : Array Value} (h : row? w b = some c) (i : Nat) : w.frozen? ⟨b, i, none⟩ = false := by
  obtain ⟨t, ht⟩ := row?_some h
  exact frozen_of_row w b i c t ht

theorem row?_setCell_ne (w : World) (a : Addr) (v : Value) (n : Nat) (h : n ≠ a.block) : row? (w.setCell a v) n = row? w n := by
  unfold row?
  rw [heap_setCell_other w a n v h]
theorem row?_setCell_eq {w : World} {b i : Nat} {c : Array Value} (h : row? w b = some c) (v : Value) : row? (w.setCell ⟨b, i, none⟩ v) b = some (c.setIfInBounds i v) := by
  obtain ⟨t, ht⟩ := row?_some h
  exact row?_of (heap_setCell_same w b i c t v ht)

theorem row?_below {B : Nat} {w w' : World} (h : Below B w w') {b : Nat} (hb : b < B) : row? w' b = row? w b := by
  unfold row?
  rw [h.block b hb]

/-- Whole rows read and written. -/
theorem setRow_alloc_at (w : World) (c c' : Array Value) (t : TypeId) (n : Nat) (hn : n = w.heap.size) : (w.alloc (.cells c t)).setRow n c' = w.alloc (.cells c' t) := by
  subst hn; exact World.setRow_alloc_new w c c' t
theorem setRow_alloc_past (w : World) (o : Obj) (c' : Array Value) (n : Nat) (hn : n < w.heap.size) : (w.alloc o).setRow n c' = (w.setRow n c').alloc o := by
  simp only [World.setRow, World.alloc]
  congr 1
  apply Array.ext_getElem?
  intro i
  rw [Array.getElem?_modify, Array.getElem?_push, Array.getElem?_push, Array.size_modify, Array.getElem?_modify]
  by_cases e : n = i
  · subst e
    simp [Nat.ne_of_lt hn]
  · simp [e]
theorem setRow_drew (w : World) (n : Nat) (c : Array Value) : w.drew.setRow n c = (w.setRow n c).drew := rfl
theorem setRow_self (w : World) (b : Nat) (c : Array Value) (t : TypeId) (fr : Nat × Nat) (h : w.heap[b]? = some (.cells c t fr)) : w.setRow b c = w := by
  cases w
  simp only [World.setRow, World.mk.injEq, and_true] at h ⊢
  apply Array.ext_getElem?
  intro i
  rw [Array.getElem?_modify]
  by_cases e : b = i
  · subst e; rw [if_pos rfl, h]; rfl
  · rw [if_neg e]
theorem setRow_setRow (w : World) (b : Nat) (c c' : Array Value) : (w.setRow b c).setRow b c' = w.setRow b c' := by
  unfold World.setRow
  simp only
  congr 1
  apply Array.ext_getElem?
  intro i
  simp only [Array.getElem?_modify]
  by_cases e : b = i
  · subst e
    simp only [if_pos]
    cases w.heap[b]? with
    | none => rfl
    | some o => cases o <;> rfl
  · simp only [if_neg e]
theorem row?_setRow_eq {w : World} {b : Nat} {c c' : Array Value} (h : row? w b = some c) : row? (w.setRow b c') b = some c' := by
  obtain ⟨t, ht⟩ := row?_some h
  exact row?_of (setRow_heap w b c c' t _ ht)
theorem row?_setRow_ne (w : World) (b n : Nat) (c' : Array Value) (h : n ≠ b) : row? (w.setRow b c') n = row? w n := by
  unfold row?
  rw [setRow_other w b n c' h]

theorem below_setRow {B : Nat} {w w1 : World} (h : Below B w w1) {b : Nat} (hb : B ≤ b) (c : Array Value) : Below B w (w1.setRow b c) :=
  ⟨h.os, h.tape, h.output, by simpa using h.size, fun k hk => by rw [setRow_other w1 b k c (by omega)]; exact h.block k hk⟩
theorem row?_drewN (w : World) (n b : Nat) : row? (w.drewN n) b = row? w b := by
  cases n <;> rfl
theorem _root_.Go.RowKit.Below.drewN {B : Nat} {a w : World} (h : Below B a w) (n : Nat) : Below B a (w.drewN n) := ⟨h.os, h.tape, h.output, h.size, h.block⟩

/-- What of a type the whole-row rules want: it is an array or a struct of n cells. -/
structure Agg (P : Program) (t : TypeId) (n : Nat) : Prop where
  und : ∃ d, P.underlying t = some d ∧ d.isRow = true
  size : (P.info? t).map (·.size) = some n

theorem run_loadAt_row {t n : Nat} (A : Agg P t n) {w : World} {b : Nat} {c : Array Value} (h : row? w b = some c) (hn : c.size = n) :
    (Instr.loadAt t (.pointer (some ⟨b, 0, none⟩))).run P w = .ok (.agg c) w := by
  obtain ⟨d, hu, hd⟩ := A.und
  obtain ⟨t', ht⟩ := row?_some h
  simp only [Instr.loadAt, Instr.sureAddr, Sem.run_bind, Sem.run_pure, Result.andThen]
  exact run_loadVar_row w b t' t c (0, 0) d ht hu (by cases d <;> simp_all [TypeDesc.isRow]) (by rw [hn]; exact A.size)

theorem run_storeAt_row {t n : Nat} (A : Agg P t n) {w : World} {b : Nat} {c c' : Array Value} (h : row? w b = some c) (hn : c.size = n) (hn' : c'.size = n) (h1 : c'.all (·.oneCell') = true) :
    (Instr.storeAt t (.pointer (some ⟨b, 0, none⟩)) (.agg c')).run P w = .ok () (w.setRow b c') := by
  obtain ⟨t', ht⟩ := row?_some h
  simp only [Instr.storeAt, Instr.sureAddr, Sem.run_bind, Sem.run_pure, Result.andThen]
  exact run_storeVar_row w b t' t c c' ht (by rw [hn']; exact A.size) (by omega) h1

/-- A part of a block, by value. -/
theorem run_loadAt_part {t n : Nat} (A : Agg P t n) {w : World} {b o : Nat} {c : Array Value} (h : row? w b = some c) (hn : o + n ≤ c.size) :
    (Instr.loadAt t (.pointer (some ⟨b, o, none⟩))).run P w = .ok (.agg (c.extract o (o + n))) w := by
  obtain ⟨d, hu, hd⟩ := A.und
  have := run_loadAt_mid (P := P) w b o t (c.extract o (o + n)).toList d (fun j v hv => by
    rw [row?_cell h]
    have hj : j < n := by
      have := (List.getElem?_eq_some_iff.1 hv).1
      simp at this; omega
    simp only [Array.getElem?_toList, Array.getElem?_extract] at hv
    rw [if_pos (by omega)] at hv
    exact hv) hu hd (by rw [A.size]; simp; omega)
  simpa only [Array.toArray_toList] using this

theorem run_storeAt_part {t n : Nat} (A : Agg P t n) {w : World} {b o : Nat} {c c' : Array Value} (h : row? w b = some c) (hn : o + n ≤ c.size) (hn' : c'.size = n) (h1 : c'.all (·.oneCell') = true) :
    (Instr.storeAt t (.pointer (some ⟨b, o, none⟩)) (.agg c')).run P w = .ok () (w.setCells b o c'.toList) := by
  exact run_storeAt_mid w b o t c' (fun j hj => ⟨by rw [row?_cell h]; simp; omega, row?_frozen h _⟩) (by rw [A.size, hn']) h1

theorem results_row {fn : Func} {p : Tmp} {t n : Nat} (A : Agg P t n) (hr : fn.results = #[.cell p t]) (tmps : Array Value) (w : World) (b : Nat) (c : Array Value)
    (hp : tmps.getD p undef = .pointer (some ⟨b, 0, none⟩)) (h : row? w b = some c) (hn : c.size = n) : (results fn tmps).run P w = .ok (.agg c) w := by
  obtain ⟨d, hu, hd⟩ := A.und
  obtain ⟨t', ht⟩ := row?_some h
  exact results_cell_row hr tmps w b t' c (0, 0) d hp ht hu (by cases d <;> simp_all [TypeDesc.isRow]) (by rw [hn]; exact A.size)

/-- The same, as rules for the walk: nothing is left open. The three words stand for the model's own where the value is an array or a struct: the walk does not open them. -/
def allOne (c : Array Value) : Bool := c.all (·.oneCell')
def loadAgg (t : TypeId) (x : Value) : Sem Value := Instr.loadAt t x
def storeAgg (t : TypeId) (x y : Value) : Sem Unit := Instr.storeAt t x y
def allocAgg (t : TypeId) : Sem Value := Instr.alloc t true (.tuple #[])
theorem load_rule {t n : Nat} (A : Agg P t n) (w : World) (b : Nat) (h : (row? w b).map (·.size) = some n) :
    (loadAgg t (.pointer (some ⟨b, 0, none⟩))).run P w = .ok (.agg ((row? w b).getD #[])) w := by
  obtain ⟨c, hc, hn⟩ := Option.map_eq_some_iff.1 h
  unfold loadAgg
  rw [run_loadAt_row A hc hn, hc]; rfl
theorem part_rule {t n : Nat} (A : Agg P t n) (w : World) (b o : Nat) (h : decide (o + n ≤ (((row? w b).getD #[]).size)) = true) (h0 : (row? w b).isSome = true) :
    (loadAgg t (.pointer (some ⟨b, o, none⟩))).run P w = .ok (.agg (((row? w b).getD #[]).extract o (o + n))) w := by
  obtain ⟨c, hc⟩ := Option.isSome_iff_exists.1 h0
  unfold loadAgg
  rw [hc] at h ⊢
  rw [run_loadAt_part A hc (by simpa using h)]; rfl
theorem store_rule {t n : Nat} (A : Agg P t n) (w : World) (b : Nat) (c' : Array Value) (h : (row? w b).map (·.size) = some n) (hn : c'.size = n) (h1 : allOne c' = true) :
    (storeAgg t (.pointer (some ⟨b, 0, none⟩)) (.agg c')).run P w = .ok () (w.setRow b c') := by
  obtain ⟨c, hc, hn0⟩ := Option.map_eq_some_iff.1 h
  exact run_storeAt_row A hc hn0 hn h1
theorem alloc_rule {t n : Nat} {c : Array Value} (hz : (P.info? t).map (fun i => (i.zero, i.size)) = some (some (.agg c), n)) (w : World) :
    (allocAgg t).run P w = .ok (.pointer (some ⟨w.heap.size, 0, none⟩)) (w.alloc (.cells c t)) := by
  have h0 := (zero_of_info hz).1 w
  simp [allocAgg, Instr.alloc, Sem.run_bind, h0, newVar, Value.cells, go_sem]

/-- A part of a row, written over. -/
def splice (c : Array Value) (o : Nat) (c' : Array Value) : Array Value := (c.toList.take o ++ c'.toList ++ c.toList.drop (o + c'.size)).toArray
theorem setCells_row : ∀ (vs : List Value) (w : World) (b o : Nat) (c : Array Value), row? w b = some c → o + vs.length ≤ c.size →
    w.setCells b o vs = w.setRow b (c.toList.take o ++ vs ++ c.toList.drop (o + vs.length)).toArray
  | [], w, b, o, c, h, ho => by
    obtain ⟨t, ht⟩ := row?_some h
    simp only [World.setCells, List.append_nil, List.length_nil, Nat.add_zero, List.take_append_drop, Array.toArray_toList]
    exact (setRow_self w b c t _ ht).symm
  | v :: vs, w, b, o, c, h, ho => by
    obtain ⟨t, ht⟩ := row?_some h
    simp only [List.length_cons] at ho
    simp only [World.setCells]
    rw [setCells_row vs (w.setCell ⟨b, o, none⟩ v) b (o + 1) _ (row?_setCell_eq h v) (by simp; omega), setCell_eq_setRow w b o c t _ v ht, setRow_setRow]
    congr 1
    apply Array.ext'
    simp only [Array.toList_setIfInBounds, List.length_cons]
    apply List.ext_getElem?
    intro i
    simp only [List.getElem?_append, List.getElem?_take, List.getElem?_drop, List.getElem?_set, List.length_append, List.length_take, List.length_set, List.length_cons, Array.length_toList]
    have e1 : min o c.size = o := by omega
    have e2 : min (o + 1) c.size = o + 1 := by omega
    simp only [e1, e2]
    rcases Nat.lt_trichotomy i o with hi | hi | hi
    · have : ¬ o = i := by omega
      have a1 : i < o + 1 + vs.length := by omega
      have a2 : i < o + 1 := by omega
      have a3 : i < o + (vs.length + 1) := by omega
      simp [hi, this, a1, a2, a3]
    · subst hi
      have a1 : i < i + 1 + vs.length := by omega
      have a2 : i < i + (vs.length + 1) := by omega
      have a3 : i < c.size := by omega
      simp [a1, a2, a3]
    · have : ¬ o = i := by omega
      have a2 : ¬ i < o + 1 := by omega
      have a4 : ¬ i < o := by omega
      by_cases h2 : i < o + 1 + vs.length
      · have a3 : i < o + (vs.length + 1) := by omega
        obtain ⟨d, rfl⟩ : ∃ d, i = o + 1 + d := ⟨i - (o + 1), by omega⟩
        simp only [h2, a2, a3, a4, if_true, if_false]
        rw [show o + 1 + d - (o + 1) = d by omega, show o + 1 + d - o = d + 1 by omega]
        simp
      · have a3 : ¬ i < o + (vs.length + 1) := by omega
        have a5 : ¬ o = o + 1 + vs.length + (i - (o + 1 + vs.length)) := by omega
        simp only [h2, a3, if_false, a5]
        congr 1; omega
theorem part_store_rule {t n : Nat} (A : Agg P t n) (w : World) (b o : Nat) (c' : Array Value) (h : decide (o + n ≤ ((row? w b).getD #[]).size) = true) (h0 : (row? w b).isSome = true) (hn : c'.size = n) (h1 : allOne c' = true) :
    (storeAgg t (.pointer (some ⟨b, o, none⟩)) (.agg c')).run P w = .ok () (w.setRow b (splice ((row? w b).getD #[]) o c')) := by
  obtain ⟨c, hc⟩ := Option.isSome_iff_exists.1 h0
  rw [hc] at h ⊢
  have ho : o + n ≤ c.size := by simpa using h
  unfold storeAgg
  rw [run_storeAt_part A hc ho hn h1, setCells_row _ _ _ _ _ hc (by simp; omega)]
  rfl

/-- Bytes as values. -/
def bv (b : UInt8) : Value := .int .u8 b.toNat
def bvs (l : List UInt8) : Array Value := (l.map bv).toArray
@[go_sem] theorem bvs_size (l : List UInt8) : (bvs l).size = l.length := by simp [bvs]
theorem oneCell_bv (b : UInt8) : (bv b).oneCell' = true := rfl
@[go_sem] theorem bvs_all (l : List UInt8) : allOne (bvs l) = true := by
  simp [allOne, bvs, oneCell_bv]
theorem bvs_get (l : List UInt8) (k : Nat) (h : k < l.length) : (bvs l)[k]? = some (.int .u8 (l[k]?.getD 0).toNat) := by
  simp [bvs, bv, h]
theorem bvs_set (l : List UInt8) (k : Nat) (b : UInt8) : (bvs l).setIfInBounds k (.int .u8 b.toNat) = bvs (l.set k b) := by
  simp [bvs, bv, List.map_set]
@[go_sem] theorem splice_bvs (l : List UInt8) (o : Nat) (l' : List UInt8) : splice (bvs l) o (bvs l') = bvs (l.take o ++ l' ++ l.drop (o + l'.length)) := by
  apply Array.toList_inj.1
  simp [splice, bvs, List.map_take, List.map_drop]
theorem bvs_extract (l : List UInt8) (i j : Nat) : (bvs l).extract i j = bvs ((l.take j).drop i) := by
  apply Array.toList_inj.1
  simp [bvs, List.map_drop, List.map_take, List.drop_take]

end Go.Rw
