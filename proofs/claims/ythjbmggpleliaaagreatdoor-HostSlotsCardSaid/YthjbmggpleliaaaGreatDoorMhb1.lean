/- LibA; LibB; LibS. -/
import Derived.WalkKit
import Derived.WalkSpells
import Derived.WalkLawsBesides
import Derived.Deep.WholeRow
import Derived.Deep.MidRow
import Derived.Lib.Hide
import Derived.Deep.Draws
import Derived.OwnWalk
import Derived.Laws.IdiomCopy
import Derived.Laws.CopyRow
import Derived.Laws.AppendOwnNone
import Derived.Laws.BytesArg
section
namespace Go.Rw
open Go Go.RowKit
variable {P : Program}
def row? (w : World) (b : Nat) : Option (Array Value) :=
 match w.heap[b]? with
 | some (.cells c _ (0, 0)) => some c
 | _ => none
theorem row?_some {w : World} {b : Nat} {c : Array Value} (h : row? w b = some c) : ∃ t, w.heap[b]? = some (.cells c t (0, 0)) := by
 unfold row? at h
 split at h
 ·rename_i c' t hh; cases h; exact ⟨t, hh⟩
 ·cases h
theorem row?_of {w : World} {b : Nat} {c : Array Value} {t : TypeId} (h : w.heap[b]? = some (.cells c t (0, 0))) : row? w b = some c := by
 simp [row?, h]
theorem row?_lt {w : World} {b : Nat} {c : Array Value} (h : row? w b = some c) : b < w.heap.size := by
 obtain ⟨t, ht⟩ := row?_some h
 exact (Array.getElem?_eq_some_iff.1 ht).1
@[go_sem] theorem row?_drew (w : World) (b : Nat) : row? w.drew b = row? w b := rfl
@[go_sem] theorem row?_alloc_at (w : World) (c : Array Value) (t : TypeId) (n : Nat) (hn : n = w.heap.size) : row? (w.alloc (.cells c t)) n = some c := by
 subst hn
 exact row?_of (heap_alloc_new w _)
@[go_sem] theorem row?_alloc_past (w : World) (o : Obj) (n : Nat) (hn : n < w.heap.size) : row? (w.alloc o) n = row? w n := by
 unfold row?
 rw [Below.heap_alloc w o n hn]
-- what the walk asks of the numbers of blocks
@[go_sem] theorem lt_up2 (n : Nat) : (n < n + 1 + 1) = True := by simp only [eq_iff_iff, iff_true]; omega
@[go_sem] theorem ne_up2 (n : Nat) : (n = n + 1 + 1) = False := by simp only [eq_iff_iff, iff_false]; omega
@[go_sem] theorem lt_up3 (n : Nat) : (n < n + 1 + 1 + 1) = True := by simp only [eq_iff_iff, iff_true]; omega
@[go_sem] theorem ne_up3 (n : Nat) : (n = n + 1 + 1 + 1) = False := by simp only [eq_iff_iff, iff_false]; omega
@[go_sem] theorem lt_up4 (n : Nat) : (n < n + 1 + 1 + 1 + 1) = True := by simp only [eq_iff_iff, iff_true]; omega
@[go_sem] theorem ne_up4 (n : Nat) : (n = n + 1 + 1 + 1 + 1) = False := by simp only [eq_iff_iff, iff_false]; omega
@[go_sem] theorem lt_up5 (n : Nat) : (n < n + 1 + 1 + 1 + 1 + 1) = True := by simp only [eq_iff_iff, iff_true]; omega
@[go_sem] theorem ne_up5 (n : Nat) : (n = n + 1 + 1 + 1 + 1 + 1) = False := by simp only [eq_iff_iff, iff_false]; omega
@[go_sem] theorem lt_up6 (n : Nat) : (n < n + 1 + 1 + 1 + 1 + 1 + 1) = True := by simp only [eq_iff_iff, iff_true]; omega
@[go_sem] theorem ne_up6 (n : Nat) : (n = n + 1 + 1 + 1 + 1 + 1 + 1) = False := by simp only [eq_iff_iff, iff_false]; omega
@[go_sem] theorem lt_up7 (n : Nat) : (n < n + 1 + 1 + 1 + 1 + 1 + 1 + 1) = True := by simp only [eq_iff_iff, iff_true]; omega
@[go_sem] theorem ne_up7 (n : Nat) : (n = n + 1 + 1 + 1 + 1 + 1 + 1 + 1) = False := by simp only [eq_iff_iff, iff_false]; omega
@[go_sem] theorem lt_up8 (n : Nat) : (n < n + 1 + 1 + 1 + 1 + 1 + 1 + 1 + 1) = True := by simp only [eq_iff_iff, iff_true]; omega
@[go_sem] theorem ne_up8 (n : Nat) : (n = n + 1 + 1 + 1 + 1 + 1 + 1 + 1 + 1) = False := by simp only [eq_iff_iff, iff_false]; omega
@[go_sem] theorem lt_up9 (n : Nat) : (n < n + 1 + 1 + 1 + 1 + 1 + 1 + 1 + 1 + 1) = True := by simp only [eq_iff_iff, iff_true]; omega
@[go_sem] theorem ne_up9 (n : Nat) : (n = n + 1 + 1 + 1 + 1 + 1 + 1 + 1 + 1 + 1) = False := by simp only [eq_iff_iff, iff_false]; omega
@[go_sem] theorem lt_up10 (n : Nat) : (n < n + 1 + 1 + 1 + 1 + 1 + 1 + 1 + 1 + 1 + 1) = True := by simp only [eq_iff_iff, iff_true]; omega
@[go_sem] theorem ne_up10 (n : Nat) : (n = n + 1 + 1 + 1 + 1 + 1 + 1 + 1 + 1 + 1 + 1) = False := by simp only [eq_iff_iff, iff_false]; omega
@[go_sem] theorem lt_up11 (n : Nat) : (n < n + 1 + 1 + 1 + 1 + 1 + 1 + 1 + 1 + 1 + 1 + 1) = True := by simp only [eq_iff_iff, iff_true]; omega
@[go_sem] theorem ne_up11 (n : Nat) : (n = n + 1 + 1 + 1 + 1 + 1 + 1 + 1 + 1 + 1 + 1 + 1) = False := by simp only [eq_iff_iff, iff_false]; omega
@[go_sem] theorem lt_up12 (n : Nat) : (n < n + 1 + 1 + 1 + 1 + 1 + 1 + 1 + 1 + 1 + 1 + 1 + 1) = True := by simp only [eq_iff_iff, iff_true]; omega
@[go_sem] theorem ne_up12 (n : Nat) : (n = n + 1 + 1 + 1 + 1 + 1 + 1 + 1 + 1 + 1 + 1 + 1 + 1) = False := by simp only [eq_iff_iff, iff_false]; omega
theorem row?_cell {w : World} {b : Nat} {c : Array Value} (h : row? w b = some c) (i : Nat) : w.cell? ⟨b, i, none⟩ = c[i]? := by
 obtain ⟨t, ht⟩ := row?_some h
 exact cell_of_row w b i c t (0, 0) ht
theorem row?_frozen {w : World} {b : Nat} {c : Array Value} (h : row? w b = some c) (i : Nat) : w.frozen? ⟨b, i, none⟩ = false := by
 obtain ⟨t, ht⟩ := row?_some h
 exact frozen_of_row w b i c t ht
theorem row?_setCell_ne (w : World) (a : Addr) (v : Value) (n : Nat) (h : n ≠ a.block) : row? (w.setCell a v) n = row? w n := by
 unfold row?
 rw [heap_setCell_other w a n v h]
theorem row?_setCell_eq {w : World} {b i : Nat} {c : Array Value} (h : row? w b = some c) (v : Value) : row? (w.setCell ⟨b, i, none⟩ v) b = some (c.setIfInBounds i v) := by
 obtain ⟨t, ht⟩ := row?_some h
 exact row?_of (heap_setCell_same w b i c t v ht)
theorem row?_below {B : Nat} {w w' : World} (h : Below B w w') {b : Nat} (hb : b < B) : row? w' b = row? w b := by
 unfold row?
 rw [h.block b hb]
theorem setRow_alloc_at (w : World) (c c' : Array Value) (t : TypeId) (n : Nat) (hn : n = w.heap.size) : (w.alloc (.cells c t)).setRow n c' = w.alloc (.cells c' t) := by
 subst hn; exact World.setRow_alloc_new w c c' t
theorem setRow_alloc_past (w : World) (o : Obj) (c' : Array Value) (n : Nat) (hn : n < w.heap.size) : (w.alloc o).setRow n c' = (w.setRow n c').alloc o := by
 simp only [World.setRow, World.alloc]
 congr 1
 apply Array.ext_getElem?
 intro i
 rw [Array.getElem?_modify, Array.getElem?_push, Array.getElem?_push, Array.size_modify, Array.getElem?_modify]
 by_cases e : n = i
 ·subst e
  simp [Nat.ne_of_lt hn]
 ·simp [e]
theorem setRow_drew (w : World) (n : Nat) (c : Array Value) : w.drew.setRow n c = (w.setRow n c).drew := rfl
theorem setRow_self (w : World) (b : Nat) (c : Array Value) (t : TypeId) (fr : Nat × Nat) (h : w.heap[b]? = some (.cells c t fr)) : w.setRow b c = w := by
 cases w
 simp only [World.setRow, World.mk.injEq, and_true] at h ⊢
 apply Array.ext_getElem?
 intro i
 rw [Array.getElem?_modify]
 by_cases e : b = i
 ·subst e; rw [if_pos rfl, h]; rfl
 ·rw [if_neg e]
theorem setRow_setRow (w : World) (b : Nat) (c c' : Array Value) : (w.setRow b c).setRow b c' = w.setRow b c' := by
 unfold World.setRow
 simp only
 congr 1
 apply Array.ext_getElem?
 intro i
 simp only [Array.getElem?_modify]
 by_cases e : b = i
 ·subst e
  simp only [if_pos]
  cases w.heap[b]? with
  | none => rfl
  | some o => cases o <;> rfl
 ·simp only [if_neg e]
theorem row?_setRow_eq {w : World} {b : Nat} {c c' : Array Value} (h : row? w b = some c) : row? (w.setRow b c') b = some c' := by
 obtain ⟨t, ht⟩ := row?_some h
 exact row?_of (setRow_heap w b c c' t _ ht)
theorem row?_setRow_ne (w : World) (b n : Nat) (c' : Array Value) (h : n ≠ b) : row? (w.setRow b c') n = row? w n := by
 unfold row?
 rw [setRow_other w b n c' h]
theorem below_setRow {B : Nat} {w w1 : World} (h : Below B w w1) {b : Nat} (hb : B ≤ b) (c : Array Value) : Below B w (w1.setRow b c) :=
 ⟨h.os, h.tape, h.output, by simpa using h.size, fun k hk => by rw [setRow_other w1 b k c (by omega)]; exact h.block k hk⟩
theorem _root_.Go.RowKit.Below.drewN {B : Nat} {a w : World} (h : Below B a w) (n : Nat) : Below B a (w.drewN n) := ⟨h.os, h.tape, h.output, h.size, h.block⟩
structure Agg (P : Program) (t : TypeId) (n : Nat) : Prop where
 und : ∃ d, P.underlying t = some d ∧ d.isRow = true
 size : (P.info? t).map (·.size) = some n
theorem run_loadAt_row {t n : Nat} (A : Agg P t n) {w : World} {b : Nat} {c : Array Value} (h : row? w b = some c) (hn : c.size = n) :
  (Instr.loadAt t (.pointer (some ⟨b, 0, none⟩))).run P w = .ok (.agg c) w := by
 obtain ⟨d, hu, hd⟩ := A.und
 obtain ⟨t', ht⟩ := row?_some h
 simp only [Instr.loadAt, Instr.sureAddr, Sem.run_bind, Sem.run_pure, Result.andThen]
 exact run_loadVar_row w b t' t c (0, 0) d ht hu (by cases d <;> simp_all [TypeDesc.isRow]) (by rw [hn]; exact A.size)
theorem run_storeAt_row {t n : Nat} (A : Agg P t n) {w : World} {b : Nat} {c c' : Array Value} (h : row? w b = some c) (hn : c.size = n) (hn' : c'.size = n) (h1 : c'.all (·.oneCell') = true) :
  (Instr.storeAt t (.pointer (some ⟨b, 0, none⟩)) (.agg c')).run P w = .ok () (w.setRow b c') := by
 obtain ⟨t', ht⟩ := row?_some h
 simp only [Instr.storeAt, Instr.sureAddr, Sem.run_bind, Sem.run_pure, Result.andThen]
 exact run_storeVar_row w b t' t c c' ht (by rw [hn']; exact A.size) (by omega) h1
theorem run_loadAt_part {t n : Nat} (A : Agg P t n) {w : World} {b o : Nat} {c : Array Value} (h : row? w b = some c) (hn : o + n ≤ c.size) :
  (Instr.loadAt t (.pointer (some ⟨b, o, none⟩))).run P w = .ok (.agg (c.extract o (o + n))) w := by
 obtain ⟨d, hu, hd⟩ := A.und
 have := run_loadAt_mid (P := P) w b o t (c.extract o (o + n)).toList d (fun j v hv => by
  rw [row?_cell h]
  have hj : j < n := by
   have := (List.getElem?_eq_some_iff.1 hv).1
   simp at this; omega
  simp only [Array.getElem?_toList, Array.getElem?_extract] at hv
  rw [if_pos (by omega)] at hv
  exact hv) hu hd (by rw [A.size]; simp; omega)
 simpa only [Array.toArray_toList] using this
theorem run_storeAt_part {t n : Nat} (A : Agg P t n) {w : World} {b o : Nat} {c c' : Array Value} (h : row? w b = some c) (hn : o + n ≤ c.size) (hn' : c'.size = n) (h1 : c'.all (·.oneCell') = true) :
  (Instr.storeAt t (.pointer (some ⟨b, o, none⟩)) (.agg c')).run P w = .ok () (w.setCells b o c'.toList) := by
 exact run_storeAt_mid w b o t c' (fun j hj => ⟨by rw [row?_cell h]; simp; omega, row?_frozen h _⟩) (by rw [A.size, hn']) h1
theorem results_row {fn : Func} {p : Tmp} {t n : Nat} (A : Agg P t n) (hr : fn.results = #[.cell p t]) (tmps : Array Value) (w : World) (b : Nat) (c : Array Value)
  (hp : tmps.getD p undef = .pointer (some ⟨b, 0, none⟩)) (h : row? w b = some c) (hn : c.size = n) : (results fn tmps).run P w = .ok (.agg c) w := by
 obtain ⟨d, hu, hd⟩ := A.und
 obtain ⟨t', ht⟩ := row?_some h
 exact results_cell_row hr tmps w b t' c (0, 0) d hp ht hu (by cases d <;> simp_all [TypeDesc.isRow]) (by rw [hn]; exact A.size)
def allOne (c : Array Value) : Bool := c.all (·.oneCell')
def loadAgg (t : TypeId) (x : Value) : Sem Value := Instr.loadAt t x
def storeAgg (t : TypeId) (x y : Value) : Sem Unit := Instr.storeAt t x y
def allocAgg (t : TypeId) : Sem Value := Instr.alloc t true (.tuple #[])
theorem load_rule {t n : Nat} (A : Agg P t n) (w : World) (b : Nat) (h : (row? w b).map (·.size) = some n) :
  (loadAgg t (.pointer (some ⟨b, 0, none⟩))).run P w = .ok (.agg ((row? w b).getD #[])) w := by
 obtain ⟨c, hc, hn⟩ := Option.map_eq_some_iff.1 h
 unfold loadAgg
 rw [run_loadAt_row A hc hn, hc]; rfl
theorem part_rule {t n : Nat} (A : Agg P t n) (w : World) (b o : Nat) (h : decide (o + n ≤ (((row? w b).getD #[]).size)) = true) (h0 : (row? w b).isSome = true) :
  (loadAgg t (.pointer (some ⟨b, o, none⟩))).run P w = .ok (.agg (((row? w b).getD #[]).extract o (o + n))) w := by
 obtain ⟨c, hc⟩ := Option.isSome_iff_exists.1 h0
 unfold loadAgg
 rw [hc] at h ⊢
 rw [run_loadAt_part A hc (by simpa using h)]; rfl
theorem store_rule {t n : Nat} (A : Agg P t n) (w : World) (b : Nat) (c' : Array Value) (h : (row? w b).map (·.size) = some n) (hn : c'.size = n) (h1 : allOne c' = true) :
  (storeAgg t (.pointer (some ⟨b, 0, none⟩)) (.agg c')).run P w = .ok () (w.setRow b c') := by
 obtain ⟨c, hc, hn0⟩ := Option.map_eq_some_iff.1 h
 exact run_storeAt_row A hc hn0 hn h1
theorem alloc_rule {t n : Nat} {c : Array Value} (hz : (P.info? t).map (fun i => (i.zero, i.size)) = some (some (.agg c), n)) (w : World) :
  (allocAgg t).run P w = .ok (.pointer (some ⟨w.heap.size, 0, none⟩)) (w.alloc (.cells c t)) := by
 have h0 := (zero_of_info hz).1 w
 simp [allocAgg, Instr.alloc, Sem.run_bind, h0, newVar, Value.cells, go_sem]
def splice (c : Array Value) (o : Nat) (c' : Array Value) : Array Value := (c.toList.take o ++ c'.toList ++ c.toList.drop (o + c'.size)).toArray
theorem setCells_row : ∀ (vs : List Value) (w : World) (b o : Nat) (c : Array Value), row? w b = some c → o + vs.length ≤ c.size →
  w.setCells b o vs = w.setRow b (c.toList.take o ++ vs ++ c.toList.drop (o + vs.length)).toArray
 | [], w, b, o, c, h, ho => by
  obtain ⟨t, ht⟩ := row?_some h
  simp only [World.setCells, List.append_nil, List.length_nil, Nat.add_zero, List.take_append_drop, Array.toArray_toList]
  exact (setRow_self w b c t _ ht).symm
 | v :: vs, w, b, o, c, h, ho => by
  obtain ⟨t, ht⟩ := row?_some h
  simp only [List.length_cons] at ho
  simp only [World.setCells]
  rw [setCells_row vs (w.setCell ⟨b, o, none⟩ v) b (o + 1) _ (row?_setCell_eq h v) (by simp; omega), setCell_eq_setRow w b o c t _ v ht, setRow_setRow]
  congr 1
  apply Array.ext'
  simp only [Array.toList_setIfInBounds, List.length_cons]
  apply List.ext_getElem?
  intro i
  simp only [List.getElem?_append, List.getElem?_take, List.getElem?_drop, List.getElem?_set, List.length_append, List.length_take, List.length_set, List.length_cons, Array.length_toList]
  have e1 : min o c.size = o := by omega
  have e2 : min (o + 1) c.size = o + 1 := by omega
  simp only [e1, e2]
  rcases Nat.lt_trichotomy i o with hi | hi | hi
  ·have : ¬ o = i := by omega
   have a1 : i < o + 1 + vs.length := by omega
   have a2 : i < o + 1 := by omega
   have a3 : i < o + (vs.length + 1) := by omega
   simp [hi, this, a1, a2, a3]
  ·subst hi
   have a1 : i < i + 1 + vs.length := by omega
   have a2 : i < i + (vs.length + 1) := by omega
   have a3 : i < c.size := by omega
   simp [a1, a2, a3]
  ·have : ¬ o = i := by omega
   have a2 : ¬ i < o + 1 := by omega
   have a4 : ¬ i < o := by omega
   by_cases h2 : i < o + 1 + vs.length
   ·have a3 : i < o + (vs.length + 1) := by omega
    obtain ⟨d, rfl⟩ : ∃ d, i = o + 1 + d := ⟨i - (o + 1), by omega⟩
    simp only [h2, a2, a3, a4, if_true, if_false]
    rw [show o + 1 + d - (o + 1) = d by omega, show o + 1 + d - o = d + 1 by omega]
    simp
   ·have a3 : ¬ i < o + (vs.length + 1) := by omega
    have a5 : ¬ o = o + 1 + vs.length + (i - (o + 1 + vs.length)) := by omega
    simp only [h2, a3, if_false, a5]
    congr 1; omega
theorem part_store_rule {t n : Nat} (A : Agg P t n) (w : World) (b o : Nat) (c' : Array Value) (h : decide (o + n ≤ ((row? w b).getD #[]).size) = true) (h0 : (row? w b).isSome = true) (hn : c'.size = n) (h1 : allOne c' = true) :
  (storeAgg t (.pointer (some ⟨b, o, none⟩)) (.agg c')).run P w = .ok () (w.setRow b (splice ((row? w b).getD #[]) o c')) := by
 obtain ⟨c, hc⟩ := Option.isSome_iff_exists.1 h0
 rw [hc] at h ⊢
 have ho : o + n ≤ c.size := by simpa using h
 unfold storeAgg
 rw [run_storeAt_part A hc ho hn h1, setCells_row _ _ _ _ _ hc (by simp; omega)]
 rfl
def bv (b : UInt8) : Value := .int .u8 b.toNat
def bvs (l : List UInt8) : Array Value := (l.map bv).toArray
@[go_sem] theorem bvs_size (l : List UInt8) : (bvs l).size = l.length := by simp [bvs]
theorem oneCell_bv (b : UInt8) : (bv b).oneCell' = true := rfl
@[go_sem] theorem bvs_all (l : List UInt8) : allOne (bvs l) = true := by
 simp [allOne, bvs, oneCell_bv]
theorem bvs_set (l : List UInt8) (k : Nat) (b : UInt8) : (bvs l).setIfInBounds k (.int .u8 b.toNat) = bvs (l.set k b) := by
 simp [bvs, bv, List.map_set]
@[go_sem] theorem splice_bvs (l : List UInt8) (o : Nat) (l' : List UInt8) : splice (bvs l) o (bvs l') = bvs (l.take o ++ l' ++ l.drop (o + l'.length)) := by
 apply Array.toList_inj.1
 simp [splice, bvs, List.map_take, List.map_drop]
theorem bvs_extract (l : List UInt8) (i j : Nat) : (bvs l).extract i j = bvs ((l.take j).drop i) := by
 apply Array.toList_inj.1
 simp [bvs, List.map_drop, List.map_take, List.drop_take]
end Go.Rw

end
section
namespace Go.Rw
open Go Go.RowKit
def n8 (b : UInt8) : Nat := b.toNat
theorem n8_lt (b : UInt8) : n8 b < 256 := b.toNat_lt
theorem n8_inj {a b : UInt8} (h : n8 a = n8 b) : a = b := UInt8.toNat_inj.1 h
theorem n8_ofNat (n : Nat) (h : n < 256) : n8 (UInt8.ofNat n) = n := by
 simp only [n8, UInt8.toNat_ofNat']; omega
@[go_sem] theorem ofInt_n8 (b : UInt8) : UInt8.ofInt (n8 b : Int) = b := by
 apply UInt8.toNat_inj.1
 simp [UInt8.ofInt, n8]
 have := b.toNat_lt
 omega
@[go_sem] theorem ofInt_lit (n : Nat) : UInt8.ofInt (no_index (OfNat.ofNat n : Int)) = UInt8.ofNat n := by
 apply UInt8.toNat_inj.1
 show (UInt8.ofInt (n : Int)).toNat = _
 simp [UInt8.ofInt]
 omega
@[go_sem] theorem not_u8 (n : Int) : Op.unary .xor (.int .u8 n) = Op.intBits .xor .u8 255 n := rfl
theorem ofInt_toBitVec (x : Int) : (UInt8.ofInt x).toBitVec = BitVec.ofInt 8 x := by
 apply BitVec.eq_of_toNat_eq
 simp [UInt8.ofInt]
 omega
theorem wrap8_toNat (b : UInt8) : IntKind.u8.wrap (b.toBitVec.toNat : Int) = (n8 b : Int) := by
 have := b.toNat_lt
 simp only [IntKind.wrap_u8, n8]
 show ((b.toNat : Int)) % 256 = _
 omega
@[go_sem] theorem bits_xor8 (x y : Int) : bits .xor .u8 x y = ((n8 (UInt8.ofInt x ^^^ UInt8.ofInt y) : Nat) : Int) := by
 rw [← wrap8_toNat]; simp only [bits, UInt8.toBitVec_xor, ofInt_toBitVec]; rfl
@[go_sem] theorem bits_and8 (x y : Int) : bits .and .u8 x y = ((n8 (UInt8.ofInt x &&& UInt8.ofInt y) : Nat) : Int) := by
 rw [← wrap8_toNat]; simp only [bits, UInt8.toBitVec_and, ofInt_toBitVec]; rfl
@[go_sem] theorem bits_or8 (x y : Int) : bits .or .u8 x y = ((n8 (UInt8.ofInt x ||| UInt8.ofInt y) : Nat) : Int) := by
 rw [← wrap8_toNat]; simp only [bits, UInt8.toBitVec_or, ofInt_toBitVec]; rfl
def shl8 (a : UInt8) (c : Nat) : UInt8 := UInt8.ofNat (n8 a * 2 ^ c)
def shr8 (a : UInt8) (c : Nat) : UInt8 := UInt8.ofNat (n8 a / 2 ^ c)
theorem n8_shl8 (a : UInt8) (c : Nat) : n8 (shl8 a c) = n8 a * 2 ^ c % 256 := by simp [n8, shl8]
theorem n8_shr8 (a : UInt8) (c : Nat) : n8 (shr8 a c) = n8 a / 2 ^ c := by
 have h : n8 a / 2 ^ c < 256 := Nat.lt_of_le_of_lt (Nat.div_le_self _ _) (n8_lt a)
 exact n8_ofNat _ h
theorem shift_shl8 (a : UInt8) (yk : IntKind) (y : Int) (h : 0 ≤ y) : Op.shift .shl .u8 (n8 a : Int) yk y = pure (.int .u8 (n8 (shl8 a y.toNat) : Nat)) := by
 unfold Op.shift
 rw [if_neg (by omega)]
 simp only [IntKind.wrap_u8, n8_shl8]
 congr 2
 rcases Nat.lt_or_ge y.toNat 8 with h8 | h8
 ·rw [Nat.min_eq_left (by simp [IntKind.bits]; omega)]
  simp only [Int.natCast_emod, Int.natCast_mul, Int.natCast_pow, Int.cast_ofNat_Int]
 ·rw [Nat.min_eq_right (by simp [IntKind.bits]; omega)]
  obtain ⟨d, hd⟩ : ∃ d, y.toNat = 8 + d := ⟨y.toNat - 8, by omega⟩
  rw [hd, Nat.pow_add]
  simp only [IntKind.bits]
  have h1 : n8 a * (2 ^ 8 * 2 ^ d) % 256 = 0 := by
   rw [show n8 a * (2 ^ 8 * 2 ^ d) = 256 * (n8 a * 2 ^ d) by rw [Nat.mul_left_comm]]
   exact Nat.mul_mod_right _ _
  rw [h1]; omega
theorem shift_shr8 (a : UInt8) (yk : IntKind) (y : Int) (h : 0 ≤ y) : Op.shift .shr .u8 (n8 a : Int) yk y = pure (.int .u8 (n8 (shr8 a y.toNat) : Nat)) := by
 unfold Op.shift
 rw [if_neg (by omega)]
 simp only [n8_shr8]
 congr 2
 rw [Int.fdiv_eq_ediv_of_nonneg _ (Int.pow_nonneg (by decide))]
 rcases Nat.lt_or_ge y.toNat 8 with h8 | h8
 ·rw [Nat.min_eq_left (by simp [IntKind.bits]; omega)]
  simp only [Int.natCast_ediv, Int.natCast_pow, Int.cast_ofNat_Int]
 ·rw [Nat.min_eq_right (by simp [IntKind.bits]; omega)]
  have h1 : n8 a / 2 ^ y.toNat = 0 := Nat.div_eq_of_lt (Nat.lt_of_lt_of_le (n8_lt a) (Nat.pow_le_pow_right (n := 2) (by decide) h8))
  rw [h1]
  have := n8_lt a
  simp only [IntKind.bits]; omega
@[go_sem] theorem n8_beq (a b : UInt8) : (n8 a == n8 b) = (a == b) := by
 rw [Bool.eq_iff_iff]; simp only [beq_iff_eq]; exact ⟨n8_inj, fun h => by rw [h]⟩
@[go_sem] theorem n8_bne (a b : UInt8) : (n8 a != n8 b) = (a != b) := by simp only [bne, n8_beq]
@[go_sem] theorem n8_eq (a b : UInt8) : n8 a = n8 b ↔ a = b := ⟨n8_inj, fun h => by rw [h]⟩
@[go_sem] theorem n8_ibeq (a b : UInt8) : ((n8 a : Int) == (n8 b : Int)) = (a == b) := by
 rw [Bool.eq_iff_iff]; simp only [beq_iff_eq]; exact ⟨fun h => n8_inj (by omega), fun h => by rw [h]⟩
@[go_sem] theorem n8_ibne (a b : UInt8) : ((n8 a : Int) != (n8 b : Int)) = (a != b) := by simp only [bne, n8_ibeq]
@[go_sem] theorem n8_ibeq_lit (a : UInt8) (n : Nat) (h : decide (n < 256) = true) : ((n8 a : Int) == (no_index (OfNat.ofNat n : Int))) = (a == UInt8.ofNat n) := by
 rw [Bool.eq_iff_iff]; simp only [beq_iff_eq]
 have hn : n < 256 := by simpa using h
 constructor
 ·intro e; apply n8_inj; rw [n8_ofNat n hn]; have e' : (n8 a : Int) = (n : Int) := e; omega
 ·intro e; rw [e, n8_ofNat n hn]; rfl
@[go_sem] theorem n8_ibne_lit (a : UInt8) (n : Nat) (h : decide (n < 256) = true) : ((n8 a : Int) != (no_index (OfNat.ofNat n : Int))) = (a != UInt8.ofNat n) := by simp only [bne, n8_ibeq_lit a n h]
def nth (l : List UInt8) (i : Nat) : UInt8 := l[i]?.getD 0
theorem bvs_getElem? (l : List UInt8) (k : Nat) : (bvs l)[k]? = if k < l.length then some (.int .u8 (n8 (nth l k) : Nat)) else none := by
 by_cases h : k < l.length
 ·rw [if_pos h]; simp [nth, bvs, bv, n8, h]
 ·rw [if_neg h]; simp [bvs]; omega
theorem bvs_setn (l : List UInt8) (k : Nat) (b : UInt8) : (bvs l).setIfInBounds k (.int .u8 (n8 b : Nat)) = bvs (l.set k b) := bvs_set l k b
end Go.Rw

end
section
namespace Go.Rw
open Go Go.RowKit
variable {P : Program}
def Sl (w : World) (v : Value) (l : List UInt8) : Prop :=
 ∃ ao cap, v = .slice ao l.length cap ∧ l.length ≤ cap ∧ (ao = none → cap = 0) ∧ (0 < l.length → ∃ b off, ao = some ⟨b, off, none⟩ ∧ ∀ k, k < l.length → w.cell? ⟨b, off + k, none⟩ = some (.int .u8 (n8 (nth l k) : Nat)))
theorem cell_lt {w : World} {b o : Nat} {v : Value} (h : w.cell? ⟨b, o, none⟩ = some v) : b < w.heap.size := World.block_lt_of_cell? w ⟨b, o, none⟩ h
theorem Sl.nil (w : World) : Sl w (.slice none 0 0) [] := ⟨none, 0, rfl, Nat.le_refl _, fun _ => rfl, fun h => by simp at h⟩
theorem Sl.below {w w' : World} {v : Value} {l : List UInt8} (h : Sl w v l) (hb : Below w.heap.size w w') : Sl w' v l := by
 obtain ⟨ao, cap, rfl, hc, hn, hp⟩ := h
 refine ⟨ao, cap, rfl, hc, hn, fun h0 => ?_⟩
 obtain ⟨b, off, rfl, hcell⟩ := hp h0
 exact ⟨b, off, rfl, fun k hk => by rw [← hcell k hk]; exact World.cell?_of_block (hb.block b (cell_lt (hcell k hk)))⟩
theorem Sl.keep {w w' : World} {v : Value} {l : List UInt8} {B : Nat} (h : Sl w v l) (hB : ∀ b off n cap, v = .slice (some ⟨b, off, none⟩) n cap → 0 < n → b < B) (hb : Below B w w') : Sl w' v l := by
 obtain ⟨ao, cap, rfl, hc, hn, hp⟩ := h
 refine ⟨ao, cap, rfl, hc, hn, fun h0 => ?_⟩
 obtain ⟨b, off, rfl, hcell⟩ := hp h0
 exact ⟨b, off, rfl, fun k hk => by rw [← hcell k hk]; exact World.cell?_of_block (hb.block b (hB b off _ _ rfl h0))⟩
def cutA (ao : Option Addr) (lo cap : Nat) : Option Addr := if cap = lo then ao else ao.map (·.add (lo * 1))
theorem nth_cut (l : List UInt8) (lo hi k : Nat) (h : k < hi - lo) : nth ((l.take hi).drop lo) k = nth l (lo + k) := by
 unfold nth
 rw [List.getElem?_drop, List.getElem?_take, if_pos (by omega)]
theorem Sl.cut {w : World} {ao : Option Addr} {n cap : Nat} {l : List UInt8} (h : Sl w (.slice ao n cap) l) (lo hi : Nat) (h1 : lo ≤ hi) (h2 : hi ≤ n) :
  Sl w (.slice (cutA ao lo cap) (hi - lo) (cap - lo)) ((l.take hi).drop lo) := by
 obtain ⟨ao', cap', e, hc, hn, hp⟩ := h
 cases e
 have hlen : ((l.take hi).drop lo).length = hi - lo := by simp; omega
 refine ⟨_, _, by rw [hlen], by rw [hlen]; omega, ?_, fun h0 => ?_⟩
 ·intro e
  unfold cutA at e
  split at e
  ·have := hn e; omega
  ·have : ao = none := by simpa using e
   have := hn this; omega
 ·rw [hlen] at h0
  obtain ⟨b, off, rfl, hcell⟩ := hp (by omega)
  refine ⟨b, off + lo, ?_, fun k hk => ?_⟩
  ·unfold cutA; rw [if_neg (by omega)]; simp [Addr.add_lit]
  ·rw [hlen] at hk
   rw [nth_cut l lo hi k hk, Nat.add_assoc]
   exact hcell _ (by omega)
theorem sliced_cut (ao : Option Addr) (l h m : Nat) : sliced ao l h m 1 = .slice (cutA ao l m) (h - l) (m - l) := rfl
structure SlT (P : Program) (t e : TypeId) : Prop where
 und : P.underlying t = some (.slice (P.elem t))
 elem : P.elem t = e
 size : (P.info? e).map (·.size) = some 1
theorem SlT.run {t e : TypeId} (T : SlT P t e) (w : World) : (sizeOf (P.elem t)).run P w = .ok 1 w := by
 rw [T.elem]
 have := T.size
 cases hq : P.info? e with
 | none => simp [hq] at this
 | some i => simp [hq] at this; simp [sizeOf, typeInfo, hq, this]
theorem cut_l {t e : TypeId} (T : SlT P t e) (w : World) (ao : Option Addr) (len cap : Nat) (k : IntKind) (l : Int) (h0 : 0 ≤ l) (h2 : l ≤ len) :
  (Instr.sliceAt t (.slice ao len cap) (some (.int k l)) none none).run P w = .ok (.slice (cutA ao l.toNat cap) (len - l.toNat) (cap - l.toNat)) w := by
 rw [run_sliceAt_slice w t _ _ _ _ T.und, run_slice_l w t ao len cap T.und k l h0 h2, T.run, Result.andThen_ok, sliced_cut]
theorem run_copy_sl {dT sT ty elem : TypeId} (hu : P.underlying dT = some (.slice elem)) (hsz : (P.info? elem).map (·.size) = some 1) {w : World} {g : Nat} {c l : List UInt8} {v : Value} (m dc : Nat)
  (hg : row? w g = some (bvs c)) (hm : c.length = m) (hs : Sl w v l) :
  (Builtin.copy_ #[dT, sT] ty #[.slice (some ⟨g, 0, none⟩) m dc, v]).run P w = .ok (goInt (Nat.min l.length m)) (w.setRow g (bvs (l.take m ++ c.drop l.length))) := by
 obtain ⟨ao, cap, rfl, hc, hn, hp⟩ := hs
 obtain ⟨t, ht⟩ := row?_some hg
 by_cases h0 : Nat.min l.length m = 0
 ·rw [run_copy_none w dT sT ty elem _ _ _ _ _ _ hu hsz h0, h0]
  congr 1
  have e : l.take m ++ c.drop l.length = c := by
   rcases Nat.le_total l.length m with h | h
   ·obtain rfl : l = [] := List.eq_nil_of_length_eq_zero (by have h0' : min l.length m = 0 := h0; omega)
    simp
   ·have hm0 : m = 0 := by have h0' : min l.length m = 0 := h0; omega
    obtain rfl : c = [] := List.eq_nil_of_length_eq_zero (by omega)
    simp [hm0]
  rw [e]; exact (setRow_self w g _ t _ ht).symm
 ·have hl : 0 < l.length := by
   rcases Nat.eq_zero_or_pos l.length with h | h
   ·simp [h] at h0
   ·exact h
  obtain ⟨b, off, rfl, hcell⟩ := hp hl
  have hlen : ((l.take m).map bv).length = Nat.min l.length m := by simp [Nat.min_comm]
  rw [run_copy_row P w dT sT ty elem g 0 m dc ⟨b, off, none⟩ l.length cap (bvs c) t ((l.take m).map bv) hu hsz ht hlen ?_ ?_ ?_]
  ·rw [hlen]
   congr 1
   congr 1
   apply Array.toList_inj.1
   have e : c.drop (Nat.min l.length m) = c.drop l.length := by
    show c.drop (min l.length m) = _
    rcases Nat.le_total l.length m with h | h
    ·rw [Nat.min_eq_left h]
    ·rw [Nat.min_eq_right h, List.drop_eq_nil_of_le (by omega), List.drop_eq_nil_of_le (by omega)]
   have e' := congrArg (List.map bv) e
   rw [List.map_drop, List.map_drop] at e'
   simp only [bvs, List.map_append, List.map_drop, List.take_zero, List.nil_append, Nat.zero_add]
   rw [e']
  ·intro j u hu'
   have hj : j < Nat.min l.length m := by
    have := (List.getElem?_eq_some_iff.1 hu').1
    rw [hlen] at this; exact this
   have hj' : j < l.length := Nat.lt_of_lt_of_le hj (Nat.min_le_left _ _)
   have hjm : j < m := Nat.lt_of_lt_of_le hj (Nat.min_le_right _ _)
   rw [Addr.add_lit, hcell j hj']
   simp only [List.getElem?_map, List.getElem?_take, if_pos hjm] at hu'
   rw [← hu']
   simp [nth, hj', bv, n8]
  ·rw [hlen, Nat.zero_add, bvs_size, hm]; exact Nat.min_le_right _ _
  ·intro u hu'
   obtain ⟨x, _, rfl⟩ := List.mem_map.1 hu'
   exact oneCell_bv x
theorem Own.sl {w : World} {B : Nat} {e : TypeId} {v : Value} {l : List UInt8} (h : w.ownsRow B e 1 v l.length (l.map bv)) : Sl w v l := by
 rcases h.2 with ⟨rfl, h0⟩ | ⟨g, cap, cur, rfl, hb, hg, hnc, hcm, hcs, htake⟩
 ·obtain rfl : l = [] := List.eq_nil_of_length_eq_zero h0
  exact Sl.nil w
 ·refine ⟨_, cap, rfl, hnc, fun h => (by cases h), fun _ => ⟨g, 0, rfl, fun k hk => ?_⟩⟩
  rw [World.ownsRow.cellAt h (0 + k) (by omega)]
  simp [nth, hk, bv, n8]
theorem Own.lt {w : World} {B : Nat} {e : TypeId} {v : Value} {n : Nat} {xs : List Value} (h : w.ownsRow B e 1 v n xs) : ∀ b off m cap, v = .slice (some ⟨b, off, none⟩) m cap → B ≤ b ∧ b < w.heap.size := by
 intro b off m cap e
 exact h.lt b (by rw [e]; rfl)
theorem grown_row {w w' : World} {g b : Nat} (h : w.grownBy w' (some g)) (hb : b < w.heap.size) (hne : b ≠ g) : row? w' b = row? w b := by
 unfold row?
 rw [h.block b hb (by simpa using hne)]
theorem Sl.grown {w w' : World} {v : Value} {l : List UInt8} {g : Nat} (h : Sl w v l) (hg : w.grownBy w' (some g)) (hne : ∀ b off n cap, v = .slice (some ⟨b, off, none⟩) n cap → 0 < n → b ≠ g) : Sl w' v l := by
 obtain ⟨ao, cap, rfl, hc, hn, hp⟩ := h
 refine ⟨ao, cap, rfl, hc, hn, fun h0 => ?_⟩
 obtain ⟨b, off, rfl, hcell⟩ := hp h0
 exact ⟨b, off, rfl, fun k hk => by rw [← hcell k hk]; exact World.cell?_of_block (hg.block b (cell_lt (hcell k hk)) (by simpa using hne b off _ _ rfl h0))⟩
theorem Sl.row {w : World} {g : Nat} {l : List UInt8} (h : row? w g = some (bvs l)) : Sl w (.slice (some ⟨g, 0, none⟩) l.length l.length) l :=
 ⟨_, _, rfl, Nat.le_refl _, fun h => (by cases h), fun _ => ⟨g, 0, rfl, fun k hk => by rw [row?_cell h, bvs_getElem?, Nat.zero_add, if_pos hk]⟩⟩
theorem map_bv_one (l : List UInt8) : ∀ u ∈ l.map bv, u.oneCell' = true := by
 intro u hu
 obtain ⟨x, _, rfl⟩ := List.mem_map.1 hu
 exact oneCell_bv x
def Pts (w : World) (v : Value) (ps : List (List UInt8)) : Prop :=
 ∃ ao cap, v = .slice ao ps.length cap ∧ (0 < ps.length → ∃ b off, ao = some ⟨b, off, none⟩ ∧ ∀ k, k < ps.length → ∃ u, w.cell? ⟨b, off + k, none⟩ = some u ∧ Sl w u (ps.getD k []))
def lenOf : Value → Nat
 | .slice _ n _ => n
 | _ => 0
theorem below_cell {B : Nat} {w w' : World} (h : Below B w w') {a : Addr} {v : Value} (hc : w.cell? a = some v) (hb : a.block < B) : w'.cell? a = some v := by
 rw [← hc]; exact World.cell?_of_block (h.block _ hb)
theorem grown_row0 {w w' : World} {b : Nat} (h : w.grownBy w' none) (hb : b < w.heap.size) : row? w' b = row? w b := by
 unfold row?
 rw [h.block b hb (by simp)]
theorem own_same {w w' : World} {B : Nat} {e : TypeId} {n cap g : Nat} {xs : List Value} (h : w.ownsRow B e 1 (.slice (some ⟨g, 0, none⟩) n cap) n xs) (he : w'.heap[g]? = w.heap[g]?) : w'.ownsRow B e 1 (.slice (some ⟨g, 0, none⟩) n cap) n xs := by
 refine ⟨h.1, ?_⟩
 rcases h.2 with ⟨h', _⟩ | ⟨g', cap', cur, h', hb, hg, r⟩
 ·cases h'
 ·simp only [Value.slice.injEq, Option.some.injEq, Addr.mk.injEq, and_true, true_and] at h'
  obtain ⟨rfl, rfl⟩ := h'
  exact .inr ⟨g, cap, cur, rfl, hb, he.trans hg, r⟩
theorem cell_new (w : World) (v : Value) (t : TypeId) (n : Nat) (h : n = w.heap.size) : (w.alloc (.cells #[v] t)).cell? ((⟨n, 0, none⟩ : Addr).add 0) = some v := by
 rw [Addr.add_lit, row?_cell (row?_alloc_at w #[v] t n h)]; rfl
theorem own_lower {w : World} {B B' : Nat} {e : TypeId} {v : Value} {n : Nat} {xs : List Value} (h : w.ownsRow B e 1 v n xs) (hB : B' ≤ B) : w.ownsRow B' e 1 v n xs := by
 refine ⟨h.1, ?_⟩
 rcases h.2 with h' | ⟨g, cap, cur, e1, hb, r⟩
 ·exact .inl h'
 ·exact .inr ⟨g, cap, cur, e1, Nat.le_trans hB hb, r⟩
theorem zeros_made (n : Nat) : (madeCells #[Value.int .u8 0] n).toList = (List.replicate n (0 : UInt8)).map bv := by
 rw [toList_madeCells_one, List.map_replicate]; rfl
theorem own_stored {w : World} {B : Nat} {e : TypeId} {g n cap : Nat} {l : List UInt8} (h : w.ownsRow B e 1 (.slice (some ⟨g, 0, none⟩) n cap) n (l.map bv)) (j : Nat) (b : UInt8) :
  (w.setCell ⟨g, j, none⟩ (.int .u8 (n8 b : Nat))).ownsRow B e 1 (.slice (some ⟨g, 0, none⟩) n cap) n ((l.set j b).map bv) := by
 have := (h.stored j (bv b)).1
 rw [← List.map_set] at this
 exact this
def strB (l : List UInt8) : ByteArray := ⟨l.toArray⟩
@[go_sem] theorem strB_toList (l : List UInt8) : (strB l).toList = l := by rw [ByteArray.toList_eq]; simp [strB]
theorem grown_trans {w w1 w2 : World} {r : Option Nat} (h : w.grownBy w1 r) (k : w1.grownBy w2 r) : w.grownBy w2 r :=
 ⟨k.os.trans h.os, k.tape.trans h.tape, k.output.trans h.output, Nat.le_trans h.size k.size, fun b hb hne => (k.block b (Nat.lt_of_lt_of_le hb h.size) hne).trans (h.block b hb hne)⟩
theorem grown_alloc (w : World) (o : Obj) (r : Option Nat) : w.grownBy (w.alloc o) r := World.grownBy_alloc w o r
theorem own_grown {w w' : World} {B : Nat} {e : TypeId} {v : Value} {n : Nat} {xs : List Value} {r : Option Nat} (h : w.ownsRow B e 1 v n xs) (hg : w.grownBy w' r) (hne : ∀ k, v.ownBlock = some k → some k ≠ r) : w'.ownsRow B e 1 v n xs := by
 cases hv : v.ownBlock with
 | none => exact h.kept hg (.inl hv)
 | some k => exact h.kept hg (.inr (by rw [hv]; exact hne k hv))
theorem row_grown {w w' : World} {r : Option Nat} {b : Nat} {c : Array Value} (hg : w.grownBy w' r) (h : row? w b = some c) (hne : some b ≠ r) : row? w' b = some c := by
 rw [← h]; unfold row?; rw [hg.block b (row?_lt h) hne]
theorem own_below {w w' : World} {B : Nat} {e : TypeId} {v : Value} {n : Nat} {xs : List Value} (h : w.ownsRow B e 1 v n xs) (hb : Below w.heap.size w w') : w'.ownsRow B e 1 v n xs :=
 h.kept (row := none) ⟨hb.os, hb.tape, hb.output, hb.size, fun k hk _ => hb.block k hk⟩ (by cases v.ownBlock <;> simp)
end Go.Rw

end
