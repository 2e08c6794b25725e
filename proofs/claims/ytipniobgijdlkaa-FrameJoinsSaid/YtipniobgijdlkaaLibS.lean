/- Slices of bytes: what a slice's value reads; cuts; copies into a row; rows that a call made itself. Over any program. -/
import Derived.Test.YtipniobgijdlkaaLibB
import Derived.OwnWalk
import Derived.Laws.IdiomCopy
import Derived.Laws.CopyRow
import Derived.Laws.AppendOwnNone
import Derived.Laws.BytesArg
namespace Go.Rw
open Go Go.RowKit
variable {P : Program}

/-- A slice's value reads a list of bytes. -/
def Sl (w : World) (v : Value) (l : List UInt8) : Prop :=
  ∃ ao cap, v = .slice ao l.length cap ∧ l.length ≤ cap ∧ (ao = none → cap = 0) ∧ (0 < l.length → ∃ b off, ao = some ⟨b, off, none⟩ ∧ ∀ k, k < l.length → w.cell? ⟨b, off + k, none⟩ = some (.int .u8 (n8 (nth l k) : Nat)))
theorem cell_lt {w : World} {b o : Nat} {v : Value} (h : w.cell? ⟨b, o, none⟩ = some v) : b < w.heap.size := World.block_lt_of_cell? w ⟨b, o, none⟩ h
theorem Sl.nil (w : World) : Sl w (.slice none 0 0) [] := ⟨none, 0, rfl, Nat.le_refl _, fun _ => rfl, fun h => by simp at h⟩
theorem Sl.below {w w' : World} {v : Value} {l : List UInt8} (h : Sl w v l) (hb : Below w.heap.size w w') : Sl w' v l := by
  obtain ⟨ao, cap, rfl, hc, hn, hp⟩ := h
  refine ⟨ao, cap, rfl, hc, hn, fun h0 => ?_⟩
  obtain ⟨b, off, rfl, hcell⟩ := hp h0
  exact ⟨b, off, rfl, fun k hk => by rw [← hcell k hk]; exact World.cell?_of_block (hb.block b (cell_lt (hcell k hk)))⟩
/-- what stands below a block's number reads so behind whatever keeps all below it -/
theorem Sl.keep {w w' : World} {v : Value} {l : List UInt8} {B : Nat} (h : Sl w v l) (hB : ∀ b off n cap, v = .slice (some ⟨b, off, none⟩) n cap → 0 < n → b < B) (hb : Below B w w') : Sl w' v l := by
  obtain ⟨ao, cap, rfl, hc, hn, hp⟩ := h
  refine ⟨ao, cap, rfl, hc, hn, fun h0 => ?_⟩
  obtain ⟨b, off, rfl, hcell⟩ := hp h0
  exact ⟨b, off, rfl, fun k hk => by rw [← hcell k hk]; exact World.cell?_of_block (hb.block b (hB b off _ _ rfl h0))⟩
/-- the address behind a cut -/
def cutA (ao : Option Addr) (lo cap : Nat) : Option Addr := if cap = lo then ao else ao.map (·.add (lo * 1))
theorem nth_cut (l : List UInt8) (lo hi k : Nat) (h : k < hi - lo) : nth ((l.take hi).drop lo) k = nth l (lo + k) := by
  unfold nth
  rw [List.getElem?_drop, List.getElem?_take, if_pos (by omega)]
theorem Sl.cut {w : World} {ao : Option Addr} {n cap : Nat} {l : List UInt8} (h : Sl w (.slice ao n cap) l) (lo hi : Nat) (h1 : lo ≤ hi) (h2 : hi ≤ n) :
    Sl w (.slice (cutA ao lo cap) (hi - lo) (cap - lo)) ((l.take hi).drop lo) := by
  obtain ⟨ao', cap', e, hc, hn, hp⟩ := h
  cases e
  have hlen : ((l.take hi).drop lo).length = hi - lo := by simp; omega
  refine ⟨_, _, by rw [hlen], by rw [hlen]; omega, ?_, fun h0 => ?_⟩
  · intro e
    unfold cutA at e
    split at e
    · have := hn e; omega
    · have : ao = none := by simpa using e
      have := hn this; omega
  · rw [hlen] at h0
    obtain ⟨b, off, rfl, hcell⟩ := hp (by omega)
    refine ⟨b, off + lo, ?_, fun k hk => ?_⟩
    · unfold cutA; rw [if_neg (by omega)]; simp [Addr.add_lit]
    · rw [hlen] at hk
      rw [nth_cut l lo hi k hk, Nat.add_assoc]
      exact hcell _ (by omega)
theorem sliced_cut (ao : Option Addr) (l h m : Nat) : sliced ao l h m 1 = .slice (cutA ao l m) (h - l) (m - l) := rfl

/-- Slices of a type with cells of one: what the walk's cuts answer, closed. -/
structure SlT (P : Program) (t e : TypeId) : Prop where
  und : P.underlying t = some (.slice (P.elem t))
  elem : P.elem t = e
  size : (P.info? e).map (·.size) = some 1
theorem SlT.run {t e : TypeId} (T : SlT P t e) (w : World) : (sizeOf (P.elem t)).run P w = .ok 1 w := by
  rw [T.elem]
  have := T.size
  cases hq : P.info? e with
  | none => simp [hq] at this
  | some i => simp [hq] at this; simp [sizeOf, typeInfo, hq, this]
theorem cut_h {t e : TypeId} (T : SlT P t e) (w : World) (ao : Option Addr) (len cap : Nat) (k : IntKind) (h : Int) (h0 : 0 ≤ h) (h2 : h ≤ cap) :
    (Instr.sliceAt t (.slice ao len cap) none (some (.int k h)) none).run P w = .ok (.slice (cutA ao 0 cap) h.toNat cap) w := by
  rw [run_sliceAt_slice w t _ _ _ _ T.und, run_slice_h w t ao len cap T.und k h h0 h2, T.run, Result.andThen_ok, sliced_cut]; rfl
theorem cut_l {t e : TypeId} (T : SlT P t e) (w : World) (ao : Option Addr) (len cap : Nat) (k : IntKind) (l : Int) (h0 : 0 ≤ l) (h2 : l ≤ len) :
    (Instr.sliceAt t (.slice ao len cap) (some (.int k l)) none none).run P w = .ok (.slice (cutA ao l.toNat cap) (len - l.toNat) (cap - l.toNat)) w := by
  rw [run_sliceAt_slice w t _ _ _ _ T.und, run_slice_l w t ao len cap T.und k l h0 h2, T.run, Result.andThen_ok, sliced_cut]

/-- A copy into the beginning of a row. -/
theorem run_copy_sl {dT sT ty elem : TypeId} (hu : P.underlying dT = some (.slice elem)) (hsz : (P.info? elem).map (·.size) = some 1) {w : World} {g : Nat} {c l : List UInt8} {v : Value} (m dc : Nat)
    (hg : row? w g = some (bvs c)) (hm : c.length = m) (hs : Sl w v l) :
    (Builtin.copy_ #[dT, sT] ty #[.slice (some ⟨g, 0, none⟩) m dc, v]).run P w = .ok (goInt (Nat.min l.length m)) (w.setRow g (bvs (l.take m ++ c.drop l.length))) := by
  obtain ⟨ao, cap, rfl, hc, hn, hp⟩ := hs
  obtain ⟨t, ht⟩ := row?_some hg
  by_cases h0 : Nat.min l.length m = 0
  · rw [run_copy_none w dT sT ty elem _ _ _ _ _ _ hu hsz h0, h0]
    congr 1
    have e : l.take m ++ c.drop l.length = c := by
      rcases Nat.le_total l.length m with h | h
      · obtain rfl : l = [] := List.eq_nil_of_length_eq_zero (by have h0' : min l.length m = 0 := h0; omega)
        simp
      · have hm0 : m = 0 := by have h0' : min l.length m = 0 := h0; omega
        obtain rfl : c = [] := List.eq_nil_of_length_eq_zero (by omega)
        simp [hm0]
    rw [e]; exact (setRow_self w g _ t _ ht).symm
  · have hl : 0 < l.length := by
      rcases Nat.eq_zero_or_pos l.length with h | h
      · simp [h] at h0
      · exact h
    obtain ⟨b, off, rfl, hcell⟩ := hp hl
    have hlen : ((l.take m).map bv).length = Nat.min l.length m := by simp [Nat.min_comm]
    rw [run_copy_row P w dT sT ty elem g 0 m dc ⟨b, off, none⟩ l.length cap (bvs c) t ((l.take m).map bv) hu hsz ht hlen ?_ ?_ ?_]
    · rw [hlen]
      congr 1
      congr 1
      apply Array.toList_inj.1
      have e : c.drop (Nat.min l.length m) = c.drop l.length := by
        show c.drop (min l.length m) = _
        rcases Nat.le_total l.length m with h | h
        · rw [Nat.min_eq_left h]
        · rw [Nat.min_eq_right h, List.drop_eq_nil_of_le (by omega), List.drop_eq_nil_of_le (by omega)]
      have e' := congrArg (List.map bv) e
      rw [List.map_drop, List.map_drop] at e'
      simp only [bvs, List.map_append, List.map_drop, List.take_zero, List.nil_append, Nat.zero_add]
      rw [e']
    · intro j u hu'
      have hj : j < Nat.min l.length m := by
        have := (List.getElem?_eq_some_iff.1 hu').1
        rw [hlen] at this; exact this
      have hj' : j < l.length := Nat.lt_of_lt_of_le hj (Nat.min_le_left _ _)
      have hjm : j < m := Nat.lt_of_lt_of_le hj (Nat.min_le_right _ _)
      rw [Addr.add_lit, hcell j hj']
      simp only [List.getElem?_map, List.getElem?_take, if_pos hjm] at hu'
      rw [← hu']
      simp [nth, hj', bv, n8]
    · rw [hlen, Nat.zero_add, bvs_size, hm]; exact Nat.min_le_right _ _
    · intro u hu'
      obtain ⟨x, _, rfl⟩ := List.mem_map.1 hu'
      exact oneCell_bv x

/-- A row that the call made, read. -/
theorem Own.sl {w : World} {B : Nat} {e : TypeId} {v : Value} {l : List UInt8} (h : w.ownsRow B e 1 v l.length (l.map bv)) : Sl w v l := by
  rcases h.2 with ⟨rfl, h0⟩ | ⟨g, cap, cur, rfl, hb, hg, hnc, hcm, hcs, htake⟩
  · obtain rfl : l = [] := List.eq_nil_of_length_eq_zero h0
    exact Sl.nil w
  · refine ⟨_, cap, rfl, hnc, fun h => (by cases h), fun _ => ⟨g, 0, rfl, fun k hk => ?_⟩⟩
    rw [World.ownsRow.cellAt h (0 + k) (by omega)]
    simp [nth, hk, bv, n8]
theorem Own.lt {w : World} {B : Nat} {e : TypeId} {v : Value} {n : Nat} {xs : List Value} (h : w.ownsRow B e 1 v n xs) : ∀ b off m cap, v = .slice (some ⟨b, off, none⟩) m cap → B ≤ b ∧ b < w.heap.size := by
  intro b off m cap e
  exact h.lt b (by rw [e]; rfl)
theorem grown_row {w w' : World} {g b : Nat} (h : w.grownBy w' (some g)) (hb : b < w.heap.size) (hne : b ≠ g) : row? w' b = row? w b := by
  unfold row?
  rw [h.block b hb (by simpa using hne)]
theorem Sl.grown {w w' : World} {v : Value} {l : List UInt8} {g : Nat} (h : Sl w v l) (hg : w.grownBy w' (some g)) (hne : ∀ b off n cap, v = .slice (some ⟨b, off, none⟩) n cap → 0 < n → b ≠ g) : Sl w' v l := by
  obtain ⟨ao, cap, rfl, hc, hn, hp⟩ := h
  refine ⟨ao, cap, rfl, hc, hn, fun h0 => ?_⟩
  obtain ⟨b, off, rfl, hcell⟩ := hp h0
  exact ⟨b, off, rfl, fun k hk => by rw [← hcell k hk]; exact World.cell?_of_block (hg.block b (cell_lt (hcell k hk)) (by simpa using hne b off _ _ rfl h0))⟩
/-- A row's slice, whole. -/
theorem Sl.row {w : World} {g : Nat} {l : List UInt8} (h : row? w g = some (bvs l)) : Sl w (.slice (some ⟨g, 0, none⟩) l.length l.length) l :=
  ⟨_, _, rfl, Nat.le_refl _, fun h => (by cases h), fun _ => ⟨g, 0, rfl, fun k hk => by rw [row?_cell h, bvs_getElem?, Nat.zero_add, if_pos hk]⟩⟩
theorem map_bv_one (l : List UInt8) : ∀ u ∈ l.map bv, u.oneCell' = true := by
  intro u hu
  obtain ⟨x, _, rfl⟩ := List.mem_map.1 hu
  exact oneCell_bv x
/-- A slice of slices of bytes. -/
def Pts (w : World) (v : Value) (ps : List (List UInt8)) : Prop :=
  ∃ ao cap, v = .slice ao ps.length cap ∧ (0 < ps.length → ∃ b off, ao = some ⟨b, off, none⟩ ∧ ∀ k, k < ps.length → ∃ u, w.cell? ⟨b, off + k, none⟩ = some u ∧ Sl w u (ps.getD k []))
def lenOf : Value → Nat
  | .slice _ n _ => n
  | _ => 0
theorem below_cell {B : Nat} {w w' : World} (h : Below B w w') {a : Addr} {v : Value} (hc : w.cell? a = some v) (hb : a.block < B) : w'.cell? a = some v := by
  rw [← hc]; exact World.cell?_of_block (h.block _ hb)
theorem grown_row0 {w w' : World} {b : Nat} (h : w.grownBy w' none) (hb : b < w.heap.size) : row? w' b = row? w b := by
  unfold row?
  rw [h.block b hb (by simp)]
theorem own_same {w w' : World} {B : Nat} {e : TypeId} {n cap g : Nat} {xs : List Value} (h : w.ownsRow B e 1 (.slice (some ⟨g, 0, none⟩) n cap) n xs) (he : w'.heap[g]? = w.heap[g]?) : w'.ownsRow B e 1 (.slice (some ⟨g, 0, none⟩) n cap) n xs := by
  refine ⟨h.1, ?_⟩
  rcases h.2 with ⟨h', _⟩ | ⟨g', cap', cur, h', hb, hg, r⟩
  · cases h'
  · simp only [Value.slice.injEq, Option.some.injEq, Addr.mk.injEq, and_true, true_and] at h'
    obtain ⟨rfl, rfl⟩ := h'
    exact .inr ⟨g, cap, cur, rfl, hb, he.trans hg, r⟩
theorem cell_new (w : World) (v : Value) (t : TypeId) (n : Nat) (h : n = w.heap.size) : (w.alloc (.cells #[v] t)).cell? ((⟨n, 0, none⟩ : Addr).add 0) = some v := by
  rw [Addr.add_lit, row?_cell (row?_alloc_at w #[v] t n h)]; rfl
theorem own_lower {w : World} {B B' : Nat} {e : TypeId} {v : Value} {n : Nat} {xs : List Value} (h : w.ownsRow B e 1 v n xs) (hB : B' ≤ B) : w.ownsRow B' e 1 v n xs := by
  refine ⟨h.1, ?_⟩
  rcases h.2 with h' | ⟨g, cap, cur, e1, hb, r⟩
  · exact .inl h'
  · exact .inr ⟨g, cap, cur, e1, Nat.le_trans hB hb, r⟩
theorem zeros_made (n : Nat) : (madeCells #[Value.int .u8 0] n).toList = (List.replicate n (0 : UInt8)).map bv := by
  rw [toList_madeCells_one, List.map_replicate]; rfl
theorem own_row {w : World} {B : Nat} {e : TypeId} {g n : Nat} {l : List UInt8} (h : w.ownsRow B e 1 (.slice (some ⟨g, 0, none⟩) n n) n (l.map bv)) : row? w g = some (bvs l) := by
  rcases h.2 with ⟨h', _⟩ | ⟨g', cap', cur, h', hb, hg, hnc, hcm, hcs, htake⟩
  · cases h'
  · simp only [Value.slice.injEq, Option.some.injEq, Addr.mk.injEq, and_true, true_and] at h'
    obtain ⟨rfl, rfl⟩ := h'
    have e1 : cur = bvs l := by
      apply Array.toList_inj.1
      rw [List.take_of_length_le (by rw [Array.length_toList, hcs]; exact Nat.le_refl _)] at htake
      rw [htake]; simp [bvs]
    rw [← e1]; exact row?_of hg
theorem own_stored {w : World} {B : Nat} {e : TypeId} {g n cap : Nat} {l : List UInt8} (h : w.ownsRow B e 1 (.slice (some ⟨g, 0, none⟩) n cap) n (l.map bv)) (j : Nat) (b : UInt8) :
    (w.setCell ⟨g, j, none⟩ (.int .u8 (n8 b : Nat))).ownsRow B e 1 (.slice (some ⟨g, 0, none⟩) n cap) n ((l.set j b).map bv) := by
  have := (h.stored j (bv b)).1
  rw [← List.map_set] at this
  exact this
/-- Bytes as a string. -/
def strB (l : List UInt8) : ByteArray := ⟨l.toArray⟩
@[go_sem] theorem strB_toList (l : List UInt8) : (strB l).toList = l := by rw [ByteArray.toList_eq]; simp [strB]
theorem conv_sl {w : World} {v : Value} {l : List UInt8} (hs : Sl w v l) {src e dst : TypeId} (h1 : P.underlying src = some (.slice e)) (h2 : P.underlying e = some (.int .u8)) (h3 : P.underlying dst = some .string) :
    (convert src dst v).run P w = .ok (.string (strB l)) w := by
  obtain ⟨ao, cap, rfl, hc, hn, hp⟩ := hs
  have hstr : strOfNums (l.map fun b => ((n8 b : Nat) : Int)) = strB l := by
    unfold strOfNums strB
    congr 1
    rw [List.map_map]
    congr 1
    conv => rhs; rw [← List.map_id l]
    apply List.map_congr_left
    intro b _
    simp [ofNat_n8]
  rcases Nat.eq_zero_or_pos l.length with h0 | h0
  · obtain rfl : l = [] := List.eq_nil_of_length_eq_zero h0
    cases ao with
    | none => rw [List.length_nil, run_convert_bytes_nil w src e h1 h2 _ _ dst h3]; rfl
    | some a =>
      rw [List.length_nil, run_convert_bytes_string w src dst e _ _ _ h1 h2 h3, run_bytesToString w a 0 cap [] (by simpa using run_loadCells_list (P := P) w a [] (by simp))]
      rfl
  · obtain ⟨b, off, rfl, hcell⟩ := hp h0
    rw [run_convert_bytes_arg w src e h1 h2 b off l.length cap (l.map fun b => ((n8 b : Nat) : Int)) (by simp) (fun i hi => by
      rw [hcell i hi]
      simp [nth, hi, List.getD]) dst h3, hstr]
theorem grown_trans {w w1 w2 : World} {r : Option Nat} (h : w.grownBy w1 r) (k : w1.grownBy w2 r) : w.grownBy w2 r :=
  ⟨k.os.trans h.os, k.tape.trans h.tape, k.output.trans h.output, Nat.le_trans h.size k.size, fun b hb hne => (k.block b (Nat.lt_of_lt_of_le hb h.size) hne).trans (h.block b hb hne)⟩
theorem grown_alloc (w : World) (o : Obj) (r : Option Nat) : w.grownBy (w.alloc o) r := World.grownBy_alloc w o r
theorem own_grown {w w' : World} {B : Nat} {e : TypeId} {v : Value} {n : Nat} {xs : List Value} {r : Option Nat} (h : w.ownsRow B e 1 v n xs) (hg : w.grownBy w' r) (hne : ∀ k, v.ownBlock = some k → some k ≠ r) : w'.ownsRow B e 1 v n xs := by
  cases hv : v.ownBlock with
  | none => exact h.kept hg (.inl hv)
  | some k => exact h.kept hg (.inr (by rw [hv]; exact hne k hv))
theorem row_grown {w w' : World} {r : Option Nat} {b : Nat} {c : Array Value} (hg : w.grownBy w' r) (h : row? w b = some c) (hne : some b ≠ r) : row? w' b = some c := by
  rw [← h]; unfold row?; rw [hg.block b (row?_lt h) hne]
theorem own_below {w w' : World} {B : Nat} {e : TypeId} {v : Value} {n : Nat} {xs : List Value} (h : w.ownsRow B e 1 v n xs) (hb : Below w.heap.size w w') : w'.ownsRow B e 1 v n xs :=
  h.kept (row := none) ⟨hb.os, hb.tape, hb.output, hb.size, fun k hk _ => hb.block k hk⟩ (by cases v.ownBlock <;> simp)
end Go.Rw
