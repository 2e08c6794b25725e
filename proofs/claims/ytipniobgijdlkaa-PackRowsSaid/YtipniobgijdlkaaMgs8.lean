/- LibI; LibJ; FrmP. -/
import Derived.Test.YtipniobgijdlkaaMgs1
import Derived.Laws.AppendOwn
import Derived.Laws.AppendOwnNone
import Derived.Test.YtipniobgijdlkaaMgs3
import Derived.Test.YtipniobgijdlkaaMgs5
import Derived.Test.YtipniobgijdlkaaMgs7
import Derived.Test.YtipniobgijdlkaaMgsHdrW15
section
/- Slices of ints: what a slice's value reads; rows of ints. Over any program. -/
namespace Go.Rw
open Go Go.RowKit
variable {P : Program}
/-- An element; 0 beyond the end. Closed to simp. -/
def ni (l : List Int) (i : Nat) : Int := l[i]?.getD 0
def iv (x : Int) : Value := .int .i64 x
def ivs (l : List Int) : Array Value := (l.map iv).toArray
@[go_sem] theorem ivs_size (l : List Int) : (ivs l).size = l.length := by simp [ivs]
theorem oneCell_iv (x : Int) : (iv x).oneCell' = true := rfl
@[go_sem] theorem ivs_all (l : List Int) : allOne (ivs l) = true := by
  simp [allOne, ivs, oneCell_iv]
theorem ivs_getElem? (l : List Int) (k : Nat) : (ivs l)[k]? = if k < l.length then some (.int .i64 (ni l k)) else none := by
  by_cases h : k < l.length
  · rw [if_pos h]; simp [ni, ivs, iv, h]
  · rw [if_neg h]; simp [ivs]; omega
theorem ivs_set (l : List Int) (k : Nat) (x : Int) : (ivs l).setIfInBounds k (.int .i64 x) = ivs (l.set k x) := by
  simp [ivs, iv, List.map_set]
theorem ni_set (l : List Int) (k : Nat) (x : Int) (j : Nat) (hk : k < l.length) : ni (l.set k x) j = if j = k then x else ni l j := by
  unfold ni
  rw [List.getElem?_set]
  by_cases h : k = j
  · subst h; simp [hk]
  · rw [if_neg h, if_neg (fun e => h e.symm)]
theorem ni_snoc (l : List Int) (x : Int) (j : Nat) : ni (l ++ [x]) j = if j = l.length then x else ni l j := by
  unfold ni
  rw [List.getElem?_append]
  by_cases h : j < l.length
  · rw [if_pos h, if_neg (by omega)]
  · rw [if_neg h]
    by_cases h2 : j = l.length
    · subst h2; simp
    · rw [if_neg h2, List.getElem?_eq_none (by simp; omega), List.getElem?_eq_none (by omega)]
/-- A slice's value reads a list of ints. -/
def Si (w : World) (v : Value) (l : List Int) : Prop :=
  ∃ ao cap, v = .slice ao l.length cap ∧ l.length ≤ cap ∧ (ao = none → cap = 0) ∧ (0 < l.length → ∃ b off, ao = some ⟨b, off, none⟩ ∧ ∀ k, k < l.length → w.cell? ⟨b, off + k, none⟩ = some (.int .i64 (ni l k)))
theorem Si.nil (w : World) : Si w (.slice none 0 0) [] := ⟨none, 0, rfl, Nat.le_refl _, fun _ => rfl, fun h => by simp at h⟩
theorem Si.below {w w' : World} {v : Value} {l : List Int} (h : Si w v l) (hb : Below w.heap.size w w') : Si w' v l := by
  obtain ⟨ao, cap, rfl, hc, hn, hp⟩ := h
  refine ⟨ao, cap, rfl, hc, hn, fun h0 => ?_⟩
  obtain ⟨b, off, rfl, hcell⟩ := hp h0
  exact ⟨b, off, rfl, fun k hk => by rw [← hcell k hk]; exact World.cell?_of_block (hb.block b (cell_lt (hcell k hk)))⟩
theorem Si.keep {w w' : World} {v : Value} {l : List Int} {B : Nat} (h : Si w v l) (hB : ∀ b off n cap, v = .slice (some ⟨b, off, none⟩) n cap → 0 < n → b < B) (hb : Below B w w') : Si w' v l := by
  obtain ⟨ao, cap, rfl, hc, hn, hp⟩ := h
  refine ⟨ao, cap, rfl, hc, hn, fun h0 => ?_⟩
  obtain ⟨b, off, rfl, hcell⟩ := hp h0
  exact ⟨b, off, rfl, fun k hk => by rw [← hcell k hk]; exact World.cell?_of_block (hb.block b (hB b off _ _ rfl h0))⟩
theorem Si.row {w : World} {g : Nat} {l : List Int} (h : row? w g = some (ivs l)) : Si w (.slice (some ⟨g, 0, none⟩) l.length l.length) l :=
  ⟨_, _, rfl, Nat.le_refl _, fun h => (by cases h), fun _ => ⟨g, 0, rfl, fun k hk => by rw [row?_cell h, ivs_getElem?, Nat.zero_add, if_pos hk]⟩⟩
/-- A row that the call made, read. -/
theorem Own.si {w : World} {B : Nat} {e : TypeId} {v : Value} {l : List Int} (h : w.ownsRow B e 1 v l.length (l.map iv)) : Si w v l := by
  rcases h.2 with ⟨rfl, h0⟩ | ⟨g, cap, cur, rfl, hb, hg, hnc, hcm, hcs, htake⟩
  · obtain rfl : l = [] := List.eq_nil_of_length_eq_zero h0
    exact Si.nil w
  · refine ⟨_, cap, rfl, hnc, fun h => (by cases h), fun _ => ⟨g, 0, rfl, fun k hk => ?_⟩⟩
    rw [World.ownsRow.cellAt h (0 + k) (by omega)]
    simp [ni, hk, iv]
/-- rows of any values, made by a walk -/
theorem toArray_getElem? (l : List Value) (k : Nat) : l.toArray[k]? = l[k]? := by simp
theorem bl2 (w : World) (a b : Obj) : Below w.heap.size w ((w.alloc a).alloc b) := ((Below.refl _ _).alloc (Nat.le_refl _) _).alloc (by simp) _
theorem bl3 (w : World) (a b c : Obj) : Below w.heap.size w (((w.alloc a).alloc b).alloc c) := (bl2 w a b).alloc (by simp; omega) _
end Go.Rw
end
section
/- Ints put behind those of an owned slice. Over any program. -/
namespace Go.Rw
open Go Go.RowKit
theorem map_iv_one (l : List Int) : ∀ u ∈ l.map iv, u.oneCell' = true := by
  intro u hu
  obtain ⟨x, _, rfl⟩ := List.mem_map.1 hu
  exact oneCell_iv x
/-- Appending what a slice reads to an owned slice. -/
theorem app_si {P : Program} {w : World} {ops : Array Oper} {rest : List Oper} {o : Oper} {a : Act} {Q : Exit → Act → World → Prop} (hgd : o.guard = none) (s x : Operand) (t : TypeId)
    (ho : o.op = .call { callee := .builtin .append, args := #[s, x], argTypes := #[t, t] })
    (base : Nat) (e : TypeId) (i : TypeInfo) (ht : P.underlying t = some (.slice e)) (hi : P.info? e = some i) (hz : i.zero = some (.int .i64 0))
    (hsize : i.size = 1) (hby : i.bytes = 8)
    (v : Value) (l : List Int) (hs : a.eval s = v) (hown : w.ownsRow base e 1 v l.length (l.map iv))
    (u : Value) (m : List Int) (hx : a.eval x = u) (hu : Si w u m) (hlen : l.length + m.length ≤ 2000000) (hbase : base ≤ w.heap.size)
    (h : ∀ v' w', w'.ownsRow base e 1 v' (l ++ m).length ((l ++ m).map iv) → w.grownBy w' v.ownBlock → wpList P ops Q rest (a.put o.dst v') w') : wpList P ops Q (o :: rest) a w := by
  obtain ⟨ao, cap, rfl, hc, hnn, hp⟩ := hu
  cases ao with
  | none =>
    obtain rfl := hnn rfl
    obtain rfl : m = [] := List.eq_nil_of_length_eq_zero (by omega)
    refine wpList_append_own_none hgd s x t ho base e i 1 ht hi v l.length (l.map iv) hs hown hx (h v w ?_ ⟨rfl, rfl, rfl, Nat.le_refl _, fun _ _ _ => rfl⟩)
    simpa using hown
  | some ad =>
    refine wpList_append_own w hgd s x t ho base e i (.int .i64 0) 1 8 ht hi hz hsize hby rfl (by decide) v l.length (l.map iv) hs hown ad m.length cap (m.map iv) hx (by simp) ?_ (map_iv_one m) (by unfold maxLen; omega) (by omega) hbase ?_
    · intro j u hj
      have hjl : j < m.length := by have := (List.getElem?_eq_some_iff.1 hj).1; simpa using this
      obtain ⟨b, off, e, hcell⟩ := hp (by omega)
      cases e
      rw [Addr.add_lit, hcell j hjl, ← hj]
      simp [ni, iv, hjl]
    · intro v' w' h2 h3 _
      refine h v' w' ?_ h3
      rw [List.length_append, List.map_append]
      exact h2
end Go.Rw
end
section
/- The walks of package frame at frames that have nothing but their kind (Ping, Done). -/
namespace Go.Proofs.Ytipniobgijdlkaa
open Go.RowKit Go.Rw Frm Hdr
attribute [local go_sem ↓] ldFF stFF alFF ldFS stFS alFS
attribute [local go_sem] rldFF rstFF ralFF rldFS rstFSb ralFS setRow_alloc_at setRow_alloc_past setRow_drew
/-- A frame of nothing but its kind. -/
def bare (k : Int) : Array Value := fvA k 0 0 (.slice none 0 0) 0 0 false (.slice none 0 0) (.slice none 0 0) (.slice none 0 0)
theorem bare_cells {w : World} {b : Nat} {k : Int} (h : row? w b = some (bare k)) : w.cell? ⟨b, 0, none⟩ = some (.int .i64 k) ∧ w.cell? ⟨b, 1, none⟩ = some (.int .u64 ((0 : Nat) : Int)) ∧ w.cell? ⟨b, 2, none⟩ = some (.int .u64 ((0 : Nat) : Int)) ∧ w.cell? ⟨b, 3, none⟩ = some (.slice none 0 0) ∧ w.cell? ⟨b, 4, none⟩ = some (.int .u64 ((0 : Nat) : Int)) ∧ w.cell? ⟨b, 5, none⟩ = some (.int .u64 ((0 : Nat) : Int)) ∧ w.cell? ⟨b, 6, none⟩ = some (.bool false) ∧ w.cell? ⟨b, 7, none⟩ = some (.slice none 0 0) ∧ w.cell? ⟨b, 8, none⟩ = some (.slice none 0 0) ∧ w.cell? ⟨b, 9, none⟩ = some (.slice none 0 0) :=
  ⟨row?_cell h 0, row?_cell h 1, row?_cell h 2, row?_cell h 3, row?_cell h 4, row?_cell h 5, row?_cell h 6, row?_cell h 7, row?_cell h 8, row?_cell h 9⟩
set_option maxHeartbeats 1000000 in
theorem long_bare (k : Int) (hk : k = 1 ∨ k = 30) (w : World) :
    Calls Try.prog 52 #[.agg (bare k)] w fun e w' => e = .returned (.bool true) ∧ Below w.heap.size w w' := by
  obtain ⟨c0, c1, c2, c3, c4, c5, c6, c7, c8, c9⟩ := bare_cells (row?_alloc_at w (bare k) 28 w.heap.size rfl)
  generalize hb : bare k = bb at *
  rcases hk with rfl | rfl
  · go_enter Try.func52, Try.ntmps52
    go_wp2_with fail
    go_ret
    exact ⟨rfl, (Below.refl _ _).alloc (Nat.le_refl _) _⟩
  · go_enter Try.func52, Try.ntmps52
    go_wp2_with fail
    go_ret
    exact ⟨rfl, (Below.refl _ _).alloc (Nat.le_refl _) _⟩
set_option maxRecDepth 20000 in
set_option maxHeartbeats 2000000 in
theorem may_bare (k : Int) (hk : k = 1 ∨ k = 30) (w : World) :
    Calls Try.prog 28 #[.agg (bare k)] w fun e w' => e = .returned (.bool true) ∧ Below w.heap.size w w' := by
  have hp : hasP k = (#[.bool false, .bool false, .bool false, .bool false, .bool false, .bool false, .bool false], true) := by unfold hasP; rw [if_pos hk]
  have hl := fun W => long_bare k hk W
  have k0 : ¬ k = 0 := by omega
  have k0' : (k == 0) = false := by simpa using k0
  have HL := Lib.hid hl
  clear hk hl
  have i0 := (bare_cells (row?_alloc_at w (bare k) 28 w.heap.size rfl)).1
  go_enter Try.func28, Try.ntmps28
  go_wp2_with fail
  refine (has_any k _).mono ?_
  rw [hp]
  rintro e w1 ⟨rfl, hb1⟩
  have r1 : row? w1 w.heap.size = some (bare k) := by rw [row?_below hb1 (by simp)]; exact row?_alloc_at _ _ _ _ rfl
  have B1 := Lib.hid (((Below.refl w.heap.size w).alloc (Nat.le_refl _) (.cells (bare k) 28)).trans (hb1.mono (by simp)))
  have hsz := row?_lt r1
  obtain ⟨PP, hPP⟩ : ∃ PP : Array Value, #[.bool false, .bool false, .bool false, .bool false, .bool false, .bool false, .bool false] = PP := ⟨_, rfl⟩
  obtain ⟨c0, c1, c2, c3, c4, c5, c6, c7, c8, c9⟩ := bare_cells (show row? (w1.alloc (.cells #[.bool false, .bool false, .bool false, .bool false, .bool false, .bool false, .bool false] 75)) w.heap.size = some (bare k) by rw [row?_alloc_past _ _ _ hsz]; exact r1)
  have rp : row? (w1.alloc (.cells #[.bool false, .bool false, .bool false, .bool false, .bool false, .bool false, .bool false] 75)) w1.heap.size = some #[.bool false, .bool false, .bool false, .bool false, .bool false, .bool false, .bool false] := row?_alloc_at _ _ _ _ rfl
  have p0 : (w1.alloc (.cells #[.bool false, .bool false, .bool false, .bool false, .bool false, .bool false, .bool false] 75)).cell? ⟨w1.heap.size, 0, none⟩ = some (.bool false) := row?_cell rp 0
  have p1 : (w1.alloc (.cells #[.bool false, .bool false, .bool false, .bool false, .bool false, .bool false, .bool false] 75)).cell? ⟨w1.heap.size, 1, none⟩ = some (.bool false) := row?_cell rp 1
  have p2 : (w1.alloc (.cells #[.bool false, .bool false, .bool false, .bool false, .bool false, .bool false, .bool false] 75)).cell? ⟨w1.heap.size, 2, none⟩ = some (.bool false) := row?_cell rp 2
  have p3 : (w1.alloc (.cells #[.bool false, .bool false, .bool false, .bool false, .bool false, .bool false, .bool false] 75)).cell? ⟨w1.heap.size, 3, none⟩ = some (.bool false) := row?_cell rp 3
  have p4 : (w1.alloc (.cells #[.bool false, .bool false, .bool false, .bool false, .bool false, .bool false, .bool false] 75)).cell? ⟨w1.heap.size, 4, none⟩ = some (.bool false) := row?_cell rp 4
  have p5 : (w1.alloc (.cells #[.bool false, .bool false, .bool false, .bool false, .bool false, .bool false, .bool false] 75)).cell? ⟨w1.heap.size, 5, none⟩ = some (.bool false) := row?_cell rp 5
  have p6 : (w1.alloc (.cells #[.bool false, .bool false, .bool false, .bool false, .bool false, .bool false, .bool false] 75)).cell? ⟨w1.heap.size, 6, none⟩ = some (.bool false) := row?_cell rp 6
  have RF := Lib.hid (show row? (w1.alloc (.cells #[.bool false, .bool false, .bool false, .bool false, .bool false, .bool false, .bool false] 75)) w.heap.size = some (bare k) by rw [row?_alloc_past _ _ _ hsz]; exact r1)
  have B2 := Lib.hid (B1.out.alloc B1.out.size (.cells #[.bool false, .bool false, .bool false, .bool false, .bool false, .bool false, .bool false] 75))
  clear hb1 r1 rp hPP PP i0
  have ld := rldFF (w1.alloc (.cells #[.bool false, .bool false, .bool false, .bool false, .bool false, .bool false, .bool false] 75)) w.heap.size (by rw [RF.out]; rfl)
  rw [RF.out] at ld
  have ld' : (loadAgg 28 (.pointer (some ⟨w.heap.size, 0, none⟩))).run Try.prog (w1.alloc (.cells #[.bool false, .bool false, .bool false, .bool false, .bool false, .bool false, .bool false] 75)) = .ok (.agg (bare k)) (w1.alloc (.cells #[.bool false, .bool false, .bool false, .bool false, .bool false, .bool false, .bool false] 75)) := ld
  clear ld
  go_wp2_with fail
  refine (HL.out _).mono ?_
  rintro e w3 ⟨rfl, hb3⟩
  have B3 := Lib.hid (B2.out.trans (hb3.mono B2.out.size))
  clear hb3
  go_wp2_with fail
  go_ret
  exact ⟨rfl, B3.out⟩
theorem vin_bare (k : Nat) (hk : k = 1 ∨ k = 30) : vin k (vlen k) = [UInt8.ofNat k] := by
  rcases hk with rfl | rfl <;> decide
set_option maxRecDepth 20000 in
set_option maxHeartbeats 2000000 in
theorem put_bare (k : Nat) (hk : k = 1 ∨ k = 30) (w : World) :
    Calls Try.prog 27 #[.agg (bare k)] w fun e w' => ∃ v, e = .returned v ∧ w'.ownsRow w.heap.size 5 1 v 1 ([UInt8.ofNat k].map bv) ∧ Below w.heap.size w w' := by
  have HM := Lib.hid (fun W => may_bare (k : Int) (by omega) W)
  have HV := Lib.hid (vin_bare k hk)
  have HK := Lib.hid hk
  have ld := rldFF (w.alloc (.cells (bare k) 28)) w.heap.size (by rw [row?_alloc_at _ _ _ _ rfl]; rfl)
  rw [row?_alloc_at _ _ _ _ rfl] at ld
  have ld' : (loadAgg 28 (.pointer (some ⟨w.heap.size, 0, none⟩))).run Try.prog (w.alloc (.cells (bare k) 28)) = .ok (.agg (bare k)) (w.alloc (.cells (bare k) 28)) := ld
  clear ld
  clear hk
  go_enter Try.func27, Try.ntmps27
  go_wp2_with fail
  refine (HM.out _).mono ?_
  rintro e w1 ⟨rfl, hb1⟩
  have R1 := Lib.hid (show row? w1 w.heap.size = some (bare k) by rw [row?_below hb1 (by simp)]; exact row?_alloc_at _ _ _ _ rfl)
  have B1 := Lib.hid (((Below.refl w.heap.size w).alloc (Nat.le_refl _) (.cells (bare k) 28)).trans (hb1.mono (by simp)))
  have c0 := (bare_cells R1.out).1
  have wk : IntKind.u64.wrap (k : Int) = (k : Int) := IntWalk.u64_in _ (by rcases HK.out with rfl | rfl <;> exact ⟨by omega, by omega⟩)
  have k8 : ((k : Int) == 8) = false := by rcases HK.out with rfl | rfl <;> rfl
  have k8' : ¬ (k : Int) = 8 := by rcases HK.out with rfl | rfl <;> omega
  clear hb1 ld'
  go_wp2_with fail
  refine (vput_any [] k (by simp) (by rcases HK.out with rfl | rfl <;> omega) _ w1 (Sl.nil _)).mono ?_
  rintro e w2 ⟨v2, rfl, o2, b2⟩
  rw [List.nil_append, HV.out] at o2
  have o2' : w2.ownsRow w.heap.size 5 1 v2 1 ([UInt8.ofNat k].map bv) := own_lower o2 B1.out.size
  have O2 := Lib.hid o2'
  have B2 := Lib.hid (B1.out.trans (b2.mono B1.out.size))
  have d0 := (bare_cells (show row? w2 w.heap.size = some (bare k) by rw [row?_below b2 (row?_lt R1.out)]; exact R1.out)).1
  clear o2 o2' b2 c0
  rcases HK.out with rfl | rfl
  · go_wp2_with fail
    go_ret
    exact ⟨_, rfl, O2.out, B2.out⟩
  · go_wp2_with fail
    go_ret
    exact ⟨_, rfl, O2.out, B2.out⟩
set_option maxHeartbeats 1000000 in
theorem len_bare (k : Nat) (hk : k = 1 ∨ k = 30) (w : World) :
    Calls Try.prog 30 #[.agg (bare k)] w fun e w' => e = .returned (.int .i64 1) ∧ Below w.heap.size w w' := by
  have ld := rldFF (w.alloc (.cells (bare k) 28)) w.heap.size (by rw [row?_alloc_at _ _ _ _ rfl]; rfl)
  rw [row?_alloc_at _ _ _ _ rfl] at ld
  have ld' : (loadAgg 28 (.pointer (some ⟨w.heap.size, 0, none⟩))).run Try.prog (w.alloc (.cells (bare k) 28)) = .ok (.agg (bare k)) (w.alloc (.cells (bare k) 28)) := ld
  clear ld
  go_enter Try.func30, Try.ntmps30
  go_wp2_with fail
  refine (put_bare k hk _).mono ?_
  rintro e w1 ⟨v1, rfl, o1, b1⟩
  obtain ⟨ao, cap, rfl, -, -, -⟩ := Own.sl (l := [UInt8.ofNat k]) o1
  have B1 := Lib.hid (((Below.refl w.heap.size w).alloc (Nat.le_refl _) (.cells (bare k) 28)).trans (b1.mono (by simp)))
  clear o1 b1
  go_wp2_with fail
  go_ret
  exact ⟨rfl, B1.out⟩
end Go.Proofs.Ytipniobgijdlkaa
end
