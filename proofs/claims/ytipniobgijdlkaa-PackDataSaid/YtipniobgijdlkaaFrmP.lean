/- The walks of package frame at frames that have nothing but their kind (Ping, Done). -/
import Derived.Test.YtipniobgijdlkaaFrmV
import Derived.Test.YtipniobgijdlkaaVarW
import Derived.Test.YtipniobgijdlkaaHdrW13
import Derived.Test.YtipniobgijdlkaaHdrW15
import Derived.Test.YtipniobgijdlkaaLibJ
namespace Go.Proofs.Ytipniobgijdlkaa
open Go.RowKit Go.Rw Frm Hdr
attribute [local go_sem ↓] ldFF stFF alFF ldFS stFS alFS
attribute [local go_sem] rldFF rstFF ralFF rldFS rstFSb ralFS setRow_alloc_at setRow_alloc_past setRow_drew
/-- A frame of nothing but its kind. -/
def bare (k : Int) : Array Value := fvA k 0 0 (.slice none 0 0) 0 0 false (.slice none 0 0) (.slice none 0 0) (.slice none 0 0)
theorem bare_cells {w : World} {b : Nat} {k : Int} (h : row? w b = some (bare k)) : w.cell? ⟨b, 0, none⟩ = some (.int .i64 k) ∧ w.cell? ⟨b, 1, none⟩ = some (.int .u64 ((0 : Nat) : Int)) ∧ w.cell? ⟨b, 2, none⟩ = some (.int .u64 ((0 : Nat) : Int)) ∧ w.cell? ⟨b, 3, none⟩ = some (.slice none 0 0) ∧ w.cell? ⟨b, 4, none⟩ = some (.int .u64 ((0 : Nat) : Int)) ∧ w.cell? ⟨b, 5, none⟩ = some (.int .u64 ((0 : Nat) : Int)) ∧ w.cell? ⟨b, 6, none⟩ = some (.bool false) ∧ w.cell? ⟨b, 7, none⟩ = some (.slice none 0 0) ∧ w.cell? ⟨b, 8, none⟩ = some (.slice none 0 0) ∧ w.cell? ⟨b, 9, none⟩ = some (.slice none 0 0) :=
  ⟨row?_cell h 0, row?_cell h 1, row?_cell h 2, row?_cell h 3, row?_cell h 4, row?_cell h 5, row?_cell h 6, row?_cell h 7, row?_cell h 8, row?_cell h 9⟩
set_option maxHeartbeats 1000000 in
theorem long_bare (k : Int) (hk : k = 1 ∨ k = 30) (w : World) :
    Calls Try.prog 52 #[.agg (bare k)] w fun e w' => e = .returned (.bool true) ∧ Below w.heap.size w w' := by
  obtain ⟨c0, c1, c2, c3, c4, c5, c6, c7, c8, c9⟩ := bare_cells (row?_alloc_at w (bare k) 28 w.heap.size rfl)
  generalize hb : bare k = bb at *
  rcases hk with rfl | rfl
  · go_enter Try.func52, Try.ntmps52
    go_wp2_with fail
    go_ret
    exact ⟨rfl, (Below.refl _ _).alloc (Nat.le_refl _) _⟩
  · go_enter Try.func52, Try.ntmps52
    go_wp2_with fail
    go_ret
    exact ⟨rfl, (Below.refl _ _).alloc (Nat.le_refl _) _⟩
set_option maxRecDepth 20000 in
set_option maxHeartbeats 2000000 in
theorem may_bare (k : Int) (hk : k = 1 ∨ k = 30) (w : World) :
    Calls Try.prog 28 #[.agg (bare k)] w fun e w' => e = .returned (.bool true) ∧ Below w.heap.size w w' := by
  have hp : hasP k = (#[.bool false, .bool false, .bool false, .bool false, .bool false, .bool false, .bool false], true) := by unfold hasP; rw [if_pos hk]
  have hl := fun W => long_bare k hk W
  have k0 : ¬ k = 0 := by omega
  have k0' : (k == 0) = false := by simpa using k0
  have HL := Lib.hid hl
  clear hk hl
  have i0 := (bare_cells (row?_alloc_at w (bare k) 28 w.heap.size rfl)).1
  go_enter Try.func28, Try.ntmps28
  go_wp2_with fail
  refine (has_any k _).mono ?_
  rw [hp]
  rintro e w1 ⟨rfl, hb1⟩
  have r1 : row? w1 w.heap.size = some (bare k) := by rw [row?_below hb1 (by simp)]; exact row?_alloc_at _ _ _ _ rfl
  have B1 := Lib.hid (((Below.refl w.heap.size w).alloc (Nat.le_refl _) (.cells (bare k) 28)).trans (hb1.mono (by simp)))
  have hsz := row?_lt r1
  obtain ⟨PP, hPP⟩ : ∃ PP : Array Value, #[.bool false, .bool false, .bool false, .bool false, .bool false, .bool false, .bool false] = PP := ⟨_, rfl⟩
  obtain ⟨c0, c1, c2, c3, c4, c5, c6, c7, c8, c9⟩ := bare_cells (show row? (w1.alloc (.cells #[.bool false, .bool false, .bool false, .bool false, .bool false, .bool false, .bool false] 75)) w.heap.size = some (bare k) by rw [row?_alloc_past _ _ _ hsz]; exact r1)
  have rp : row? (w1.alloc (.cells #[.bool false, .bool false, .bool false, .bool false, .bool false, .bool false, .bool false] 75)) w1.heap.size = some #[.bool false, .bool false, .bool false, .bool false, .bool false, .bool false, .bool false] := row?_alloc_at _ _ _ _ rfl
  have p0 : (w1.alloc (.cells #[.bool false, .bool false, .bool false, .bool false, .bool false, .bool false, .bool false] 75)).cell? ⟨w1.heap.size, 0, none⟩ = some (.bool false) := row?_cell rp 0
  have p1 : (w1.alloc (.cells #[.bool false, .bool false, .bool false, .bool false, .bool false, .bool false, .bool false] 75)).cell? ⟨w1.heap.size, 1, none⟩ = some (.bool false) := row?_cell rp 1
  have p2 : (w1.alloc (.cells #[.bool false, .bool false, .bool false, .bool false, .bool false, .bool false, .bool false] 75)).cell? ⟨w1.heap.size, 2, none⟩ = some (.bool false) := row?_cell rp 2
  have p3 : (w1.alloc (.cells #[.bool false, .bool false, .bool false, .bool false, .bool false, .bool false, .bool false] 75)).cell? ⟨w1.heap.size, 3, none⟩ = some (.bool false) := row?_cell rp 3
  have p4 : (w1.alloc (.cells #[.bool false, .bool false, .bool false, .bool false, .bool false, .bool false, .bool false] 75)).cell? ⟨w1.heap.size, 4, none⟩ = some (.bool false) := row?_cell rp 4
  have p5 : (w1.alloc (.cells #[.bool false, .bool false, .bool false, .bool false, .bool false, .bool false, .bool false] 75)).cell? ⟨w1.heap.size, 5, none⟩ = some (.bool false) := row?_cell rp 5
  have p6 : (w1.alloc (.cells #[.bool false, .bool false, .bool false, .bool false, .bool false, .bool false, .bool false] 75)).cell? ⟨w1.heap.size, 6, none⟩ = some (.bool false) := row?_cell rp 6
  have RF := Lib.hid (show row? (w1.alloc (.cells #[.bool false, .bool false, .bool false, .bool false, .bool false, .bool false, .bool false] 75)) w.heap.size = some (bare k) by rw [row?_alloc_past _ _ _ hsz]; exact r1)
  have B2 := Lib.hid (B1.out.alloc B1.out.size (.cells #[.bool false, .bool false, .bool false, .bool false, .bool false, .bool false, .bool false] 75))
  clear hb1 r1 rp hPP PP i0
  have ld := rldFF (w1.alloc (.cells #[.bool false, .bool false, .bool false, .bool false, .bool false, .bool false, .bool false] 75)) w.heap.size (by rw [RF.out]; rfl)
  rw [RF.out] at ld
  have ld' : (loadAgg 28 (.pointer (some ⟨w.heap.size, 0, none⟩))).run Try.prog (w1.alloc (.cells #[.bool false, .bool false, .bool false, .bool false, .bool false, .bool false, .bool false] 75)) = .ok (.agg (bare k)) (w1.alloc (.cells #[.bool false, .bool false, .bool false, .bool false, .bool false, .bool false, .bool false] 75)) := ld
  clear ld
  go_wp2_with fail
  refine (HL.out _).mono ?_
  rintro e w3 ⟨rfl, hb3⟩
  have B3 := Lib.hid (B2.out.trans (hb3.mono B2.out.size))
  clear hb3
  go_wp2_with fail
  go_ret
  exact ⟨rfl, B3.out⟩
theorem vin_bare (k : Nat) (hk : k = 1 ∨ k = 30) : vin k (vlen k) = [UInt8.ofNat k] := by
  rcases hk with rfl | rfl <;> decide
set_option maxRecDepth 20000 in
set_option maxHeartbeats 2000000 in
theorem put_bare (k : Nat) (hk : k = 1 ∨ k = 30) (w : World) :
    Calls Try.prog 27 #[.agg (bare k)] w fun e w' => ∃ v, e = .returned v ∧ w'.ownsRow w.heap.size 5 1 v 1 ([UInt8.ofNat k].map bv) ∧ Below w.heap.size w w' := by
  have HM := Lib.hid (fun W => may_bare (k : Int) (by omega) W)
  have HV := Lib.hid (vin_bare k hk)
  have HK := Lib.hid hk
  have ld := rldFF (w.alloc (.cells (bare k) 28)) w.heap.size (by rw [row?_alloc_at _ _ _ _ rfl]; rfl)
  rw [row?_alloc_at _ _ _ _ rfl] at ld
  have ld' : (loadAgg 28 (.pointer (some ⟨w.heap.size, 0, none⟩))).run Try.prog (w.alloc (.cells (bare k) 28)) = .ok (.agg (bare k)) (w.alloc (.cells (bare k) 28)) := ld
  clear ld
  clear hk
  go_enter Try.func27, Try.ntmps27
  go_wp2_with fail
  refine (HM.out _).mono ?_
  rintro e w1 ⟨rfl, hb1⟩
  have R1 := Lib.hid (show row? w1 w.heap.size = some (bare k) by rw [row?_below hb1 (by simp)]; exact row?_alloc_at _ _ _ _ rfl)
  have B1 := Lib.hid (((Below.refl w.heap.size w).alloc (Nat.le_refl _) (.cells (bare k) 28)).trans (hb1.mono (by simp)))
  have c0 := (bare_cells R1.out).1
  have wk : IntKind.u64.wrap (k : Int) = (k : Int) := IntWalk.u64_in _ (by rcases HK.out with rfl | rfl <;> exact ⟨by omega, by omega⟩)
  have k8 : ((k : Int) == 8) = false := by rcases HK.out with rfl | rfl <;> rfl
  have k8' : ¬ (k : Int) = 8 := by rcases HK.out with rfl | rfl <;> omega
  clear hb1 ld'
  go_wp2_with fail
  refine (vput_any [] k (by simp) (by rcases HK.out with rfl | rfl <;> omega) _ w1 (Sl.nil _)).mono ?_
  rintro e w2 ⟨v2, rfl, o2, b2⟩
  rw [List.nil_append, HV.out] at o2
  have o2' : w2.ownsRow w.heap.size 5 1 v2 1 ([UInt8.ofNat k].map bv) := own_lower o2 B1.out.size
  have O2 := Lib.hid o2'
  have B2 := Lib.hid (B1.out.trans (b2.mono B1.out.size))
  have d0 := (bare_cells (show row? w2 w.heap.size = some (bare k) by rw [row?_below b2 (row?_lt R1.out)]; exact R1.out)).1
  clear o2 o2' b2 c0
  rcases HK.out with rfl | rfl
  · go_wp2_with fail
    go_ret
    exact ⟨_, rfl, O2.out, B2.out⟩
  · go_wp2_with fail
    go_ret
    exact ⟨_, rfl, O2.out, B2.out⟩
set_option maxHeartbeats 1000000 in
theorem len_bare (k : Nat) (hk : k = 1 ∨ k = 30) (w : World) :
    Calls Try.prog 30 #[.agg (bare k)] w fun e w' => e = .returned (.int .i64 1) ∧ Below w.heap.size w w' := by
  have ld := rldFF (w.alloc (.cells (bare k) 28)) w.heap.size (by rw [row?_alloc_at _ _ _ _ rfl]; rfl)
  rw [row?_alloc_at _ _ _ _ rfl] at ld
  have ld' : (loadAgg 28 (.pointer (some ⟨w.heap.size, 0, none⟩))).run Try.prog (w.alloc (.cells (bare k) 28)) = .ok (.agg (bare k)) (w.alloc (.cells (bare k) 28)) := ld
  clear ld
  go_enter Try.func30, Try.ntmps30
  go_wp2_with fail
  refine (put_bare k hk _).mono ?_
  rintro e w1 ⟨v1, rfl, o1, b1⟩
  obtain ⟨ao, cap, rfl, -, -, -⟩ := Own.sl (l := [UInt8.ofNat k]) o1
  have B1 := Lib.hid (((Below.refl w.heap.size w).alloc (Nat.le_refl _) (.cells (bare k) 28)).trans (b1.mono (by simp)))
  clear o1 b1
  go_wp2_with fail
  go_ret
  exact ⟨rfl, B1.out⟩
end Go.Proofs.Ytipniobgijdlkaa
