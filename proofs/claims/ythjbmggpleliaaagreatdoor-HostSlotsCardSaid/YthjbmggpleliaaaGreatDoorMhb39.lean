/- FrmF; FrmK; FrmW3; FrmW4; FrmW5. -/
import Derived.Test.YthjbmggpleliaaaGreatDoorMhb35
import Derived.Test.YthjbmggpleliaaaGreatDoorMhb36
import Derived.Test.YthjbmggpleliaaaGreatDoorMhb21
import Derived.Test.YthjbmggpleliaaaGreatDoorMhb4
import Derived.Test.YthjbmggpleliaaaGreatDoorMhb38
import Derived.ScopeJumps
import Derived.WalkMore
import Derived.Laws.AppendOwn
import Derived.BigRegion
import Derived.RegionTactic
section
namespace Frm
open Go Go.Rw
theorem rOk_eq (l : List (Nat × Nat)) (k : Nat) : rOk l k = (decide (rlo l k ≤ rhi l k) && decide (rhi l k ≤ 4611686018427387903) && (decide (k = 0) || (decide (2 ≤ rlo l (k - 1)) && decide (rhi l k ≤ rlo l (k - 1) - 2)))) := rfl
theorem rsAll_no {l : List (Nat × Nat)} {k n : Nat} (h : rOk l k = false) (hk : k < n) : rsAll l n = false := by
 unfold rsAll
 rw [Bool.eq_false_iff]
 intro h'
 rw [List.all_eq_true] at h'
 have := h' k (List.mem_range.2 hk)
 rw [h] at this; cases this
theorem rsAll_get {l : List (Nat × Nat)} {n k : Nat} (h : rsAll l n = true) (hk : k < n) : rOk l k = true := by
 unfold rsAll at h
 rw [List.all_eq_true] at h
 exact h k (List.mem_range.2 hk)
theorem rsAll_lo {l : List (Nat × Nat)} {n k : Nat} (h : rsAll l n = true) (hk : k < n) : rlo l k ≤ 4611686018427387903 := by
 have := rsAll_get h hk
 rw [rOk_eq] at this
 simp only [Bool.and_eq_true, decide_eq_true_eq] at this
 omega
end Frm
namespace Go.Proofs.YthjbmggpleliaaaGreatDoor
open Go.RowKit Go.Rw Frm
attribute [local go_sem ↓] ldRg stRg alRg
attribute [local go_sem] rldRg rstRg2 ralRg setRow_alloc_at setRow_alloc_past setRow_drew
set_option maxRecDepth 20000 in
set_option maxHeartbeats 1000000 in
theorem falls_any (l : List (Nat × Nat)) (v : Value) (w : World) (hs : Sr w v l) :
  Calls Tryz.prog 159 #[v] w fun e w' => e = .returned (.bool (rsOk l)) ∧ Below w.heap.size w w' := by
 obtain ⟨ao, cap, rfl, hc, hnn, hp⟩ := id hs
 have HP := Lib.hid hp
 have HS := Lib.hid hs
 clear hp hs hnn hc
 obtain ⟨r, hr⟩ : ∃ r, rsOk l = r := ⟨_, rfl⟩
 rw [hr]
 unfold rsOk at hr
 have HR := Lib.hid hr
 clear hr
 go_enter Tryz.func159, Tryz.ntmps159
 by_cases h1 : l.length < 1
 ·go_wp2_with fail
  go_ret
  exact ⟨congrArg (fun z => Ending.returned (.bool z)) (by rw [← HR.out, decide_eq_false (by omega)]; rfl), Below.refl _ _⟩
 by_cases h8 : 8 < l.length
 ·go_wp2_with fail
  go_ret
  exact ⟨congrArg (fun z => Ending.returned (.bool z)) (by rw [← HR.out, decide_eq_false (p := l.length ≤ 8) (by omega), Bool.and_false, Bool.false_and]), Below.refl _ _⟩
 obtain ⟨b, off, rfl, hcell⟩ := HP.out (by omega)
 have HC := Lib.hid hcell
 clear hcell HP
 go_wp2_with fail
 go_loopw [15] (fun v wr => ∃ k : Nat, k ≤ l.length ∧ v = .int .i64 k ∧ rsAll l k = true ∧ Below w.heap.size w wr) (fun v _ => l.length - (intOf v).toNat)
 case atStart => exact ⟨0, by omega, rfl, rfl, Below.refl _ _⟩
 case round =>
  obtain ⟨k, hk, rfl, hall, hb⟩ := hrel
  have HB := Lib.hid hb
  have HA := Lib.hid hall
  clear hb hall
  by_cases hlt : k < l.length
  ·have hc := HC.out k hlt
   have x1 := below_cell HB.out hc.1 (cell_lt hc.1)
   have x2 := below_cell HB.out hc.2 (cell_lt hc.2)
   have hl := load_two AgRg wr b (off + k * 2) _ _ x1 x2
   clear hc x1 x2
   go_wp2_with fail
   clear hl
   by_cases g1 : rhi l k < rlo l k
   case pos =>
    have q1 : decide (rhi l k < rlo l k) = true := decide_eq_true g1
    have hno : rsAll l l.length = false := rsAll_no (k := k) (by rw [rOk_eq]; rw [decide_eq_false (p := rlo l k ≤ rhi l k) (by omega)]; rfl) hlt
    have HN := Lib.hid hno
    clear hno
    refine Rg.wp_region_plan (Rg.row [(0, 3), (1, 0), (2, 3), (3, 0), (4, 3), (5, 3), (6, 3), (7, 0), (8, 3), (9, 3), (10, 3), (11, 3), (12, 3), (13, 3), (14, 3), (15, 3), (16, 3), (17, 3), (18, 3), (19, 0), (20, 3), (21, 3), (22, 3), (23, 0), (24, 3), (25, 3), (26, 3), (27, 3), (28, 3), (29, 0), (30, 3), (31, 3), (32, 3), (33, 3), (34, 3)] []) [] (by kernel_rfl) (by kernel_rfl) ?_
    simp only [Rg.row, Rg.PT.map, List.map_nil, List.getD_cons_zero, List.getD_cons_succ]
    go_wp2_with (first
     | ((with_reducible refine Rg.plan_skipB 5 false rfl ?_ ?_); kernel_rfl)
     | ((with_reducible refine Rg.plan_skipB 10 false rfl ?_ ?_); kernel_rfl)
     | ((with_reducible refine Rg.plan_skipB 13 true rfl ?_ ?_); kernel_rfl)
     | ((with_reducible refine Rg.plan_skipB 21 false rfl ?_ ?_); kernel_rfl)
     | ((with_reducible refine Rg.plan_pure ?_ ?_ ?_); kernel_rfl; kernel_rfl; intro _ _)
     | ((with_reducible refine Rg.plan_take ?_ ?_ ?_); kernel_rfl; kernel_rfl; intro _ _)
     | ((with_reducible refine Rg.plan_keep ?_ ?_); kernel_rfl; intro K hK)
     | (refine hK _ _ (Rg.Keep.refl _) ?_; clear hK)
     | (refine hK _ _ (Rg.Keep.of_below (by assumption)) ?_; clear hK)
     | ((with_reducible refine Rg.plan_skip ?_ ?_); kernel_rfl)
     | (with_reducible refine Rg.plan_done ?_)
     | (with_reducible refine Rg.calm_normal ?_))
    go_ret
    exact ⟨congrArg (fun z => Ending.returned (.bool z)) (by rw [← HR.out, HN.out, Bool.and_false]), (HB.out.alloc (by simpa using HB.out.size) _).drew⟩
   have q1 : decide (rhi l k < rlo l k) = false := decide_eq_false g1
   by_cases g2 : 4611686018427387903 < rhi l k
   case pos =>
    have q2 : decide ((4611686018427387903 : Int) < (rhi l k : Nat)) = true := decide_eq_true (by omega)
    have hno : rsAll l l.length = false := rsAll_no (k := k) (by rw [rOk_eq]; rw [decide_eq_false (p := rhi l k ≤ 4611686018427387903) (by omega), Bool.and_false, Bool.false_and]) hlt
    have HN := Lib.hid hno
    clear hno
    refine Rg.wp_region_plan (Rg.row [(0, 3), (1, 0), (2, 3), (3, 0), (4, 3), (5, 3), (6, 3), (7, 0), (8, 3), (9, 3), (10, 3), (11, 3), (12, 3), (13, 3), (14, 3), (15, 3), (16, 3), (17, 3), (18, 3), (19, 0), (20, 3), (21, 3), (22, 3), (23, 0), (24, 3), (25, 3), (26, 3), (27, 3), (28, 3), (29, 0), (30, 3), (31, 3), (32, 3), (33, 3), (34, 3)] []) [] (by kernel_rfl) (by kernel_rfl) ?_
    simp only [Rg.row, Rg.PT.map, List.map_nil, List.getD_cons_zero, List.getD_cons_succ]
    go_wp2_with (first
     | ((with_reducible refine Rg.plan_skipB 10 false rfl ?_ ?_); kernel_rfl)
     | ((with_reducible refine Rg.plan_skipB 13 true rfl ?_ ?_); kernel_rfl)
     | ((with_reducible refine Rg.plan_skipB 21 false rfl ?_ ?_); kernel_rfl)
     | ((with_reducible refine Rg.plan_pure ?_ ?_ ?_); kernel_rfl; kernel_rfl; intro _ _)
     | ((with_reducible refine Rg.plan_take ?_ ?_ ?_); kernel_rfl; kernel_rfl; intro _ _)
     | ((with_reducible refine Rg.plan_keep ?_ ?_); kernel_rfl; intro K hK)
     | (refine hK _ _ (Rg.Keep.refl _) ?_; clear hK)
     | (refine hK _ _ (Rg.Keep.of_below (by assumption)) ?_; clear hK)
     | ((with_reducible refine Rg.plan_skip ?_ ?_); kernel_rfl)
     | (with_reducible refine Rg.plan_done ?_)
     | (with_reducible refine Rg.calm_normal ?_))
    go_ret
    exact ⟨congrArg (fun z => Ending.returned (.bool z)) (by rw [← HR.out, HN.out, Bool.and_false]), (HB.out.alloc (by simpa using HB.out.size) _).drew⟩
   have q2 : decide ((4611686018427387903 : Int) < (rhi l k : Nat)) = false := decide_eq_false (by omega)
   by_cases g3 : k = 0
   case pos =>
    have q3 : decide (0 < k) = false := decide_eq_false (by omega)
    have hyes : rsAll l (k + 1) = true := by rw [rsAll_succ, HA.out, rOk_eq]; rw [decide_eq_true (p := k = 0) g3, decide_eq_true (p := rlo l k ≤ rhi l k) (by omega), decide_eq_true (p := rhi l k ≤ 4611686018427387903) (by omega)]; rfl
    have HY := Lib.hid hyes
    clear hyes g3
    refine Rg.wp_region_plan (Rg.row [(0, 3), (1, 0), (2, 3), (3, 0), (4, 3), (5, 3), (6, 3), (7, 0), (8, 3), (9, 3), (10, 3), (11, 3), (12, 3), (13, 3), (14, 3), (15, 3), (16, 3), (17, 3), (18, 3), (19, 0), (20, 3), (21, 3), (22, 3), (23, 0), (24, 3), (25, 3), (26, 3), (27, 3), (28, 3), (29, 0), (30, 3), (31, 3), (32, 3), (33, 3), (34, 3)] []) [] (by kernel_rfl) (by kernel_rfl) ?_
    simp only [Rg.row, Rg.PT.map, List.map_nil, List.getD_cons_zero, List.getD_cons_succ]
    go_wp2_with (first
     | ((with_reducible refine Rg.plan_skipB 13 true rfl ?_ ?_); kernel_rfl)
     | ((with_reducible refine Rg.plan_skipB 21 false rfl ?_ ?_); kernel_rfl)
     | ((with_reducible refine Rg.plan_pure ?_ ?_ ?_); kernel_rfl; kernel_rfl; intro _ _)
     | ((with_reducible refine Rg.plan_take ?_ ?_ ?_); kernel_rfl; kernel_rfl; intro _ _)
     | ((with_reducible refine Rg.plan_keep ?_ ?_); kernel_rfl; intro K hK)
     | (refine hK _ _ (Rg.Keep.refl _) ?_; clear hK)
     | (refine hK _ _ (Rg.Keep.of_below (by assumption)) ?_; clear hK)
     | ((with_reducible refine Rg.plan_skip ?_ ?_); kernel_rfl)
     | (with_reducible refine Rg.plan_done ?_)
     | (with_reducible refine Rg.calm_normal ?_))
    go_roundw
    case rel => exact ⟨k + 1, by omega, by go_num, HY.out, (HB.out.alloc (by simpa using HB.out.size) _).drew⟩
    case measure => simp [intOf]; omega
   have q3 : decide (0 < k) = true := decide_eq_true (by omega)
   have hc' := HC.out (k - 1) (by omega)
   have x1 := below_cell HB.out hc'.1 (cell_lt hc'.1)
   have g3' : 0 < k := by omega
   have hbl := cell_lt x1
   have hle : (rlo l (k - 1) : Int) ≤ 4611686018427387903 := by have := rsAll_lo HA.out (show k - 1 < k by omega); omega
   clear hc' g3
   by_cases g4 : rlo l (k - 1) < 2
   case pos =>
    have q4 : decide ((rlo l (k - 1) : Int) < 2) = true := decide_eq_true (by omega)
    have hno : rsAll l l.length = false := rsAll_no (k := k) (by rw [rOk_eq]; rw [decide_eq_false (p := 2 ≤ rlo l (k - 1)) (by omega), decide_eq_false (p := k = 0) (by omega), Bool.false_and, Bool.or_false, Bool.and_false]) hlt
    have HN := Lib.hid hno
    clear hno
    refine Rg.wp_region_plan (Rg.row [(0, 3), (1, 0), (2, 3), (3, 0), (4, 3), (5, 3), (6, 3), (7, 0), (8, 3), (9, 3), (10, 3), (11, 3), (12, 3), (13, 3), (14, 3), (15, 3), (16, 3), (17, 3), (18, 3), (19, 0), (20, 3), (21, 3), (22, 3), (23, 0), (24, 3), (25, 3), (26, 3), (27, 3), (28, 3), (29, 0), (30, 3), (31, 3), (32, 3), (33, 3), (34, 3)] []) [] (by kernel_rfl) (by kernel_rfl) ?_
    simp only [Rg.row, Rg.PT.map, List.map_nil, List.getD_cons_zero, List.getD_cons_succ]
    go_wp2_with (first
     | ((with_reducible refine Rg.plan_skipB 21 false rfl ?_ ?_); kernel_rfl)
     | ((with_reducible refine Rg.plan_pure ?_ ?_ ?_); kernel_rfl; kernel_rfl; intro _ _)
     | ((with_reducible refine Rg.plan_take ?_ ?_ ?_); kernel_rfl; kernel_rfl; intro _ _)
     | ((with_reducible refine Rg.plan_keep ?_ ?_); kernel_rfl; intro K hK)
     | (refine hK _ _ (Rg.Keep.refl _) ?_; clear hK)
     | (refine hK _ _ (Rg.Keep.of_below (by assumption)) ?_; clear hK)
     | ((with_reducible refine Rg.plan_skip ?_ ?_); kernel_rfl)
     | (with_reducible refine Rg.plan_done ?_)
     | (with_reducible refine Rg.calm_normal ?_))
    go_ret
    exact ⟨congrArg (fun z => Ending.returned (.bool z)) (by rw [← HR.out, HN.out, Bool.and_false]), (HB.out.alloc (by simpa using HB.out.size) _).drew⟩
   have q4 : decide ((rlo l (k - 1) : Int) < 2) = false := decide_eq_false (by omega)
   have g4' : (2 : Int) ≤ rlo l (k - 1) := by omega
   by_cases g5 : rlo l (k - 1) - 2 < rhi l k
   case pos =>
    have q5 : decide ((rlo l (k - 1) : Int) - 2 < (rhi l k : Nat)) = true := decide_eq_true (by omega)
    have hno : rsAll l l.length = false := rsAll_no (k := k) (by rw [rOk_eq]; rw [decide_eq_false (p := rhi l k ≤ rlo l (k - 1) - 2) (by omega), decide_eq_false (p := k = 0) (by omega), Bool.and_false, Bool.or_false, Bool.and_false]) hlt
    have HN := Lib.hid hno
    clear hno
    refine Rg.wp_region_plan (Rg.row [(0, 3), (1, 0), (2, 3), (3, 0), (4, 3), (5, 3), (6, 3), (7, 0), (8, 3), (9, 3), (10, 3), (11, 3), (12, 3), (13, 3), (14, 3), (15, 3), (16, 3), (17, 3), (18, 3), (19, 0), (20, 3), (21, 3), (22, 3), (23, 0), (24, 3), (25, 3), (26, 3), (27, 3), (28, 3), (29, 0), (30, 3), (31, 3), (32, 3), (33, 3), (34, 3)] []) [] (by kernel_rfl) (by kernel_rfl) ?_
    simp only [Rg.row, Rg.PT.map, List.map_nil, List.getD_cons_zero, List.getD_cons_succ]
    go_wp2_with (first
     | ((with_reducible refine Rg.plan_pure ?_ ?_ ?_); kernel_rfl; kernel_rfl; intro _ _)
     | ((with_reducible refine Rg.plan_take ?_ ?_ ?_); kernel_rfl; kernel_rfl; intro _ _)
     | ((with_reducible refine Rg.plan_keep ?_ ?_); kernel_rfl; intro K hK)
     | (refine hK _ _ (Rg.Keep.refl _) ?_; clear hK)
     | (refine hK _ _ (Rg.Keep.of_below (by assumption)) ?_; clear hK)
     | ((with_reducible refine Rg.plan_skip ?_ ?_); kernel_rfl)
     | (with_reducible refine Rg.plan_done ?_)
     | (with_reducible refine Rg.calm_normal ?_))
    go_ret
    exact ⟨congrArg (fun z => Ending.returned (.bool z)) (by rw [← HR.out, HN.out, Bool.and_false]), (HB.out.alloc (by simpa using HB.out.size) _).drew⟩
   case neg =>
    have q5 : decide ((rlo l (k - 1) : Int) - 2 < (rhi l k : Nat)) = false := decide_eq_false (by omega)
    have hyes : rsAll l (k + 1) = true := by rw [rsAll_succ, HA.out, rOk_eq]; rw [decide_eq_true (p := rhi l k ≤ rlo l (k - 1) - 2) (by omega), decide_eq_true (p := 2 ≤ rlo l (k - 1)) (by omega), decide_eq_true (p := rlo l k ≤ rhi l k) (by omega), decide_eq_true (p := rhi l k ≤ 4611686018427387903) (by omega), Bool.and_true, Bool.or_true, Bool.and_true]; rfl
    have HY := Lib.hid hyes
    clear hyes
    refine Rg.wp_region_plan (Rg.row [(0, 3), (1, 0), (2, 3), (3, 0), (4, 3), (5, 3), (6, 3), (7, 0), (8, 3), (9, 3), (10, 3), (11, 3), (12, 3), (13, 3), (14, 3), (15, 3), (16, 3), (17, 3), (18, 3), (19, 0), (20, 3), (21, 3), (22, 3), (23, 0), (24, 3), (25, 3), (26, 3), (27, 3), (28, 3), (29, 0), (30, 3), (31, 3), (32, 3), (33, 3), (34, 3)] []) [] (by kernel_rfl) (by kernel_rfl) ?_
    simp only [Rg.row, Rg.PT.map, List.map_nil, List.getD_cons_zero, List.getD_cons_succ]
    go_wp2_with (first
     | ((with_reducible refine Rg.plan_pure ?_ ?_ ?_); kernel_rfl; kernel_rfl; intro _ _)
     | ((with_reducible refine Rg.plan_take ?_ ?_ ?_); kernel_rfl; kernel_rfl; intro _ _)
     | ((with_reducible refine Rg.plan_keep ?_ ?_); kernel_rfl; intro K hK)
     | (refine hK _ _ (Rg.Keep.refl _) ?_; clear hK)
     | (refine hK _ _ (Rg.Keep.of_below (by assumption)) ?_; clear hK)
     | ((with_reducible refine Rg.plan_skip ?_ ?_); kernel_rfl)
     | (with_reducible refine Rg.plan_done ?_)
     | (with_reducible refine Rg.calm_normal ?_))
    go_roundw
    case rel => exact ⟨k + 1, by omega, by go_num, HY.out, (HB.out.alloc (by simpa using HB.out.size) _).drew⟩
    case measure => simp [intOf]; omega
  ·obtain rfl : k = l.length := by omega
   go_wp2_with fail
   go_ret
   exact ⟨congrArg (fun z => Ending.returned (.bool z)) (by rw [← HR.out, HA.out, decide_eq_true (by omega), decide_eq_true (p := l.length ≤ 8) (by omega)]; rfl), HB.out⟩
end Go.Proofs.YthjbmggpleliaaaGreatDoor

end
section
namespace Go.Rw
open Go Go.RowKit
variable {P : Program}
def cutA2 (ao : Option Addr) (lo cap : Nat) : Option Addr := if cap = lo then ao else ao.map (·.add (lo * 2))
structure SlT2 (P : Program) (t e : TypeId) : Prop where
 und : P.underlying t = some (.slice (P.elem t))
 elem : P.elem t = e
 size : (P.info? e).map (·.size) = some 2
theorem SlT2.run {t e : TypeId} (T : SlT2 P t e) (w : World) : (sizeOf (P.elem t)).run P w = .ok 2 w := by
 rw [T.elem]
 have := T.size
 cases hq : P.info? e with
 | none => simp [hq] at this
 | some i => simp [hq] at this; simp [sizeOf, typeInfo, hq, this]
theorem cut_l2 {t e : TypeId} (T : SlT2 P t e) (w : World) (ao : Option Addr) (len cap : Nat) (k : IntKind) (l : Int) (h0 : 0 ≤ l) (h2 : l ≤ len) :
  (Instr.sliceAt t (.slice ao len cap) (some (.int k l)) none none).run P w = .ok (.slice (cutA2 ao l.toNat cap) (len - l.toNat) (cap - l.toNat)) w := by
 rw [run_sliceAt_slice w t _ _ _ _ T.und, run_slice_l w t ao len cap T.und k l h0 h2, T.run, Result.andThen_ok]; rfl
end Go.Rw
namespace Frm
open Go Go.Rw Hdr
def NSl (d : Nat) (rs : List (Nat × Nat)) : List Nat := [rhi rs 0, d, rs.length - 1, rhi rs 0 - rlo rs 0]
def vPs (ns : List Nat) (k : Nat) : List UInt8 := (ns.take k).flatMap vP
theorem vPs_succ (ns : List Nat) (k : Nat) (h : k < ns.length) : vPs ns (k + 1) = vPs ns k ++ vP (ns.getD k 0) := by
 unfold vPs
 rw [List.take_add_one, List.getElem?_eq_getElem h, List.flatMap_append]
 simp [List.getD, h]
theorem vPs_all (d : Nat) (rs : List (Nat × Nat)) : vPs (NSl d rs) 4 = ackB d rs := by simp [vPs, NSl, ackB, List.flatMap_cons]
theorem vPs_len (ns : List Nat) : ∀ k, (vPs ns k).length ≤ 8 * k
 | 0 => by simp [vPs]
 | k + 1 => by
  by_cases h : k < ns.length
  ·rw [vPs_succ ns k h, List.length_append, vP_length]
   have := vPs_len ns k
   have := vlen_le (ns.getD k 0)
   omega
  ·have e : vPs ns (k + 1) = vPs ns k := by unfold vPs; rw [List.take_of_length_le (by omega), List.take_of_length_le (by omega)]
   rw [e]
   have := vPs_len ns k
   omega
theorem ackR_len (rs : List (Nat × Nat)) : ∀ k, (ackR rs k).length ≤ 16 * k
 | 0 => by simp [ackR]
 | k + 1 => by
  rw [ackR_succ, List.length_append]
  have := ackR_len rs k
  have e : (ackG rs k).length ≤ 16 := by
   unfold ackG
   rw [List.length_append, vP_length, vP_length]
   have := vlen_le (rlo rs k - rhi rs (k + 1) - 2)
   have := vlen_le (rhi rs (k + 1) - rlo rs (k + 1))
   omega
  omega
theorem rsOk_at {l : List (Nat × Nat)} (h : rsOk l = true) {k : Nat} (hk : k < l.length) : rlo l k ≤ rhi l k ∧ rhi l k ≤ 4611686018427387903 := by
 simp only [rsOk, Bool.and_eq_true] at h
 have := rsAll_get h.2 hk
 rw [rOk_eq] at this
 simp only [Bool.and_eq_true, decide_eq_true_eq] at this
 exact this.1
theorem rsOk_gap {l : List (Nat × Nat)} (h : rsOk l = true) {k : Nat} (hk : k + 1 < l.length) : 2 ≤ rlo l k ∧ rhi l (k + 1) ≤ rlo l k - 2 := by
 simp only [rsOk, Bool.and_eq_true] at h
 have := rsAll_get h.2 hk
 rw [rOk_eq] at this
 simp only [Bool.and_eq_true, Bool.or_eq_true, decide_eq_true_eq] at this
 have := this.2
 simpa using this
theorem rsOk_le {l : List (Nat × Nat)} (h : rsOk l = true) : l.length ≤ 8 := by
 simp only [rsOk, Bool.and_eq_true, decide_eq_true_eq] at h
 exact h.1.2
end Frm
namespace Go.Proofs.YthjbmggpleliaaaGreatDoor
open Go.RowKit Go.Rw Frm Hdr
attribute [local go_sem ↓] ldFF stFF alFF ldRg stRg alRg
attribute [local go_sem] rldFF rstFF ralFF rldRg rstRg2 ralRg setRow_alloc_at setRow_alloc_past setRow_drew
set_option maxRecDepth 100000 in
theorem TRg : SlT2 Tryz.prog 157 234 := ⟨Tryz.underlying157, by kernel_rfl, by kernel_rfl⟩
set_option maxRecDepth 100000 in
set_option maxHeartbeats 4000000 in
theorem acked_any (l : List UInt8) (hl : l.length ≤ 1000) (k : Int) (n d i o : Nat) (fin : Bool) (ar a2 a3 a4 : Option Addr) (rs : List (Nat × Nat)) (nd nc nt er e2 e3 e4 : Nat) (hok : rsOk rs = true) (hd : d ≤ 4611686018427387903) (v : Value) (w : World) (hs : Sl w v l) (hr : Sr w (.slice ar rs.length er) rs) :
  Calls Tryz.prog 151 #[v, .agg (fvA k n d (.slice ar rs.length er) i o fin (.slice a2 nd e2) (.slice a3 nc e3) (.slice a4 nt e4))] w fun e w' => ∃ v', e = .returned v' ∧ w'.ownsRow (w.heap.size + 1) 5 1 v' (l ++ ackB d rs ++ ackR rs (rs.length - 1)).length ((l ++ ackB d rs ++ ackR rs (rs.length - 1)).map bv) ∧ Below w.heap.size w w' := by
 have h8 := rsOk_le hok
 have h1 := rsOk_pos hok
 have r0 := rsOk_at hok (k := 0) (by omega)
 have fc := fun (W : World) (b : Nat) (h : row? W b = some (fvA k n d (.slice ar rs.length er) i o fin (.slice a2 nd e2) (.slice a3 nc e3) (.slice a4 nt e4))) => fv_cells h
 have P0 : PS w (fvA k n d (.slice ar rs.length er) i o fin (.slice a2 nd e2) (.slice a3 nc e3) (.slice a4 nt e4)) (w.alloc (.cells (fvA k n d (.slice ar rs.length er) i o fin (.slice a2 nd e2) (.slice a3 nc e3) (.slice a4 nt e4)) 159)) := ⟨row?_alloc_at _ _ _ _ rfl, (Below.refl _ _).alloc (Nat.le_refl _) _⟩
 generalize fvA k n d (.slice ar rs.length er) i o fin (.slice a2 nd e2) (.slice a3 nc e3) (.slice a4 nt e4) = F at *
 obtain ⟨c0, c1, c2, c3, c4, c5, c6, c7, c8, c9⟩ := fc _ _ P0.row
 obtain ⟨ao, er', e0, hce, -, hp⟩ := id hr
 cases e0
 obtain ⟨b, off, rfl, hcell⟩ := hp (by omega)
 have x1 := below_cell P0.bel (hcell 0 (by omega)).1 (cell_lt (hcell 0 (by omega)).1)
 have x2 := below_cell P0.bel (hcell 0 (by omega)).2 (cell_lt (hcell 0 (by omega)).2)
 rw [Nat.zero_mul, Nat.add_zero] at x1 x2
 obtain ⟨av, ev, rfl, -, -, -⟩ := id hs
 have hw1 : IntKind.u64.wrap ((rs.length : Int) - 1) = ((rs.length - 1 : Nat) : Int) := by simp only [IntKind.wrap_u64]; omega
 have hw2 : IntKind.u64.wrap ((rhi rs 0 : Int) - (rlo rs 0 : Int)) = ((rhi rs 0 - rlo rs 0 : Nat) : Int) := by simp only [IntKind.wrap_u64]; omega
 have HS := Lib.hid hs
 have HR := Lib.hid hr
 have HC := Lib.hid hcell
 have FC := Lib.hid fc
 have Q0 := Lib.hid P0
 have HOK := Lib.hid hok
 clear hs hr hcell fc P0 hp hok
 go_enter Tryz.func151, Tryz.ntmps151
 go_wp2_with fail
 refine Rg.wp_region_plan (Rg.row [(0, 3), (1, 0), (2, 3), (3, 3), (4, 0), (5, 3), (6, 0), (7, 3), (8, 0), (9, 0), (10, 3), (11, 3), (12, 3), (13, 0), (14, 3), (15, 3), (16, 0), (17, 3), (18, 0), (19, 3), (20, 3), (21, 0), (22, 3), (25, 3), (23, 1), (24, 0)] []) [] (by kernel_rfl) (by kernel_rfl) ?_
 simp only [Rg.row, Rg.PT.map, List.map_nil, List.getD_cons_zero, List.getD_cons_succ]
 go_wp2_with (first
  |(with_reducible refine Rg.plan_pure ?_ ?_ ?_); kernel_rfl; kernel_rfl; intro _ _|(with_reducible refine Rg.plan_take ?_ ?_ ?_); kernel_rfl; kernel_rfl; intro _ _|(with_reducible refine Rg.plan_keep ?_ ?_); kernel_rfl; intro K hK|refine hK _ _ (Rg.Keep.refl _) ?_; clear hK|refine hK _ _ (Rg.Keep.of_below (by assumption)) ?_; clear hK|(with_reducible refine Rg.plan_skip ?_ ?_); kernel_rfl|(with_reducible refine Rg.plan_done ?_)|(with_reducible refine Rg.calm_normal ?_))
 have bk : Below (w.alloc (.cells F 159)).drew.heap.size (w.alloc (.cells F 159)).drew ((w.alloc (.cells F 159)).alloc (.cells #[.int .u64 (rhi rs 0 : Nat), .int .u64 (d : Nat), .int .u64 (rs.length - 1 : Nat), .int .u64 (rhi rs 0 - rlo rs 0 : Nat)] 74)).drew :=
  have h := (Below.refl (w.alloc (.cells F 159)).heap.size (w.alloc (.cells F 159))).alloc (Nat.le_refl _) (.cells #[.int .u64 (rhi rs 0 : Nat), .int .u64 (d : Nat), .int .u64 (rs.length - 1 : Nat), .int .u64 (rhi rs 0 - rlo rs 0 : Nat)] 74)
  ⟨h.os, h.tape, h.output, h.size, h.block⟩
 refine hK _ _ (Rg.Keep.of_below bk) ?_
 have Q1 := Lib.hid (Q0.out.drew.step bk)
 have eN : #[Value.int .u64 (rhi rs 0 : Nat), .int .u64 (d : Nat), .int .u64 (rs.length - 1 : Nat), .int .u64 (rhi rs 0 - rlo rs 0 : Nat)] = ((NSl d rs).map fun x => Value.int .u64 (x : Nat)).toArray := rfl
 have RN : row? ((w.alloc (.cells F 159)).alloc (.cells #[.int .u64 (rhi rs 0 : Nat), .int .u64 (d : Nat), .int .u64 (rs.length - 1 : Nat), .int .u64 (rhi rs 0 - rlo rs 0 : Nat)] 74)).drew (w.heap.size + 1) = some ((NSl d rs).map fun x => Value.int .u64 (x : Nat)).toArray := by
  rw [row?_drew, ← eN]; exact row?_alloc_at _ _ _ _ (by simp)
 have R1 := Lib.hid RN
 clear hK bk Q0 eN RN x1 x2 hw1 hw2 c0 c1 c2 c3 c4 c5 c6 c7 c8 c9
 generalize ((w.alloc (.cells F 159)).alloc (.cells #[.int .u64 (rhi rs 0 : Nat), .int .u64 (d : Nat), .int .u64 (rs.length - 1 : Nat), .int .u64 (rhi rs 0 - rlo rs 0 : Nat)] 74)).drew = W1 at Q1 R1 ⊢
 go_wp2_with (first
  |(with_reducible refine Rg.plan_pure ?_ ?_ ?_); kernel_rfl; kernel_rfl; intro _ _|(with_reducible refine Rg.plan_take ?_ ?_ ?_); kernel_rfl; kernel_rfl; intro _ _|(with_reducible refine Rg.plan_keep ?_ ?_); kernel_rfl; intro K hK|refine hK _ _ (Rg.Keep.refl _) ?_; clear hK|refine hK _ _ (Rg.Keep.of_below (by assumption)) ?_; clear hK|(with_reducible refine Rg.plan_skip ?_ ?_); kernel_rfl|(with_reducible refine Rg.plan_done ?_)|(with_reducible refine Rg.calm_normal ?_))
 have nb : ∀ j, j < 4 → (NSl d rs).getD j 0 < 18446744073709551616 := by
  intro j hj
  match j, hj with
  | 0, _ => show rhi rs 0 < _; omega
  | 1, _ => show d < _; omega
  | 2, _ => show rs.length - 1 < _; omega
  | 3, _ => show rhi rs 0 - rlo rs 0 < _; omega
 have hN4 : (NSl d rs).length = 4 := rfl
 have e4 := vPs_all d rs
 generalize NSl d rs = NS at *
 have E4 := Lib.hid e4
 have NB := Lib.hid nb
 have HN4 := Lib.hid hN4
 clear e4 nb hN4
 go_loopw [0, 6, 34] (fun vb v6 vi wr => ∃ j : Nat, j ≤ 4 ∧ vi = .int .i64 j ∧ Sl wr vb (l ++ vPs NS j) ∧ (0 < j → wr.ownsRow (w.heap.size + 1) 5 1 vb (l ++ vPs NS j).length ((l ++ vPs NS j).map bv)) ∧ PS w F wr ∧ row? wr (w.heap.size + 1) = some (NS.map fun x => Value.int .u64 (x : Nat)).toArray) (fun _ _ vi _ => 4 - (intOf vi).toNat)
 case atStart =>
  refine ⟨0, by omega, rfl, ?_, fun h => absurd h (by omega), Q1.out, R1.out⟩
  have e : l ++ vPs NS 0 = l := by simp [vPs]
  rw [e]
  exact HS.out.below Q1.out.bel
 case round =>
  obtain ⟨j, hj, rfl, hsl, how, hps, hrn⟩ := hrel
  obtain ⟨q, hq⟩ : ∃ q, l ++ vPs NS j = q := ⟨_, rfl⟩
  rw [hq] at hsl how
  have kq : q.length ≤ 1100 := by
   rw [← hq, List.length_append]
   have := vPs_len NS j
   omega
  have Hq := Lib.hid hq
  clear hq
  have S := Lib.hid hsl
  have O := Lib.hid how
  have P := Lib.hid hps
  have R := Lib.hid hrn
  obtain ⟨ab, eb, rfl, -, -, -⟩ := id hsl
  clear hsl how hps hrn
  by_cases hlt : j < 4
  ·have cn : wr.cell? ⟨w.heap.size + 1, j, none⟩ = some (.int .u64 (NS.getD j 0 : Nat)) := by
    rw [row?_cell R.out]
    have := HN4.out
    simp [List.getD, show j < NS.length by omega]
   go_wp2_with fail
   refine (vput_any q (NS.getD j 0) (by omega) (NB.out j hlt) _ _ S.out).mono ?_
   rintro e w2 ⟨v2, rfl, o2, b2⟩
   have P2 := Lib.hid (P.out.step b2)
   have R2 := Lib.hid (show row? w2 (w.heap.size + 1) = some (NS.map fun x => Value.int .u64 (x : Nat)).toArray by rw [row?_below b2 (row?_lt R.out)]; exact R.out)
   obtain ⟨q2, hq2⟩ : ∃ q2, q ++ vin (NS.getD j 0) (vlen (NS.getD j 0)) = q2 := ⟨_, rfl⟩
   rw [hq2] at o2
   have Hq2 := Lib.hid (show q2 = l ++ vPs NS (j + 1) by rw [← hq2, ← Hq.out, vPs_succ NS j (by have := HN4.out; omega), List.append_assoc]; rfl)
   have O2 := Lib.hid (own_lower o2 P.out.size)
   obtain ⟨a2', x2', rfl, -, -, -⟩ := id (Own.sl o2)
   clear o2 b2 hq2 cn
   go_wp2_with fail
   go_roundw
   case rel => exact ⟨j + 1, by omega, by go_num, Hq2.out ▸ Own.sl O2.out, fun _ => Hq2.out ▸ O2.out, P2.out, R2.out⟩
   case measure => simp [intOf]; omega
  ·obtain rfl : j = 4 := by omega
   have O4 := Lib.hid (O.out (by omega))
   have hq4 : q = l ++ ackB d rs := by rw [← Hq.out, E4.out]
   have Hq4 := Lib.hid hq4
   clear hq4 Hq
   have hcA : ∀ j, j + 1 < rs.length → cutA2 (some ⟨b, off, none⟩) 1 er = some ⟨b, off + 2, none⟩ := fun j hj => by unfold cutA2; rw [if_neg (by omega)]; simp [Addr.add_lit]
   have hcut : ∀ W, (Instr.sliceAt 157 (.slice (some ⟨b, off, none⟩) rs.length er) (some (.int .i64 1)) none none).run Tryz.prog W = .ok (.slice (cutA2 (some ⟨b, off, none⟩) 1 er) (rs.length - 1) (er - 1)) W := fun W => cut_l2 TRg W _ _ _ .i64 1 (by omega) (by omega)
   generalize cutA2 (some ⟨b, off, none⟩) 1 er = cA at hcA hcut
   have HA := Lib.hid hcA
   clear hcA
   obtain ⟨c0, c1, c2, c3, c4, c5, c6, c7, c8, c9⟩ := FC.out _ _ P.out.row
   clear E4 NB HN4 S O R R1 Q1
   go_wp2_with fail
   go_loopw [0, 7, 8, 46] (fun vb v7 v8 vi wr2 => ∃ j : Nat, j ≤ rs.length - 1 ∧ vi = .int .i64 j ∧ wr2.ownsRow (w.heap.size + 1) 5 1 vb (q ++ ackR rs j).length ((q ++ ackR rs j).map bv) ∧ PS w F wr2) (fun _ _ _ vi _ => rs.length - 1 - (intOf vi).toNat)
   case atStart =>
    refine ⟨0, by omega, rfl, ?_, P.out⟩
    have e : q ++ ackR rs 0 = q := by simp [ackR]
    rw [e]
    exact O4.out
   case round =>
    obtain ⟨j, hj, rfl, how, hps⟩ := hrel
    obtain ⟨p, hp⟩ : ∃ p, q ++ ackR rs j = p := ⟨_, rfl⟩
    rw [hp] at how
    have kp : p.length ≤ 1300 := by
     rw [← hp, List.length_append]
     have := ackR_len rs j
     omega
    have Hp := Lib.hid hp
    have O5 := Lib.hid how
    have P5 := Lib.hid hps
    obtain ⟨ab5, eb5, rfl, -, -, -⟩ := id (Own.sl how)
    clear hp how hps c0 c1 c2 c3 c4 c5 c6 c7 c8 c9 O4 P
    by_cases hlt : j < rs.length - 1
    ·obtain rfl := HA.out j (by omega)
     have hg := rsOk_gap HOK.out (k := j) (by omega)
     have h7 := rsOk_at HOK.out (k := j) (by omega)
     have h9 := rsOk_at HOK.out (k := j + 1) (by omega)
     have hw3 : IntKind.u64.wrap ((rlo rs j : Int) - (rhi rs (j + 1) : Int)) = ((rlo rs j - rhi rs (j + 1) : Nat) : Int) := by simp only [IntKind.wrap_u64]; omega
     have hw4 : IntKind.u64.wrap (((rlo rs j - rhi rs (j + 1) : Nat) : Int) - 2) = ((rlo rs j - rhi rs (j + 1) - 2 : Nat) : Int) := by simp only [IntKind.wrap_u64]; omega
     have hw5 : IntKind.u64.wrap ((rhi rs (j + 1) : Int) - (rlo rs (j + 1) : Int)) = ((rhi rs (j + 1) - rlo rs (j + 1) : Nat) : Int) := by simp only [IntKind.wrap_u64]; omega
     have hc1 := HC.out (j + 1) (by omega)
     have hc0 := HC.out j (by omega)
     have e2 : off + (j + 1) * 2 = off + 2 + j * 2 := by omega
     have y1 := below_cell P5.out.bel hc1.1 (cell_lt hc1.1)
     have y2 := below_cell P5.out.bel hc1.2 (cell_lt hc1.2)
     rw [e2] at y1 y2
     have x1 := below_cell P5.out.bel hc0.1 (cell_lt hc0.1)
     have hl := load_two AgRg wr b (off + 2 + j * 2) _ _ y1 y2
     have HW := Lib.hid (And.intro hw3 (And.intro hw4 hw5))
     have HB := Lib.hid (And.intro hg (And.intro h7 h9))
     clear hc1 hc0 e2 y1 y2 hw3 hw4 hw5 hg h7 h9
     go_wp2_with fail
     have P6 := P5.out.step ((Below.refl wr.heap.size wr).alloc (Nat.le_refl _) (.cells #[.int .u64 (rlo rs (j + 1) : Nat), .int .u64 (rhi rs (j + 1) : Nat)] 234))
     have o6 := O5.out.alloc (.cells #[.int .u64 (rlo rs (j + 1) : Nat), .int .u64 (rhi rs (j + 1) : Nat)] 234)
     have R8 : row? (wr.alloc (.cells #[.int .u64 (rlo rs (j + 1) : Nat), .int .u64 (rhi rs (j + 1) : Nat)] 234)) wr.heap.size = some #[.int .u64 (rlo rs (j + 1) : Nat), .int .u64 (rhi rs (j + 1) : Nat)] := row?_alloc_at _ _ _ _ rfl
     clear hl x1
     generalize (wr.alloc (.cells #[.int .u64 (rlo rs (j + 1) : Nat), .int .u64 (rhi rs (j + 1) : Nat)] 234)) = W2 at P6 o6 R8 ⊢
     have hc0 := HC.out j (by omega)
     have x1 := below_cell P6.bel hc0.1 (cell_lt hc0.1)
     have y0 : W2.cell? ⟨wr.heap.size, 0, none⟩ = some (.int .u64 (rlo rs (j + 1) : Nat)) := row?_cell R8 0
     have y1 : W2.cell? ⟨wr.heap.size, 1, none⟩ = some (.int .u64 (rhi rs (j + 1) : Nat)) := row?_cell R8 1
     obtain ⟨c0, c1, c2, c3, c4, c5, c6, c7, c8, c9⟩ := FC.out _ _ P6.row
     have Q6 := Lib.hid P6
     have O6 := Lib.hid o6
     obtain ⟨hw3, hw4, hw5⟩ := HW.out
     clear P6 o6 R8 hc0 c0 c1 c2 c4 c5 c6 c7 c8 c9 HW P5 O5
     refine Rg.wp_region_plan (Rg.row [(0, 3), (1, 3), (2, 0), (3, 3), (4, 3), (5, 3), (6, 0), (7, 3), (8, 0), (9, 3), (10, 3), (12, 3), (13, 0), (14, 3), (15, 0), (16, 3), (11, 1), (17, 1), (18, 3)] []) [] (by kernel_rfl) (by kernel_rfl) ?_
     simp only [Rg.row, Rg.PT.map, List.map_nil, List.getD_cons_zero, List.getD_cons_succ]
     go_wp2_with (first
      |(with_reducible refine Rg.plan_pure ?_ ?_ ?_); kernel_rfl; kernel_rfl; intro _ _|(with_reducible refine Rg.plan_take ?_ ?_ ?_); kernel_rfl; kernel_rfl; intro _ _|(with_reducible refine Rg.plan_keep ?_ ?_); kernel_rfl; intro K hK|refine hK _ _ (Rg.Keep.refl _) ?_; clear hK|refine hK _ _ (Rg.Keep.of_below (by assumption)) ?_; clear hK|(with_reducible refine Rg.plan_skip ?_ ?_); kernel_rfl|(with_reducible refine Rg.plan_done ?_)|(with_reducible refine Rg.calm_normal ?_))
     refine (vput_any p (rlo rs j - rhi rs (j + 1) - 2) (by omega) (by have := HB.out; omega) _ _ (Own.sl O6.out.drew)).mono ?_
     rintro e w7 ⟨v7, rfl, o7, b7⟩
     refine hK _ _ (Rg.Keep.of_below b7) ?_
     obtain ⟨p7, hp7⟩ : ∃ p7, p ++ vin (rlo rs j - rhi rs (j + 1) - 2) (vlen (rlo rs j - rhi rs (j + 1) - 2)) = p7 := ⟨_, rfl⟩
     have kp7 : p7.length ≤ 1308 := by rw [← hp7]; simp only [List.length_append, vin_length]; have := vlen_le (rlo rs j - rhi rs (j + 1) - 2); omega
     rw [hp7] at o7
     have Hp7 := Lib.hid hp7
     have O7 := Lib.hid (own_lower o7 Q6.out.drew.size)
     have Q7 := Lib.hid (Q6.out.drew.step b7)
     obtain ⟨a7, x7, rfl, -, -, -⟩ := id (Own.sl o7)
     clear hK b7 o7 hp7 Q6 O6 x1 y0 y1 c3 hw3 hw4 hw5
     go_wp2_with (first
      |(with_reducible refine Rg.plan_pure ?_ ?_ ?_); kernel_rfl; kernel_rfl; intro _ _|(with_reducible refine Rg.plan_take ?_ ?_ ?_); kernel_rfl; kernel_rfl; intro _ _|(with_reducible refine Rg.plan_keep ?_ ?_); kernel_rfl; intro K hK|refine hK _ _ (Rg.Keep.refl _) ?_; clear hK|refine hK _ _ (Rg.Keep.of_below (by assumption)) ?_; clear hK|(with_reducible refine Rg.plan_skip ?_ ?_); kernel_rfl|(with_reducible refine Rg.plan_done ?_)|(with_reducible refine Rg.calm_normal ?_))
     refine (vput_any p7 (rhi rs (j + 1) - rlo rs (j + 1)) (by omega) (by have := HB.out; omega) _ _ (Own.sl O7.out)).mono ?_
     rintro e w8 ⟨v8, rfl, o8, b8⟩
     refine hK _ _ (Rg.Keep.of_below b8) ?_
     obtain ⟨p8, hp8⟩ : ∃ p8, p7 ++ vin (rhi rs (j + 1) - rlo rs (j + 1)) (vlen (rhi rs (j + 1) - rlo rs (j + 1))) = p8 := ⟨_, rfl⟩
     rw [hp8] at o8
     have Hp8 := Lib.hid (show p8 = q ++ ackR rs (j + 1) by rw [ackR_succ, ← hp8, ← Hp7.out, ← Hp.out]; unfold ackG vP; simp only [List.append_assoc])
     have O8 := Lib.hid (own_lower o8 Q7.out.size)
     have Q8 := Lib.hid (Q7.out.step b8)
     obtain ⟨a8, x8, rfl, -, -, -⟩ := id (Own.sl o8)
     clear hK b8 o8 hp8 Q7 O7
     go_wp2_with (first
      |(with_reducible refine Rg.plan_pure ?_ ?_ ?_); kernel_rfl; kernel_rfl; intro _ _|(with_reducible refine Rg.plan_take ?_ ?_ ?_); kernel_rfl; kernel_rfl; intro _ _|(with_reducible refine Rg.plan_keep ?_ ?_); kernel_rfl; intro K hK|refine hK _ _ (Rg.Keep.refl _) ?_; clear hK|refine hK _ _ (Rg.Keep.of_below (by assumption)) ?_; clear hK|(with_reducible refine Rg.plan_skip ?_ ?_); kernel_rfl|(with_reducible refine Rg.plan_done ?_)|(with_reducible refine Rg.calm_normal ?_))
     go_roundw
     case rel =>
      (repeat apply Exists.intro)
      refine ⟨?_, rfl⟩
      exact ⟨j + 1, by omega, by go_num, Hp8.out ▸ O8.out, Q8.out⟩
     case measure => simp [intOf]; omega
    ·obtain rfl : j = rs.length - 1 := by omega
     have HE := Lib.hid (show p = l ++ ackB d rs ++ ackR rs (rs.length - 1) by rw [← Hp.out, Hq4.out])
     go_wp2_with fail
     go_ret
     exact ⟨_, rfl, HE.out ▸ O5.out, P5.out.bel⟩
end Go.Proofs.YthjbmggpleliaaaGreatDoor

end
section
namespace Frm
open Go Go.RowKit Go.Rw Hdr
structure FSA (b : List UInt8) (w0 : World) (vb : Value) (B Bf N : Nat) (tr tb : TypeId) (wS : World) (w : World) (s : Nat × Int) (f : Fr) : Prop where
 rs : RS b w0 vb B w s
 fa : ∃ vr, FA N tr tb Bf w vr (.slice none 0 0) (.slice none 0 0) (.slice none 0 0) f
 ne : Bf ≠ B
 hB : B < N
 hBf : Bf < N
 low : w0.heap.size ≤ Bf
 hN : N ≤ w.heap.size
 hS : wS.heap.size ≤ N
 kept : Mut2 B Bf wS w
variable {b : List UInt8} {w0 : World} {vb : Value} {B Bf N : Nat} {tr tb : TypeId} {wS w w' : World} {s s' : Nat × Int} {f : Fr}
theorem FSA.fs (h : FSA b w0 vb B Bf N tr tb wS w s f) : FS b w0 vb B Bf N tr tb wS w s f := by
 obtain ⟨vr, fa⟩ := h.fa
 exact ⟨h.rs, ⟨_, _, _, _, fa⟩, h.ne, h.hB, h.hBf, h.low, h.hN, h.kept⟩
theorem FSA.step (h : FSA b w0 vb B Bf N tr tb wS w s f) (m : Mut B w w') (r : RS b w0 vb B w' s') : FSA b w0 vb B Bf N tr tb wS w' s' f := by
 obtain ⟨vr, fa⟩ := h.fa
 exact ⟨r, ⟨vr, fa.mut m h.ne h.hB⟩, h.ne, h.hB, h.hBf, h.low, Nat.le_trans h.hN m.size, h.hS, h.kept.trans (m.left Bf)⟩
end Frm
namespace Go.Proofs.YthjbmggpleliaaaGreatDoor
open Go.RowKit Go.Rw Frm Hdr
attribute [local go_sem ↓] fvA_0 fvA_1 fvA_2 fvA_3 fvA_4 fvA_5 fvA_6 fvA_7 fvA_8 fvA_9
theorem buildRg (x y : Int) (w : World) : (Instr.build 234 #[(0, .int .u64 x), (1, .int .u64 y)]).run Tryz.prog w = .ok (.agg #[.int .u64 x, .int .u64 y]) w := Go.run_build w _ _ _ (by kernel_rfl)
attribute [local go_sem] buildRg
end Go.Proofs.YthjbmggpleliaaaGreatDoor

end
section


end
section
namespace Frm
open Go Go.RowKit Go.Rw Hdr
theorem results_row3 {P : Program} {fn : Func} {p a b : Tmp} {t n : Nat} (A : Agg P t n) (hr : fn.results = #[.cell p t, .tmp a, .tmp b]) (tmps : Array Value) (w : World) (blk : Nat) (cells : Array Value)
  (hp : tmps.getD p undef = .pointer (some ⟨blk, 0, none⟩)) (h : row? w blk = some cells) (hn : cells.size = n) : (results fn tmps).run P w = .ok (.tuple #[.agg cells, tmps.getD a undef, tmps.getD b undef]) w := by
 have h1 := results_row (fn := { fn with results := #[.cell p t] }) A rfl tmps w blk cells hp h hn
 simp only [results] at h1 ⊢
 simp [hr, Sem.run_bind, Result.andThen] at h1 ⊢
 cases hq : Sem.run P (asAddr (tmps[p]?.getD undef)) w with
 | ok x w1 =>
  rw [hq] at h1
  simp only [] at h1 ⊢
  rw [h1]
 | halt x w1 => rw [hq] at h1; cases h1
def FO (N : Nat) (tr tb : TypeId) (w : World) (v : Value) (f : Fr) : Prop :=
 ∃ vr vd vc vt, v = .agg (fvA f.k f.n f.d vr f.i f.o f.fin vd vc vt) ∧ w.ownsRow N tr 2 vr f.rs.length (rcells f.rs) ∧ w.ownsRow N tb 1 vd f.dat.length (f.dat.map bv) ∧ w.ownsRow N tb 1 vc f.cid.length (f.cid.map bv) ∧ w.ownsRow N tb 1 vt f.tok.length (f.tok.map bv)
theorem FO.fv {N : Nat} {tr tb : TypeId} {w : World} {v : Value} {f : Fr} (h : FO N tr tb w v f) : Fv w v f := by
 obtain ⟨vr, vd, vc, vt, rfl, h1, h2, h3, h4⟩ := h
 exact ⟨vr, vd, vc, vt, rfl, Own.sr h1, Own.sl h2, Own.sl h3, Own.sl h4⟩
theorem FO.zero (N : Nat) (tr tb : TypeId) (w : World) (k : Int) (n : Nat) : FO N tr tb w (.agg (fvA k n 0 (.slice none 0 0) 0 0 false (.slice none 0 0) (.slice none 0 0) (.slice none 0 0))) { fr0 with k := k, n := n } :=
 ⟨_, _, _, _, rfl, World.ownsRow_nil _ _ _ _, World.ownsRow_nil _ _ _ _, World.ownsRow_nil _ _ _ _, World.ownsRow_nil _ _ _ _⟩
end Frm
namespace Go.Proofs.YthjbmggpleliaaaGreatDoor
open Go.RowKit Go.Rw Frm Hdr
attribute [local go_sem ↓] ldFF stFF alFF
attribute [local go_sem] rldFF rstFF ralFF setRow_alloc_at setRow_alloc_past setRow_drew
def buildQ (t : TypeId) (ps : Array (Nat × Value)) : Sem Value := Instr.build t ps
theorem bdFQ (ps : Array (Nat × Value)) : Instr.build 159 ps = buildQ 159 ps := rfl
theorem buildF0 (w : World) : (buildQ 159 #[]).run Tryz.prog w = .ok (.agg (fvA 0 0 0 (.slice none 0 0) 0 0 false (.slice none 0 0) (.slice none 0 0) (.slice none 0 0))) w := Go.run_build w _ _ _ (by kernel_rfl)
theorem buildF1 (x : Int) (w : World) : (buildQ 159 #[(0, .int .i64 x)]).run Tryz.prog w = .ok (.agg (fvA x 0 0 (.slice none 0 0) 0 0 false (.slice none 0 0) (.slice none 0 0) (.slice none 0 0))) w := Go.run_build w _ _ _ (by kernel_rfl)
theorem buildF2 (n : Nat) (w : World) : (buildQ 159 #[(0, .int .i64 0), (1, .int .u64 (n : Nat))]).run Tryz.prog w = .ok (.agg (fvA 0 n 0 (.slice none 0 0) 0 0 false (.slice none 0 0) (.slice none 0 0) (.slice none 0 0))) w := Go.run_build w _ _ _ (by kernel_rfl)
attribute [local go_sem ↓] bdFQ
attribute [local go_sem] buildF0 buildF1 buildF2
end Go.Proofs.YthjbmggpleliaaaGreatDoor

end
