/- The walk of mantillaref7's ranges: may ranges be an Ack's? -/
import Derived.Test.YtipniobgijdlkaaMgs14
namespace Go.Proofs.Ytipniobgijdlkaa
open Go.RowKit Go.Rw Frm
set_option maxRecDepth 20000 in
set_option maxHeartbeats 2000000 in
theorem ranges_any (l : List (Nat × Nat)) (hlm : l.length ≤ 1000000) (v : Value) (w : World) (hs : Sr w v l) :
    Calls Try.prog 41 #[v] w fun e w' => e = .returned (.bool (rsOk l)) ∧ Below w.heap.size w w' := by
  obtain ⟨ao, cap, rfl, hc, hnn, hp⟩ := id hs
  have HP := Lib.hid hp
  have HS := Lib.hid hs
  clear hp hs hnn hc
  obtain ⟨r, hr⟩ : ∃ r, rsOk l = r := ⟨_, rfl⟩
  rw [hr]
  unfold rsOk at hr
  have HR := Lib.hid hr
  clear hr
  go_enter Try.func41, Try.ntmps41
  go_wp2_with fail
  go_loopw [3] (fun v wr => ∃ k : Nat, k ≤ l.length ∧ v = .int .i64 k ∧ rsAll l k = true ∧ Below w.heap.size w wr) (fun v _ => l.length - (intOf v).toNat)
  case atStart => exact ⟨0, by omega, rfl, rfl, Below.refl _ _⟩
  case round =>
    obtain ⟨k, hk, rfl, hall, hb⟩ := hrel
    have HB := Lib.hid hb
    have HA := Lib.hid hall
    clear hb hall
    by_cases hlt : k < l.length
    · obtain ⟨b, off, rfl, hcell⟩ := HP.out (by omega)
      have HC := Lib.hid hcell
      have hc := HC.out k hlt
      have x1 := below_cell HB.out hc.1 (cell_lt hc.1)
      have x2 := below_cell HB.out hc.2 (cell_lt hc.2)
      clear hc hcell
      go_wp2_with fail
      by_cases g1 : rhi l k < rlo l k
      case pos =>
        have q1 : decide (rhi l k < rlo l k) = true := decide_eq_true g1
        have hno : rsAll l l.length = false := rsAll_no (k := k) (by rw [rOk_eq]; rw [decide_eq_false (p := rlo l k ≤ rhi l k) (by omega)]; rfl) hlt
        have HN := Lib.hid hno
        clear hno
        refine Rg.wp_region_plan (Rg.row [(0, 3), (1, 3), (2, 3), (3, 3), (4, 0), (5, 3), (6, 3), (7, 3), (8, 3), (9, 0), (10, 3), (11, 3), (12, 3), (13, 3), (14, 3), (15, 3), (16, 0), (17, 3), (18, 3), (19, 3), (20, 3), (21, 3), (22, 3), (23, 3), (24, 3), (25, 3), (26, 3), (27, 3), (28, 0), (29, 3), (30, 3), (31, 3), (32, 3), (33, 3), (34, 3), (35, 0), (36, 3), (37, 3), (38, 3), (39, 3), (40, 3), (41, 0), (42, 3), (43, 3), (44, 3), (45, 3), (46, 3)] []) [] (by kernel_rfl) (by kernel_rfl) ?_
        simp only [Rg.row, Rg.PT.map, List.map_nil, List.getD_cons_zero, List.getD_cons_succ]
        go_wp2_with (first
          | ((with_reducible refine Rg.plan_skipB 11 false rfl ?_ ?_); kernel_rfl)
          | ((with_reducible refine Rg.plan_skipB 19 false rfl ?_ ?_); kernel_rfl)
          | ((with_reducible refine Rg.plan_skipB 22 true rfl ?_ ?_); kernel_rfl)
          | ((with_reducible refine Rg.plan_skipB 30 false rfl ?_ ?_); kernel_rfl)
          | ((with_reducible refine Rg.plan_pure ?_ ?_ ?_); kernel_rfl; kernel_rfl; intro _ _)
          | ((with_reducible refine Rg.plan_take ?_ ?_ ?_); kernel_rfl; kernel_rfl; intro _ _)
          | ((with_reducible refine Rg.plan_keep ?_ ?_); kernel_rfl; intro K hK)
          | (refine hK _ _ (Rg.Keep.refl _) ?_; clear hK)
          | (refine hK _ _ (Rg.Keep.of_below (by assumption)) ?_; clear hK)
          | ((with_reducible refine Rg.plan_skip ?_ ?_); kernel_rfl)
          | (with_reducible refine Rg.plan_done ?_)
          | (with_reducible refine Rg.calm_normal ?_))
        go_ret
        exact ⟨congrArg (fun z => Ending.returned (.bool z)) (by rw [← HR.out, HN.out, Bool.and_false]), HB.out.drew⟩
      have q1 : decide (rhi l k < rlo l k) = false := decide_eq_false g1
      by_cases g2 : 4611686018427387903 < rhi l k
      case pos =>
        have q2 : decide ((4611686018427387903 : Int) < (rhi l k : Nat)) = true := decide_eq_true (by omega)
        have hno : rsAll l l.length = false := rsAll_no (k := k) (by rw [rOk_eq]; rw [decide_eq_false (p := rhi l k ≤ 4611686018427387903) (by omega), Bool.and_false, Bool.false_and]) hlt
        have HN := Lib.hid hno
        clear hno
        refine Rg.wp_region_plan (Rg.row [(0, 3), (1, 3), (2, 3), (3, 3), (4, 0), (5, 3), (6, 3), (7, 3), (8, 3), (9, 0), (10, 3), (11, 3), (12, 3), (13, 3), (14, 3), (15, 3), (16, 0), (17, 3), (18, 3), (19, 3), (20, 3), (21, 3), (22, 3), (23, 3), (24, 3), (25, 3), (26, 3), (27, 3), (28, 0), (29, 3), (30, 3), (31, 3), (32, 3), (33, 3), (34, 3), (35, 0), (36, 3), (37, 3), (38, 3), (39, 3), (40, 3), (41, 0), (42, 3), (43, 3), (44, 3), (45, 3), (46, 3)] []) [] (by kernel_rfl) (by kernel_rfl) ?_
        simp only [Rg.row, Rg.PT.map, List.map_nil, List.getD_cons_zero, List.getD_cons_succ]
        go_wp2_with (first
          | ((with_reducible refine Rg.plan_skipB 19 false rfl ?_ ?_); kernel_rfl)
          | ((with_reducible refine Rg.plan_skipB 22 true rfl ?_ ?_); kernel_rfl)
          | ((with_reducible refine Rg.plan_skipB 30 false rfl ?_ ?_); kernel_rfl)
          | ((with_reducible refine Rg.plan_pure ?_ ?_ ?_); kernel_rfl; kernel_rfl; intro _ _)
          | ((with_reducible refine Rg.plan_take ?_ ?_ ?_); kernel_rfl; kernel_rfl; intro _ _)
          | ((with_reducible refine Rg.plan_keep ?_ ?_); kernel_rfl; intro K hK)
          | (refine hK _ _ (Rg.Keep.refl _) ?_; clear hK)
          | (refine hK _ _ (Rg.Keep.of_below (by assumption)) ?_; clear hK)
          | ((with_reducible refine Rg.plan_skip ?_ ?_); kernel_rfl)
          | (with_reducible refine Rg.plan_done ?_)
          | (with_reducible refine Rg.calm_normal ?_))
        go_ret
        exact ⟨congrArg (fun z => Ending.returned (.bool z)) (by rw [← HR.out, HN.out, Bool.and_false]), HB.out.drew⟩
      have q2 : decide ((4611686018427387903 : Int) < (rhi l k : Nat)) = false := decide_eq_false (by omega)
      by_cases g3 : k = 0
      case pos =>
        have q3 : decide (0 < k) = false := decide_eq_false (by omega)
        have hyes : rsAll l (k + 1) = true := by rw [rsAll_succ, HA.out, rOk_eq]; rw [decide_eq_true (p := k = 0) g3, decide_eq_true (p := rlo l k ≤ rhi l k) (by omega), decide_eq_true (p := rhi l k ≤ 4611686018427387903) (by omega)]; rfl
        have HY := Lib.hid hyes
        clear hyes g3
        refine Rg.wp_region_plan (Rg.row [(0, 3), (1, 3), (2, 3), (3, 3), (4, 0), (5, 3), (6, 3), (7, 3), (8, 3), (9, 0), (10, 3), (11, 3), (12, 3), (13, 3), (14, 3), (15, 3), (16, 0), (17, 3), (18, 3), (19, 3), (20, 3), (21, 3), (22, 3), (23, 3), (24, 3), (25, 3), (26, 3), (27, 3), (28, 0), (29, 3), (30, 3), (31, 3), (32, 3), (33, 3), (34, 3), (35, 0), (36, 3), (37, 3), (38, 3), (39, 3), (40, 3), (41, 0), (42, 3), (43, 3), (44, 3), (45, 3), (46, 3)] []) [] (by kernel_rfl) (by kernel_rfl) ?_
        simp only [Rg.row, Rg.PT.map, List.map_nil, List.getD_cons_zero, List.getD_cons_succ]
        go_wp2_with (first
          | ((with_reducible refine Rg.plan_skipB 22 true rfl ?_ ?_); kernel_rfl)
          | ((with_reducible refine Rg.plan_skipB 30 false rfl ?_ ?_); kernel_rfl)
          | ((with_reducible refine Rg.plan_pure ?_ ?_ ?_); kernel_rfl; kernel_rfl; intro _ _)
          | ((with_reducible refine Rg.plan_take ?_ ?_ ?_); kernel_rfl; kernel_rfl; intro _ _)
          | ((with_reducible refine Rg.plan_keep ?_ ?_); kernel_rfl; intro K hK)
          | (refine hK _ _ (Rg.Keep.refl _) ?_; clear hK)
          | (refine hK _ _ (Rg.Keep.of_below (by assumption)) ?_; clear hK)
          | ((with_reducible refine Rg.plan_skip ?_ ?_); kernel_rfl)
          | (with_reducible refine Rg.plan_done ?_)
          | (with_reducible refine Rg.calm_normal ?_))
        go_roundw
        case rel => exact ⟨k + 1, by omega, by go_num, HY.out, HB.out.drew⟩
        case measure => simp [intOf]; omega
      have q3 : decide (0 < k) = true := decide_eq_true (by omega)
      have hc' := HC.out (k - 1) (by omega)
      have y1 := below_cell HB.out hc'.1 (cell_lt hc'.1)
      have hle : (rlo l (k - 1) : Int) ≤ 4611686018427387903 := by have := rsAll_lo HA.out (show k - 1 < k by omega); omega
      have g3' : 0 < k := by omega
      clear hc' g3
      by_cases g4 : rlo l (k - 1) < 2
      case pos =>
        have q4 : decide ((rlo l (k - 1) : Int) < 2) = true := decide_eq_true (by omega)
        have hno : rsAll l l.length = false := rsAll_no (k := k) (by rw [rOk_eq]; rw [decide_eq_false (p := 2 ≤ rlo l (k - 1)) (by omega), decide_eq_false (p := k = 0) (by omega), Bool.false_and, Bool.or_false, Bool.and_false]) hlt
        have HN := Lib.hid hno
        clear hno
        refine Rg.wp_region_plan (Rg.row [(0, 3), (1, 3), (2, 3), (3, 3), (4, 0), (5, 3), (6, 3), (7, 3), (8, 3), (9, 0), (10, 3), (11, 3), (12, 3), (13, 3), (14, 3), (15, 3), (16, 0), (17, 3), (18, 3), (19, 3), (20, 3), (21, 3), (22, 3), (23, 3), (24, 3), (25, 3), (26, 3), (27, 3), (28, 0), (29, 3), (30, 3), (31, 3), (32, 3), (33, 3), (34, 3), (35, 0), (36, 3), (37, 3), (38, 3), (39, 3), (40, 3), (41, 0), (42, 3), (43, 3), (44, 3), (45, 3), (46, 3)] []) [] (by kernel_rfl) (by kernel_rfl) ?_
        simp only [Rg.row, Rg.PT.map, List.map_nil, List.getD_cons_zero, List.getD_cons_succ]
        go_wp2_with (first
          | ((with_reducible refine Rg.plan_skipB 30 false rfl ?_ ?_); kernel_rfl)
          | ((with_reducible refine Rg.plan_pure ?_ ?_ ?_); kernel_rfl; kernel_rfl; intro _ _)
          | ((with_reducible refine Rg.plan_take ?_ ?_ ?_); kernel_rfl; kernel_rfl; intro _ _)
          | ((with_reducible refine Rg.plan_keep ?_ ?_); kernel_rfl; intro K hK)
          | (refine hK _ _ (Rg.Keep.refl _) ?_; clear hK)
          | (refine hK _ _ (Rg.Keep.of_below (by assumption)) ?_; clear hK)
          | ((with_reducible refine Rg.plan_skip ?_ ?_); kernel_rfl)
          | (with_reducible refine Rg.plan_done ?_)
          | (with_reducible refine Rg.calm_normal ?_))
        go_ret
        exact ⟨congrArg (fun z => Ending.returned (.bool z)) (by rw [← HR.out, HN.out, Bool.and_false]), HB.out.drew⟩
      have q4 : decide ((rlo l (k - 1) : Int) < 2) = false := decide_eq_false (by omega)
      have g4' : (2 : Int) ≤ rlo l (k - 1) := by omega
      by_cases g5 : rlo l (k - 1) - 2 < rhi l k
      case pos =>
        have q5 : decide ((rlo l (k - 1) : Int) - 2 < (rhi l k : Nat)) = true := decide_eq_true (by omega)
        have hno : rsAll l l.length = false := rsAll_no (k := k) (by rw [rOk_eq]; rw [decide_eq_false (p := rhi l k ≤ rlo l (k - 1) - 2) (by omega), decide_eq_false (p := k = 0) (by omega), Bool.and_false, Bool.or_false, Bool.and_false]) hlt
        have HN := Lib.hid hno
        clear hno
        refine Rg.wp_region_plan (Rg.row [(0, 3), (1, 3), (2, 3), (3, 3), (4, 0), (5, 3), (6, 3), (7, 3), (8, 3), (9, 0), (10, 3), (11, 3), (12, 3), (13, 3), (14, 3), (15, 3), (16, 0), (17, 3), (18, 3), (19, 3), (20, 3), (21, 3), (22, 3), (23, 3), (24, 3), (25, 3), (26, 3), (27, 3), (28, 0), (29, 3), (30, 3), (31, 3), (32, 3), (33, 3), (34, 3), (35, 0), (36, 3), (37, 3), (38, 3), (39, 3), (40, 3), (41, 0), (42, 3), (43, 3), (44, 3), (45, 3), (46, 3)] []) [] (by kernel_rfl) (by kernel_rfl) ?_
        simp only [Rg.row, Rg.PT.map, List.map_nil, List.getD_cons_zero, List.getD_cons_succ]
        go_wp2_with (first
          | ((with_reducible refine Rg.plan_pure ?_ ?_ ?_); kernel_rfl; kernel_rfl; intro _ _)
          | ((with_reducible refine Rg.plan_take ?_ ?_ ?_); kernel_rfl; kernel_rfl; intro _ _)
          | ((with_reducible refine Rg.plan_keep ?_ ?_); kernel_rfl; intro K hK)
          | (refine hK _ _ (Rg.Keep.refl _) ?_; clear hK)
          | (refine hK _ _ (Rg.Keep.of_below (by assumption)) ?_; clear hK)
          | ((with_reducible refine Rg.plan_skip ?_ ?_); kernel_rfl)
          | (with_reducible refine Rg.plan_done ?_)
          | (with_reducible refine Rg.calm_normal ?_))
        go_ret
        exact ⟨congrArg (fun z => Ending.returned (.bool z)) (by rw [← HR.out, HN.out, Bool.and_false]), HB.out.drew⟩
      case neg =>
        have q5 : decide ((rlo l (k - 1) : Int) - 2 < (rhi l k : Nat)) = false := decide_eq_false (by omega)
        have hyes : rsAll l (k + 1) = true := by rw [rsAll_succ, HA.out, rOk_eq]; rw [decide_eq_true (p := rhi l k ≤ rlo l (k - 1) - 2) (by omega), decide_eq_true (p := 2 ≤ rlo l (k - 1)) (by omega), decide_eq_true (p := rlo l k ≤ rhi l k) (by omega), decide_eq_true (p := rhi l k ≤ 4611686018427387903) (by omega), Bool.and_true, Bool.or_true, Bool.and_true]; rfl
        have HY := Lib.hid hyes
        clear hyes
        refine Rg.wp_region_plan (Rg.row [(0, 3), (1, 3), (2, 3), (3, 3), (4, 0), (5, 3), (6, 3), (7, 3), (8, 3), (9, 0), (10, 3), (11, 3), (12, 3), (13, 3), (14, 3), (15, 3), (16, 0), (17, 3), (18, 3), (19, 3), (20, 3), (21, 3), (22, 3), (23, 3), (24, 3), (25, 3), (26, 3), (27, 3), (28, 0), (29, 3), (30, 3), (31, 3), (32, 3), (33, 3), (34, 3), (35, 0), (36, 3), (37, 3), (38, 3), (39, 3), (40, 3), (41, 0), (42, 3), (43, 3), (44, 3), (45, 3), (46, 3)] []) [] (by kernel_rfl) (by kernel_rfl) ?_
        simp only [Rg.row, Rg.PT.map, List.map_nil, List.getD_cons_zero, List.getD_cons_succ]
        go_wp2_with (first
          | ((with_reducible refine Rg.plan_pure ?_ ?_ ?_); kernel_rfl; kernel_rfl; intro _ _)
          | ((with_reducible refine Rg.plan_take ?_ ?_ ?_); kernel_rfl; kernel_rfl; intro _ _)
          | ((with_reducible refine Rg.plan_keep ?_ ?_); kernel_rfl; intro K hK)
          | (refine hK _ _ (Rg.Keep.refl _) ?_; clear hK)
          | (refine hK _ _ (Rg.Keep.of_below (by assumption)) ?_; clear hK)
          | ((with_reducible refine Rg.plan_skip ?_ ?_); kernel_rfl)
          | (with_reducible refine Rg.plan_done ?_)
          | (with_reducible refine Rg.calm_normal ?_))
        go_roundw
        case rel => exact ⟨k + 1, by omega, by go_num, HY.out, HB.out.drew⟩
        case measure => simp [intOf]; omega
    · obtain rfl : k = l.length := by omega
      by_cases h1 : 1 ≤ l.length
      · by_cases h8 : l.length ≤ 8
        · go_wp2_with fail
          go_ret
          exact ⟨congrArg (fun z => Ending.returned (.bool z)) (by rw [← HR.out, HA.out, decide_eq_true h1, decide_eq_true h8, decide_eq_true (p := ((l.length : Nat) : Int) ≤ 8) (by omega)]; rfl), HB.out⟩
        · go_wp2_with fail
          go_ret
          exact ⟨congrArg (fun z => Ending.returned (.bool z)) (by rw [← HR.out, decide_eq_false h8, Bool.and_false, Bool.false_and, decide_eq_false (p := ((l.length : Nat) : Int) ≤ 8) (by omega)]), HB.out⟩
      · go_wp2_with fail
        go_ret
        exact ⟨congrArg (fun z => Ending.returned (.bool z)) (by rw [← HR.out, decide_eq_false h1]; rfl), HB.out⟩
end Go.Proofs.Ytipniobgijdlkaa
