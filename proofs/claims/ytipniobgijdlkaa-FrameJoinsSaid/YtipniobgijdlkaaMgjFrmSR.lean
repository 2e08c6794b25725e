/- The walk of SameRanges: two lists of ranges. -/
import Derived.Test.YtipniobgijdlkaaMgj14
namespace Go.Proofs.Ytipniobgijdlkaa
open Go.RowKit Go.Rw Frm Hdr
attribute [local go_sem ↓] ldRg stRg alRg
attribute [local go_sem] rldRg rstRg2 ralRg
set_option maxRecDepth 20000 in
set_option maxHeartbeats 1000000 in
theorem sameRanges_any (l m : List (Nat × Nat)) (hlm : l.length ≤ 1000000) (v u : Value) (w : World) (hv : Sr w v l) (hu : Sr w u m) :
    Calls Try.prog 37 #[v, u] w fun e w' => e = .returned (.bool (decide (l = m))) ∧ Below w.heap.size w w' := by
  obtain ⟨a1, e1, rfl, -, -, hp1⟩ := hv
  obtain ⟨a2, e2, rfl, -, -, hp2⟩ := hu
  have H1 := Lib.hid hp1
  have H2 := Lib.hid hp2
  obtain ⟨r, hr⟩ : ∃ r, decide (l = m) = r := ⟨_, rfl⟩
  rw [hr]
  have HR := Lib.hid hr
  clear hp1 hp2 hr
  go_enter Try.func37, Try.ntmps37
  by_cases hl : l.length = m.length
  case neg =>
    have q : ((l.length : Int) != (m.length : Int)) = true := by simp; omega
    go_wp2_with fail
    go_ret
    exact ⟨congrArg (fun z => Ending.returned (.bool z)) (by rw [← HR.out]; symm; rw [decide_eq_false_iff_not]; intro e; exact hl (by rw [e])), Below.refl _ _⟩
  have q : ((l.length : Int) != (m.length : Int)) = false := by simp; omega
  have HL := Lib.hid hl
  clear hl
  go_wp2_with fail
  go_loopw [5] (fun v wr => ∃ k : Nat, k ≤ l.length ∧ v = .int .i64 k ∧ (∀ j, j < k → rlo l j = rlo m j ∧ rhi l j = rhi m j) ∧ Below w.heap.size w wr) (fun v _ => l.length - (intOf v).toNat)
  case atStart => exact ⟨0, by omega, rfl, fun j hj => absurd hj (by omega), Below.refl _ _⟩
  case round =>
    obtain ⟨k, hk, rfl, hall, hb⟩ := hrel
    have HB := Lib.hid hb
    have HA := Lib.hid hall
    clear hb hall
    by_cases hlt : k < l.length
    · obtain ⟨b1, o1, rfl, hc1⟩ := H1.out (by omega)
      obtain ⟨b2, o2, rfl, hc2⟩ := H2.out (by have := HL.out; omega)
      have c1 := hc1 k hlt
      have c2 := hc2 k (by have := HL.out; omega)
      have hlt2 : k < m.length := by have := HL.out; omega
      have l1 : (loadAgg 58 (.pointer (some ⟨b1, o1 + k * 2, none⟩))).run Try.prog wr.drew = _ := load_two AgRg wr.drew b1 (o1 + k * 2) _ _ (below_cell HB.out c1.1 (cell_lt c1.1)) (below_cell HB.out c1.2 (cell_lt c1.2))
      have l2 : (loadAgg 58 (.pointer (some ⟨b2, o2 + k * 2, none⟩))).run Try.prog wr.drew = _ := load_two AgRg wr.drew b2 (o2 + k * 2) _ _ (below_cell HB.out c2.1 (cell_lt c2.1)) (below_cell HB.out c2.2 (cell_lt c2.2))
      have nq := neqRg (rlo l k : Nat) (rhi l k : Nat) (rlo m k : Nat) (rhi m k : Nat)
      clear hc1 hc2 c1 c2
      by_cases he : rlo l k = rlo m k ∧ rhi l k = rhi m k
      · have eb : (!(((rlo l k : Int) == (rlo m k : Nat)) && ((rhi l k : Int) == (rhi m k : Nat)))) = false := by rw [he.1, he.2]; simp
        rw [eb] at nq
        have HE := Lib.hid he
        clear eb he
        go_wp2_with fail
        refine Rg.wp_region_plan (Rg.row [(0, 3), (1, 3), (2, 3), (3, 0), (4, 3), (5, 3), (6, 3), (7, 0), (8, 1)] []) [] (by kernel_rfl) (by kernel_rfl) ?_
        simp only [Rg.row, Rg.PT.map, List.map_nil, List.getD_cons_zero, List.getD_cons_succ]
        go_wp2_with (first
          | ((with_reducible refine Rg.plan_pure ?_ ?_ ?_); kernel_rfl; kernel_rfl; intro _ _)
          | ((with_reducible refine Rg.plan_take ?_ ?_ ?_); kernel_rfl; kernel_rfl; intro _ _)
          | ((with_reducible refine Rg.plan_keep ?_ ?_); kernel_rfl; intro K hK)
          | (refine hK _ _ (Rg.Keep.refl _) ?_; clear hK)
          | (refine hK _ _ (Rg.Keep.of_below (by assumption)) ?_; clear hK)
          | ((with_reducible refine Rg.plan_skip ?_ ?_); kernel_rfl)
          | (with_reducible refine Rg.plan_done ?_)
          | (with_reducible refine Rg.calm_normal ?_))
        refine hK _ _ (Rg.Keep.refl _) ?_
        clear hK
        go_wp2_with (first
          | ((with_reducible refine Rg.plan_pure ?_ ?_ ?_); kernel_rfl; kernel_rfl; intro _ _)
          | ((with_reducible refine Rg.plan_take ?_ ?_ ?_); kernel_rfl; kernel_rfl; intro _ _)
          | ((with_reducible refine Rg.plan_keep ?_ ?_); kernel_rfl; intro K hK)
          | (refine hK _ _ (Rg.Keep.refl _) ?_; clear hK)
          | (refine hK _ _ (Rg.Keep.of_below (by assumption)) ?_; clear hK)
          | ((with_reducible refine Rg.plan_skip ?_ ?_); kernel_rfl)
          | (with_reducible refine Rg.plan_done ?_)
          | (with_reducible refine Rg.calm_normal ?_))
        go_roundw
        case rel =>
          refine ⟨k + 1, by omega, by go_num, fun j hj => ?_, HB.out.drew⟩
          by_cases hjk : j = k
          · subst hjk; exact HE.out
          · exact HA.out j (by omega)
        case measure => simp [intOf]; omega
      · have eb : (!(((rlo l k : Int) == (rlo m k : Nat)) && ((rhi l k : Int) == (rhi m k : Nat)))) = true := by
          rw [Bool.not_eq_true', Bool.and_eq_false_iff, beq_eq_false_iff_ne, beq_eq_false_iff_ne]
          omega
        rw [eb] at nq
        have HE := Lib.hid he
        clear eb he
        go_wp2_with fail
        refine Rg.wp_region_plan (Rg.row [(0, 3), (1, 3), (2, 3), (3, 0), (4, 3), (5, 3), (6, 3), (7, 0), (8, 1)] []) [] (by kernel_rfl) (by kernel_rfl) ?_
        simp only [Rg.row, Rg.PT.map, List.map_nil, List.getD_cons_zero, List.getD_cons_succ]
        go_wp2_with (first
          | ((with_reducible refine Rg.plan_pure ?_ ?_ ?_); kernel_rfl; kernel_rfl; intro _ _)
          | ((with_reducible refine Rg.plan_take ?_ ?_ ?_); kernel_rfl; kernel_rfl; intro _ _)
          | ((with_reducible refine Rg.plan_keep ?_ ?_); kernel_rfl; intro K hK)
          | (refine hK _ _ (Rg.Keep.refl _) ?_; clear hK)
          | (refine hK _ _ (Rg.Keep.of_below (by assumption)) ?_; clear hK)
          | ((with_reducible refine Rg.plan_skip ?_ ?_); kernel_rfl)
          | (with_reducible refine Rg.plan_done ?_)
          | (with_reducible refine Rg.calm_normal ?_))
        refine hK _ _ (Rg.Keep.refl _) ?_
        clear hK
        go_wp2_with (first
          | ((with_reducible refine Rg.plan_pure ?_ ?_ ?_); kernel_rfl; kernel_rfl; intro _ _)
          | ((with_reducible refine Rg.plan_take ?_ ?_ ?_); kernel_rfl; kernel_rfl; intro _ _)
          | ((with_reducible refine Rg.plan_keep ?_ ?_); kernel_rfl; intro K hK)
          | (refine hK _ _ (Rg.Keep.refl _) ?_; clear hK)
          | (refine hK _ _ (Rg.Keep.of_below (by assumption)) ?_; clear hK)
          | ((with_reducible refine Rg.plan_skip ?_ ?_); kernel_rfl)
          | (with_reducible refine Rg.plan_done ?_)
          | (with_reducible refine Rg.calm_normal ?_))
        go_ret
        exact ⟨congrArg (fun z => Ending.returned (.bool z)) (by rw [← HR.out]; symm; rw [decide_eq_false_iff_not]; intro e; subst e; exact HE.out ⟨rfl, rfl⟩), HB.out.drew⟩
    · obtain rfl : k = l.length := by omega
      go_wp2_with fail
      go_ret
      exact ⟨congrArg (fun z => Ending.returned (.bool z)) (by rw [← HR.out]; symm; rw [decide_eq_true_eq]; exact ranges_ext HL.out HA.out), HB.out⟩
end Go.Proofs.Ytipniobgijdlkaa
