/- The walks of a product of blocks, of the counter's block, of the hash. -/
import Derived.Test.YtdfblojnkchpdaaGcmW2
import Derived.Test.YtdfblojnkchpdaaLibS
namespace Go.Proofs.Ytdfblojnkchpdaa
open Go.RowKit Go.Rw Aes Gcm

theorem Ag12 : Agg Try.prog 23 12 := ⟨⟨_, Try.underlying23, rfl⟩, by kernel_rfl⟩
theorem ld12 (x : Value) : Instr.loadAt 23 x = loadAgg 23 x := rfl
theorem rld12 (w : World) (b : Nat) (h : (row? w b).map (·.size) = some 12) : (loadAgg 23 (.pointer (some ⟨b, 0, none⟩))).run Try.prog w = .ok (.agg ((row? w b).getD #[])) w := load_rule Ag12 w b h
theorem TB : SlT Try.prog 24 5 := ⟨Try.underlying24, rfl, by kernel_rfl⟩
theorem info8 : (Try.prog.info? 5).map (fun i => (i.zero, i.size, i.bytes)) = some (some (.int .u8 0), 1, 1) := by kernel_rfl
attribute [local go_sem ↓] ld12 ld16 st16 al16 ldW stW alW shift_shl8 shift_shr8 shift_shl64 shift_shr64 shift_shr32 bvs_getElem? wv_0 wv_1
attribute [local go_sem] rld12 rld16 rst16 ral16 rldW rstW ralW setRow_alloc_at setRow_alloc_past setRow_drew bvs_setn wv_set0 wv_set1

set_option maxHeartbeats 400000 in
theorem ptimes_any (x y : List UInt8) (hx : x.length = 16) (hy : y.length = 16) (w : World) :
    Calls Try.prog 18 #[.agg (bvs x), .agg (bvs y)] w fun e w' => e = .returned (.agg (bvs (times x y))) ∧ Below w.heap.size w w' := by
  go_enter Try.func18, Try.ntmps18
  go_wp2_with fail
  refine Rg.wp_region_plan (Rg.row [(0, 0), (2, 0), (1, 1), (3, 1), (4, 1), (5, 1)] [6]) [6] (by kernel_rfl) (by kernel_rfl) ?_
  simp only [Rg.row, Rg.PT.map, List.map_cons, List.map_nil, List.getD_cons_zero, List.getD_cons_succ]
  go_wp2_with (first
    | ((with_reducible refine Rg.plan_pure ?_ ?_ ?_); kernel_rfl; kernel_rfl; intro _ _)
    | ((with_reducible refine Rg.plan_take ?_ ?_ ?_); kernel_rfl; kernel_rfl; intro _ _)
    | ((with_reducible refine Rg.plan_keep ?_ ?_); kernel_rfl; intro K hK)
    | (refine hK _ _ (Rg.Keep.refl _) ?_; clear hK)
    | (refine hK _ _ (Rg.Keep.of_below (by assumption)) ?_; clear hK)
    | ((with_reducible refine Rg.plan_skip ?_ ?_); kernel_rfl)
    | (with_reducible refine Rg.plan_done ?_)
    | (with_reducible refine Rg.calm_normal ?_))
  refine (of_any x hx _).mono ?_
  rintro e wA ⟨rfl, hA⟩
  refine hK _ _ (Rg.Keep.of_below hA) ?_
  clear hK
  go_wp2_with (first
    | ((with_reducible refine Rg.plan_pure ?_ ?_ ?_); kernel_rfl; kernel_rfl; intro _ _)
    | ((with_reducible refine Rg.plan_take ?_ ?_ ?_); kernel_rfl; kernel_rfl; intro _ _)
    | ((with_reducible refine Rg.plan_keep ?_ ?_); kernel_rfl; intro K hK)
    | (refine hK _ _ (Rg.Keep.refl _) ?_; clear hK)
    | (refine hK _ _ (Rg.Keep.of_below (by assumption)) ?_; clear hK)
    | ((with_reducible refine Rg.plan_skip ?_ ?_); kernel_rfl)
    | (with_reducible refine Rg.plan_done ?_)
    | (with_reducible refine Rg.calm_normal ?_))
  refine (of_any y hy _).mono ?_
  rintro e wB ⟨rfl, hB⟩
  refine hK _ _ (Rg.Keep.of_below hB) ?_
  clear hK
  go_wp2_with (first
    | ((with_reducible refine Rg.plan_pure ?_ ?_ ?_); kernel_rfl; kernel_rfl; intro _ _)
    | ((with_reducible refine Rg.plan_take ?_ ?_ ?_); kernel_rfl; kernel_rfl; intro _ _)
    | ((with_reducible refine Rg.plan_keep ?_ ?_); kernel_rfl; intro K hK)
    | (refine hK _ _ (Rg.Keep.refl _) ?_; clear hK)
    | (refine hK _ _ (Rg.Keep.of_below (by assumption)) ?_; clear hK)
    | ((with_reducible refine Rg.plan_skip ?_ ?_); kernel_rfl)
    | (with_reducible refine Rg.plan_done ?_)
    | (with_reducible refine Rg.calm_normal ?_))
  refine (timesw_any _ _ _).mono ?_
  rintro e wC ⟨rfl, hC⟩
  refine hK _ _ (Rg.Keep.of_below hC) ?_
  clear hK
  go_wp2_with (first
    | ((with_reducible refine Rg.plan_pure ?_ ?_ ?_); kernel_rfl; kernel_rfl; intro _ _)
    | ((with_reducible refine Rg.plan_take ?_ ?_ ?_); kernel_rfl; kernel_rfl; intro _ _)
    | ((with_reducible refine Rg.plan_keep ?_ ?_); kernel_rfl; intro K hK)
    | (refine hK _ _ (Rg.Keep.refl _) ?_; clear hK)
    | (refine hK _ _ (Rg.Keep.of_below (by assumption)) ?_; clear hK)
    | ((with_reducible refine Rg.plan_skip ?_ ?_); kernel_rfl)
    | (with_reducible refine Rg.plan_done ?_)
    | (with_reducible refine Rg.calm_normal ?_))
  refine (blk_any _ _).mono ?_
  rintro e wD ⟨rfl, hD⟩
  refine hK _ _ (Rg.Keep.of_below hD) ?_
  clear hK
  have zA := hA.size
  have zB := hB.size
  have zC := hC.size
  have hAD := hA.trans ((hB.mono zA).trans ((hC.mono (Nat.le_trans zA zB)).trans (hD.mono (Nat.le_trans zA (Nat.le_trans zB zC)))))
  have b0 : Below w.heap.size w wD := ((bel3 w _ _ _).drew).trans (hAD.mono (by simp; omega))
  have r0 : row? wD (w.heap.size + 1 + 1) = some (bvs (zeros 16)) := by rw [row?_below hAD (by simp)]; simp [go_sem]
  clear hA hB hC hD hAD zA zB zC
  go_wp2_with (first
    | ((with_reducible refine Rg.plan_pure ?_ ?_ ?_); kernel_rfl; kernel_rfl; intro _ _)
    | ((with_reducible refine Rg.plan_take ?_ ?_ ?_); kernel_rfl; kernel_rfl; intro _ _)
    | ((with_reducible refine Rg.plan_keep ?_ ?_); kernel_rfl; intro K hK)
    | (refine hK _ _ (Rg.Keep.refl _) ?_; clear hK)
    | (refine hK _ _ (Rg.Keep.of_below (by assumption)) ?_; clear hK)
    | ((with_reducible refine Rg.plan_skip ?_ ?_); kernel_rfl)
    | (with_reducible refine Rg.plan_done ?_)
    | (with_reducible refine Rg.calm_normal ?_))
  exact ret16 (w.heap.size + 1 + 1) (bvs (times x y)) rfl rfl rfl (row?_setRow_eq r0) (by rw [bvs_size]; exact times_length _ _) ⟨rfl, below_setRow b0 (by omega) _⟩

set_option maxHeartbeats 400000 in
theorem counter_any (nonce : List UInt8) (n : Nat) (hn : nonce.length = 12) (h32 : n < 4294967296) (w : World) :
    Calls Try.prog 31 #[.agg (bvs nonce), .int .u32 (n : Nat)] w fun e w' => e = .returned (.agg (bvs (ctr nonce n))) ∧ Below w.heap.size w w' := by
  go_enter Try.func31, Try.ntmps31
  go_wp2_with fail
  have hcopy : (Builtin.copy_ #[24, 24] 3 #[.slice (some ⟨w.heap.size + 1, 0, none⟩) 16 16, .slice (some ⟨w.heap.size, 0, none⟩) 12 12]).run Try.prog ((w.alloc (.cells (bvs nonce) 23)).alloc (.cells (bvs (zeros 16)) 22)).drew
      = .ok (.int .i64 12) ((w.alloc (.cells (bvs nonce) 23)).alloc (.cells (bvs (nonce ++ zeros 4)) 22)).drew := by
    have h0 : row? ((w.alloc (.cells (bvs nonce) 23)).alloc (.cells (bvs (zeros 16)) 22)).drew w.heap.size = some (bvs nonce) := by simp [go_sem]
    have h1 : row? ((w.alloc (.cells (bvs nonce) 23)).alloc (.cells (bvs (zeros 16)) 22)).drew (w.heap.size + 1) = some (bvs (zeros 16)) := by simp [go_sem]
    have hs := Sl.row h0
    rw [hn] at hs
    rw [run_copy_sl (elem := 5) Try.underlying24 (by kernel_rfl) 16 16 h1 (zeros_length _) hs, hn]
    congr 1
    have e : nonce.take 16 ++ (zeros 16).drop 12 = nonce ++ zeros 4 := by rw [List.take_of_length_le (by omega), zeros_drop]
    rw [e]
    simp [setRow_drew, setRow_alloc_at]
  refine Rg.wp_region_plan (Rg.row [(0, 3), (1, 3)] [2]) [2] (by kernel_rfl) (by kernel_rfl) ?_
  simp only [Rg.row, Rg.PT.map, List.map_cons, List.map_nil, List.getD_cons_zero, List.getD_cons_succ]
  go_wp2_with (first
    | ((with_reducible refine Rg.plan_pure ?_ ?_ ?_); kernel_rfl; kernel_rfl; intro _ _)
    | ((with_reducible refine Rg.plan_take ?_ ?_ ?_); kernel_rfl; kernel_rfl; intro _ _)
    | ((with_reducible refine Rg.plan_keep ?_ ?_); kernel_rfl; intro K hK)
    | (refine hK _ _ (Rg.Keep.refl _) ?_; clear hK)
    | (refine hK _ _ (Rg.Keep.of_below (by assumption)) ?_; clear hK)
    | ((with_reducible refine Rg.plan_skip ?_ ?_); kernel_rfl)
    | (with_reducible refine Rg.plan_done ?_)
    | (with_reducible refine Rg.calm_normal ?_))
  go_loopw [9] (fun v wr => ∃ k : Nat, k ≤ 4 ∧ v = .int .i64 k ∧ row? wr (w.heap.size + 1) = some (bvs (upto (ctrF nonce n) (nonce ++ zeros 4) 16 (12 + k))) ∧ Below w.heap.size w wr) (fun v _ => 4 - (intOf v).toNat)
  case atStart => exact ⟨0, by omega, rfl, by rw [ctr_zero _ _ hn]; simp [go_sem], (bel2 _ _ _).drew⟩
  case round =>
    obtain ⟨k, hk, rfl, h1, hbl⟩ := hrel
    by_cases hlt : k < 4
    · have H1 := Lib.hid h1
      have c1 := row?_cell h1
      have f1 := row?_frozen h1
      have s0 : (8 : Int) * (k : Int) ≤ 24 := by omega
      have s1 : ((24 : Int) - 8 * (k : Int)).toNat = 24 - 8 * k := by omega
      clear h1 hcopy
      go_wp2_with fail
      go_roundw
      case rel =>
        refine ⟨k + 1, by omega, by go_num, ?_, hbl.setCell (by simp) _⟩
        rw [row?_setCell_eq H1.out, bvs_setn, ctr_upto _ _ _ hlt]
      case measure => simp [intOf]; omega
    · clear hcopy
      go_wp2_with fail
      obtain rfl : k = 4 := by omega
      rw [ctr_full] at h1
      exact ret16 (w.heap.size + 1) (bvs (ctr nonce n)) rfl rfl rfl (row?_setRow_eq h1) (by rw [bvs_size]; exact ctr_length _ _) ⟨rfl, below_setRow hbl (by omega) _⟩
end Go.Proofs.Ytdfblojnkchpdaa
