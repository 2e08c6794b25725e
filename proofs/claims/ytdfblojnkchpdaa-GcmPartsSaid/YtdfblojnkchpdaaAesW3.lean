/- The block's walk. -/
import Derived.Test.YtdfblojnkchpdaaAesW2
namespace Go.Proofs.Ytdfblojnkchpdaa
open Go.RowKit Go.Rw Aes
attribute [local go_sem ↓] ld16 st16 al16 ld176 st176 al176 shift_shl8 shift_shr8 bvs_getElem?
attribute [local go_sem] rst16p rld16p rld16 rst16 ral16 rld176 rst176 ral176 setRow_alloc_at setRow_alloc_past setRow_drew bvs_setn

set_option maxHeartbeats 1000000 in
theorem block_any (key inp : List UInt8) (hk : key.length = 16) (hi : inp.length = 16) (w : World) :
    Calls Try.prog 30 #[.agg (bvs key), .agg (bvs inp)] w fun e w' => e = .returned (.agg (bvs (block key inp))) ∧ Below w.heap.size w w' := by
  go_enter Try.func30, Try.ntmps30
  go_wp2_with fail
  refine (keys_any key hk _).mono ?_
  rintro e w1 ⟨rfl, hb1⟩
  have z1 := hb1.size
  simp at z1
  have r0 : row? w1 (w.heap.size + 1) = some (bvs inp) := by rw [row?_below hb1 (by simp)]; simp [go_sem]
  have r1 : row? w1 (w.heap.size + 1 + 1) = some (bvs (zeros 16)) := by rw [row?_below hb1 (by simp)]; simp [go_sem]
  have b1 : Below w.heap.size w w1 := ((bel2 _ _ _).alloc (by simp; omega) _).trans (hb1.mono (by simp; omega))
  clear hb1
  have l1 : w.heap.size + 1 < w1.heap.size := by omega
  have l2 : w.heap.size + 1 + 1 < w1.heap.size := by omega
  have k0 : (bvs (keys key)).extract 0 16 = bvs (rowKey key 0) := by
    have := keys_part key hk 0 (by omega)
    rw [bvs_extract]; exact congrArg bvs this
  go_wp2_with fail
  refine (add_any _ _ hi (rowKey_length key hk 0) _).mono ?_
  rintro e w2 ⟨rfl, hb2⟩
  have z2 := hb2.size
  simp at z2
  have s1 : row? w2 (w.heap.size + 1 + 1) = some (bvs (zeros 16)) := by rw [row?_below hb2 (by simp; omega)]; simp [go_sem, l2, r1]
  have s2 : row? w2 w1.heap.size = some (bvs (keys key)) := by rw [row?_below hb2 (by simp)]; simp [go_sem]
  have b2 : Below w.heap.size w w2 := (b1.alloc (by omega) _).trans (hb2.mono (by simp; omega))
  have l3 : w.heap.size + 1 + 1 < w2.heap.size := by omega
  have l4 : w1.heap.size < w2.heap.size := by omega
  clear hb2 r0 r1 b1 l1 z1 k0
  go_wp2_with fail
  go_loopw [7] (fun v wr => ∃ n : Nat, n ≤ 9 ∧ v = .int .i64 (n + 1 : Nat) ∧ row? wr (w.heap.size + 1 + 1) = some (bvs (zeros 16)) ∧ row? wr w1.heap.size = some (bvs (keys key)) ∧ row? wr w2.heap.size = some (bvs (stateAt key inp n)) ∧ Below w.heap.size w wr) (fun v _ => 16 - (intOf v).toNat)
  case atStart => exact ⟨0, by omega, rfl, by simp [go_sem, l3, s1], by simp [go_sem, l4, s2], by simp [go_sem]; rfl, b2.alloc (by omega) _⟩
  case round =>
    obtain ⟨n, hn, rfl, h0, h1, h2, hb⟩ := hrel
    have q0 := row?_lt h2
    by_cases hlt : n < 9
    · have hp : (loadAgg 22 (.pointer (some ⟨w1.heap.size, (n + 1) * 16, none⟩))).run Try.prog wr.drew = .ok (.agg (bvs (rowKey key (n + 1)))) wr.drew := by
        unfold loadAgg
        rw [run_loadAt_part (w := wr.drew) Ag16 (c := bvs (keys key)) (o := (n + 1) * 16) h1 (by rw [bvs_size, keys_length]; omega), bvs_extract, keys_part key hk (n + 1) (by omega)]
      go_wp2_with fail
      refine Rg.wp_region_plan (Rg.row [(0, 0), (3, 3), (4, 3), (5, 0), (1, 1), (2, 1), (6, 1)] [7]) [7] (by kernel_rfl) (by kernel_rfl) ?_
      simp only [Rg.row, Rg.PT.map, List.map_cons, List.map_nil, List.getD_cons_zero, List.getD_cons_succ]
      go_wp2_with (first
        | ((with_reducible refine Rg.plan_pure ?_ ?_ ?_); kernel_rfl; kernel_rfl; intro _ _)
        | ((with_reducible refine Rg.plan_take ?_ ?_ ?_); kernel_rfl; kernel_rfl; intro _ _)
        | ((with_reducible refine Rg.plan_keep ?_ ?_); kernel_rfl; intro K hK)
        | (refine hK _ _ (Rg.Keep.refl _) ?_; clear hK)
        | (refine hK _ _ (Rg.Keep.of_below (by assumption)) ?_; clear hK)
        | ((with_reducible refine Rg.plan_skip ?_ ?_); kernel_rfl)
        | (with_reducible refine Rg.plan_done ?_)
        | (with_reducible refine Rg.calm_normal ?_))
      refine (boxed_any _ (stateAt_length _ _ _) _).mono ?_
      rintro e wA ⟨rfl, hA⟩
      refine hK _ _ (Rg.Keep.of_below hA) ?_
      clear hK
      go_wp2_with (first
        | ((with_reducible refine Rg.plan_pure ?_ ?_ ?_); kernel_rfl; kernel_rfl; intro _ _)
        | ((with_reducible refine Rg.plan_take ?_ ?_ ?_); kernel_rfl; kernel_rfl; intro _ _)
        | ((with_reducible refine Rg.plan_keep ?_ ?_); kernel_rfl; intro K hK)
        | (refine hK _ _ (Rg.Keep.refl _) ?_; clear hK)
        | (refine hK _ _ (Rg.Keep.of_below (by assumption)) ?_; clear hK)
        | ((with_reducible refine Rg.plan_skip ?_ ?_); kernel_rfl)
        | (with_reducible refine Rg.plan_done ?_)
        | (with_reducible refine Rg.calm_normal ?_))
      refine (mixed_any _ (boxed_length _) _).mono ?_
      rintro e wB ⟨rfl, hB⟩
      refine hK _ _ (Rg.Keep.of_below hB) ?_
      clear hK
      go_wp2_with (first
        | ((with_reducible refine Rg.plan_pure ?_ ?_ ?_); kernel_rfl; kernel_rfl; intro _ _)
        | ((with_reducible refine Rg.plan_take ?_ ?_ ?_); kernel_rfl; kernel_rfl; intro _ _)
        | ((with_reducible refine Rg.plan_keep ?_ ?_); kernel_rfl; intro K hK)
        | (refine hK _ _ (Rg.Keep.refl _) ?_; clear hK)
        | (refine hK _ _ (Rg.Keep.of_below (by assumption)) ?_; clear hK)
        | ((with_reducible refine Rg.plan_skip ?_ ?_); kernel_rfl)
        | (with_reducible refine Rg.plan_done ?_)
        | (with_reducible refine Rg.calm_normal ?_))
      refine (add_any _ _ (mixed_length _) (rowKey_length _ hk _) _).mono ?_
      rintro e wC ⟨rfl, hC⟩
      refine hK _ _ (Rg.Keep.of_below hC) ?_
      clear hK
      have zA := hA.size
      have zB := hB.size
      have hAC : Below wr.heap.size wr wC := (Below.drew (Below.refl _ wr)).trans (hA.trans ((hB.mono zA).trans (hC.mono (Nat.le_trans zA zB))))
      have g0 : row? wC (w.heap.size + 1 + 1) = some (bvs (zeros 16)) := by rw [row?_below hAC (by omega)]; exact h0
      have g1 : row? wC w1.heap.size = some (bvs (keys key)) := by rw [row?_below hAC (by omega)]; exact h1
      have g2 : row? wC w2.heap.size = some (bvs (stateAt key inp n)) := by rw [row?_below hAC q0]; exact h2
      have gb : Below w.heap.size w wC := hb.trans (hAC.mono (by omega))
      clear h0 h1 h2 hb hA hB hC hAC zA zB hp
      go_wp2_with (first
        | ((with_reducible refine Rg.plan_pure ?_ ?_ ?_); kernel_rfl; kernel_rfl; intro _ _)
        | ((with_reducible refine Rg.plan_take ?_ ?_ ?_); kernel_rfl; kernel_rfl; intro _ _)
        | ((with_reducible refine Rg.plan_keep ?_ ?_); kernel_rfl; intro K hK)
        | (refine hK _ _ (Rg.Keep.refl _) ?_; clear hK)
        | (refine hK _ _ (Rg.Keep.of_below (by assumption)) ?_; clear hK)
        | ((with_reducible refine Rg.plan_skip ?_ ?_); kernel_rfl)
        | (with_reducible refine Rg.plan_done ?_)
        | (with_reducible refine Rg.calm_normal ?_))
      go_roundw
      case rel =>
        refine ⟨n + 1, by omega, by go_num, ?_, ?_, row?_setRow_eq g2, below_setRow gb (by omega) _⟩
        · rw [row?_setRow_ne _ _ _ _ (by omega)]; exact g0
        · rw [row?_setRow_ne _ _ _ _ (by omega)]; exact g1
      case measure => simp [intOf]; omega
    · obtain rfl : n = 9 := by omega
      have hp : (loadAgg 22 (.pointer (some ⟨w1.heap.size, 160, none⟩))).run Try.prog wr.drew = .ok (.agg (bvs (rowKey key 10))) wr.drew := by
        unfold loadAgg
        rw [run_loadAt_part (w := wr.drew) Ag16 (c := bvs (keys key)) (o := 160) h1 (by rw [bvs_size, keys_length]; omega), bvs_extract]
        exact congrArg (fun l => Result.ok (Value.agg (bvs l)) wr.drew) (keys_part key hk 10 (by omega))
      go_wp2_with fail
      refine Rg.wp_region_plan (Rg.row [(0, 0), (2, 3), (3, 0), (1, 1), (4, 1)] [5]) [5] (by kernel_rfl) (by kernel_rfl) ?_
      simp only [Rg.row, Rg.PT.map, List.map_cons, List.map_nil, List.getD_cons_zero, List.getD_cons_succ]
      go_wp2_with (first
        | ((with_reducible refine Rg.plan_pure ?_ ?_ ?_); kernel_rfl; kernel_rfl; intro _ _)
        | ((with_reducible refine Rg.plan_take ?_ ?_ ?_); kernel_rfl; kernel_rfl; intro _ _)
        | ((with_reducible refine Rg.plan_keep ?_ ?_); kernel_rfl; intro K hK)
        | (refine hK _ _ (Rg.Keep.refl _) ?_; clear hK)
        | (refine hK _ _ (Rg.Keep.of_below (by assumption)) ?_; clear hK)
        | ((with_reducible refine Rg.plan_skip ?_ ?_); kernel_rfl)
        | (with_reducible refine Rg.plan_done ?_)
        | (with_reducible refine Rg.calm_normal ?_))
      refine (boxed_any _ (stateAt_length _ _ _) _).mono ?_
      rintro e wA ⟨rfl, hA⟩
      refine hK _ _ (Rg.Keep.of_below hA) ?_
      clear hK
      go_wp2_with (first
        | ((with_reducible refine Rg.plan_pure ?_ ?_ ?_); kernel_rfl; kernel_rfl; intro _ _)
        | ((with_reducible refine Rg.plan_take ?_ ?_ ?_); kernel_rfl; kernel_rfl; intro _ _)
        | ((with_reducible refine Rg.plan_keep ?_ ?_); kernel_rfl; intro K hK)
        | (refine hK _ _ (Rg.Keep.refl _) ?_; clear hK)
        | (refine hK _ _ (Rg.Keep.of_below (by assumption)) ?_; clear hK)
        | ((with_reducible refine Rg.plan_skip ?_ ?_); kernel_rfl)
        | (with_reducible refine Rg.plan_done ?_)
        | (with_reducible refine Rg.calm_normal ?_))
      refine (add_any _ _ (boxed_length _) (rowKey_length _ hk _) _).mono ?_
      rintro e wC ⟨rfl, hC⟩
      refine hK _ _ (Rg.Keep.of_below hC) ?_
      clear hK
      have zA := hA.size
      have hAC : Below wr.heap.size wr wC := (Below.drew (Below.refl _ wr)).trans (hA.trans (hC.mono zA))
      have g0 : row? wC (w.heap.size + 1 + 1) = some (bvs (zeros 16)) := by rw [row?_below hAC (by omega)]; exact h0
      have gb : Below w.heap.size w wC := hb.trans (hAC.mono (by omega))
      clear h0 h1 h2 hb hA hC hAC zA hp
      go_wp2_with (first
        | ((with_reducible refine Rg.plan_pure ?_ ?_ ?_); kernel_rfl; kernel_rfl; intro _ _)
        | ((with_reducible refine Rg.plan_take ?_ ?_ ?_); kernel_rfl; kernel_rfl; intro _ _)
        | ((with_reducible refine Rg.plan_keep ?_ ?_); kernel_rfl; intro K hK)
        | (refine hK _ _ (Rg.Keep.refl _) ?_; clear hK)
        | (refine hK _ _ (Rg.Keep.of_below (by assumption)) ?_; clear hK)
        | ((with_reducible refine Rg.plan_skip ?_ ?_); kernel_rfl)
        | (with_reducible refine Rg.plan_done ?_)
        | (with_reducible refine Rg.calm_normal ?_))
      exact ret16 (w.heap.size + 1 + 1) (bvs (block key inp)) rfl rfl rfl (row?_setRow_eq g0) (by rw [bvs_size]; exact block_length _ _) ⟨rfl, below_setRow gb (by omega) _⟩
end Go.Proofs.Ytdfblojnkchpdaa
