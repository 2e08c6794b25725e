/- The round keys' walk. -/
import Derived.Test.YtdfblojnkchpdaaAesW1
namespace Go.Proofs.Ytdfblojnkchpdaa
open Go.RowKit Go.Rw Aes
attribute [local go_sem ↓] ld16 st16 al16 ld176 st176 al176 shift_shl8 shift_shr8 bvs_getElem?
attribute [local go_sem] rst16p rld16p rld16 rst16 ral16 rld176 rst176 ral176 setRow_alloc_at setRow_alloc_past setRow_drew bvs_setn

/-- The first loop's row: the number that is crossed last is not yet crossed. -/
def keyF0 (key : List UInt8) (m : Nat) (p : Nat) : UInt8 := if p = 16 * (m + 1) then nth (rowKey key m) 0 ^^^ box (nth (rowKey key m) 13) else keyF key p
theorem keyF0_set (key : List UInt8) (m i : Nat) (hm : m < 10) (hi : i < 4) :
    (upto (keyF0 key m) (zeros 176) 176 ((m + 1) * 16 + i)).set ((m + 1) * 16 + i) (nth (rowKey key m) i ^^^ box (nth (rowKey key m) (12 + (i + 1) % 4))) = upto (keyF0 key m) (zeros 176) 176 ((m + 1) * 16 + (i + 1)) := by
  have e : keyF0 key m ((m + 1) * 16 + i) = nth (rowKey key m) i ^^^ box (nth (rowKey key m) (12 + (i + 1) % 4)) := by
    unfold keyF0
    by_cases h0 : i = 0
    · subst h0; rw [if_pos (by omega)]
    · rw [if_neg (by omega), show (m + 1) * 16 + i = 16 * (m + 1) + i by omega, keyF_lo key m i hi h0]
  rw [← e, upto_set _ _ _ _ (by omega)]; rfl
theorem keyF0_start (key : List UInt8) (m : Nat) : upto (keyF key) (zeros 176) 176 (16 * (m + 1)) = upto (keyF0 key m) (zeros 176) 176 ((m + 1) * 16 + 0) := by
  rw [show (m + 1) * 16 + 0 = 16 * (m + 1) by omega]
  exact upto_congr fun i hi _ => by unfold keyF0; rw [if_neg (by omega)]
theorem keyF0_end (key : List UInt8) (m : Nat) (hm : m < 10) :
    (upto (keyF0 key m) (zeros 176) 176 ((m + 1) * 16 + 4)).set ((m + 1) * 16) (nth (upto (keyF0 key m) (zeros 176) 176 ((m + 1) * 16 + 4)) ((m + 1) * 16) ^^^ rcon m) = upto (keyF key) (zeros 176) 176 ((m + 1) * 16 + 4) := by
  apply ext16 (n := 176) (by simp [upto_length]) (upto_length ..)
  intro p hp
  rw [upto_lo (i := (m + 1) * 16) (by omega) (by omega), set_get _ _ _ _ (by rw [upto_length]; omega), upto_get hp, upto_get hp]
  by_cases h : (m + 1) * 16 = p
  · subst h
    rw [if_pos rfl, if_pos (by omega), show (m + 1) * 16 = 16 * (m + 1) by omega, keyF_first, keyF0, if_pos rfl]
  · rw [if_neg h]
    split
    · rw [keyF0, if_neg (by omega)]
    · rfl
theorem keyF_set (key : List UInt8) (m i : Nat) (hm : m < 10) (h4 : 4 ≤ i) (hi : i < 16) :
    (upto (keyF key) (zeros 176) 176 ((m + 1) * 16 + i)).set ((m + 1) * 16 + i) (nth (rowKey key m) i ^^^ nth (upto (keyF key) (zeros 176) 176 ((m + 1) * 16 + i)) ((m + 1) * 16 + (i - 4))) = upto (keyF key) (zeros 176) 176 ((m + 1) * 16 + (i + 1)) := by
  have e : keyF key ((m + 1) * 16 + i) = nth (rowKey key m) i ^^^ keyF key ((m + 1) * 16 + (i - 4)) := by
    rw [show (m + 1) * 16 + i = 16 * (m + 1) + i by omega, keyF_hi key m i h4 hi, show (m + 1) * 16 + (i - 4) = 16 * (m + 1) + (i - 4) by omega]
  rw [upto_lo (i := (m + 1) * 16 + (i - 4)) (by omega) (by omega), ← e, upto_set _ _ _ _ (by omega)]; rfl
theorem keys_start (key : List UInt8) (hk : key.length = 16) : key ++ (zeros 176).drop 16 = upto (keyF key) (zeros 176) 176 16 := by
  apply ext16 (n := 176) (by simp [hk, zeros_length]) (upto_length ..)
  intro i hi
  rw [upto_get hi, nth_append, hk, zeros_drop, nth_zeros, nth_zeros]
  split
  · rename_i h; rw [keyF, show i / 16 = 0 by omega, show i % 16 = i by omega, rowKey]
  · rfl
theorem bvs_mid (F : Nat → UInt8) (z : List UInt8) (m a : Nat) (ha : 16 * a + 16 ≤ m) (hm : m ≤ 176) (R : List UInt8) (hR : R.length = 16) (h : ∀ i, i < 16 → F (16 * a + i) = nth R i) :
    (bvs (upto F z 176 m)).extract (a * 16) (a * 16 + 16) = bvs R := by
  rw [bvs_extract, show a * 16 = 16 * a by omega, upto_part F z m a ha hm R hR h]

set_option maxRecDepth 10000 in
set_option maxHeartbeats 1000000 in
theorem keys_any (key : List UInt8) (hk : key.length = 16) (w : World) :
    Calls Try.prog 36 #[.agg (bvs key)] w fun e w' => e = .returned (.agg (bvs (keys key))) ∧ Below w.heap.size w w' := by
  go_enter Try.func36, Try.ntmps36
  go_wp2_with fail
  go_loopw [4, 5] (fun r v wr => ∃ m : Nat, m ≤ 10 ∧ v = .int .i64 (m + 1 : Nat) ∧ r = .int .u8 (n8 (rcon m) : Nat) ∧ row? wr (w.heap.size + 1) = some (bvs (zeros 176)) ∧ row? wr (w.heap.size + 1 + 1) = some (bvs (upto (keyF key) (zeros 176) 176 (16 * (m + 1)))) ∧ Below w.heap.size w wr) (fun _ v _ => 16 - (intOf v).toNat)
  case atStart =>
    refine ⟨0, by omega, rfl, rfl, by simp [go_sem], ?_, (bel2 _ _ _).alloc (by simp; omega) _⟩
    rw [row?_alloc_at _ _ _ _ (by simp)]
    exact congrArg (fun l => some (bvs l)) (keys_start key hk)
  case round =>
    obtain ⟨m, hm, rfl, rfl, h1, h2, hb⟩ := hrel
    obtain ⟨wo, rfl⟩ : ∃ wo : World, wo = wr := ⟨_, rfl⟩
    by_cases hlt : m < 10
    · have hp : (loadAgg 22 (.pointer (some ⟨w.heap.size + 1 + 1, m * 16, none⟩))).run Try.prog wo = .ok (.agg (bvs (rowKey key m))) wo := by
        unfold loadAgg
        rw [run_loadAt_part Ag16 h2 (by rw [bvs_size, upto_length]; omega)]
        rw [bvs_mid _ _ _ m (by omega) (by omega) (rowKey key m) (rowKey_length key hk m) (fun i hi => keyF_at key m i hi)]
      have hl := rowKey_length key hk m
      have H1 := Lib.hid h1
      have H2 := Lib.hid h2
      have B2 : w.heap.size + 1 + 1 < wo.heap.size := row?_lt h2
      clear h1 h2
      go_wp2_with fail
      go_loopw [19] (fun v wi => ∃ i : Nat, i ≤ 4 ∧ v = .int .i64 i ∧ row? wi (w.heap.size + 1) = some (bvs (zeros 176)) ∧ row? wi (w.heap.size + 1 + 1) = some (bvs (upto (keyF0 key m) (zeros 176) 176 ((m + 1) * 16 + i))) ∧ row? wi wo.heap.size = some (bvs (rowKey key m)) ∧ Below w.heap.size w wi) (fun v _ => 16 - (intOf v).toNat)
      case atStart =>
        refine ⟨0, by omega, rfl, ?_, ?_, by simp [go_sem], hb.alloc (by omega) _⟩
        · rw [row?_alloc_past _ _ _ (by omega)]; exact H1.out
        · rw [row?_alloc_past _ _ _ (by omega), ← keyF0_start]; exact H2.out
      case round =>
        obtain ⟨i, hi, rfl, h1, h2, h3, hb⟩ := hrel
        by_cases hi4 : i < 4
        · have G := Lib.hid (keyF0_set key m i hlt hi4)
          have I1 := Lib.hid h1
          have I2 := Lib.hid h2
          have I3 := Lib.hid h3
          have c3 := row?_cell h3
          have c2 := row?_cell h2
          have f2 := row?_frozen h2
          clear h1 h2 h3
          go_wp2_with fail
          refine Rg.wp_region_plan (Rg.row [(0, 3), (1, 3), (2, 3), (3, 3), (4, 0), (5, 3), (6, 3), (7, 3), (8, 3), (9, 3), (10, 0), (13, 3), (11, 1), (12, 3), (14, 3)] [15]) [15] (by kernel_rfl) (by kernel_rfl) ?_
          simp only [Rg.row, Rg.PT.map, List.map_cons, List.map_nil, List.getD_cons_zero, List.getD_cons_succ]
          go_wp2_with (first
            | (go_at_call 42; refine (box_any _ _).mono ?_; rintro e w' ⟨rfl, rfl⟩)
            | ((with_reducible refine Rg.plan_pure ?_ ?_ ?_); kernel_rfl; kernel_rfl; intro _ _)
            | ((with_reducible refine Rg.plan_take ?_ ?_ ?_); kernel_rfl; kernel_rfl; intro _ _)
            | ((with_reducible refine Rg.plan_keep ?_ ?_); kernel_rfl; intro K hK)
            | (refine hK _ _ (Rg.Keep.refl _) ?_; clear hK)
            | (refine hK _ _ (Rg.Keep.of_below (by assumption)) ?_; clear hK)
            | ((with_reducible refine Rg.plan_skip ?_ ?_); kernel_rfl)
            | (with_reducible refine Rg.plan_done ?_)
            | (with_reducible refine Rg.calm_normal ?_))
          go_roundw
          case rel =>
            refine ⟨i + 1, by omega, by go_num, ?_, ?_, ?_, (hb.setCell (by simp; omega) _).drew⟩
            · rw [row?_drew, row?_setCell_ne _ _ _ _ (by simp)]; exact I1.out
            · rw [row?_drew, row?_setCell_eq I2.out, bvs_setn]; exact congrArg (fun l => some (bvs l)) G.out
            · rw [row?_drew, row?_setCell_ne _ _ _ _ (by simp; omega)]; exact I3.out
          case measure => simp [intOf]; omega
        · obtain rfl : i = 4 := by omega
          have G := Lib.hid (keyF0_end key m hlt)
          have I1 := Lib.hid h1
          have I2 := Lib.hid h2
          have I3 := Lib.hid h3
          have c2 := row?_cell h2
          have f2 := row?_frozen h2
          clear h1 h2 h3
          go_wp2_with fail
          refine Rg.wp_region_plan (Rg.row [(0, 3), (1, 3), (2, 3), (3, 0), (4, 3), (5, 3), (6, 3), (7, 3)] [8]) [8] (by kernel_rfl) (by kernel_rfl) ?_
          simp only [Rg.row, Rg.PT.map, List.map_cons, List.map_nil, List.getD_cons_zero, List.getD_cons_succ]
          go_wp2_with (first
            | (go_at_call 43; refine (double_any _ _).mono ?_; rintro e w' ⟨rfl, rfl⟩)
            | ((with_reducible refine Rg.plan_pure ?_ ?_ ?_); kernel_rfl; kernel_rfl; intro _ _)
            | ((with_reducible refine Rg.plan_take ?_ ?_ ?_); kernel_rfl; kernel_rfl; intro _ _)
            | ((with_reducible refine Rg.plan_keep ?_ ?_); kernel_rfl; intro K hK)
            | (refine hK _ _ (Rg.Keep.refl _) ?_; clear hK)
            | (refine hK _ _ (Rg.Keep.of_below (by assumption)) ?_; clear hK)
            | ((with_reducible refine Rg.plan_skip ?_ ?_); kernel_rfl)
            | (with_reducible refine Rg.plan_done ?_)
            | (with_reducible refine Rg.calm_normal ?_))
          go_loopw [8] (fun v wi => ∃ i : Nat, 4 ≤ i ∧ i ≤ 16 ∧ v = .int .i64 i ∧ row? wi (w.heap.size + 1) = some (bvs (zeros 176)) ∧ row? wi (w.heap.size + 1 + 1) = some (bvs (upto (keyF key) (zeros 176) 176 ((m + 1) * 16 + i))) ∧ row? wi wo.heap.size = some (bvs (rowKey key m)) ∧ Below w.heap.size w wi) (fun v _ => 16 - (intOf v).toNat)
          case atStart =>
            refine ⟨4, by omega, by omega, rfl, ?_, ?_, ?_, (hb.setCell (by simp; omega) _).drew⟩
            · rw [row?_drew, row?_setCell_ne _ _ _ _ (by simp)]; exact I1.out
            · rw [row?_drew, row?_setCell_eq I2.out, bvs_setn]; exact congrArg (fun l => some (bvs l)) G.out
            · rw [row?_drew, row?_setCell_ne _ _ _ _ (by simp; omega)]; exact I3.out
          case round =>
            obtain ⟨i, hi4, hi, rfl, h1, h2, h3, hb⟩ := hrel
            by_cases hi16 : i < 16
            · have G := Lib.hid (keyF_set key m i hlt hi4 hi16)
              have I1 := Lib.hid h1
              have I2 := Lib.hid h2
              have I3 := Lib.hid h3
              have c3 := row?_cell h3
              have c2 := row?_cell h2
              have f2 := row?_frozen h2
              clear h1 h2 h3
              go_wp2_with fail
              refine Rg.wp_region_plan (Rg.row [(0, 3), (1, 3), (2, 3), (3, 3), (4, 0), (5, 3), (6, 3), (7, 3), (8, 3), (9, 3), (10, 0), (11, 3), (12, 3), (13, 3)] [14]) [14] (by kernel_rfl) (by kernel_rfl) ?_
              simp only [Rg.row, Rg.PT.map, List.map_cons, List.map_nil, List.getD_cons_zero, List.getD_cons_succ]
              go_wp2_with (first
                | ((with_reducible refine Rg.plan_pure ?_ ?_ ?_); kernel_rfl; kernel_rfl; intro _ _)
                | ((with_reducible refine Rg.plan_take ?_ ?_ ?_); kernel_rfl; kernel_rfl; intro _ _)
                | ((with_reducible refine Rg.plan_keep ?_ ?_); kernel_rfl; intro K hK)
                | (refine hK _ _ (Rg.Keep.refl _) ?_; clear hK)
                | (refine hK _ _ (Rg.Keep.of_below (by assumption)) ?_; clear hK)
                | ((with_reducible refine Rg.plan_skip ?_ ?_); kernel_rfl)
                | (with_reducible refine Rg.plan_done ?_)
                | (with_reducible refine Rg.calm_normal ?_))
              go_roundw
              case rel =>
                refine ⟨i + 1, by omega, by omega, by go_num, ?_, ?_, ?_, (hb.setCell (by simp; omega) _).drew⟩
                · rw [row?_drew, row?_setCell_ne _ _ _ _ (by simp)]; exact I1.out
                · rw [row?_drew, row?_setCell_eq I2.out, bvs_setn]; exact congrArg (fun l => some (bvs l)) G.out
                · rw [row?_drew, row?_setCell_ne _ _ _ _ (by simp; omega)]; exact I3.out
              case measure => simp [intOf]; omega
            · obtain rfl : i = 16 := by omega
              have I1 := Lib.hid h1
              have I2 := Lib.hid h2
              clear h1 h2 h3
              go_wp2_with fail
              go_roundw
              case rel => exact ⟨m + 1, by omega, by go_num, rfl, I1.out, by rw [I2.out, show 16 * (m + 1 + 1) = (m + 1) * 16 + 16 by omega], hb⟩
              case measure => simp [intOf]; omega
    · obtain rfl : m = 10 := by omega
      rw [show 16 * (10 + 1) = 176 by omega, upto_full] at h2
      have h2 : row? wo (w.heap.size + 1 + 1) = some (bvs (keys key)) := h2
      have hkl := keys_length key
      go_wp2_with fail
      refine ret176 (w.heap.size + 1) (bvs (keys key)) rfl rfl rfl (row?_setRow_eq h1) (by rw [bvs_size]; exact keys_length _) ⟨rfl, ?_⟩
      exact below_setRow hb (by omega) _

end Go.Proofs.Ytdfblojnkchpdaa
