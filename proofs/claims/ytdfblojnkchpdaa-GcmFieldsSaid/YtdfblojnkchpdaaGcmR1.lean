/- The walk of the document's product. -/
import Derived.Test.YtdfblojnkchpdaaAesR4
import Derived.Test.YtdfblojnkchpdaaGcmRM
namespace Go.Proofs.Ytdfblojnkchpdaa
open Go.RowKit Go.Rw Aes Gcm
attribute [local go_sem ↓] ld16 st16 al16 shift_shl8 shift_shr8 bvs_getElem?
attribute [local go_sem] rld16 rst16 ral16 setRow_alloc_at setRow_alloc_past setRow_drew bvs_setn

theorem bel4 (w : World) (a b c d : Obj) : Below w.heap.size w ((((w.alloc a).alloc b).alloc c).alloc d) := (((((Below.refl _ _).alloc (Nat.le_refl _) _).alloc (by simp) _).alloc (by simp; omega) _).alloc (by simp; omega) _)
theorem bel5 (w : World) (a b c d e : Obj) : Below w.heap.size w (((((w.alloc a).alloc b).alloc c).alloc d).alloc e) := (bel4 w a b c d).alloc (by simp; omega) _
set_option maxRecDepth 20000 in
set_option maxHeartbeats 4000000 in
theorem rtimes_any (x y : List UInt8) (hx : x.length = 16) (hy : y.length = 16) (w : World) :
    Calls Try.prog 20 #[.agg (bvs x), .agg (bvs y)] w fun e w' => e = .returned (.agg (bvs (rtimes x y))) ∧ Below w.heap.size w w' := by
  go_enter Try.func20, Try.ntmps20
  go_wp2_with fail
  go_loopw [7] (fun v wr => ∃ k : Nat, k ≤ 128 ∧ v = .int .i64 k ∧ row? wr w.heap.size = some (bvs x) ∧ row? wr (w.heap.size + 2) = some (bvs (zeros 16)) ∧ row? wr (w.heap.size + 3) = some (bvs (rrun x y k).1) ∧ row? wr (w.heap.size + 4) = some (bvs (rrun x y k).2) ∧ Below w.heap.size w wr) (fun v _ => 128 - (intOf v).toNat)
  case atStart => exact ⟨0, by omega, rfl, by simp [go_sem], by simp [go_sem], by simp [go_sem]; rfl, by simp [go_sem]; rfl, bel5 _ _ _ _ _ _⟩
  case round =>
    obtain ⟨k, hk, rfl, h0, h2, h3, h4, hb⟩ := hrel
    by_cases hlt : k < 128
    · have hl := rrun_length x y hy k
      have E := Lib.hid (show rrun x y (k + 1) = rstep x k (rrun x y k) from rfl)
      generalize rrun x y k = s at *
      obtain ⟨z, v⟩ := s
      dsimp only at h3 h4 hl
      obtain ⟨hz, hv⟩ := hl
      have H0 := Lib.hid h0
      have H2 := Lib.hid h2
      have H3 := Lib.hid h3
      have H4 := Lib.hid h4
      have c0 := row?_cell h0
      have s0 : (k : Int) % 8 ≤ 7 := by omega
      have s1 : ((7 : Int) - (k : Int) % 8).toNat = 7 - k % 8 := by omega
      clear h0 h2 h3 h4
      cases hbit : rbit x k
      · have E2 := Lib.hid (show rrun x y (k + 1) = (z, rmul v) by rw [E.out]; unfold rstep; rw [hbit]; rfl)
        unfold rbit at hbit
        clear E
        have hlow : (nth v 15 &&& 1 == 1) = true ∨ (nth v 15 &&& 1 == 1) = false := by cases (nth v 15 &&& 1 == 1) <;> simp
        have c4 := row?_cell H4.out
        go_wp2_with fail
        go_loopw [10] (fun u wr => ∃ k2 : Nat, k2 ≤ 15 ∧ u = .int .i64 k2 ∧ row? wr w.heap.size = some (bvs x) ∧ row? wr (w.heap.size + 2) = some (bvs (zeros 16)) ∧ row? wr (w.heap.size + 3) = some (bvs z) ∧ row? wr (w.heap.size + 4) = some (bvs (dn v k2)) ∧ Below w.heap.size w wr) (fun u _ => (intOf u).toNat)
        case atStart => exact ⟨15, by omega, rfl, H0.out, H2.out, H3.out, by rw [dn_full v hv]; exact H4.out, hb⟩
        case round =>
          obtain ⟨k2, hk2, rfl, h0, h2, h3, h4, hb⟩ := hrel
          have H0 := Lib.hid h0
          have H2 := Lib.hid h2
          have H3 := Lib.hid h3
          have H4 := Lib.hid h4
          clear c4
          have c4 := row?_cell h4
          have f4 := row?_frozen h4
          clear h0 h2 h3 h4
          by_cases hlt2 : 0 < k2
          · obtain ⟨m, rfl⟩ : ∃ m, k2 = m + 1 := ⟨k2 - 1, by omega⟩
            have G := Lib.hid (dn_set v m (by omega))
            go_wp2_with fail
            refine Rg.wp_region_plan (Rg.row [(0, 3), (1, 3), (2, 3), (3, 0), (4, 3), (5, 3), (6, 3), (7, 3), (8, 0), (9, 3), (10, 3), (11, 3)] [12]) [12] (by kernel_rfl) (by kernel_rfl) ?_
            simp only [Rg.row, Rg.PT.map, List.map_cons, List.map_nil, List.getD_cons_zero, List.getD_cons_succ]
            go_wp2_with (first
              | ((with_reducible refine Rg.plan_pure ?_ ?_ ?_); kernel_rfl; kernel_rfl; intro _ _)
              | ((with_reducible refine Rg.plan_take ?_ ?_ ?_); kernel_rfl; kernel_rfl; intro _ _)
              | ((with_reducible refine Rg.plan_keep ?_ ?_); kernel_rfl; intro K hK)
              | (refine hK _ _ (Rg.Keep.refl _) ?_; clear hK)
              | (refine hK _ _ (Rg.Keep.of_below (by assumption)) ?_; clear hK)
              | ((with_reducible refine Rg.plan_skip ?_ ?_); kernel_rfl)
              | (with_reducible refine Rg.plan_done ?_)
              | (with_reducible refine Rg.calm_normal ?_))
            go_roundw
            case rel =>
              refine ⟨m, by omega, by go_num, ?_, ?_, ?_, ?_, (hb.setCell (by simp <;> omega) _).drew⟩
              · rw [row?_drew, row?_setCell_ne _ _ _ _ (by simp <;> omega)]; exact H0.out
              · rw [row?_drew, row?_setCell_ne _ _ _ _ (by simp <;> omega)]; exact H2.out
              · rw [row?_drew, row?_setCell_ne _ _ _ _ (by simp <;> omega)]; exact H3.out
              · rw [row?_drew, row?_setCell_eq H4.out, bvs_setn]; exact congrArg (fun l => some (bvs l)) G.out
            case measure => simp [intOf]; try omega
          · obtain rfl : k2 = 0 := by omega
            have dz := dn_zero v
            rcases hlow with hlow | hlow
            · have G := Lib.hid (rmul_poly v hlow)
              go_wp2_with fail
              go_roundw
              case rel =>
                refine ⟨k + 1, by omega, by go_num, ?_, ?_, ?_, ?_, (hb.setCell (by simp <;> omega) _).setCell (by simp <;> omega) _⟩
                · rw [row?_setCell_ne _ _ _ _ (by simp <;> omega), row?_setCell_ne _ _ _ _ (by simp <;> omega)]; exact H0.out
                · rw [row?_setCell_ne _ _ _ _ (by simp <;> omega), row?_setCell_ne _ _ _ _ (by simp <;> omega)]; exact H2.out
                · rw [row?_setCell_ne _ _ _ _ (by simp <;> omega), row?_setCell_ne _ _ _ _ (by simp <;> omega), E2.out]; exact H3.out
                · rw [row?_setCell_eq (row?_setCell_eq H4.out _), bvs_setn, bvs_setn, E2.out]; exact congrArg (fun l => some (bvs l)) G.out
              case measure => simp [intOf]; omega
            · have G := Lib.hid (rmul_plain v hlow)
              go_wp2_with fail
              go_roundw
              case rel =>
                refine ⟨k + 1, by omega, by go_num, ?_, ?_, ?_, ?_, hb.setCell (by simp <;> omega) _⟩
                · rw [row?_setCell_ne _ _ _ _ (by simp <;> omega)]; exact H0.out
                · rw [row?_setCell_ne _ _ _ _ (by simp <;> omega)]; exact H2.out
                · rw [row?_setCell_ne _ _ _ _ (by simp <;> omega), E2.out]; exact H3.out
                · rw [row?_setCell_eq H4.out, bvs_setn, E2.out]; exact congrArg (fun l => some (bvs l)) G.out
              case measure => simp [intOf]; omega
      · have E2 := Lib.hid (show rrun x y (k + 1) = (add z v, rmul v) by rw [E.out]; unfold rstep; rw [hbit]; rfl)
        unfold rbit at hbit
        clear E
        go_wp2_with fail
        go_loopw [8] (fun u wr => ∃ k2 : Nat, k2 ≤ 16 ∧ u = .int .i64 k2 ∧ row? wr w.heap.size = some (bvs x) ∧ row? wr (w.heap.size + 2) = some (bvs (zeros 16)) ∧ row? wr (w.heap.size + 3) = some (bvs (upto (addF z v) z 16 k2)) ∧ row? wr (w.heap.size + 4) = some (bvs v) ∧ Below w.heap.size w wr) (fun u _ => 16 - (intOf u).toNat)
        case atStart => exact ⟨0, by omega, rfl, H0.out, H2.out, by rw [upto_zero _ _ _ hz]; exact H3.out, H4.out, hb⟩
        case round =>
          obtain ⟨k2, hk2, rfl, h0, h2, h3, h4, hb⟩ := hrel
          clear H0 H2 H3 H4 c0
          by_cases hlt2 : k2 < 16
          · have g := upto_set (addF z v) z 16 k2 hlt2
            have ghi := upto_hi (f := addF z v) (z := z) hlt2 (Nat.le_refl k2)
            have G := Lib.hid g; clear g
            have H0 := Lib.hid h0
            have H2 := Lib.hid h2
            have H3 := Lib.hid h3
            have H4 := Lib.hid h4
            have c3 := row?_cell h3
            have c4 := row?_cell h4
            have f3 := row?_frozen h3
            clear h0 h2 h3 h4
            go_wp2_with fail
            refine Rg.wp_region_plan (Rg.row [(0, 3), (1, 3), (2, 3), (3, 0), (4, 3), (5, 3), (6, 0), (7, 3), (8, 3)] [9]) [9] (by kernel_rfl) (by kernel_rfl) ?_
            simp only [Rg.row, Rg.PT.map, List.map_cons, List.map_nil, List.getD_cons_zero, List.getD_cons_succ]
            go_wp2_with (first
              | ((with_reducible refine Rg.plan_pure ?_ ?_ ?_); kernel_rfl; kernel_rfl; intro _ _)
              | ((with_reducible refine Rg.plan_take ?_ ?_ ?_); kernel_rfl; kernel_rfl; intro _ _)
              | ((with_reducible refine Rg.plan_keep ?_ ?_); kernel_rfl; intro K hK)
              | (refine hK _ _ (Rg.Keep.refl _) ?_; clear hK)
              | (refine hK _ _ (Rg.Keep.of_below (by assumption)) ?_; clear hK)
              | ((with_reducible refine Rg.plan_skip ?_ ?_); kernel_rfl)
              | (with_reducible refine Rg.plan_done ?_)
              | (with_reducible refine Rg.calm_normal ?_))
            go_roundw
            case rel =>
              refine ⟨k2 + 1, by omega, by go_num, ?_, ?_, ?_, ?_, (hb.setCell (by simp <;> omega) _).drew⟩
              · rw [row?_drew, row?_setCell_ne _ _ _ _ (by simp <;> omega)]; exact H0.out
              · rw [row?_drew, row?_setCell_ne _ _ _ _ (by simp <;> omega)]; exact H2.out
              · rw [row?_drew, row?_setCell_eq H3.out, bvs_setn]; exact congrArg (fun l => some (bvs l)) G.out
              · rw [row?_drew, row?_setCell_ne _ _ _ _ (by simp <;> omega)]; exact H4.out
            case measure => simp [intOf]; omega
          · obtain rfl : k2 = 16 := by omega
            rw [upto_full] at h3
            have hadd : (List.range 16).map (addF z v) = add z v := rfl
            rw [hadd] at h3
            have H0 := Lib.hid h0
            have H2 := Lib.hid h2
            have H3 := Lib.hid h3
            have H4 := Lib.hid h4
            clear h0 h2 h3 h4
            have hlow : (nth v 15 &&& 1 == 1) = true ∨ (nth v 15 &&& 1 == 1) = false := by cases (nth v 15 &&& 1 == 1) <;> simp
            have c4 := row?_cell H4.out
            go_wp2_with fail
            go_loopw [10] (fun u wr => ∃ k2 : Nat, k2 ≤ 15 ∧ u = .int .i64 k2 ∧ row? wr w.heap.size = some (bvs x) ∧ row? wr (w.heap.size + 2) = some (bvs (zeros 16)) ∧ row? wr (w.heap.size + 3) = some (bvs (add z v)) ∧ row? wr (w.heap.size + 4) = some (bvs (dn v k2)) ∧ Below w.heap.size w wr) (fun u _ => (intOf u).toNat)
            case atStart => exact ⟨15, by omega, rfl, H0.out, H2.out, H3.out, by rw [dn_full v hv]; exact H4.out, hb⟩
            case round =>
              obtain ⟨k2, hk2, rfl, h0, h2, h3, h4, hb⟩ := hrel
              have H0 := Lib.hid h0
              have H2 := Lib.hid h2
              have H3 := Lib.hid h3
              have H4 := Lib.hid h4
              clear c4
              have c4 := row?_cell h4
              have f4 := row?_frozen h4
              clear h0 h2 h3 h4
              by_cases hlt2 : 0 < k2
              · obtain ⟨m, rfl⟩ : ∃ m, k2 = m + 1 := ⟨k2 - 1, by omega⟩
                have G := Lib.hid (dn_set v m (by omega))
                go_wp2_with fail
                refine Rg.wp_region_plan (Rg.row [(0, 3), (1, 3), (2, 3), (3, 0), (4, 3), (5, 3), (6, 3), (7, 3), (8, 0), (9, 3), (10, 3), (11, 3)] [12]) [12] (by kernel_rfl) (by kernel_rfl) ?_
                simp only [Rg.row, Rg.PT.map, List.map_cons, List.map_nil, List.getD_cons_zero, List.getD_cons_succ]
                go_wp2_with (first
                  | ((with_reducible refine Rg.plan_pure ?_ ?_ ?_); kernel_rfl; kernel_rfl; intro _ _)
                  | ((with_reducible refine Rg.plan_take ?_ ?_ ?_); kernel_rfl; kernel_rfl; intro _ _)
                  | ((with_reducible refine Rg.plan_keep ?_ ?_); kernel_rfl; intro K hK)
                  | (refine hK _ _ (Rg.Keep.refl _) ?_; clear hK)
                  | (refine hK _ _ (Rg.Keep.of_below (by assumption)) ?_; clear hK)
                  | ((with_reducible refine Rg.plan_skip ?_ ?_); kernel_rfl)
                  | (with_reducible refine Rg.plan_done ?_)
                  | (with_reducible refine Rg.calm_normal ?_))
                go_roundw
                case rel =>
                  refine ⟨m, by omega, by go_num, ?_, ?_, ?_, ?_, (hb.setCell (by simp <;> omega) _).drew⟩
                  · rw [row?_drew, row?_setCell_ne _ _ _ _ (by simp <;> omega)]; exact H0.out
                  · rw [row?_drew, row?_setCell_ne _ _ _ _ (by simp <;> omega)]; exact H2.out
                  · rw [row?_drew, row?_setCell_ne _ _ _ _ (by simp <;> omega)]; exact H3.out
                  · rw [row?_drew, row?_setCell_eq H4.out, bvs_setn]; exact congrArg (fun l => some (bvs l)) G.out
                case measure => simp [intOf]; try omega
              · obtain rfl : k2 = 0 := by omega
                have dz := dn_zero v
                rcases hlow with hlow | hlow
                · have G := Lib.hid (rmul_poly v hlow)
                  go_wp2_with fail
                  go_roundw
                  case rel =>
                    refine ⟨k + 1, by omega, by go_num, ?_, ?_, ?_, ?_, (hb.setCell (by simp <;> omega) _).setCell (by simp <;> omega) _⟩
                    · rw [row?_setCell_ne _ _ _ _ (by simp <;> omega), row?_setCell_ne _ _ _ _ (by simp <;> omega)]; exact H0.out
                    · rw [row?_setCell_ne _ _ _ _ (by simp <;> omega), row?_setCell_ne _ _ _ _ (by simp <;> omega)]; exact H2.out
                    · rw [row?_setCell_ne _ _ _ _ (by simp <;> omega), row?_setCell_ne _ _ _ _ (by simp <;> omega), E2.out]; exact H3.out
                    · rw [row?_setCell_eq (row?_setCell_eq H4.out _), bvs_setn, bvs_setn, E2.out]; exact congrArg (fun l => some (bvs l)) G.out
                  case measure => simp [intOf]; omega
                · have G := Lib.hid (rmul_plain v hlow)
                  go_wp2_with fail
                  go_roundw
                  case rel =>
                    refine ⟨k + 1, by omega, by go_num, ?_, ?_, ?_, ?_, hb.setCell (by simp <;> omega) _⟩
                    · rw [row?_setCell_ne _ _ _ _ (by simp <;> omega)]; exact H0.out
                    · rw [row?_setCell_ne _ _ _ _ (by simp <;> omega)]; exact H2.out
                    · rw [row?_setCell_ne _ _ _ _ (by simp <;> omega), E2.out]; exact H3.out
                    · rw [row?_setCell_eq H4.out, bvs_setn, E2.out]; exact congrArg (fun l => some (bvs l)) G.out
                  case measure => simp [intOf]; omega
    · have hl1 := (rrun_length x y hy k).1
      go_wp2_with fail
      obtain rfl : k = 128 := by omega
      have zl := hb.size
      have hrt : (rrun x y 128).1 = rtimes x y := rfl
      rw [hrt] at h3
      exact ret16 (w.heap.size + 2) (bvs (rtimes x y)) rfl rfl rfl (row?_setRow_eq h2) (by rw [bvs_size]; exact (rrun_length x y hy 128).1) ⟨rfl, below_setRow hb (by omega) _⟩
end Go.Proofs.Ytdfblojnkchpdaa
