/- The document's round keys: what its Keys computes. -/
import Derived.Test.YtdfblojnkchpdaaAesR2
import Derived.Test.YtdfblojnkchpdaaAesW2
namespace Aes
open Go.Rw
/-- the four bytes that the document crosses with a row's first ones -/
def tOf (key : List UInt8) (m : Nat) : List UInt8 := [box (nth (rowKey key m) 13) ^^^ rcon m, box (nth (rowKey key m) 14), box (nth (rowKey key m) 15), box (nth (rowKey key m) 12)]
theorem tOf_length (key m) : (tOf key m).length = 4 := rfl
theorem tOf_get (key : List UInt8) (m i : Nat) (hi : i < 4) : keyF key ((m + 1) * 16 + i) = nth (rowKey key m) i ^^^ nth (tOf key m) i := by
  rw [show (m + 1) * 16 + i = 16 * (m + 1) + i by omega]
  by_cases h0 : i = 0
  · subst h0; rw [Nat.add_zero, keyF_first, UInt8.xor_assoc]; rfl
  · rw [keyF_lo key m i hi h0]
    rcases (by omega : i = 1 ∨ i = 2 ∨ i = 3) with rfl | rfl | rfl <;> rfl
theorem tOf_set (key : List UInt8) (m i : Nat) (hm : m < 10) (hi : i < 4) :
    (upto (keyF key) (zeros 176) 176 ((m + 1) * 16 + i)).set ((m + 1) * 16 + i) (nth (rowKey key m) i ^^^ nth (tOf key m) i) = upto (keyF key) (zeros 176) 176 ((m + 1) * 16 + (i + 1)) := by
  rw [← tOf_get key m i hi, upto_set _ _ _ _ (by omega)]; rfl
end Aes
namespace Go.Proofs.Ytdfblojnkchpdaa
open Go.RowKit Go.Rw Aes
theorem Ag4 : Agg Try.prog 65 4 := ⟨⟨_, Try.underlying65, rfl⟩, by kernel_rfl⟩
theorem ld4 (x : Value) : Instr.loadAt 65 x = loadAgg 65 x := rfl
theorem st4 (x y : Value) : Instr.storeAt 65 x y = storeAgg 65 x y := rfl
theorem al4 : Instr.alloc 65 true (.tuple #[]) = allocAgg 65 := rfl
theorem rld4 (w : World) (b : Nat) (h : (row? w b).map (·.size) = some 4) : (loadAgg 65 (.pointer (some ⟨b, 0, none⟩))).run Try.prog w = .ok (.agg ((row? w b).getD #[])) w := load_rule Ag4 w b h
theorem rst4 (w : World) (b : Nat) (c' : Array Value) (h : (row? w b).map (·.size) = some 4) (hn : c'.size = 4) (h1 : allOne c' = true) : (storeAgg 65 (.pointer (some ⟨b, 0, none⟩)) (.agg c')).run Try.prog w = .ok () (w.setRow b c') := store_rule Ag4 w b c' h hn h1
theorem ral4 (w : World) : (allocAgg 65).run Try.prog w = .ok (.pointer (some ⟨w.heap.size, 0, none⟩)) (w.alloc (.cells (bvs (zeros 4)) 65)) := alloc_rule (n := 4) (by kernel_rfl) w
attribute [local go_sem ↓] ld16 st16 al16 ld176 st176 al176 ld256 st256 al256 ld4 st4 al4 shift_shl8 shift_shr8 bvs_getElem?
attribute [local go_sem] rst16p rld16p rld16 rst16 ral16 rld176 rst176 ral176 rld256 rst256 ral256 rld4 rst4 ral4 setRow_alloc_at setRow_alloc_past setRow_drew bvs_setn

set_option maxRecDepth 10000 in
set_option maxHeartbeats 1000000 in
theorem rkeys_any (key : List UInt8) (hk : key.length = 16) (w : World) :
    Calls Try.prog 32 #[.agg (bvs key)] w fun e w' => e = .returned (.agg (bvs (keys key))) ∧ Below w.heap.size w w' := by
  have hbl := boxTab_length
  go_enter Try.func32, Try.ntmps32
  go_wp2_with fail
  refine (rboxes_any _).mono ?_
  rintro e w1 ⟨rfl, hb1⟩
  have z1 := hb1.size
  simp at z1
  have r0 : row? w1 w.heap.size = some (bvs key) := by rw [row?_below hb1 (by first | omega | (simp; done) | (simp; omega))]; simp [go_sem]
  have r1 : row? w1 (w.heap.size + 1) = some (bvs (zeros 176)) := by rw [row?_below hb1 (by first | omega | (simp; done) | (simp; omega))]; simp [go_sem]
  have b1 : Below w.heap.size w w1 := (bel2 _ _ _).trans (hb1.mono (by first | omega | (simp; done) | (simp; omega)))
  clear hb1
  have l0 : w.heap.size < w1.heap.size := by omega
  have l1 : w.heap.size + 1 < w1.heap.size := by omega
  have l0' : w.heap.size < w1.heap.size + 1 := by omega
  have l1' : w.heap.size + 1 < w1.heap.size + 1 := by omega
  go_wp2_with fail
  go_loopw [5, 6] (fun r v wr => ∃ m : Nat, m ≤ 10 ∧ v = .int .i64 (m + 1 : Nat) ∧ r = .int .u8 (n8 (rcon m) : Nat) ∧ row? wr (w.heap.size + 1) = some (bvs (zeros 176)) ∧ row? wr w1.heap.size = some (bvs boxTab) ∧ row? wr (w1.heap.size + 1) = some (bvs (upto (keyF key) (zeros 176) 176 (16 * (m + 1)))) ∧ w1.heap.size + 2 ≤ wr.heap.size ∧ Below w.heap.size w wr) (fun _ v _ => 16 - (intOf v).toNat)
  case atStart =>
    refine ⟨0, by omega, rfl, rfl, ?_, ?_, ?_, by simp, ?_⟩
    · rw [row?_alloc_past _ _ _ (by first | omega | (simp; done) | (simp; omega)), row?_alloc_past _ _ _ (by first | omega | (simp; done) | (simp; omega))]; exact r1
    · rw [row?_alloc_past _ _ _ (by first | omega | (simp; done) | (simp; omega)), row?_alloc_at _ _ _ _ (by first | omega | (simp; done) | (simp; omega))]
    · rw [row?_alloc_at _ _ _ _ (by first | omega | (simp; done) | (simp; omega))]
      exact congrArg (fun l => some (bvs l)) (keys_start key hk)
    · exact (b1.alloc (by omega) _).alloc (by first | omega | (simp; done) | (simp; omega)) _
  case round =>
    obtain ⟨m, hm, rfl, rfl, h1, h3, h2, hwo, hb⟩ := hrel
    clear r0 r1 b1
    obtain ⟨wo, rfl⟩ : ∃ wo : World, wo = wr := ⟨_, rfl⟩
    by_cases hlt : m < 10
    · have hp : (loadAgg 22 (.pointer (some ⟨w1.heap.size + 1, m * 16, none⟩))).run Try.prog wo = .ok (.agg (bvs (rowKey key m))) wo := by
        unfold loadAgg
        rw [run_loadAt_part Ag16 h2 (by rw [bvs_size, upto_length]; omega)]
        rw [bvs_mid _ _ _ m (by omega) (by omega) (rowKey key m) (rowKey_length key hk m) (fun i hi => keyF_at key m i hi)]
      have hl := rowKey_length key hk m
      have H1 := Lib.hid h1
      have H2 := Lib.hid h2
      have H3 := Lib.hid h3
      have c3 := row?_cell h3
      have q1 : w1.heap.size < wo.heap.size := by omega
      have q2 : w1.heap.size + 1 < wo.heap.size := by omega
      have x12 := n8_lt (nth (rowKey key m) 12)
      have x13 := n8_lt (nth (rowKey key m) 13)
      have x14 := n8_lt (nth (rowKey key m) 14)
      have x15 := n8_lt (nth (rowKey key m) 15)
      clear h1 h2 h3
      have hT : #[Value.int .u8 (n8 (box (nth (rowKey key m) 13) ^^^ rcon m) : Nat), Value.int .u8 (n8 (box (nth (rowKey key m) 14)) : Nat), Value.int .u8 (n8 (box (nth (rowKey key m) 15)) : Nat), Value.int .u8 (n8 (box (nth (rowKey key m) 12)) : Nat)] = bvs (tOf key m) := rfl
      have hTl := tOf_length key m
      have bx (b : UInt8) : nth boxTab (n8 b) = box b := rfl
      go_wp2_with fail
      refine Rg.wp_region_plan (Rg.row [(0, 3), (1, 0), (2, 3), (3, 0), (4, 3), (5, 3), (6, 3), (7, 0), (8, 3), (9, 0), (10, 3), (11, 0), (12, 3), (13, 0), (14, 3), (15, 0), (16, 3), (17, 0), (18, 3), (19, 1)] [20]) [20] (by kernel_rfl) (by kernel_rfl) ?_
      simp only [Rg.row, Rg.PT.map, List.map_cons, List.map_nil, List.getD_cons_zero, List.getD_cons_succ]
      go_wp2_with (first
        | ((with_reducible refine Rg.plan_pure ?_ ?_ ?_); kernel_rfl; kernel_rfl; intro _ _)
        | ((with_reducible refine Rg.plan_take ?_ ?_ ?_); kernel_rfl; kernel_rfl; intro _ _)
        | ((with_reducible refine Rg.plan_keep ?_ ?_); kernel_rfl; intro K hK)
        | (refine hK _ _ (Rg.Keep.refl _) ?_; clear hK)
        | (refine hK _ _ (Rg.Keep.of_below (by assumption)) ?_; clear hK)
        | ((with_reducible refine Rg.plan_skip ?_ ?_); kernel_rfl)
        | (with_reducible refine Rg.plan_done ?_)
        | (with_reducible refine Rg.calm_normal ?_))
      refine hK _ _ (Rg.Keep.of_below ((Below.refl _ _).alloc (Nat.le_refl _) _)) ?_
      clear hK
      go_wp2_with (first
        | ((with_reducible refine Rg.plan_pure ?_ ?_ ?_); kernel_rfl; kernel_rfl; intro _ _)
        | ((with_reducible refine Rg.plan_take ?_ ?_ ?_); kernel_rfl; kernel_rfl; intro _ _)
        | ((with_reducible refine Rg.plan_keep ?_ ?_); kernel_rfl; intro K hK)
        | (refine hK _ _ (Rg.Keep.refl _) ?_; clear hK)
        | (refine hK _ _ (Rg.Keep.of_below (by assumption)) ?_; clear hK)
        | ((with_reducible refine Rg.plan_skip ?_ ?_); kernel_rfl)
        | (with_reducible refine Rg.plan_done ?_)
        | (with_reducible refine Rg.calm_normal ?_))
      go_loopw [9] (fun v wi => ∃ i : Nat, i ≤ 16 ∧ v = .int .i64 i ∧ row? wi (w.heap.size + 1) = some (bvs (zeros 176)) ∧ row? wi w1.heap.size = some (bvs boxTab) ∧ row? wi (w1.heap.size + 1) = some (bvs (upto (keyF key) (zeros 176) 176 ((m + 1) * 16 + i))) ∧ row? wi wo.heap.size = some (bvs (rowKey key m)) ∧ row? wi (wo.heap.size + 1) = some (bvs (tOf key m)) ∧ Below w.heap.size w wi) (fun v _ => 16 - (intOf v).toNat)
      case atStart =>
        refine ⟨0, by omega, rfl, ?_, ?_, ?_, ?_, ?_, ?_⟩
        · rw [row?_drew, row?_alloc_past _ _ _ (by first | omega | (simp; done) | (simp; omega)), row?_alloc_past _ _ _ (by first | omega | (simp; done) | (simp; omega))]; exact H1.out
        · rw [row?_drew, row?_alloc_past _ _ _ (by first | omega | (simp; done) | (simp; omega)), row?_alloc_past _ _ _ (by first | omega | (simp; done) | (simp; omega))]; exact H3.out
        · rw [row?_drew, row?_alloc_past _ _ _ (by first | omega | (simp; done) | (simp; omega)), row?_alloc_past _ _ _ (by first | omega | (simp; done) | (simp; omega)), H2.out, show 16 * (m + 1) = (m + 1) * 16 + 0 by omega]
        · rw [row?_drew, row?_alloc_past _ _ _ (by first | omega | (simp; done) | (simp; omega)), row?_alloc_at _ _ _ _ (by first | omega | (simp; done) | (simp; omega))]
        · rw [row?_drew, row?_alloc_at _ _ _ _ (by first | omega | (simp; done) | (simp; omega))]
        · exact ((hb.alloc (by omega) _).alloc (by first | omega | (simp; done) | (simp; omega)) _).drew
      case round =>
        obtain ⟨i, hi, rfl, h1, h3, h2, h4, h5, hb⟩ := hrel
        clear c3
        have I1 := Lib.hid h1
        have I2 := Lib.hid h2
        have I3 := Lib.hid h3
        have I4 := Lib.hid h4
        have I5 := Lib.hid h5
        by_cases h16 : i < 16
        · have c2 := row?_cell h2
          have f2 := row?_frozen h2
          have c4 := row?_cell h4
          have c5 := row?_cell h5
          clear h1 h2 h3 h4 h5
          by_cases h4i : i < 4
          · have G := Lib.hid (tOf_set key m i hlt h4i)
            go_wp2_with fail
            refine Rg.wp_region_plan (Rg.row [(0, 3), (1, 3), (2, 3), (3, 3), (4, 0), (5, 3), (6, 3), (7, 0), (8, 3), (9, 3), (10, 3)] [11]) [11] (by kernel_rfl) (by kernel_rfl) ?_
            simp only [Rg.row, Rg.PT.map, List.map_cons, List.map_nil, List.getD_cons_zero, List.getD_cons_succ]
            go_wp2_with (first
              | ((with_reducible refine Rg.plan_pure ?_ ?_ ?_); kernel_rfl; kernel_rfl; intro _ _)
              | ((with_reducible refine Rg.plan_take ?_ ?_ ?_); kernel_rfl; kernel_rfl; intro _ _)
              | ((with_reducible refine Rg.plan_keep ?_ ?_); kernel_rfl; intro K hK)
              | (refine hK _ _ (Rg.Keep.refl _) ?_; clear hK)
              | (refine hK _ _ (Rg.Keep.of_below (by assumption)) ?_; clear hK)
              | ((with_reducible refine Rg.plan_skip ?_ ?_); kernel_rfl)
              | (with_reducible refine Rg.plan_done ?_)
              | (with_reducible refine Rg.calm_normal ?_))
            go_roundw
            case rel =>
              refine ⟨i + 1, by omega, by go_num, ?_, ?_, ?_, ?_, ?_, (hb.setCell (by first | omega | (simp; done) | (simp; omega)) _).drew⟩
              · rw [row?_drew, row?_setCell_ne _ _ _ _ (by first | omega | (simp; done) | (simp; omega))]; exact I1.out
              · rw [row?_drew, row?_setCell_ne _ _ _ _ (by first | omega | (simp; done) | (simp; omega))]; exact I3.out
              · rw [row?_drew, row?_setCell_eq I2.out, bvs_setn]; exact congrArg (fun l => some (bvs l)) G.out
              · rw [row?_drew, row?_setCell_ne _ _ _ _ (by first | omega | (simp; done) | (simp; omega))]; exact I4.out
              · rw [row?_drew, row?_setCell_ne _ _ _ _ (by first | omega | (simp; done) | (simp; omega))]; exact I5.out
            case measure => simp [intOf]; omega
          · have G := Lib.hid (keyF_set key m i hlt (by omega) h16)
            go_wp2_with fail
            refine Rg.wp_region_plan (Rg.row [(0, 3), (1, 3), (2, 3), (3, 3), (4, 0), (5, 3), (6, 3), (7, 3), (8, 3), (9, 3), (10, 0), (11, 3), (12, 3), (13, 3)] [14]) [14] (by kernel_rfl) (by kernel_rfl) ?_
            simp only [Rg.row, Rg.PT.map, List.map_cons, List.map_nil, List.getD_cons_zero, List.getD_cons_succ]
            go_wp2_with (first
              | ((with_reducible refine Rg.plan_pure ?_ ?_ ?_); kernel_rfl; kernel_rfl; intro _ _)
              | ((with_reducible refine Rg.plan_take ?_ ?_ ?_); kernel_rfl; kernel_rfl; intro _ _)
              | ((with_reducible refine Rg.plan_keep ?_ ?_); kernel_rfl; intro K hK)
              | (refine hK _ _ (Rg.Keep.refl _) ?_; clear hK)
              | (refine hK _ _ (Rg.Keep.of_below (by assumption)) ?_; clear hK)
              | ((with_reducible refine Rg.plan_skip ?_ ?_); kernel_rfl)
              | (with_reducible refine Rg.plan_done ?_)
              | (with_reducible refine Rg.calm_normal ?_))
            go_roundw
            case rel =>
              refine ⟨i + 1, by omega, by go_num, ?_, ?_, ?_, ?_, ?_, (hb.setCell (by first | omega | (simp; done) | (simp; omega)) _).drew⟩
              · rw [row?_drew, row?_setCell_ne _ _ _ _ (by first | omega | (simp; done) | (simp; omega))]; exact I1.out
              · rw [row?_drew, row?_setCell_ne _ _ _ _ (by first | omega | (simp; done) | (simp; omega))]; exact I3.out
              · rw [row?_drew, row?_setCell_eq I2.out, bvs_setn]; exact congrArg (fun l => some (bvs l)) G.out
              · rw [row?_drew, row?_setCell_ne _ _ _ _ (by first | omega | (simp; done) | (simp; omega))]; exact I4.out
              · rw [row?_drew, row?_setCell_ne _ _ _ _ (by first | omega | (simp; done) | (simp; omega))]; exact I5.out
            case measure => simp [intOf]; omega
        · obtain rfl : i = 16 := by omega
          have q4 := row?_lt h4
          clear h1 h2 h3 h4 h5
          go_wp2_with (go_at_call 40; refine (rdouble_any _ _).mono ?_; rintro e w' ⟨rfl, rfl⟩)
          go_roundw
          case rel => exact ⟨m + 1, by omega, by go_num, rfl, I1.out, I3.out, by rw [I2.out, show 16 * (m + 1 + 1) = (m + 1) * 16 + 16 by omega], by omega, hb⟩
          case measure => simp [intOf]; omega
    · obtain rfl : m = 10 := by omega
      rw [show 16 * (10 + 1) = 176 by omega, upto_full] at h2
      have h2 : row? wo (w1.heap.size + 1) = some (bvs (keys key)) := h2
      have hkl := keys_length key
      go_wp2_with fail
      refine ret176 (w.heap.size + 1) (bvs (keys key)) rfl rfl rfl (row?_setRow_eq h1) (by rw [bvs_size]; exact keys_length _) ⟨rfl, ?_⟩
      exact below_setRow hb (by omega) _
end Go.Proofs.Ytdfblojnkchpdaa
