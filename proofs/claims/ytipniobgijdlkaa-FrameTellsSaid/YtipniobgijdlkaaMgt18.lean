/- FrmQ5; FrmPutR. -/
import Derived.Test.YtipniobgijdlkaaMgtFrmRM
import Derived.Test.YtipniobgijdlkaaMgt9
import Derived.Test.YtipniobgijdlkaaMgt5
import Derived.Test.YtipniobgijdlkaaMgtVarR2
import Derived.Test.YtipniobgijdlkaaMgtFrmK
import Derived.Test.YtipniobgijdlkaaMgtFrmQ1
import Derived.Test.YtipniobgijdlkaaMgtFrmQ2
import Derived.Test.YtipniobgijdlkaaMgtFrmQ3
import Derived.Test.YtipniobgijdlkaaMgtFrmQ4
section
/- The walks of mantillaref7's Put at frames that may be: an Ack. -/
namespace Go.Proofs.Ytipniobgijdlkaa
open Go.RowKit Go.Rw Frm Hdr
attribute [local go_sem ↓] ldFF stFF alFF
attribute [local go_sem] rldFF rstFF ralFF setRow_alloc_at setRow_alloc_past setRow_drew
set_option maxRecDepth 400000 in
set_option maxHeartbeats 2000000 in
theorem frput_2 (n d : Nat) (rs : List (Nat × Nat)) (i o : Nat) (fin : Bool) (dat cid tok : List UInt8) (ar ad ac at_ : Option Addr) (er ed ec et : Nat) (hrl : rs.length ≤ 1000000) (hm : mayB 2 n d rs.length (rsOk rs) i o fin dat.length cid.length tok.length = true) (w : World) (hr : Sr w (.slice ar rs.length er) rs) (hd : Sl w (.slice ad dat.length ed) dat) (hc : Sl w (.slice ac cid.length ec) cid) (ht : Sl w (.slice at_ tok.length et) tok) :
    Calls Try.prog 16 #[.agg (fvA 2 n d (.slice ar rs.length er) i o fin (.slice ad dat.length ed) (.slice ac cid.length ec) (.slice at_ tok.length et))] w fun e w' => ∃ v', e = .returned v' ∧ w'.ownsRow (w.heap.size + 1) 5 1 v' (Fr.put ⟨2, n, d, rs, i, o, fin, dat, cid, tok⟩).length ((Fr.put ⟨2, n, d, rs, i, o, fin, dat, cid, tok⟩).map bv) ∧ Below w.heap.size w w' := by
  obtain ⟨i0, hi0, hz0, hz1, hz2⟩ := info_parts info8
  have hm2 := hm
  have hpl : (decide (d ≤ 4611686018427387903) && rsOk rs && plainB n 0 0 i o fin dat.length cid.length tok.length) = true := hm2
  rw [Bool.and_eq_true, Bool.and_eq_true, decide_eq_true_eq] at hpl
  have hk := hpl.1.1
  have hok := hpl.1.2
  have h8 := rsOk_le hok
  have h1 := rsOk_pos hok
  have r0 := rsOk_at hok (k := 0) (by omega)
  obtain ⟨ao, er', e0, hce, -, hp⟩ := id hr
  cases e0
  obtain ⟨b, off, har, hcell⟩ := hp (by omega)
  have hw1 : IntKind.u64.wrap ((rs.length : Int) - 1) = ((rs.length - 1 : Nat) : Int) := by simp only [IntKind.wrap_u64]; omega
  have hw2 : IntKind.u64.wrap ((rhi rs 0 : Int) - (rlo rs 0 : Int)) = ((rhi rs 0 - rlo rs 0 : Nat) : Int) := by simp only [IntKind.wrap_u64]; omega
  have hd' : d < 4611686018427387904 := by omega
  have HCL := Lib.hid hcell
  have HOK := Lib.hid hok
  have HW := Lib.hid (And.intro hw1 hw2)
  have hmay := fun W hs' => frmay_any 2 n d i o fin ar ad ac at_ rs.length dat.length cid.length tok.length er ed ec et rs hrl W hs'
  rw [hm2] at hmay
  have fc := fun (W : World) (b : Nat) (h : row? W b = some (fvA 2 n d (.slice ar rs.length er) i o fin (.slice ad dat.length ed) (.slice ac cid.length ec) (.slice at_ tok.length et))) => fv_cells h
  have hz : (fvA 2 n d (.slice ar rs.length er) i o fin (.slice ad dat.length ed) (.slice ac cid.length ec) (.slice at_ tok.length et)).size = 10 := rfl
  generalize fvA 2 n d (.slice ar rs.length er) i o fin (.slice ad dat.length ed) (.slice ac cid.length ec) (.slice at_ tok.length et) = F at *
  have P0 : PS w F (w.alloc (.cells F 28)) := ⟨row?_alloc_at _ _ _ _ rfl, (Below.refl _ _).alloc (Nat.le_refl _) _⟩
  have lf := rldFF (w.alloc (.cells F 28)) w.heap.size (by rw [P0.row, Option.map_some, hz])
  rw [P0.row] at lf
  have lf' : (loadAgg 28 (.pointer (some ⟨w.heap.size, 0, none⟩))).run Try.prog (w.alloc (.cells F 28)) = .ok (.agg F) (w.alloc (.cells F 28)) := lf
  have HMAY := Lib.hid hmay
  have FC := Lib.hid fc
  have HR := Lib.hid hr
  have HD := Lib.hid hd
  have HC := Lib.hid hc
  have HT := Lib.hid ht
  have Q0 := Lib.hid P0
  clear hmay fc lf hm hm2 P0 hr hd hc ht hpl hk hp hcell hok hw1 hw2
  subst har
  go_enter Try.func16, Try.ntmps16
  go_wp2_with fail
  refine (HMAY.out _ (HR.out.below Q0.out.bel)).mono ?_
  rintro e w1 ⟨rfl, b1⟩
  have Q1 := Lib.hid (Q0.out.step b1)
  obtain ⟨c0, c1, c2, c3, c4, c5, c6, c7, c8, c9⟩ := FC.out _ _ Q1.out.row
  have hlt1 := row?_lt Q1.out.row
  clear b1 lf' Q0
  obtain ⟨q2, hq2⟩ : ∃ q2 : List UInt8, [2] = q2 := ⟨_, rfl⟩
  have kq2 : q2.length ≤ 1 := by rw [← hq2]; decide
  have o2 : (w1.alloc (.cells #[.int .u8 2] 5)).ownsRow (w.heap.size + 1) 5 1 (.slice (some ⟨w1.heap.size, 0, none⟩) 1 1) q2.length (q2.map bv) := by
    rw [← hq2]
    exact World.ownsRow_lit (base := w.heap.size + 1) (e := 5) (size := 1) w1 #[.int .u8 2] 1 Q1.out.size (by decide) rfl
  have O2 := Lib.hid o2
  have Hq2 := Lib.hid hq2
  have Q2 := Lib.hid (Q1.out.step ((Below.refl w1.heap.size w1).alloc (Nat.le_refl _) (.cells #[.int .u8 2] 5)))
  clear o2 hq2
  have x1 := below_cell Q2.out.bel (HCL.out 0 (by omega)).1 (cell_lt (HCL.out 0 (by omega)).1)
  have x2 := below_cell Q2.out.bel (HCL.out 0 (by omega)).2 (cell_lt (HCL.out 0 (by omega)).2)
  rw [Nat.zero_mul, Nat.add_zero] at x1 x2
  go_wp2_with fail
  refine (rput_any q2 (rhi rs 0) (by omega) (by omega) _ _ (Own.sl O2.out)).mono ?_
  rintro e w3 ⟨v3, rfl, o3, b3⟩
  obtain ⟨q3, hq3⟩ : ∃ q3, q2 ++ vin (rhi rs 0) (vlen (rhi rs 0)) = q3 := ⟨_, rfl⟩
  have kq3 : q3.length ≤ 9 := by rw [← hq3]; simp only [List.length_append, vin_length]; have := vlen_le (rhi rs 0); omega
  rw [hq3] at o3
  have Hq3 := Lib.hid hq3
  have O3 := Lib.hid (own_lower o3 Q2.out.size)
  have Q3 := Lib.hid (Q2.out.step b3)
  obtain ⟨a3, x3, rfl, -, -, -⟩ := id (Own.sl o3)
  clear b3 o3 hq3 Q2 O2
  clear c0 c1 c2 c3 c4 c5 c6 c7 c8 c9
  obtain ⟨c0, c1, c2, c3, c4, c5, c6, c7, c8, c9⟩ := FC.out _ _ Q3.out.row
  clear x1 x2
  go_wp2_with fail
  refine (rput_any q3 d (by omega) (by omega) _ _ (Own.sl O3.out)).mono ?_
  rintro e w4 ⟨v4, rfl, o4, b4⟩
  obtain ⟨q4, hq4⟩ : ∃ q4, q3 ++ vin d (vlen d) = q4 := ⟨_, rfl⟩
  have kq4 : q4.length ≤ 17 := by rw [← hq4]; simp only [List.length_append, vin_length]; have := vlen_le d; omega
  rw [hq4] at o4
  have Hq4 := Lib.hid hq4
  have O4 := Lib.hid (own_lower o4 Q3.out.size)
  have Q4 := Lib.hid (Q3.out.step b4)
  obtain ⟨a4, x4, rfl, -, -, -⟩ := id (Own.sl o4)
  clear b4 o4 hq4 Q3 O3
  clear c0 c1 c2 c3 c4 c5 c6 c7 c8 c9
  obtain ⟨c0, c1, c2, c3, c4, c5, c6, c7, c8, c9⟩ := FC.out _ _ Q4.out.row
  obtain ⟨hw1, hw2⟩ := HW.out
  go_wp2_with fail
  refine (rput_any q4 (rs.length - 1) (by omega) (by omega) _ _ (Own.sl O4.out)).mono ?_
  rintro e w5 ⟨v5, rfl, o5, b5⟩
  obtain ⟨q5, hq5⟩ : ∃ q5, q4 ++ vin (rs.length - 1) (vlen (rs.length - 1)) = q5 := ⟨_, rfl⟩
  have kq5 : q5.length ≤ 25 := by rw [← hq5]; simp only [List.length_append, vin_length]; have := vlen_le (rs.length - 1); omega
  rw [hq5] at o5
  have Hq5 := Lib.hid hq5
  have O5 := Lib.hid (own_lower o5 Q4.out.size)
  have Q5 := Lib.hid (Q4.out.step b5)
  obtain ⟨a5, x5, rfl, -, -, -⟩ := id (Own.sl o5)
  clear b5 o5 hq5 Q4 O4
  clear c0 c1 c2 c3 c4 c5 c6 c7 c8 c9
  obtain ⟨c0, c1, c2, c3, c4, c5, c6, c7, c8, c9⟩ := FC.out _ _ Q5.out.row
  have x1 := below_cell Q5.out.bel (HCL.out 0 (by omega)).1 (cell_lt (HCL.out 0 (by omega)).1)
  have x2 := below_cell Q5.out.bel (HCL.out 0 (by omega)).2 (cell_lt (HCL.out 0 (by omega)).2)
  rw [Nat.zero_mul, Nat.add_zero] at x1 x2
  go_wp2_with fail
  refine Rg.wp_region_plan (Rg.row [(0, 3), (1, 3), (2, 3), (3, 3), (4, 0), (5, 3), (6, 3), (7, 3), (8, 0), (9, 3), (10, 1), (11, 3)] []) [] (by kernel_rfl) (by kernel_rfl) ?_
  simp only [Rg.row, Rg.PT.map, List.map_nil, List.getD_cons_zero, List.getD_cons_succ]
  go_wp2_with (first
    | ((with_reducible refine Rg.plan_pure ?_ ?_ ?_); kernel_rfl; kernel_rfl; intro _ _)
    | ((with_reducible refine Rg.plan_take ?_ ?_ ?_); kernel_rfl; kernel_rfl; intro _ _)
    | ((with_reducible refine Rg.plan_keep ?_ ?_); kernel_rfl; intro K hK)
    | (refine hK _ _ (Rg.Keep.refl _) ?_; clear hK)
    | (refine hK _ _ (Rg.Keep.of_below (by assumption)) ?_; clear hK)
    | ((with_reducible refine Rg.plan_skip ?_ ?_); kernel_rfl)
    | (with_reducible refine Rg.plan_done ?_)
    | (with_reducible refine Rg.calm_normal ?_))
  refine (rput_any q5 (rhi rs 0 - rlo rs 0) (by omega) (by omega) _ _ (Own.sl O5.out.drew)).mono ?_
  rintro e w6 ⟨v6, rfl, o6, b6⟩
  refine hK _ _ (Rg.Keep.of_below b6) ?_
  clear hK
  obtain ⟨q6, hq6⟩ : ∃ q6, q5 ++ vin (rhi rs 0 - rlo rs 0) (vlen (rhi rs 0 - rlo rs 0)) = q6 := ⟨_, rfl⟩
  have kq6 : q6.length ≤ 33 := by rw [← hq6]; simp only [List.length_append, vin_length]; have := vlen_le (rhi rs 0 - rlo rs 0); omega
  rw [hq6] at o6
  have Hq6 := Lib.hid hq6
  have O6 := Lib.hid (own_lower o6 Q5.out.drew.size)
  have Q6 := Lib.hid (Q5.out.drew.step b6)
  obtain ⟨a6, x6, rfl, -, -, -⟩ := id (Own.sl o6)
  clear b6 o6 hq6 Q5 O5
  clear c0 c1 c2 c3 c4 c5 c6 c7 c8 c9
  obtain ⟨c0, c1, c2, c3, c4, c5, c6, c7, c8, c9⟩ := FC.out _ _ Q6.out.row
  clear x1 x2 hw1 hw2 HW
  obtain ⟨q, hq⟩ : ∃ q, q6 = q := ⟨_, rfl⟩
  have Hq := Lib.hid (show q = [2] ++ ackB d rs by rw [← hq, ← Hq6.out, ← Hq5.out, ← Hq4.out, ← Hq3.out, ← Hq2.out]; unfold ackB vP; simp only [List.append_assoc])
  subst hq
  clear Hq2 Hq3 Hq4 Hq5 Hq6
  go_wp2_with (first
    | ((with_reducible refine Rg.plan_pure ?_ ?_ ?_); kernel_rfl; kernel_rfl; intro _ _)
    | ((with_reducible refine Rg.plan_take ?_ ?_ ?_); kernel_rfl; kernel_rfl; intro _ _)
    | ((with_reducible refine Rg.plan_keep ?_ ?_); kernel_rfl; intro K hK)
    | (refine hK _ _ (Rg.Keep.refl _) ?_; clear hK)
    | (refine hK _ _ (Rg.Keep.of_below (by assumption)) ?_; clear hK)
    | ((with_reducible refine Rg.plan_skip ?_ ?_); kernel_rfl)
    | (with_reducible refine Rg.plan_done ?_)
    | (with_reducible refine Rg.calm_normal ?_))
  go_loopw [3, 5] (fun vb vi wr => ∃ j : Nat, 1 ≤ j ∧ j ≤ rs.length ∧ vi = .int .i64 j ∧ wr.ownsRow (w.heap.size + 1) 5 1 vb (q6 ++ ackR rs (j - 1)).length ((q6 ++ ackR rs (j - 1)).map bv) ∧ PS w F wr) (fun _ vi _ => rs.length - (intOf vi).toNat)
  case atStart =>
    refine ⟨1, by omega, by omega, rfl, ?_, Q6.out⟩
    have e : q6 ++ ackR rs (1 - 1) = q6 := by simp [ackR]
    rw [e]
    exact O6.out
  case round =>
    obtain ⟨j, hj1, hj, rfl, how, hps⟩ := hrel
    obtain ⟨p, hp⟩ : ∃ p, q6 ++ ackR rs (j - 1) = p := ⟨_, rfl⟩
    rw [hp] at how
    have kp : p.length ≤ 300 := by
      rw [← hp, List.length_append]
      have := ackR_len rs (j - 1)
      omega
    have Hp := Lib.hid hp
    have O7 := Lib.hid how
    have P7 := Lib.hid hps
    obtain ⟨ab7, eb7, rfl, -, -, -⟩ := id (Own.sl how)
    clear hp how hps c0 c1 c2 c3 c4 c5 c6 c7 c8 c9 O6 Q6
    by_cases hlt : j < rs.length
    · have hgg := rsOk_gap HOK.out (k := j - 1) (by omega)
      have h7 := rsOk_at HOK.out (k := j - 1) (by omega)
      have h9 := rsOk_at HOK.out (k := j) (by omega)
      rw [show j - 1 + 1 = j by omega] at hgg
      have hw3 : IntKind.u64.wrap ((rlo rs (j - 1) : Int) - (rhi rs j : Int)) = ((rlo rs (j - 1) - rhi rs j : Nat) : Int) := by simp only [IntKind.wrap_u64]; omega
      have hw4 : IntKind.u64.wrap (((rlo rs (j - 1) - rhi rs j : Nat) : Int) - 2) = ((rlo rs (j - 1) - rhi rs j - 2 : Nat) : Int) := by simp only [IntKind.wrap_u64]; omega
      have hw5 : IntKind.u64.wrap ((rhi rs j : Int) - (rlo rs j : Int)) = ((rhi rs j - rlo rs j : Nat) : Int) := by simp only [IntKind.wrap_u64]; omega
      have hc1 := HCL.out j (by omega)
      have hc0 := HCL.out (j - 1) (by omega)
      have y1 := below_cell P7.out.bel hc1.1 (cell_lt hc1.1)
      have y2 := below_cell P7.out.bel hc1.2 (cell_lt hc1.2)
      have x1 := below_cell P7.out.bel hc0.1 (cell_lt hc0.1)
      have hbl := cell_lt x1
      have HWW := Lib.hid (And.intro hw3 (And.intro hw4 hw5))
      have HB := Lib.hid (And.intro hgg (And.intro h7 h9))
      have hj0 : 0 < j := by omega
      clear hc1 hc0 hw3 hw4 hw5 hgg h7 h9
      go_wp2_with fail
      obtain ⟨hw3, hw4, hw5⟩ := HWW.out
      refine Rg.wp_region_plan (Rg.row [(0, 3), (1, 3), (2, 3), (3, 3), (4, 3), (5, 3), (6, 0), (7, 3), (8, 3), (9, 3), (10, 3), (11, 0), (12, 3), (13, 3), (14, 1), (15, 3)] []) [] (by kernel_rfl) (by kernel_rfl) ?_
      simp only [Rg.row, Rg.PT.map, List.map_nil, List.getD_cons_zero, List.getD_cons_succ]
      go_wp2_with (first
        | ((with_reducible refine Rg.plan_pure ?_ ?_ ?_); kernel_rfl; kernel_rfl; intro _ _)
        | ((with_reducible refine Rg.plan_take ?_ ?_ ?_); kernel_rfl; kernel_rfl; intro _ _)
        | ((with_reducible refine Rg.plan_keep ?_ ?_); kernel_rfl; intro K hK)
        | (refine hK _ _ (Rg.Keep.refl _) ?_; clear hK)
        | (refine hK _ _ (Rg.Keep.of_below (by assumption)) ?_; clear hK)
        | ((with_reducible refine Rg.plan_skip ?_ ?_); kernel_rfl)
        | (with_reducible refine Rg.plan_done ?_)
        | (with_reducible refine Rg.calm_normal ?_))
      refine (rput_any p (rlo rs (j - 1) - rhi rs j - 2) (by omega) (by have := HB.out; omega) _ _ (Own.sl O7.out.drew)).mono ?_
      rintro e w8 ⟨v8, rfl, o8, b8⟩
      refine hK _ _ (Rg.Keep.of_below b8) ?_
      obtain ⟨p8, hp8⟩ : ∃ p8, p ++ vin (rlo rs (j - 1) - rhi rs j - 2) (vlen (rlo rs (j - 1) - rhi rs j - 2)) = p8 := ⟨_, rfl⟩
      have kp8 : p8.length ≤ 308 := by rw [← hp8]; simp only [List.length_append, vin_length]; have := vlen_le (rlo rs (j - 1) - rhi rs j - 2); omega
      rw [hp8] at o8
      have Hp8 := Lib.hid hp8
      have O8 := Lib.hid (own_lower o8 P7.out.drew.size)
      have P8 := Lib.hid (P7.out.drew.step b8)
      obtain ⟨a8, x8, rfl, -, -, -⟩ := id (Own.sl o8)
      clear hK b8 o8 hp8 x1 y1 y2 hbl hw3 hw4 hw5 P7 O7
      go_wp2_with (first
        | ((with_reducible refine Rg.plan_pure ?_ ?_ ?_); kernel_rfl; kernel_rfl; intro _ _)
        | ((with_reducible refine Rg.plan_take ?_ ?_ ?_); kernel_rfl; kernel_rfl; intro _ _)
        | ((with_reducible refine Rg.plan_keep ?_ ?_); kernel_rfl; intro K hK)
        | (refine hK _ _ (Rg.Keep.refl _) ?_; clear hK)
        | (refine hK _ _ (Rg.Keep.of_below (by assumption)) ?_; clear hK)
        | ((with_reducible refine Rg.plan_skip ?_ ?_); kernel_rfl)
        | (with_reducible refine Rg.plan_done ?_)
        | (with_reducible refine Rg.calm_normal ?_))
      have hc1 := HCL.out j (by omega)
      have y1 := below_cell P8.out.bel hc1.1 (cell_lt hc1.1)
      have y2 := below_cell P8.out.bel hc1.2 (cell_lt hc1.2)
      obtain ⟨hw3, hw4, hw5⟩ := HWW.out
      clear hc1
      refine Rg.wp_region_plan (Rg.row [(0, 3), (1, 3), (2, 3), (3, 3), (4, 3), (5, 0), (6, 3), (7, 3), (8, 3), (9, 3), (10, 0), (11, 3), (12, 1), (13, 3)] []) [] (by kernel_rfl) (by kernel_rfl) ?_
      simp only [Rg.row, Rg.PT.map, List.map_nil, List.getD_cons_zero, List.getD_cons_succ]
      go_wp2_with (first
        | ((with_reducible refine Rg.plan_pure ?_ ?_ ?_); kernel_rfl; kernel_rfl; intro _ _)
        | ((with_reducible refine Rg.plan_take ?_ ?_ ?_); kernel_rfl; kernel_rfl; intro _ _)
        | ((with_reducible refine Rg.plan_keep ?_ ?_); kernel_rfl; intro K hK)
        | (refine hK _ _ (Rg.Keep.refl _) ?_; clear hK)
        | (refine hK _ _ (Rg.Keep.of_below (by assumption)) ?_; clear hK)
        | ((with_reducible refine Rg.plan_skip ?_ ?_); kernel_rfl)
        | (with_reducible refine Rg.plan_done ?_)
        | (with_reducible refine Rg.calm_normal ?_))
      refine (rput_any p8 (rhi rs j - rlo rs j) (by omega) (by have := HB.out; omega) _ _ (Own.sl O8.out.drew)).mono ?_
      rintro e w9 ⟨v9, rfl, o9, b9⟩
      refine hK _ _ (Rg.Keep.of_below b9) ?_
      obtain ⟨p9, hp9⟩ : ∃ p9, p8 ++ vin (rhi rs j - rlo rs j) (vlen (rhi rs j - rlo rs j)) = p9 := ⟨_, rfl⟩
      rw [hp9] at o9
      have Hp9 := Lib.hid (show p9 = q6 ++ ackR rs (j + 1 - 1) by
        have e1 : ackG rs (j - 1) = vP (rlo rs (j - 1) - rhi rs j - 2) ++ vP (rhi rs j - rlo rs j) := by unfold ackG; rw [show j - 1 + 1 = j by omega]
        rw [show j + 1 - 1 = (j - 1) + 1 by omega, ackR_succ, e1, ← hp9, ← Hp8.out, ← Hp.out]; unfold vP; simp only [List.append_assoc])
      have O9 := Lib.hid (own_lower o9 P8.out.drew.size)
      have P9 := Lib.hid (P8.out.drew.step b9)
      obtain ⟨a9, x9, rfl, -, -, -⟩ := id (Own.sl o9)
      clear hK b9 o9 hp9 P8 O8 y1 y2 hw3 hw4 hw5
      go_wp2_with (first
        | ((with_reducible refine Rg.plan_pure ?_ ?_ ?_); kernel_rfl; kernel_rfl; intro _ _)
        | ((with_reducible refine Rg.plan_take ?_ ?_ ?_); kernel_rfl; kernel_rfl; intro _ _)
        | ((with_reducible refine Rg.plan_keep ?_ ?_); kernel_rfl; intro K hK)
        | (refine hK _ _ (Rg.Keep.refl _) ?_; clear hK)
        | (refine hK _ _ (Rg.Keep.of_below (by assumption)) ?_; clear hK)
        | ((with_reducible refine Rg.plan_skip ?_ ?_); kernel_rfl)
        | (with_reducible refine Rg.plan_done ?_)
        | (with_reducible refine Rg.calm_normal ?_))
      go_roundw
      case rel => exact ⟨j + 1, by omega, by omega, by go_num, Hp9.out ▸ O9.out, P9.out⟩
      case measure => simp [intOf]; omega
    · obtain rfl : j = rs.length := by omega
      have HE := Lib.hid (show p = Fr.put ⟨2, n, d, rs, i, o, fin, dat, cid, tok⟩ by rw [← Hp.out, Hq.out]; rfl)
      go_wp2_with fail
      go_ret
      exact ⟨_, rfl, HE.out ▸ O7.out, P7.out.bel⟩
end Go.Proofs.Ytipniobgijdlkaa
end
section
/- Package mantillaref7's May and Put at any frame. -/
namespace Go.Proofs.Ytipniobgijdlkaa
open Go.RowKit Go.Rw Frm Hdr
attribute [local go_sem ↓] ldFF stFF alFF
attribute [local go_sem] rldFF rstFF ralFF setRow_alloc_at setRow_alloc_past setRow_drew
/-- May: any frame. -/
theorem rmay_fr (f : Fr) (hf : f.fits) (v : Value) (w : World) (hv : Fv w v f) :
    Calls Try.prog 15 #[v] w fun e w' => e = .returned (.bool f.may) ∧ Below w.heap.size w w' := by
  obtain ⟨vr, vd, vc, vt, rfl, hr, hd, hc, ht⟩ := hv
  obtain ⟨ar, er, rfl, -, -, -⟩ := id hr
  obtain ⟨ad, ed, rfl, -, -, -⟩ := id hd
  obtain ⟨ac, ec, rfl, -, -, -⟩ := id hc
  obtain ⟨at_, et, rfl, -, -, -⟩ := id ht
  exact frmay_any f.k f.n f.d f.i f.o f.fin ar ad ac at_ f.rs.length f.dat.length f.cid.length f.tok.length er ed ec et f.rs hf.1 w hr
set_option maxHeartbeats 1000000 in
theorem rput_no7 (f : Fr) (hf : f.fits) (hm : f.may = false) (v : Value) (w : World) (hv : Fv w v f) :
    Calls Try.prog 16 #[v] w fun e w' => e = .returned (.slice none 0 0) ∧ Below w.heap.size w w' := by
  have hmay := fun W hW => rmay_fr f hf v W hW
  rw [hm] at hmay
  obtain ⟨vr, vd, vc, vt, rfl, hr, hd, hc, ht⟩ := id hv
  have hz : (fvA f.k f.n f.d vr f.i f.o f.fin vd vc vt).size = 10 := rfl
  generalize fvA f.k f.n f.d vr f.i f.o f.fin vd vc vt = F at *
  have P0 : PS w F (w.alloc (.cells F 28)) := ⟨row?_alloc_at _ _ _ _ rfl, (Below.refl _ _).alloc (Nat.le_refl _) _⟩
  have lf := rldFF (w.alloc (.cells F 28)) w.heap.size (by rw [P0.row, Option.map_some, hz])
  rw [P0.row] at lf
  have lf' : (loadAgg 28 (.pointer (some ⟨w.heap.size, 0, none⟩))).run Try.prog (w.alloc (.cells F 28)) = .ok (.agg F) (w.alloc (.cells F 28)) := lf
  have HMAY := Lib.hid hmay
  have HV := Lib.hid hv
  have Q0 := Lib.hid P0
  clear hmay lf hv P0 hr hd hc ht hm hf
  go_enter Try.func16, Try.ntmps16
  go_wp2_with fail
  refine (HMAY.out _ (HV.out.below Q0.out.bel)).mono ?_
  rintro e w1 ⟨rfl, b1⟩
  have Q1 := Lib.hid (Q0.out.step b1)
  clear b1 lf' Q0
  go_wp2_with fail
  go_ret
  exact ⟨rfl, Q1.out.bel⟩
/-- Put: any frame. -/
theorem rput_fr (f : Fr) (hf : f.fits) (v : Value) (w : World) (hv : Fv w v f) :
    Calls Try.prog 16 #[v] w fun e w' => ∃ v', e = .returned v' ∧ w'.ownsRow w.heap.size 5 1 v' f.laid.length (f.laid.map bv) ∧ Below w.heap.size w w' := by
  cases hm : f.may with
  | false =>
    refine (rput_no7 f hf hm v w hv).mono fun e w' ⟨he, hb⟩ => ⟨_, he, ?_, hb⟩
    unfold Fr.laid
    rw [hm]
    exact World.ownsRow_nil _ _ _ _
  | true =>
    have e : f.laid = f.put := by unfold Fr.laid; rw [hm]; rfl
    rw [e]
    suffices h : Calls Try.prog 16 #[v] w fun e w' => ∃ v', e = .returned v' ∧ w'.ownsRow (w.heap.size + 1) 5 1 v' f.put.length (f.put.map bv) ∧ Below w.heap.size w w' from
      h.mono fun e w' ⟨v', he, ho, hb⟩ => ⟨v', he, own_lower ho (Nat.le_succ _), hb⟩
    obtain ⟨vr, vd, vc, vt, rfl, hr, hd, hc, ht⟩ := hv
    obtain ⟨ar, er, rfl, -, -, -⟩ := id hr
    obtain ⟨ad, ed, rfl, -, -, -⟩ := id hd
    obtain ⟨ac, ec, rfl, -, -, -⟩ := id hc
    obtain ⟨at_, et, rfl, -, -, -⟩ := id ht
    obtain ⟨k, n, d, rs, i, o, fin, dat, cid, tok⟩ := f
    have hrl := hf.1
    clear e hf
    have hm' : mayB k n d rs.length (rsOk rs) i o fin dat.length cid.length tok.length = true := hm
    simp only [] at hr hd hc ht hrl ⊢
    by_cases h0 : k = 0
    · subst h0; exact frput_0 n d rs i o fin dat cid tok ar ad ac at_ er ed ec et hrl hm' w hr hd hc ht
    by_cases h1 : k = 1
    · subst h1; exact frput_1 n d rs i o fin dat cid tok ar ad ac at_ er ed ec et hrl hm' w hr hd hc ht
    by_cases h2 : k = 2
    · subst h2; exact frput_2 n d rs i o fin dat cid tok ar ad ac at_ er ed ec et hrl hm' w hr hd hc ht
    by_cases h6 : k = 6
    · subst h6; exact frput_6 n d rs i o fin dat cid tok ar ad ac at_ er ed ec et hrl hm' w hr hd hc ht
    by_cases h8 : k = 8
    · subst h8
      cases fin
      · exact frput_8f n d rs i o dat cid tok ar ad ac at_ er ed ec et hrl hm' w hr hd hc ht
      · exact frput_8t n d rs i o dat cid tok ar ad ac at_ er ed ec et hrl hm' w hr hd hc ht
    by_cases h16 : k = 16
    · subst h16; exact frput_16 n d rs i o fin dat cid tok ar ad ac at_ er ed ec et hrl hm' w hr hd hc ht
    by_cases h24 : k = 24
    · subst h24; exact frput_24 n d rs i o fin dat cid tok ar ad ac at_ er ed ec et hrl hm' w hr hd hc ht
    by_cases h25 : k = 25
    · subst h25; exact frput_25 n d rs i o fin dat cid tok ar ad ac at_ er ed ec et hrl hm' w hr hd hc ht
    by_cases h26 : k = 26
    · subst h26; exact frput_26 n d rs i o fin dat cid tok ar ad ac at_ er ed ec et hrl hm' w hr hd hc ht
    by_cases h27 : k = 27
    · subst h27; exact frput_27 n d rs i o fin dat cid tok ar ad ac at_ er ed ec et hrl hm' w hr hd hc ht
    by_cases h28 : k = 28
    · subst h28; exact frput_28 n d rs i o fin dat cid tok ar ad ac at_ er ed ec et hrl hm' w hr hd hc ht
    by_cases h30 : k = 30
    · subst h30; exact frput_30 n d rs i o fin dat cid tok ar ad ac at_ er ed ec et hrl hm' w hr hd hc ht
    exfalso
    unfold mayB at hm'
    rw [if_neg h0, if_neg (by omega), if_neg h2, if_neg h6, if_neg h8, if_neg (by omega), if_neg h24, if_neg (by omega)] at hm'
    cases hm'
end Go.Proofs.Ytipniobgijdlkaa
end
