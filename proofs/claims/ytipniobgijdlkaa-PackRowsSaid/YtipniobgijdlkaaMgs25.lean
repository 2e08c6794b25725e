/- FrmQ5; FrmPutR; FrmO2. -/
import Derived.Test.YtipniobgijdlkaaMgsFrmRM
import Derived.Test.YtipniobgijdlkaaMgs10
import Derived.Test.YtipniobgijdlkaaMgs5
import Derived.Test.YtipniobgijdlkaaMgs22
import Derived.Test.YtipniobgijdlkaaMgs14
import Derived.Test.YtipniobgijdlkaaMgsFrmQ1
import Derived.Test.YtipniobgijdlkaaMgsFrmQ2
import Derived.Test.YtipniobgijdlkaaMgsFrmQ3
import Derived.Test.YtipniobgijdlkaaMgsFrmQ4
import Derived.Test.YtipniobgijdlkaaMgs21
import Derived.Test.YtipniobgijdlkaaMgs23
import Derived.Test.YtipniobgijdlkaaMgs24
import Derived.Test.YtipniobgijdlkaaMgs3
section
/- The walks of mantillaref7's Put at frames that may be: an Ack. -/
namespace Go.Proofs.Ytipniobgijdlkaa
open Go.RowKit Go.Rw Frm Hdr
attribute [local go_sem ↓] ldFF stFF alFF
attribute [local go_sem] rldFF rstFF ralFF setRow_alloc_at setRow_alloc_past setRow_drew
set_option maxRecDepth 400000 in
set_option maxHeartbeats 2000000 in
theorem frput_2 (n d : Nat) (rs : List (Nat × Nat)) (i o : Nat) (fin : Bool) (dat cid tok : List UInt8) (ar ad ac at_ : Option Addr) (er ed ec et : Nat) (hrl : rs.length ≤ 1000000) (hm : mayB 2 n d rs.length (rsOk rs) i o fin dat.length cid.length tok.length = true) (w : World) (hr : Sr w (.slice ar rs.length er) rs) (hd : Sl w (.slice ad dat.length ed) dat) (hc : Sl w (.slice ac cid.length ec) cid) (ht : Sl w (.slice at_ tok.length et) tok) :
    Calls Try.prog 16 #[.agg (fvA 2 n d (.slice ar rs.length er) i o fin (.slice ad dat.length ed) (.slice ac cid.length ec) (.slice at_ tok.length et))] w fun e w' => ∃ v', e = .returned v' ∧ w'.ownsRow (w.heap.size + 1) 5 1 v' (Fr.put ⟨2, n, d, rs, i, o, fin, dat, cid, tok⟩).length ((Fr.put ⟨2, n, d, rs, i, o, fin, dat, cid, tok⟩).map bv) ∧ Below w.heap.size w w' := by
  obtain ⟨i0, hi0, hz0, hz1, hz2⟩ := info_parts info8
  have hm2 := hm
  have hpl : (decide (d ≤ 4611686018427387903) && rsOk rs && plainB n 0 0 i o fin dat.length cid.length tok.length) = true := hm2
  rw [Bool.and_eq_true, Bool.and_eq_true, decide_eq_true_eq] at hpl
  have hk := hpl.1.1
  have hok := hpl.1.2
  have h8 := rsOk_le hok
  have h1 := rsOk_pos hok
  have r0 := rsOk_at hok (k := 0) (by omega)
  obtain ⟨ao, er', e0, hce, -, hp⟩ := id hr
  cases e0
  obtain ⟨b, off, har, hcell⟩ := hp (by omega)
  have hw1 : IntKind.u64.wrap ((rs.length : Int) - 1) = ((rs.length - 1 : Nat) : Int) := by simp only [IntKind.wrap_u64]; omega
  have hw2 : IntKind.u64.wrap ((rhi rs 0 : Int) - (rlo rs 0 : Int)) = ((rhi rs 0 - rlo rs 0 : Nat) : Int) := by simp only [IntKind.wrap_u64]; omega
  have hd' : d < 4611686018427387904 := by omega
  have HCL := Lib.hid hcell
  have HOK := Lib.hid hok
  have HW := Lib.hid (And.intro hw1 hw2)
  have hmay := fun W hs' => frmay_any 2 n d i o fin ar ad ac at_ rs.length dat.length cid.length tok.length er ed ec et rs hrl W hs'
  rw [hm2] at hmay
  have fc := fun (W : World) (b : Nat) (h : row? W b = some (fvA 2 n d (.slice ar rs.length er) i o fin (.slice ad dat.length ed) (.slice ac cid.length ec) (.slice at_ tok.length et))) => fv_cells h
  have hz : (fvA 2 n d (.slice ar rs.length er) i o fin (.slice ad dat.length ed) (.slice ac cid.length ec) (.slice at_ tok.length et)).size = 10 := rfl
  generalize fvA 2 n d (.slice ar rs.length er) i o fin (.slice ad dat.length ed) (.slice ac cid.length ec) (.slice at_ tok.length et) = F at *
  have P0 : PS w F (w.alloc (.cells F 28)) := ⟨row?_alloc_at _ _ _ _ rfl, (Below.refl _ _).alloc (Nat.le_refl _) _⟩
  have lf := rldFF (w.alloc (.cells F 28)) w.heap.size (by rw [P0.row, Option.map_some, hz])
  rw [P0.row] at lf
  have lf' : (loadAgg 28 (.pointer (some ⟨w.heap.size, 0, none⟩))).run Try.prog (w.alloc (.cells F 28)) = .ok (.agg F) (w.alloc (.cells F 28)) := lf
  have HMAY := Lib.hid hmay
  have FC := Lib.hid fc
  have HR := Lib.hid hr
  have HD := Lib.hid hd
  have HC := Lib.hid hc
  have HT := Lib.hid ht
  have Q0 := Lib.hid P0
  clear hmay fc lf hm hm2 P0 hr hd hc ht hpl hk hp hcell hok hw1 hw2
  subst har
  go_enter Try.func16, Try.ntmps16
  go_wp2_with fail
  refine (HMAY.out _ (HR.out.below Q0.out.bel)).mono ?_
  rintro e w1 ⟨rfl, b1⟩
  have Q1 := Lib.hid (Q0.out.step b1)
  obtain ⟨c0, c1, c2, c3, c4, c5, c6, c7, c8, c9⟩ := FC.out _ _ Q1.out.row
  have hlt1 := row?_lt Q1.out.row
  clear b1 lf' Q0
  obtain ⟨q2, hq2⟩ : ∃ q2 : List UInt8, [2] = q2 := ⟨_, rfl⟩
  have kq2 : q2.length ≤ 1 := by rw [← hq2]; decide
  have o2 : (w1.alloc (.cells #[.int .u8 2] 5)).ownsRow (w.heap.size + 1) 5 1 (.slice (some ⟨w1.heap.size, 0, none⟩) 1 1) q2.length (q2.map bv) := by
    rw [← hq2]
    exact World.ownsRow_lit (base := w.heap.size + 1) (e := 5) (size := 1) w1 #[.int .u8 2] 1 Q1.out.size (by decide) rfl
  have O2 := Lib.hid o2
  have Hq2 := Lib.hid hq2
  have Q2 := Lib.hid (Q1.out.step ((Below.refl w1.heap.size w1).alloc (Nat.le_refl _) (.cells #[.int .u8 2] 5)))
  clear o2 hq2
  have x1 := below_cell Q2.out.bel (HCL.out 0 (by omega)).1 (cell_lt (HCL.out 0 (by omega)).1)
  have x2 := below_cell Q2.out.bel (HCL.out 0 (by omega)).2 (cell_lt (HCL.out 0 (by omega)).2)
  rw [Nat.zero_mul, Nat.add_zero] at x1 x2
  go_wp2_with fail
  refine (rput_any q2 (rhi rs 0) (by omega) (by omega) _ _ (Own.sl O2.out)).mono ?_
  rintro e w3 ⟨v3, rfl, o3, b3⟩
  obtain ⟨q3, hq3⟩ : ∃ q3, q2 ++ vin (rhi rs 0) (vlen (rhi rs 0)) = q3 := ⟨_, rfl⟩
  have kq3 : q3.length ≤ 9 := by rw [← hq3]; simp only [List.length_append, vin_length]; have := vlen_le (rhi rs 0); omega
  rw [hq3] at o3
  have Hq3 := Lib.hid hq3
  have O3 := Lib.hid (own_lower o3 Q2.out.size)
  have Q3 := Lib.hid (Q2.out.step b3)
  obtain ⟨a3, x3, rfl, -, -, -⟩ := id (Own.sl o3)
  clear b3 o3 hq3 Q2 O2
  clear c0 c1 c2 c3 c4 c5 c6 c7 c8 c9
  obtain ⟨c0, c1, c2, c3, c4, c5, c6, c7, c8, c9⟩ := FC.out _ _ Q3.out.row
  clear x1 x2
  go_wp2_with fail
  refine (rput_any q3 d (by omega) (by omega) _ _ (Own.sl O3.out)).mono ?_
  rintro e w4 ⟨v4, rfl, o4, b4⟩
  obtain ⟨q4, hq4⟩ : ∃ q4, q3 ++ vin d (vlen d) = q4 := ⟨_, rfl⟩
  have kq4 : q4.length ≤ 17 := by rw [← hq4]; simp only [List.length_append, vin_length]; have := vlen_le d; omega
  rw [hq4] at o4
  have Hq4 := Lib.hid hq4
  have O4 := Lib.hid (own_lower o4 Q3.out.size)
  have Q4 := Lib.hid (Q3.out.step b4)
  obtain ⟨a4, x4, rfl, -, -, -⟩ := id (Own.sl o4)
  clear b4 o4 hq4 Q3 O3
  clear c0 c1 c2 c3 c4 c5 c6 c7 c8 c9
  obtain ⟨c0, c1, c2, c3, c4, c5, c6, c7, c8, c9⟩ := FC.out _ _ Q4.out.row
  obtain ⟨hw1, hw2⟩ := HW.out
  go_wp2_with fail
  refine (rput_any q4 (rs.length - 1) (by omega) (by omega) _ _ (Own.sl O4.out)).mono ?_
  rintro e w5 ⟨v5, rfl, o5, b5⟩
  obtain ⟨q5, hq5⟩ : ∃ q5, q4 ++ vin (rs.length - 1) (vlen (rs.length - 1)) = q5 := ⟨_, rfl⟩
  have kq5 : q5.length ≤ 25 := by rw [← hq5]; simp only [List.length_append, vin_length]; have := vlen_le (rs.length - 1); omega
  rw [hq5] at o5
  have Hq5 := Lib.hid hq5
  have O5 := Lib.hid (own_lower o5 Q4.out.size)
  have Q5 := Lib.hid (Q4.out.step b5)
  obtain ⟨a5, x5, rfl, -, -, -⟩ := id (Own.sl o5)
  clear b5 o5 hq5 Q4 O4
  clear c0 c1 c2 c3 c4 c5 c6 c7 c8 c9
  obtain ⟨c0, c1, c2, c3, c4, c5, c6, c7, c8, c9⟩ := FC.out _ _ Q5.out.row
  have x1 := below_cell Q5.out.bel (HCL.out 0 (by omega)).1 (cell_lt (HCL.out 0 (by omega)).1)
  have x2 := below_cell Q5.out.bel (HCL.out 0 (by omega)).2 (cell_lt (HCL.out 0 (by omega)).2)
  rw [Nat.zero_mul, Nat.add_zero] at x1 x2
  go_wp2_with fail
  refine Rg.wp_region_plan (Rg.row [(0, 3), (1, 3), (2, 3), (3, 3), (4, 0), (5, 3), (6, 3), (7, 3), (8, 0), (9, 3), (10, 1), (11, 3)] []) [] (by kernel_rfl) (by kernel_rfl) ?_
  simp only [Rg.row, Rg.PT.map, List.map_nil, List.getD_cons_zero, List.getD_cons_succ]
  go_wp2_with (first
    | ((with_reducible refine Rg.plan_pure ?_ ?_ ?_); kernel_rfl; kernel_rfl; intro _ _)
    | ((with_reducible refine Rg.plan_take ?_ ?_ ?_); kernel_rfl; kernel_rfl; intro _ _)
    | ((with_reducible refine Rg.plan_keep ?_ ?_); kernel_rfl; intro K hK)
    | (refine hK _ _ (Rg.Keep.refl _) ?_; clear hK)
    | (refine hK _ _ (Rg.Keep.of_below (by assumption)) ?_; clear hK)
    | ((with_reducible refine Rg.plan_skip ?_ ?_); kernel_rfl)
    | (with_reducible refine Rg.plan_done ?_)
    | (with_reducible refine Rg.calm_normal ?_))
  refine (rput_any q5 (rhi rs 0 - rlo rs 0) (by omega) (by omega) _ _ (Own.sl O5.out.drew)).mono ?_
  rintro e w6 ⟨v6, rfl, o6, b6⟩
  refine hK _ _ (Rg.Keep.of_below b6) ?_
  clear hK
  obtain ⟨q6, hq6⟩ : ∃ q6, q5 ++ vin (rhi rs 0 - rlo rs 0) (vlen (rhi rs 0 - rlo rs 0)) = q6 := ⟨_, rfl⟩
  have kq6 : q6.length ≤ 33 := by rw [← hq6]; simp only [List.length_append, vin_length]; have := vlen_le (rhi rs 0 - rlo rs 0); omega
  rw [hq6] at o6
  have Hq6 := Lib.hid hq6
  have O6 := Lib.hid (own_lower o6 Q5.out.drew.size)
  have Q6 := Lib.hid (Q5.out.drew.step b6)
  obtain ⟨a6, x6, rfl, -, -, -⟩ := id (Own.sl o6)
  clear b6 o6 hq6 Q5 O5
  clear c0 c1 c2 c3 c4 c5 c6 c7 c8 c9
  obtain ⟨c0, c1, c2, c3, c4, c5, c6, c7, c8, c9⟩ := FC.out _ _ Q6.out.row
  clear x1 x2 hw1 hw2 HW
  obtain ⟨q, hq⟩ : ∃ q, q6 = q := ⟨_, rfl⟩
  have Hq := Lib.hid (show q = [2] ++ ackB d rs by rw [← hq, ← Hq6.out, ← Hq5.out, ← Hq4.out, ← Hq3.out, ← Hq2.out]; unfold ackB vP; simp only [List.append_assoc])
  subst hq
  clear Hq2 Hq3 Hq4 Hq5 Hq6
  go_wp2_with (first
    | ((with_reducible refine Rg.plan_pure ?_ ?_ ?_); kernel_rfl; kernel_rfl; intro _ _)
    | ((with_reducible refine Rg.plan_take ?_ ?_ ?_); kernel_rfl; kernel_rfl; intro _ _)
    | ((with_reducible refine Rg.plan_keep ?_ ?_); kernel_rfl; intro K hK)
    | (refine hK _ _ (Rg.Keep.refl _) ?_; clear hK)
    | (refine hK _ _ (Rg.Keep.of_below (by assumption)) ?_; clear hK)
    | ((with_reducible refine Rg.plan_skip ?_ ?_); kernel_rfl)
    | (with_reducible refine Rg.plan_done ?_)
    | (with_reducible refine Rg.calm_normal ?_))
  go_loopw [3, 5] (fun vb vi wr => ∃ j : Nat, 1 ≤ j ∧ j ≤ rs.length ∧ vi = .int .i64 j ∧ wr.ownsRow (w.heap.size + 1) 5 1 vb (q6 ++ ackR rs (j - 1)).length ((q6 ++ ackR rs (j - 1)).map bv) ∧ PS w F wr) (fun _ vi _ => rs.length - (intOf vi).toNat)
  case atStart =>
    refine ⟨1, by omega, by omega, rfl, ?_, Q6.out⟩
    have e : q6 ++ ackR rs (1 - 1) = q6 := by simp [ackR]
    rw [e]
    exact O6.out
  case round =>
    obtain ⟨j, hj1, hj, rfl, how, hps⟩ := hrel
    obtain ⟨p, hp⟩ : ∃ p, q6 ++ ackR rs (j - 1) = p := ⟨_, rfl⟩
    rw [hp] at how
    have kp : p.length ≤ 300 := by
      rw [← hp, List.length_append]
      have := ackR_len rs (j - 1)
      omega
    have Hp := Lib.hid hp
    have O7 := Lib.hid how
    have P7 := Lib.hid hps
    obtain ⟨ab7, eb7, rfl, -, -, -⟩ := id (Own.sl how)
    clear hp how hps c0 c1 c2 c3 c4 c5 c6 c7 c8 c9 O6 Q6
    by_cases hlt : j < rs.length
    · have hgg := rsOk_gap HOK.out (k := j - 1) (by omega)
      have h7 := rsOk_at HOK.out (k := j - 1) (by omega)
      have h9 := rsOk_at HOK.out (k := j) (by omega)
      rw [show j - 1 + 1 = j by omega] at hgg
      have hw3 : IntKind.u64.wrap ((rlo rs (j - 1) : Int) - (rhi rs j : Int)) = ((rlo rs (j - 1) - rhi rs j : Nat) : Int) := by simp only [IntKind.wrap_u64]; omega
      have hw4 : IntKind.u64.wrap (((rlo rs (j - 1) - rhi rs j : Nat) : Int) - 2) = ((rlo rs (j - 1) - rhi rs j - 2 : Nat) : Int) := by simp only [IntKind.wrap_u64]; omega
      have hw5 : IntKind.u64.wrap ((rhi rs j : Int) - (rlo rs j : Int)) = ((rhi rs j - rlo rs j : Nat) : Int) := by simp only [IntKind.wrap_u64]; omega
      have hc1 := HCL.out j (by omega)
      have hc0 := HCL.out (j - 1) (by omega)
      have y1 := below_cell P7.out.bel hc1.1 (cell_lt hc1.1)
      have y2 := below_cell P7.out.bel hc1.2 (cell_lt hc1.2)
      have x1 := below_cell P7.out.bel hc0.1 (cell_lt hc0.1)
      have hbl := cell_lt x1
      have HWW := Lib.hid (And.intro hw3 (And.intro hw4 hw5))
      have HB := Lib.hid (And.intro hgg (And.intro h7 h9))
      have hj0 : 0 < j := by omega
      clear hc1 hc0 hw3 hw4 hw5 hgg h7 h9
      go_wp2_with fail
      obtain ⟨hw3, hw4, hw5⟩ := HWW.out
      refine Rg.wp_region_plan (Rg.row [(0, 3), (1, 3), (2, 3), (3, 3), (4, 3), (5, 3), (6, 0), (7, 3), (8, 3), (9, 3), (10, 3), (11, 0), (12, 3), (13, 3), (14, 1), (15, 3)] []) [] (by kernel_rfl) (by kernel_rfl) ?_
      simp only [Rg.row, Rg.PT.map, List.map_nil, List.getD_cons_zero, List.getD_cons_succ]
      go_wp2_with (first
        | ((with_reducible refine Rg.plan_pure ?_ ?_ ?_); kernel_rfl; kernel_rfl; intro _ _)
        | ((with_reducible refine Rg.plan_take ?_ ?_ ?_); kernel_rfl; kernel_rfl; intro _ _)
        | ((with_reducible refine Rg.plan_keep ?_ ?_); kernel_rfl; intro K hK)
        | (refine hK _ _ (Rg.Keep.refl _) ?_; clear hK)
        | (refine hK _ _ (Rg.Keep.of_below (by assumption)) ?_; clear hK)
        | ((with_reducible refine Rg.plan_skip ?_ ?_); kernel_rfl)
        | (with_reducible refine Rg.plan_done ?_)
        | (with_reducible refine Rg.calm_normal ?_))
      refine (rput_any p (rlo rs (j - 1) - rhi rs j - 2) (by omega) (by have := HB.out; omega) _ _ (Own.sl O7.out.drew)).mono ?_
      rintro e w8 ⟨v8, rfl, o8, b8⟩
      refine hK _ _ (Rg.Keep.of_below b8) ?_
      obtain ⟨p8, hp8⟩ : ∃ p8, p ++ vin (rlo rs (j - 1) - rhi rs j - 2) (vlen (rlo rs (j - 1) - rhi rs j - 2)) = p8 := ⟨_, rfl⟩
      have kp8 : p8.length ≤ 308 := by rw [← hp8]; simp only [List.length_append, vin_length]; have := vlen_le (rlo rs (j - 1) - rhi rs j - 2); omega
      rw [hp8] at o8
      have Hp8 := Lib.hid hp8
      have O8 := Lib.hid (own_lower o8 P7.out.drew.size)
      have P8 := Lib.hid (P7.out.drew.step b8)
      obtain ⟨a8, x8, rfl, -, -, -⟩ := id (Own.sl o8)
      clear hK b8 o8 hp8 x1 y1 y2 hbl hw3 hw4 hw5 P7 O7
      go_wp2_with (first
        | ((with_reducible refine Rg.plan_pure ?_ ?_ ?_); kernel_rfl; kernel_rfl; intro _ _)
        | ((with_reducible refine Rg.plan_take ?_ ?_ ?_); kernel_rfl; kernel_rfl; intro _ _)
        | ((with_reducible refine Rg.plan_keep ?_ ?_); kernel_rfl; intro K hK)
        | (refine hK _ _ (Rg.Keep.refl _) ?_; clear hK)
        | (refine hK _ _ (Rg.Keep.of_below (by assumption)) ?_; clear hK)
        | ((with_reducible refine Rg.plan_skip ?_ ?_); kernel_rfl)
        | (with_reducible refine Rg.plan_done ?_)
        | (with_reducible refine Rg.calm_normal ?_))
      have hc1 := HCL.out j (by omega)
      have y1 := below_cell P8.out.bel hc1.1 (cell_lt hc1.1)
      have y2 := below_cell P8.out.bel hc1.2 (cell_lt hc1.2)
      obtain ⟨hw3, hw4, hw5⟩ := HWW.out
      clear hc1
      refine Rg.wp_region_plan (Rg.row [(0, 3), (1, 3), (2, 3), (3, 3), (4, 3), (5, 0), (6, 3), (7, 3), (8, 3), (9, 3), (10, 0), (11, 3), (12, 1), (13, 3)] []) [] (by kernel_rfl) (by kernel_rfl) ?_
      simp only [Rg.row, Rg.PT.map, List.map_nil, List.getD_cons_zero, List.getD_cons_succ]
      go_wp2_with (first
        | ((with_reducible refine Rg.plan_pure ?_ ?_ ?_); kernel_rfl; kernel_rfl; intro _ _)
        | ((with_reducible refine Rg.plan_take ?_ ?_ ?_); kernel_rfl; kernel_rfl; intro _ _)
        | ((with_reducible refine Rg.plan_keep ?_ ?_); kernel_rfl; intro K hK)
        | (refine hK _ _ (Rg.Keep.refl _) ?_; clear hK)
        | (refine hK _ _ (Rg.Keep.of_below (by assumption)) ?_; clear hK)
        | ((with_reducible refine Rg.plan_skip ?_ ?_); kernel_rfl)
        | (with_reducible refine Rg.plan_done ?_)
        | (with_reducible refine Rg.calm_normal ?_))
      refine (rput_any p8 (rhi rs j - rlo rs j) (by omega) (by have := HB.out; omega) _ _ (Own.sl O8.out.drew)).mono ?_
      rintro e w9 ⟨v9, rfl, o9, b9⟩
      refine hK _ _ (Rg.Keep.of_below b9) ?_
      obtain ⟨p9, hp9⟩ : ∃ p9, p8 ++ vin (rhi rs j - rlo rs j) (vlen (rhi rs j - rlo rs j)) = p9 := ⟨_, rfl⟩
      rw [hp9] at o9
      have Hp9 := Lib.hid (show p9 = q6 ++ ackR rs (j + 1 - 1) by
        have e1 : ackG rs (j - 1) = vP (rlo rs (j - 1) - rhi rs j - 2) ++ vP (rhi rs j - rlo rs j) := by unfold ackG; rw [show j - 1 + 1 = j by omega]
        rw [show j + 1 - 1 = (j - 1) + 1 by omega, ackR_succ, e1, ← hp9, ← Hp8.out, ← Hp.out]; unfold vP; simp only [List.append_assoc])
      have O9 := Lib.hid (own_lower o9 P8.out.drew.size)
      have P9 := Lib.hid (P8.out.drew.step b9)
      obtain ⟨a9, x9, rfl, -, -, -⟩ := id (Own.sl o9)
      clear hK b9 o9 hp9 P8 O8 y1 y2 hw3 hw4 hw5
      go_wp2_with (first
        | ((with_reducible refine Rg.plan_pure ?_ ?_ ?_); kernel_rfl; kernel_rfl; intro _ _)
        | ((with_reducible refine Rg.plan_take ?_ ?_ ?_); kernel_rfl; kernel_rfl; intro _ _)
        | ((with_reducible refine Rg.plan_keep ?_ ?_); kernel_rfl; intro K hK)
        | (refine hK _ _ (Rg.Keep.refl _) ?_; clear hK)
        | (refine hK _ _ (Rg.Keep.of_below (by assumption)) ?_; clear hK)
        | ((with_reducible refine Rg.plan_skip ?_ ?_); kernel_rfl)
        | (with_reducible refine Rg.plan_done ?_)
        | (with_reducible refine Rg.calm_normal ?_))
      go_roundw
      case rel => exact ⟨j + 1, by omega, by omega, by go_num, Hp9.out ▸ O9.out, P9.out⟩
      case measure => simp [intOf]; omega
    · obtain rfl : j = rs.length := by omega
      have HE := Lib.hid (show p = Fr.put ⟨2, n, d, rs, i, o, fin, dat, cid, tok⟩ by rw [← Hp.out, Hq.out]; rfl)
      go_wp2_with fail
      go_ret
      exact ⟨_, rfl, HE.out ▸ O7.out, P7.out.bel⟩
end Go.Proofs.Ytipniobgijdlkaa
end
section
/- Package mantillaref7's May and Put at any frame. -/
namespace Go.Proofs.Ytipniobgijdlkaa
open Go.RowKit Go.Rw Frm Hdr
attribute [local go_sem ↓] ldFF stFF alFF
attribute [local go_sem] rldFF rstFF ralFF setRow_alloc_at setRow_alloc_past setRow_drew
/-- May: any frame. -/
theorem rmay_fr (f : Fr) (hf : f.fits) (v : Value) (w : World) (hv : Fv w v f) :
    Calls Try.prog 15 #[v] w fun e w' => e = .returned (.bool f.may) ∧ Below w.heap.size w w' := by
  obtain ⟨vr, vd, vc, vt, rfl, hr, hd, hc, ht⟩ := hv
  obtain ⟨ar, er, rfl, -, -, -⟩ := id hr
  obtain ⟨ad, ed, rfl, -, -, -⟩ := id hd
  obtain ⟨ac, ec, rfl, -, -, -⟩ := id hc
  obtain ⟨at_, et, rfl, -, -, -⟩ := id ht
  exact frmay_any f.k f.n f.d f.i f.o f.fin ar ad ac at_ f.rs.length f.dat.length f.cid.length f.tok.length er ed ec et f.rs hf.1 w hr
set_option maxHeartbeats 1000000 in
theorem rput_no7 (f : Fr) (hf : f.fits) (hm : f.may = false) (v : Value) (w : World) (hv : Fv w v f) :
    Calls Try.prog 16 #[v] w fun e w' => e = .returned (.slice none 0 0) ∧ Below w.heap.size w w' := by
  have hmay := fun W hW => rmay_fr f hf v W hW
  rw [hm] at hmay
  obtain ⟨vr, vd, vc, vt, rfl, hr, hd, hc, ht⟩ := id hv
  have hz : (fvA f.k f.n f.d vr f.i f.o f.fin vd vc vt).size = 10 := rfl
  generalize fvA f.k f.n f.d vr f.i f.o f.fin vd vc vt = F at *
  have P0 : PS w F (w.alloc (.cells F 28)) := ⟨row?_alloc_at _ _ _ _ rfl, (Below.refl _ _).alloc (Nat.le_refl _) _⟩
  have lf := rldFF (w.alloc (.cells F 28)) w.heap.size (by rw [P0.row, Option.map_some, hz])
  rw [P0.row] at lf
  have lf' : (loadAgg 28 (.pointer (some ⟨w.heap.size, 0, none⟩))).run Try.prog (w.alloc (.cells F 28)) = .ok (.agg F) (w.alloc (.cells F 28)) := lf
  have HMAY := Lib.hid hmay
  have HV := Lib.hid hv
  have Q0 := Lib.hid P0
  clear hmay lf hv P0 hr hd hc ht hm hf
  go_enter Try.func16, Try.ntmps16
  go_wp2_with fail
  refine (HMAY.out _ (HV.out.below Q0.out.bel)).mono ?_
  rintro e w1 ⟨rfl, b1⟩
  have Q1 := Lib.hid (Q0.out.step b1)
  clear b1 lf' Q0
  go_wp2_with fail
  go_ret
  exact ⟨rfl, Q1.out.bel⟩
/-- Put: any frame. -/
theorem rput_fr (f : Fr) (hf : f.fits) (v : Value) (w : World) (hv : Fv w v f) :
    Calls Try.prog 16 #[v] w fun e w' => ∃ v', e = .returned v' ∧ w'.ownsRow w.heap.size 5 1 v' f.laid.length (f.laid.map bv) ∧ Below w.heap.size w w' := by
  cases hm : f.may with
  | false =>
    refine (rput_no7 f hf hm v w hv).mono fun e w' ⟨he, hb⟩ => ⟨_, he, ?_, hb⟩
    unfold Fr.laid
    rw [hm]
    exact World.ownsRow_nil _ _ _ _
  | true =>
    have e : f.laid = f.put := by unfold Fr.laid; rw [hm]; rfl
    rw [e]
    suffices h : Calls Try.prog 16 #[v] w fun e w' => ∃ v', e = .returned v' ∧ w'.ownsRow (w.heap.size + 1) 5 1 v' f.put.length (f.put.map bv) ∧ Below w.heap.size w w' from
      h.mono fun e w' ⟨v', he, ho, hb⟩ => ⟨v', he, own_lower ho (Nat.le_succ _), hb⟩
    obtain ⟨vr, vd, vc, vt, rfl, hr, hd, hc, ht⟩ := hv
    obtain ⟨ar, er, rfl, -, -, -⟩ := id hr
    obtain ⟨ad, ed, rfl, -, -, -⟩ := id hd
    obtain ⟨ac, ec, rfl, -, -, -⟩ := id hc
    obtain ⟨at_, et, rfl, -, -, -⟩ := id ht
    obtain ⟨k, n, d, rs, i, o, fin, dat, cid, tok⟩ := f
    have hrl := hf.1
    clear e hf
    have hm' : mayB k n d rs.length (rsOk rs) i o fin dat.length cid.length tok.length = true := hm
    simp only [] at hr hd hc ht hrl ⊢
    by_cases h0 : k = 0
    · subst h0; exact frput_0 n d rs i o fin dat cid tok ar ad ac at_ er ed ec et hrl hm' w hr hd hc ht
    by_cases h1 : k = 1
    · subst h1; exact frput_1 n d rs i o fin dat cid tok ar ad ac at_ er ed ec et hrl hm' w hr hd hc ht
    by_cases h2 : k = 2
    · subst h2; exact frput_2 n d rs i o fin dat cid tok ar ad ac at_ er ed ec et hrl hm' w hr hd hc ht
    by_cases h6 : k = 6
    · subst h6; exact frput_6 n d rs i o fin dat cid tok ar ad ac at_ er ed ec et hrl hm' w hr hd hc ht
    by_cases h8 : k = 8
    · subst h8
      cases fin
      · exact frput_8f n d rs i o dat cid tok ar ad ac at_ er ed ec et hrl hm' w hr hd hc ht
      · exact frput_8t n d rs i o dat cid tok ar ad ac at_ er ed ec et hrl hm' w hr hd hc ht
    by_cases h16 : k = 16
    · subst h16; exact frput_16 n d rs i o fin dat cid tok ar ad ac at_ er ed ec et hrl hm' w hr hd hc ht
    by_cases h24 : k = 24
    · subst h24; exact frput_24 n d rs i o fin dat cid tok ar ad ac at_ er ed ec et hrl hm' w hr hd hc ht
    by_cases h25 : k = 25
    · subst h25; exact frput_25 n d rs i o fin dat cid tok ar ad ac at_ er ed ec et hrl hm' w hr hd hc ht
    by_cases h26 : k = 26
    · subst h26; exact frput_26 n d rs i o fin dat cid tok ar ad ac at_ er ed ec et hrl hm' w hr hd hc ht
    by_cases h27 : k = 27
    · subst h27; exact frput_27 n d rs i o fin dat cid tok ar ad ac at_ er ed ec et hrl hm' w hr hd hc ht
    by_cases h28 : k = 28
    · subst h28; exact frput_28 n d rs i o fin dat cid tok ar ad ac at_ er ed ec et hrl hm' w hr hd hc ht
    by_cases h30 : k = 30
    · subst h30; exact frput_30 n d rs i o fin dat cid tok ar ad ac at_ er ed ec et hrl hm' w hr hd hc ht
    exfalso
    unfold mayB at hm'
    rw [if_neg h0, if_neg (by omega), if_neg h2, if_neg h6, if_neg h8, if_neg (by omega), if_neg h24, if_neg (by omega)] at hm'
    cases hm'
end Go.Proofs.Ytipniobgijdlkaa
end
section
/- The law FrameRows, walked. (printed by gen_frows.py) -/
namespace Frm
open Go Go.RowKit Go.Rw Hdr
theorem great_fit {f : Fr} (h : ¬ greatB f = true) : f.fits := by
  unfold greatB at h
  simp only [Bool.or_eq_true, Bool.and_eq_true, decide_eq_true_eq] at h
  exact ⟨by omega, by omega, by omega, by omega⟩
theorem OF2.cells {w : World} {N : Nat} {tF : TypeId} {ao : Option Addr} {cap : Nat} {fs : List Fr} {g : Option Nat} (h : OF2 w N tF (.slice ao fs.length cap) fs g) (k : Nat) (hk : k < fs.length) :
    ∃ gw, ao = some ⟨gw, 0, none⟩ ∧ N ≤ gw ∧ (∃ cur, row? w gw = some cur) ∧ w.cell? ⟨gw, k * 10, none⟩ = some (.int .i64 (fs.getD k fr0).k) ∧ w.cell? ⟨gw, k * 10 + 1, none⟩ = some (.int .u64 ((fs.getD k fr0).n : Nat)) := by
  obtain ⟨gw, cap', A, e, fa, hA, hc⟩ := h.fs.get k hk
  injection e with e1 e2 e3
  subst e1
  obtain ⟨As, hl, ho, _, _, _⟩ := h
  obtain ⟨vr, vd, vc, vt, rfl, _⟩ := fa
  refine ⟨gw, rfl, ?_, ?_, hc 0 (by decide), hc 1 (by decide)⟩
  · exact (ho.lt gw rfl).1
  · rcases ho.2 with ⟨e, h0⟩ | ⟨g', cap'', cur, e, hb, hg, _⟩
    · cases e
    · injection e with e4
      injection e4 with e5
      injection e5 with e6
      subst e6
      exact ⟨cur, row?_of hg⟩
end Frm
namespace Go.Proofs.Ytipniobgijdlkaa
open Go.RowKit Go.Rw Frm Hdr
attribute [local go_sem ↓] ldFF stFF alFF
attribute [local go_sem] rldFF rstFF ralFF setRow_alloc_at setRow_alloc_past setRow_drew
set_option maxRecDepth 400000 in
set_option maxHeartbeats 8000000 in
theorem rowsLaw_any (fs : List Fr) (at_ : Int) (by_ : UInt8) (vf : Value) (w : World) (hs : Fsl w vf fs) :
    Calls Try.prog 8 #[vf, .int .i64 at_, .int .u8 (n8 by_ : Nat)] w fun e w' => e = .returned (.bool true) ∧ Below w.heap.size w w' := by
  obtain ⟨i0, hi0, hz0, hz1, hz2⟩ := info_parts infoFr
  obtain ⟨u0, hu0, hy0, hy1, hy2⟩ := info_parts info8
  obtain ⟨af, cf, rfl, hp⟩ := id hs
  have HP := Lib.hid hp
  clear hs hp
  go_enter Try.func8, Try.ntmps8
  by_cases hl8 : 8 < fs.length
  · have p : decide ((8 : Int) < (fs.length : Int)) = true := decide_eq_true (by omega)
    clear hl8
    go_wp2_with fail
    refine (fawake_any w).mono ?_
    rintro e wx ⟨rfl, hx⟩
    go_wp2_with fail
    go_ret
    exact ⟨rfl, hx⟩
  have p : decide ((8 : Int) < (fs.length : Int)) = false := decide_eq_false (by omega)
  by_cases hl0 : fs.length = 0
  · have p0 : ((fs.length : Int) == 0) = true := by rw [beq_iff_eq]; omega
    clear hl8 hl0
    go_wp2_with fail
    refine (fawake_any w).mono ?_
    rintro e wx ⟨rfl, hx⟩
    go_wp2_with fail
    go_ret
    exact ⟨rfl, hx⟩
  have p0 : ((fs.length : Int) == 0) = false := by rw [beq_eq_false_iff_ne]; omega
  obtain ⟨bf, off, rfl, hcell⟩ := HP.out (by omega)
  have HC := Lib.hid hcell
  have HL := Lib.hid (And.intro (show fs.length ≤ 8 by omega) (show 1 ≤ fs.length by omega))
  clear hcell HP hl8 hl0
  go_wp2_with fail
  go_loopw [7, 8, 9, 10] (fun v7 v8 v9 _ wr => ∃ (i : Nat) (b : List UInt8) (W : List Fr), i ≤ fs.length ∧ v9 = .int .i64 (i : Nat) ∧ Frm.Rows i b W ∧ OF2 wr w.heap.size 28 v8 W v7.ownBlock ∧ wr.ownsRow w.heap.size 5 1 v7 b.length (b.map bv) ∧ Below w.heap.size w wr) (fun _ _ v9 _ _ => fs.length - (intOf v9).toNat)
  case atStart => exact ⟨0, [], [], by omega, rfl, Rows.nil, OF2.nil _ _ _ _, World.ownsRow_nil _ _ _ _, Below.refl _ _⟩
  case round =>
    obtain ⟨i, b, W, hi, rfl, hR, of, ob, bw⟩ := hrel
    have OF := Lib.hid of
    have OB := Lib.hid ob
    have BW := Lib.hid bw
    have HR := Lib.hid hR
    obtain ⟨a7, x7, rfl, -, -, -⟩ := id (Own.sl ob)
    obtain ⟨a8, x8, rfl⟩ := of.fs.shape
    by_cases hlt : i < fs.length
    case pos =>
      have p2 : decide (i < fs.length) = true := decide_eq_true hlt
      obtain ⟨A, hA, fv0, hcA⟩ := HC.out i hlt
      obtain ⟨f, hf⟩ : ∃ f, fs.getD i fr0 = f := ⟨_, rfl⟩
      rw [hf] at fv0
      have la := load_ten AgFF wr bf (off + i * 10) A hA (tenb hcA hA bw)
      have FV0 := Lib.hid fv0
      have CA := Lib.hid hcA
      have HLT := Lib.hid hlt
      have FV := Lib.hid (fv0.below bw)
      clear of ob bw hR fv0 hcA hf
      go_wp2_with fail
      refine (great_any f (.agg A) wr FV.out).mono ?_
      rintro e w1 ⟨rfl, h1⟩
      have B1 := Lib.hid (BW.out.trans (h1.mono BW.out.size))
      have OF1 := Lib.hid (OF.out.below h1)
      have OB1 := Lib.hid (own_below OB.out h1)
      clear OF OB BW FV h1 la
      by_cases hg : greatB f = true
      case pos =>
        rw [hg]
        go_wp2_with fail
        refine (fawake_any _).mono ?_
        rintro e wx ⟨rfl, hx⟩
        have BX := Lib.hid (B1.out.trans (hx.mono B1.out.size))
        clear hx
        go_wp2_with fail
        go_ret
        exact ⟨rfl, BX.out⟩
      rw [Bool.eq_false_iff.2 hg]
      have HG := Lib.hid hg
      have la := load_ten AgFF w1 bf (off + i * 10) A hA (tenb CA.out hA B1.out)
      have hi8 : i < fs.length := HLT.out
      clear hg
      go_wp2_with fail
      refine (rmay_fr f (great_fit HG.out) (.agg A) w1 (FV0.out.below B1.out)).mono ?_
      rintro e w2 ⟨rfl, h2⟩
      have B2 := Lib.hid (B1.out.trans (h2.mono B1.out.size))
      have OF2' := Lib.hid (OF1.out.below h2)
      have OB2 := Lib.hid (own_below OB1.out h2)
      clear OF1 OB1 B1 h2 la
      by_cases hm : f.may = true
      case neg =>
        rw [Bool.eq_false_iff.2 hm]
        clear hm
        go_wp2_with fail
        refine (fawake_any _).mono ?_
        rintro e wx ⟨rfl, hx⟩
        have BX := Lib.hid (B2.out.trans (hx.mono B2.out.size))
        clear hx
        go_wp2_with fail
        go_ret
        exact ⟨rfl, BX.out⟩
      rw [hm]
      have HPW := Lib.hid (pw_of HG.out hm)
      have la := load_ten AgFF w2 bf (off + i * 10) A hA (tenb CA.out hA B2.out)
      clear hm
      go_wp2_with fail
      refine (fput_fr f (great_fit HG.out) (.agg A) w2 (FV0.out.below B2.out)).mono ?_
      rintro e w3 ⟨v3, rfl, o3, h3⟩
      rw [HPW.out.put_len (by decide)] at o3
      have B3 := Lib.hid (B2.out.trans (h3.mono B2.out.size))
      have OF3 := Lib.hid (OF2'.out.below h3)
      have OB3 := Lib.hid (own_below OB2.out h3)
      have S3 := Lib.hid (Own.sl o3)
      clear OF2' OB2 B2 h3 la o3
      go_wp2_with (at_builtin; refine Classical.byContradiction ?_)
      intro hh; apply hh; clear hh
      refine app_sl2 rfl _ _ 25 rfl w.heap.size 5 u0 Try.underlying25 hu0 hy0 hy1 hy2 (.slice a7 b.length x7) b rfl OB3.out v3 f.put rfl S3.out (by have := (HR.out.most (by have := HL.out; omega)).1; have := HPW.out.len (by decide); omega) B3.out.size ?_
      intro v4 w4 o4 g4 h4
      have of4 := OF3.out.turn g4 h4
      have b4 := B3.out.grown g4 B3.out.size (fun k hk => (OB3.out.lt k hk).1)
      obtain ⟨bs, hbs⟩ : ∃ bs, b ++ f.put = bs := ⟨_, rfl⟩
      rw [hbs] at o4
      obtain ⟨a4, x4, rfl, -, -, -⟩ := id (Own.sl o4)
      have OF4 := Lib.hid of4
      have OB4 := Lib.hid o4
      have B4 := Lib.hid b4
      have HR4 := Lib.hid (show Frm.Rows (i + 1) bs (mrg W f) by rw [← hbs]; exact HR.out.step HPW.out)
      have la := load_ten AgFF w4 bf (off + i * 10) A hA (tenb CA.out hA b4)
      obtain ⟨ur, ud, uc, ut, eA⟩ : ∃ ur ud uc ut, A = fvA f.k f.n f.d ur f.i f.o f.fin ud uc ut := by
        obtain ⟨vr, vd, vc, vt, e, _⟩ := FV0.out
        injection e with e
        exact ⟨vr, vd, vc, vt, e⟩
      have ck : w4.cell? ⟨bf, off + i * 10, none⟩ = some (.int .i64 f.k) := (tenb CA.out hA b4 0 (by decide)).trans (by rw [eA]; rfl)
      have cn : w4.cell? ⟨bf, off + i * 10 + 1, none⟩ = some (.int .u64 (f.n : Nat)) := (tenb CA.out hA b4 1 (by decide)).trans (by rw [eA]; rfl)
      have hi1 : wrap64 ((i : Int) + 1) = (i : Int) + 1 := by have := HL.out; unfold wrap64; omega
      have HI1 := Lib.hid hi1
      have KF := Lib.hid (show f.k = 0 → f.n ≤ 400 by
        intro hk
        rcases HPW.out with ⟨n, e, h1, h2⟩ | h
        · rw [e]; exact h2
        · exact absurd hk h.1)
      clear of4 o4 b4 g4 h4 hbs S3 OF3 OB3 B3 eA hi1
      rcases nil_or_snoc W with rfl | ⟨init, l, rfl⟩
      · have wm : wrap64 (-1 : Int) = -1 := by unfold wrap64; omega
        by_cases hk : f.k = 0
        · have qk : (f.k == 0) = true := by simpa using hk
          have KK := Lib.hid hk
          clear hk
          have bA := (Below.refl w4.heap.size w4).alloc (Nat.le_refl _) (.cells A 28)
          have hA1 : allOne A = true := by obtain ⟨_, _, _, _, e, _⟩ := id (FV0.out.fva none (fun k e => by cases e)); exact (FV0.out.fva none (fun k e => by cases e)).size.2
          have F4 := Lib.hid (((FV0.out.fva _ (fun k hk => (OF4.out.fs.lt k hk).1)).below B4.out).below bA)
          have F3 := Lib.hid (((FV0.out.fva _ (fun k hk => (OB4.out.lt k hk).1)).below B4.out).below bA)
          have OF5 := Lib.hid (OF4.out.below bA)
          have OB5 := Lib.hid (own_below OB4.out bA)
          have RA := Lib.hid (row?_alloc_at w4 A 28 w4.heap.size rfl)
          have B5 := Lib.hid (B4.out.trans (bA.mono B4.out.size))
          have hfold := fold_cells A hA
          have HM := Lib.hid (mrg_nil f)
          clear bA OF4 OB4
          go_wp2_with (at_builtin; refine Classical.byContradiction ?_)
          intro hh; apply hh; clear hh
          refine app_fs2 rfl _ _ 32 rfl w.heap.size 28 i0 _ 144 Try.underlying32 hi0 hz0 rfl hz1 hz2 (by decide) (.slice a8 ([] : List Fr).length x8) [] _ rfl OF5.out (fun k hk => (OB5.out.lt k hk).2) w4.heap.size 1 A f rfl RA.out F4.out F3.out (by have := HR.out.len; have := HL.out; omega) (by have := B5.out.size; exact this) ?_
          intro v6 w6 of6 g6 h6
          have ob6 := own_grown OB5.out g6 (by
            obtain ⟨_, _, _, _, _, hne⟩ := OF5.out
            intro k hk e
            exact hne k e.symm hk.symm)
          have b6 := B5.out.grown g6 B5.out.size (fun k hk => (OF5.out.fs.lt k hk).1)
          obtain ⟨Ws, hWs⟩ : ∃ Ws, [] ++ [f] = Ws := ⟨_, rfl⟩
          rw [hWs] at of6
          obtain ⟨a6, x6, rfl⟩ := of6.fs.shape
          have HWS := Lib.hid hWs
          have OF6 := Lib.hid of6
          have OB6 := Lib.hid ob6
          have B6 := Lib.hid b6
          clear of6 ob6 b6 g6 h6 hWs OF5 OB5 RA B5 F4 F3 hfold la ck cn
          go_wp2_with fail
          go_roundw
          case rel => exact ⟨i + 1, bs, Ws, HLT.out, congrArg (Value.int .i64) HI1.out, by have h := HR4.out; rw [show mrg [] f = Ws from HM.out.trans HWS.out] at h; exact h, OF6.out, OB6.out, B6.out⟩
          case measure => rw [HI1.out]; exact meas HLT.out
        · have qk : (f.k == 0) = false := by simpa using hk
          have KK := Lib.hid hk
          clear hk
          have bA := (Below.refl w4.heap.size w4).alloc (Nat.le_refl _) (.cells A 28)
          have hA1 : allOne A = true := by obtain ⟨_, _, _, _, e, _⟩ := id (FV0.out.fva none (fun k e => by cases e)); exact (FV0.out.fva none (fun k e => by cases e)).size.2
          have F4 := Lib.hid (((FV0.out.fva _ (fun k hk => (OF4.out.fs.lt k hk).1)).below B4.out).below bA)
          have F3 := Lib.hid (((FV0.out.fva _ (fun k hk => (OB4.out.lt k hk).1)).below B4.out).below bA)
          have OF5 := Lib.hid (OF4.out.below bA)
          have OB5 := Lib.hid (own_below OB4.out bA)
          have RA := Lib.hid (row?_alloc_at w4 A 28 w4.heap.size rfl)
          have B5 := Lib.hid (B4.out.trans (bA.mono B4.out.size))
          have hfold := fold_cells A hA
          have HM := Lib.hid (mrg_nil f)
          clear bA OF4 OB4
          go_wp2_with (at_builtin; refine Classical.byContradiction ?_)
          intro hh; apply hh; clear hh
          refine app_fs2 rfl _ _ 32 rfl w.heap.size 28 i0 _ 144 Try.underlying32 hi0 hz0 rfl hz1 hz2 (by decide) (.slice a8 ([] : List Fr).length x8) [] _ rfl OF5.out (fun k hk => (OB5.out.lt k hk).2) w4.heap.size 1 A f rfl RA.out F4.out F3.out (by have := HR.out.len; have := HL.out; omega) (by have := B5.out.size; exact this) ?_
          intro v6 w6 of6 g6 h6
          have ob6 := own_grown OB5.out g6 (by
            obtain ⟨_, _, _, _, _, hne⟩ := OF5.out
            intro k hk e
            exact hne k e.symm hk.symm)
          have b6 := B5.out.grown g6 B5.out.size (fun k hk => (OF5.out.fs.lt k hk).1)
          obtain ⟨Ws, hWs⟩ : ∃ Ws, [] ++ [f] = Ws := ⟨_, rfl⟩
          rw [hWs] at of6
          obtain ⟨a6, x6, rfl⟩ := of6.fs.shape
          have HWS := Lib.hid hWs
          have OF6 := Lib.hid of6
          have OB6 := Lib.hid ob6
          have B6 := Lib.hid b6
          clear of6 ob6 b6 g6 h6 hWs OF5 OB5 RA B5 F4 F3 hfold la ck cn
          go_wp2_with fail
          go_roundw
          case rel => exact ⟨i + 1, bs, Ws, HLT.out, congrArg (Value.int .i64) HI1.out, by have h := HR4.out; rw [show mrg [] f = Ws from HM.out.trans HWS.out] at h; exact h, OF6.out, OB6.out, B6.out⟩
          case measure => rw [HI1.out]; exact meas HLT.out
      · have hlw : (init ++ [l]).length = init.length + 1 := by simp
        have hil : init.length + 1 ≤ i := by have := HR.out.len; simpa using this
        have wm : wrap64 (init.length : Int) = (init.length : Int) := IntWalk.wrap64_in _ (by have := HL.out; omega)
        have pk : decide ((0 : Int) ≤ (init.length : Int)) = true := decide_eq_true (by omega)
        obtain ⟨gw, e8, hN, ⟨cur, hrow⟩, wk, wn⟩ := OF4.out.cells init.length (by rw [hlw]; omega)
        subst e8
        rw [show (init ++ [l]).getD init.length fr0 = l by simp [List.getD]] at wk wn
        rw [hlw]
        have of4 := OF4.out
        rw [hlw] at of4
        have OF4 := Lib.hid of4
        clear of4
        by_cases hk : f.k = 0
        · have qk : (f.k == 0) = true := by simpa using hk
          by_cases hlk : l.k = 0
          · have ql : (l.k == 0) = true := by simpa using hlk
            have hln : l.n ≤ 3200 := by
              rcases HR.out.each l (by simp) with ⟨n, e, h1, h2⟩ | h
              · rw [e]; have := HL.out; have := HLT.out; show n ≤ 3200; omega
              · exact absurd hlk h.1
            have hfn := KF.out hk
            obtain ⟨S, hS⟩ : ∃ S, l.n + f.n = S := ⟨_, rfl⟩
            have hsum : IntKind.u64.wrap ((l.n : Int) + (f.n : Int)) = (S : Int) := (IntWalk.u64_in _ (by omega)).trans (by omega)
            have ff := row?_frozen hrow
            have HM := Lib.hid (mrg_one (init := init) (l := l) (f := f) ⟨hk, hlk⟩)
            rw [hS] at HM
            have HROW := Lib.hid hrow
            clear hk hlk hln hfn hrow la hS
            go_wp2_with fail
            refine Rg.wp_region_plan (Rg.row [(0, 3), (1, 3), (2, 3), (3, 3), (4, 3), (5, 3), (6, 0), (7, 3), (8, 3), (9, 3), (10, 3), (11, 0), (12, 3), (13, 3), (14, 3)] [15]) [15] (by kernel_rfl) (by kernel_rfl) ?_
            simp only [Rg.row, Rg.PT.map, List.map_cons, List.map_nil, List.getD_cons_zero, List.getD_cons_succ]
            go_wp2_with (first
              | ((with_reducible refine Rg.plan_pure ?_ ?_ ?_); kernel_rfl; kernel_rfl; intro _ _)
              | ((with_reducible refine Rg.plan_take ?_ ?_ ?_); kernel_rfl; kernel_rfl; intro _ _)
              | ((with_reducible refine Rg.plan_keep ?_ ?_); kernel_rfl; intro K hK)
              | (refine hK _ _ (Rg.Keep.refl _) ?_; clear hK)
              | (refine hK _ _ (Rg.Keep.of_below (by assumption)) ?_; clear hK)
              | ((with_reducible refine Rg.plan_skip ?_ ?_); kernel_rfl)
              | (with_reducible refine Rg.plan_done ?_)
              | (with_reducible refine Rg.calm_normal ?_))
            obtain ⟨g', e9, hN', hcur', of5⟩ := OF4.out.setn S
            injection e9 with e10
            injection e10 with e11
            subst e11
            have m5 : Mut gw w4 (w4.setCell ⟨gw, init.length * 10 + 1, none⟩ (.int .u64 (S : Nat))) := (Mut.refl _ _).setCell _ _ _
            have ob5 := own_grown OB4.out (w' := w4.setCell ⟨gw, init.length * 10 + 1, none⟩ (.int .u64 (S : Nat))) (r := some gw) ⟨m5.os, m5.tape, m5.output, m5.size, fun k hk hn => m5.block k hk (fun e => hn (by rw [e]))⟩ (by
              obtain ⟨_, _, _, _, _, hne⟩ := OF4.out
              intro k hk e
              exact hne gw rfl (by rw [← e]; exact hk.symm))
            have b5 : Below w.heap.size w (w4.setCell ⟨gw, init.length * 10 + 1, none⟩ (.int .u64 (S : Nat))) := B4.out.setCell hN _
            have bD := (Below.refl (w4.setCell ⟨gw, init.length * 10 + 1, none⟩ (.int .u64 (S : Nat))).heap.size (w4.setCell ⟨gw, init.length * 10 + 1, none⟩ (.int .u64 (S : Nat)))).drew
            go_roundw
            case rel => exact ⟨i + 1, bs, init ++ [{ l with n := S }], HLT.out, congrArg (Value.int .i64) HI1.out, by have h := HR4.out; rw [HM.out] at h; exact h, of5.below bD, own_below ob5 bD, b5.drew⟩
            case measure => rw [HI1.out]; exact meas HLT.out
          · have ql : (l.k == 0) = false := by simpa using hlk
            have KK := Lib.hid (And.intro hk hlk)
            clear hk hlk hrow
            have bA := (Below.refl w4.heap.size w4).alloc (Nat.le_refl _) (.cells A 28)
            have hA1 : allOne A = true := by obtain ⟨_, _, _, _, e, _⟩ := id (FV0.out.fva none (fun k e => by cases e)); exact (FV0.out.fva none (fun k e => by cases e)).size.2
            have F4 := Lib.hid (((FV0.out.fva _ (fun k hk => (OF4.out.fs.lt k hk).1)).below B4.out).below bA)
            have F3 := Lib.hid (((FV0.out.fva _ (fun k hk => (OB4.out.lt k hk).1)).below B4.out).below bA)
            have OF5 := Lib.hid (OF4.out.below bA)
            have OB5 := Lib.hid (own_below OB4.out bA)
            have RA := Lib.hid (row?_alloc_at w4 A 28 w4.heap.size rfl)
            have B5 := Lib.hid (B4.out.trans (bA.mono B4.out.size))
            have hfold := fold_cells A hA
            have HM := Lib.hid (mrg_more (init := init) (l := l) (f := f) (fun h => KK.out.2 h.2))
            clear bA OF4 OB4
            go_wp2_with (at_builtin; refine Classical.byContradiction ?_)
            intro hh; apply hh; clear hh
            refine app_fs2 rfl _ _ 32 rfl w.heap.size 28 i0 _ 144 Try.underlying32 hi0 hz0 rfl hz1 hz2 (by decide) (.slice (some ⟨gw, 0, none⟩) (init.length + 1) x8) (init ++ [l]) _ rfl OF5.out (fun k hk => (OB5.out.lt k hk).2) w4.heap.size 1 A f rfl RA.out F4.out F3.out (by have := HR.out.len; have := HL.out; omega) (by have := B5.out.size; exact this) ?_
            intro v6 w6 of6 g6 h6
            have ob6 := own_grown OB5.out g6 (by
              obtain ⟨_, _, _, _, _, hne⟩ := OF5.out
              intro k hk e
              exact hne k e.symm hk.symm)
            have b6 := B5.out.grown g6 B5.out.size (fun k hk => (OF5.out.fs.lt k hk).1)
            obtain ⟨Ws, hWs⟩ : ∃ Ws, init ++ [l] ++ [f] = Ws := ⟨_, rfl⟩
            rw [hWs] at of6
            obtain ⟨a6, x6, rfl⟩ := of6.fs.shape
            have HWS := Lib.hid hWs
            have OF6 := Lib.hid of6
            have OB6 := Lib.hid ob6
            have B6 := Lib.hid b6
            clear of6 ob6 b6 g6 h6 hWs OF5 OB5 RA B5 F4 F3 hfold la ck cn wk wn
            go_wp2_with fail
            go_roundw
            case rel => exact ⟨i + 1, bs, Ws, HLT.out, congrArg (Value.int .i64) HI1.out, by have h := HR4.out; rw [show mrg (init ++ [l]) f = Ws from HM.out.trans HWS.out] at h; exact h, OF6.out, OB6.out, B6.out⟩
            case measure => rw [HI1.out]; exact meas HLT.out
        · have qk : (f.k == 0) = false := by simpa using hk
          have KK := Lib.hid hk
          clear hk hrow
          have bA := (Below.refl w4.heap.size w4).alloc (Nat.le_refl _) (.cells A 28)
          have hA1 : allOne A = true := by obtain ⟨_, _, _, _, e, _⟩ := id (FV0.out.fva none (fun k e => by cases e)); exact (FV0.out.fva none (fun k e => by cases e)).size.2
          have F4 := Lib.hid (((FV0.out.fva _ (fun k hk => (OF4.out.fs.lt k hk).1)).below B4.out).below bA)
          have F3 := Lib.hid (((FV0.out.fva _ (fun k hk => (OB4.out.lt k hk).1)).below B4.out).below bA)
          have OF5 := Lib.hid (OF4.out.below bA)
          have OB5 := Lib.hid (own_below OB4.out bA)
          have RA := Lib.hid (row?_alloc_at w4 A 28 w4.heap.size rfl)
          have B5 := Lib.hid (B4.out.trans (bA.mono B4.out.size))
          have hfold := fold_cells A hA
          have HM := Lib.hid (mrg_more (init := init) (l := l) (f := f) (fun h => KK.out h.1))
          clear bA OF4 OB4
          go_wp2_with (at_builtin; refine Classical.byContradiction ?_)
          intro hh; apply hh; clear hh
          refine app_fs2 rfl _ _ 32 rfl w.heap.size 28 i0 _ 144 Try.underlying32 hi0 hz0 rfl hz1 hz2 (by decide) (.slice (some ⟨gw, 0, none⟩) (init.length + 1) x8) (init ++ [l]) _ rfl OF5.out (fun k hk => (OB5.out.lt k hk).2) w4.heap.size 1 A f rfl RA.out F4.out F3.out (by have := HR.out.len; have := HL.out; omega) (by have := B5.out.size; exact this) ?_
          intro v6 w6 of6 g6 h6
          have ob6 := own_grown OB5.out g6 (by
            obtain ⟨_, _, _, _, _, hne⟩ := OF5.out
            intro k hk e
            exact hne k e.symm hk.symm)
          have b6 := B5.out.grown g6 B5.out.size (fun k hk => (OF5.out.fs.lt k hk).1)
          obtain ⟨Ws, hWs⟩ : ∃ Ws, init ++ [l] ++ [f] = Ws := ⟨_, rfl⟩
          rw [hWs] at of6
          obtain ⟨a6, x6, rfl⟩ := of6.fs.shape
          have HWS := Lib.hid hWs
          have OF6 := Lib.hid of6
          have OB6 := Lib.hid ob6
          have B6 := Lib.hid b6
          clear of6 ob6 b6 g6 h6 hWs OF5 OB5 RA B5 F4 F3 hfold la ck cn wk wn
          go_wp2_with fail
          go_roundw
          case rel => exact ⟨i + 1, bs, Ws, HLT.out, congrArg (Value.int .i64) HI1.out, by have h := HR4.out; rw [show mrg (init ++ [l]) f = Ws from HM.out.trans HWS.out] at h; exact h, OF6.out, OB6.out, B6.out⟩
          case measure => rw [HI1.out]; exact meas HLT.out
    case neg =>
      have p2 : decide (i < fs.length) = false := decide_eq_false hlt
      obtain rfl : i = fs.length := by omega
      have hfall := HR.out.fall HL.out.2 HL.out.1
      have hmost := HR.out.most HL.out.1
      have HFIT := Lib.hid (fun f (hf : f ∈ W) => (HR.out.each f hf).fits)
      have HWL := Lib.hid (Nat.le_trans HR.out.len HL.out.1)
      have HFA := Lib.hid hfall
      have HB := Lib.hid (And.intro hmost.1 (hmost.2 HL.out.2))
      have q0 : ((b.length : Int) == 0) = false := by rw [beq_eq_false_iff_ne]; have := HB.out.2; omega
      clear of ob bw hR hfall hmost hlt hi HR
      go_wp2_with fail
      have hc := fall_any b (by have := HB.out; omega) _ wr (Own.sl OB.out)
      rw [HFA.out] at hc
      refine hc.mono ?_
      rintro e w1 ⟨v11, rfl, o11, h1⟩
      have o11 : OwnFs w1 wr.heap.size 28 v11 W := o11
      obtain ⟨a11, x11, rfl⟩ := o11.shape
      have G1 := Lib.hid o11
      have OF1 := Lib.hid (OF.out.fs.below h1)
      have OB1 := Lib.hid (own_below OB.out h1)
      have B1 := Lib.hid (BW.out.trans (h1.mono BW.out.size))
      obtain ⟨M, hM⟩ : ∃ M, wr.heap.size = M := ⟨_, rfl⟩
      rw [hM] at G1
      clear hc o11 h1 OF OB BW hM
      simp only []
      go_wp2_with fail
      go_loopw [13] (fun v13 wq => ∃ j : Nat, j ≤ W.length ∧ v13 = .int .i64 (j : Nat) ∧ OwnFs wq w.heap.size 28 (.slice a8 W.length x8) W ∧ OwnFs wq M 28 (.slice a11 W.length x11) W ∧ wq.ownsRow w.heap.size 5 1 (.slice a7 b.length x7) b.length (b.map bv) ∧ Below w.heap.size w wq) (fun v13 _ => W.length - (intOf v13).toNat)
      case atStart => exact ⟨0, by omega, rfl, OF1.out, G1.out, OB1.out, B1.out⟩
      case round =>
        obtain ⟨j, hj, rfl, of, og, ob, bq⟩ := hrel
        have OF := Lib.hid of
        have OG := Lib.hid og
        have OB := Lib.hid ob
        have BQ := Lib.hid bq
        clear OF1 G1 OB1 B1
        by_cases hlt : j < W.length
        case pos =>
          have p3 : decide (j < W.length) = true := decide_eq_true hlt
          have HLT3 := Lib.hid hlt
          obtain ⟨g, cap', A, e', fa, hA, cA⟩ := og.get j hlt
          injection e' with e1 e2 e3
          subst e1 e3
          obtain ⟨g', cap'', A', e', fa', hA', cA'⟩ := of.get j hlt
          injection e' with e1 e2 e3
          subst e1 e3
          obtain ⟨fi, hfi⟩ : ∃ fi, W.getD j fr0 = fi := ⟨_, rfl⟩
          have hfit : fi.fits := HFIT.out fi (by rw [← hfi, List.getD_eq_getElem?_getD, List.getElem?_eq_getElem hlt]; exact List.getElem_mem hlt)
          rw [hfi] at fa fa'
          have l1 := load_ten AgFF wr.drew g (j * 10) A hA (fun k hk => cA k hk)
          have l2 := load_ten AgFF wr.drew g' (j * 10) A' hA' (fun k hk => cA' k hk)
          have BD : Below wr.heap.size wr wr.drew := (Below.refl _ _).drew
          have FA := Lib.hid (fa.fv.below BD)
          have FA' := Lib.hid (fa'.fv.below BD)
          have FIT := Lib.hid hfit
          have hj1 : wrap64 ((j : Int) + 1) = (j : Int) + 1 := by have := HWL.out; unfold wrap64; omega
          have HJ1 := Lib.hid hj1
          clear of og ob bq fa fa' cA cA' hfi hfit BD hj1
          go_wp2_with fail
          refine Rg.wp_region_plan (Rg.row [(0, 3), (1, 3), (2, 3), (3, 0), (4, 3), (5, 3), (6, 3), (7, 0), (8, 1), (9, 3)] []) [] (by kernel_rfl) (by kernel_rfl) ?_
          simp only [Rg.row, Rg.PT.map, List.map_nil, List.getD_cons_zero, List.getD_cons_succ]
          go_wp2_with (first
            | ((with_reducible refine Rg.plan_pure ?_ ?_ ?_); kernel_rfl; kernel_rfl; intro _ _)
            | ((with_reducible refine Rg.plan_take ?_ ?_ ?_); kernel_rfl; kernel_rfl; intro _ _)
            | ((with_reducible refine Rg.plan_keep ?_ ?_); kernel_rfl; intro K hK)
            | (refine hK _ _ (Rg.Keep.refl _) ?_; clear hK)
            | (refine hK _ _ (Rg.Keep.of_below (by assumption)) ?_; clear hK)
            | ((with_reducible refine Rg.plan_skip ?_ ?_); kernel_rfl)
            | (with_reducible refine Rg.plan_done ?_)
            | (with_reducible refine Rg.calm_normal ?_))
          have hs := rsame_fr fi fi FIT.out FIT.out (.agg A) (.agg A') wr.drew FA.out FA'.out
          rw [sameB_self] at hs
          refine hs.mono ?_
          rintro e w8 ⟨rfl, h8⟩
          refine hK _ _ (Rg.Keep.of_below h8) ?_
          have bD := (Below.refl wr.heap.size wr).drew
          have OF8 := Lib.hid ((OF.out.below bD).below h8)
          have OG8 := Lib.hid ((OG.out.below bD).below h8)
          have OB8 := Lib.hid (own_below (own_below OB.out bD) h8)
          have BQ8 := Lib.hid (BQ.out.drew.trans (h8.mono BQ.out.drew.size))
          clear hK hs h8 FA FA' OF OG BQ OB bD l1 l2
          go_wp2_with (first
            | ((with_reducible refine Rg.plan_pure ?_ ?_ ?_); kernel_rfl; kernel_rfl; intro _ _)
            | ((with_reducible refine Rg.plan_take ?_ ?_ ?_); kernel_rfl; kernel_rfl; intro _ _)
            | ((with_reducible refine Rg.plan_keep ?_ ?_); kernel_rfl; intro K hK)
            | (refine hK _ _ (Rg.Keep.refl _) ?_; clear hK)
            | (refine hK _ _ (Rg.Keep.of_below (by assumption)) ?_; clear hK)
            | ((with_reducible refine Rg.plan_skip ?_ ?_); kernel_rfl)
            | (with_reducible refine Rg.plan_done ?_)
            | (with_reducible refine Rg.calm_normal ?_))
          go_roundw
          case rel => exact ⟨j + 1, HLT3.out, congrArg (Value.int .i64) HJ1.out, OF8.out, OG8.out, OB8.out, BQ8.out⟩
          case measure => rw [HJ1.out]; exact meas HLT3.out
        case neg =>
          have p3 : decide (j < W.length) = false := decide_eq_false hlt
          clear of og bq hlt hj OF OG
          go_wp2_with fail
          refine (low_any at_ b.length (by have := HB.out; omega) (by have := HB.out; omega) wr).mono ?_
          rintro e w2 ⟨rfl, rfl⟩
          have hal := low_lt at_ b.length (by have := HB.out; omega)
          obtain ⟨a, ha⟩ : ∃ a, low at_ b.length = a := ⟨_, rfl⟩
          rw [ha] at hal ⊢
          have hx7 : b.length ≤ x7 := by obtain ⟨_, _, e, h, _⟩ := Own.sl ob; injection e with _ _ e3; omega
          have hcut : ∀ W, (Instr.sliceAt 25 (.slice a7 b.length x7) none (some (.int .i64 (a : Nat))) none).run Try.prog W = .ok (.slice (cutA a7 0 x7) a x7) W := fun W => by
            rw [cut_h TB W _ _ _ _ _ (by omega) (by omega), Int.toNat_natCast]
          have hsc := (Own.sl ob).cut 0 a (by omega) (by omega)
          rw [Nat.sub_zero, Nat.sub_zero, List.drop_zero] at hsc
          have htl : (b.take a).length = a := by rw [List.length_take]; omega
          obtain ⟨T, hT⟩ : ∃ T, b.take a = T := ⟨_, rfl⟩
          rw [hT] at hsc htl
          obtain ⟨⟨c1, e1⟩, hq1⟩ : ∃ q, Frm.fall T = q := ⟨_, rfl⟩
          have SC := Lib.hid hsc
          have HTL := Lib.hid htl
          have HQ1 := Lib.hid hq1
          have HAL := Lib.hid hal
          clear hsc hT ha htl hq1 ob hx7
          go_wp2_with fail
          have hc := fall_any T (by have := HTL.out; have := HAL.out; have := HB.out; omega) _ wr SC.out
          rw [HQ1.out] at hc
          refine hc.mono ?_
          rintro e w3 ⟨v14, rfl, o14, h3⟩
          obtain ⟨a14, x14, rfl⟩ := OwnFs.shape (show OwnFs w3 wr.heap.size 28 v14 c1 from o14)
          have OB3 := Lib.hid (own_below OB.out h3)
          have B3 := Lib.hid (BQ.out.trans (h3.mono BQ.out.size))
          have SC3 := Lib.hid (SC.out.below h3)
          clear hc o14 h3 OB BQ SC
          simp only []
          go_wp2_with fail
          have hc := dall_any T (by have := HTL.out; have := HAL.out; have := HB.out; omega) _ w3 SC3.out
          rw [HQ1.out] at hc
          refine hc.mono ?_
          rintro e w4 ⟨v16, rfl, o16, h4⟩
          obtain ⟨a16, x16, rfl⟩ := OwnFs.shape (show OwnFs w4 w3.heap.size 28 v16 c1 from o16)
          have ob4 := own_below OB3.out h4
          have B4 := Lib.hid (B3.out.trans (h4.mono B3.out.size))
          obtain ⟨g7, e7⟩ : ∃ g7, a7 = some ⟨g7, 0, none⟩ := by
            rcases ob4.2 with ⟨e, h0⟩ | ⟨g, cap, cur, e, _⟩
            · have := HB.out.2; omega
            · injection e with e
              exact ⟨g, e⟩
          subst e7
          have cO : w4.cell? ⟨g7, a, none⟩ = some (.int .u8 (n8 (nth b a) : Nat)) := by
            have hal := HAL.out
            rw [ob4.cellAt a (by omega)]
            simp [nth, bv, n8, hal]
          have fO := ob4.frozenAt a
          have hal := HAL.out
          have HO := Lib.hid (own_stored ob4 a by_)
          have GR := Lib.hid (ob4.stored a (bv by_)).2
          have hB5 := B4.out.grown GR.out B4.out.size (fun k hk => (ob4.lt k hk).1)
          have B5 := Lib.hid hB5
          clear hc o16 h4 OB3 B3 SC3 ob4 hB5 hcut
          simp only []
          go_wp2_with fail
          have B5' : Below w.heap.size w (w4.setCell ⟨g7, a, none⟩ (.int .u8 (n8 by_ : Nat))) := B5.out
          have O5 := HO.out
          obtain ⟨w5, hw5⟩ : ∃ w5, w4.setCell ⟨g7, a, none⟩ (.int .u8 (n8 by_ : Nat)) = w5 := ⟨_, rfl⟩
          rw [hw5] at B5' O5 ⊢
          have hnl : (b.set a by_).length = b.length := List.length_set
          obtain ⟨b2, hb2⟩ : ∃ b2, b.set a by_ = b2 := ⟨_, rfl⟩
          rw [hb2] at O5 hnl
          rw [← hnl] at O5 ⊢
          obtain ⟨⟨c2, e2⟩, hq2⟩ : ∃ q, Frm.fall b2 = q := ⟨_, rfl⟩
          have HQ2 := Lib.hid hq2
          have OB5 := Lib.hid O5
          have BB5 := Lib.hid B5'
          have HB2 := Lib.hid (show b2.length ≤ 72000 by have := HB.out; omega)
          clear B5' O5 hw5 hnl hb2 hq2 HO GR B5 cO fO B4 hal q0
          have hc := fall_any b2 (by have := HB2.out; omega) _ w5 (Own.sl OB5.out)
          rw [HQ2.out] at hc
          refine hc.mono ?_
          rintro e w6 ⟨v18, rfl, o18, h6⟩
          obtain ⟨a18, x18, rfl⟩ := OwnFs.shape (show OwnFs w6 w5.heap.size 28 v18 c2 from o18)
          have OB6 := Lib.hid (own_below OB5.out h6)
          have B6 := Lib.hid (BB5.out.trans (h6.mono BB5.out.size))
          clear hc o18 h6 OB5 BB5
          simp only []
          go_wp2_with fail
          have hc := dall_any b2 (by have := HB2.out; omega) _ w6 (Own.sl OB6.out)
          rw [HQ2.out] at hc
          refine hc.mono ?_
          rintro e w7 ⟨v20, rfl, o20, h7⟩
          obtain ⟨a20, x20, rfl⟩ := OwnFs.shape (show OwnFs w7 w6.heap.size 28 v20 c2 from o20)
          have B7 := Lib.hid (B6.out.trans (h7.mono B6.out.size))
          clear hc o20 h7 OB6 B6
          simp only []
          go_wp2_with fail
          refine (fawake_any _).mono ?_
          rintro e wx ⟨rfl, hx⟩
          have BX := Lib.hid (B7.out.trans (hx.mono B7.out.size))
          clear hx
          go_wp2_with fail
          go_ret
          exact ⟨rfl, BX.out⟩
end Go.Proofs.Ytipniobgijdlkaa
end
