/- The walks of package frame's Put at frames that may be: data. -/
import Derived.Test.YthjbmggpleliaaaGreatDoorMhb41
import Derived.Test.YthjbmggpleliaaaGreatDoorMhb36
import Derived.Test.YthjbmggpleliaaaGreatDoorMhb4
import Derived.Test.YthjbmggpleliaaaGreatDoorMhb21
namespace Go.Proofs.YthjbmggpleliaaaGreatDoor
open Go.RowKit Go.Rw Frm Hdr
attribute [local go_sem ↓] ldFF stFF alFF
attribute [local go_sem] rldFF rstFF ralFF setRow_alloc_at setRow_alloc_past setRow_drew
set_option maxRecDepth 100000 in
set_option maxHeartbeats 2000000 in
theorem fput_6 (n d : Nat) (rs : List (Nat × Nat)) (i o : Nat) (fin : Bool) (dat cid tok : List UInt8) (ar ad ac at_ : Option Addr) (er ed ec et : Nat) (hm : mayB 6 n d rs.length (rsOk rs) i o fin dat.length cid.length tok.length = true) (w : World) (hr : Sr w (.slice ar rs.length er) rs) (hd : Sl w (.slice ad dat.length ed) dat) (hc : Sl w (.slice ac cid.length ec) cid) (ht : Sl w (.slice at_ tok.length et) tok) :
  Calls Tryz.prog 124 #[.agg (fvA 6 n d (.slice ar rs.length er) i o fin (.slice ad dat.length ed) (.slice ac cid.length ec) (.slice at_ tok.length et))] w fun e w' => ∃ v', e = .returned v' ∧ w'.ownsRow (w.heap.size + 1) 5 1 v' (Fr.put ⟨6, n, d, rs, i, o, fin, dat, cid, tok⟩).length ((Fr.put ⟨6, n, d, rs, i, o, fin, dat, cid, tok⟩).map bv) ∧ Below w.heap.size w w' := by
 obtain ⟨i0, hi0, hz0, hz1, hz2⟩ := info_parts info8
 have hm2 := hm
 have hpl : (decide (dat.length < 16384 ∧ i ≤ 4611686018427387903 ∧ o + dat.length ≤ 4611686018427387903) && plainB n d rs.length i 0 fin 0 cid.length tok.length) = true := hm2
 rw [Bool.and_eq_true, decide_eq_true_eq] at hpl
 have hk := hpl.1
 have pb := plainB_true hpl.2
 have hnc : cid.length ≤ 1000000 := by omega
 have hnt : tok.length ≤ 1000000 := by omega
 have ld : dat.length ≤ 16383 := by omega
 have hi' : i < 4611686018427387904 := by omega
 have ho' : o < 4611686018427387904 := by omega
 have hw : IntKind.u64.wrap ((dat.length : Nat) : Int) = (dat.length : Nat) := by simp only [IntKind.wrap_u64]; omega
 have hmay := fun W hs' => fmay_any 6 n d i o fin ar ad ac at_ rs.length dat.length cid.length tok.length er ed ec et rs hnc hnt W hs'
 rw [may_eq _ _ _ _ _ _ _ _ _ _ _ rsOk_pos, hm2] at hmay
 have fc := fun (W : World) (b : Nat) (h : row? W b = some (fvA 6 n d (.slice ar rs.length er) i o fin (.slice ad dat.length ed) (.slice ac cid.length ec) (.slice at_ tok.length et))) => fv_cells h
 have hz : (fvA 6 n d (.slice ar rs.length er) i o fin (.slice ad dat.length ed) (.slice ac cid.length ec) (.slice at_ tok.length et)).size = 10 := rfl
 generalize fvA 6 n d (.slice ar rs.length er) i o fin (.slice ad dat.length ed) (.slice ac cid.length ec) (.slice at_ tok.length et) = F at *
 have P0 : PS w F (w.alloc (.cells F 159)) := ⟨row?_alloc_at _ _ _ _ rfl, (Below.refl _ _).alloc (Nat.le_refl _) _⟩
 have lf := rldFF (w.alloc (.cells F 159)) w.heap.size (by rw [P0.row, Option.map_some, hz])
 rw [P0.row] at lf
 have lf' : (loadAgg 159 (.pointer (some ⟨w.heap.size, 0, none⟩))).run Tryz.prog (w.alloc (.cells F 159)) = .ok (.agg F) (w.alloc (.cells F 159)) := lf
 have HMAY := Lib.hid hmay
 have FC := Lib.hid fc
 have HR := Lib.hid hr
 have HD := Lib.hid hd
 have HC := Lib.hid hc
 have HT := Lib.hid ht
 have Q0 := Lib.hid P0
 clear hmay fc lf hm hm2 P0 hr hd hc ht hpl pb hk
 go_enter Tryz.func124, Tryz.ntmps124
 go_wp2_with fail
 refine (HMAY.out _ (HR.out.below Q0.out.bel)).mono ?_
 rintro e w1 ⟨rfl, b1⟩
 have Q1 := Lib.hid (Q0.out.step b1)
 obtain ⟨c0, c1, c2, c3, c4, c5, c6, c7, c8, c9⟩ := FC.out _ _ Q1.out.row
 clear b1 lf' Q0
 go_wp2_with fail
 refine (vput_any [] 6 (by simp) (by omega) _ _ (Sl.nil _)).mono ?_
 rintro e w2 ⟨v2, rfl, o2, b2⟩
 have e2 : ([] ++ vin 6 (vlen 6) : List UInt8) = [6] := by decide
 obtain ⟨q2, hq2⟩ : ∃ q2 : List UInt8, [6] = q2 := ⟨_, rfl⟩
 have kq2 : q2.length ≤ 1 := by rw [← hq2]; decide
 rw [e2, hq2] at o2
 have Hq2 := Lib.hid hq2
 have O2 := Lib.hid (own_lower o2 Q1.out.size)
 have Q2 := Lib.hid (Q1.out.step b2)
 obtain ⟨a2, x2, rfl, -, -, -⟩ := id (Own.sl o2)
 clear b2 o2 hq2 e2 Q1
 clear c0 c1 c2 c3 c4 c5 c6 c7 c8 c9
 obtain ⟨c0, c1, c2, c3, c4, c5, c6, c7, c8, c9⟩ := FC.out _ _ Q2.out.row
 have HW := Lib.hid hw
 clear hw
 go_wp2_with fail
 have hw := HW.out
 refine Rg.wp_region_plan (Rg.row [(0, 3), (1, 3), (2, 0), (4, 3), (5, 0), (6, 0), (7, 3), (3, 1), (8, 1), (9, 3)] []) [] (by kernel_rfl) (by kernel_rfl) ?_
 simp only [Rg.row, Rg.PT.map, List.map_nil, List.getD_cons_zero, List.getD_cons_succ]
 go_wp2_with (first
  |(with_reducible refine Rg.plan_pure ?_ ?_ ?_); kernel_rfl; kernel_rfl; intro _ _|(with_reducible refine Rg.plan_take ?_ ?_ ?_); kernel_rfl; kernel_rfl; intro _ _|(with_reducible refine Rg.plan_keep ?_ ?_); kernel_rfl; intro K hK|refine hK _ _ (Rg.Keep.refl _) ?_; clear hK|refine hK _ _ (Rg.Keep.of_below (by assumption)) ?_; clear hK|(with_reducible refine Rg.plan_skip ?_ ?_); kernel_rfl|(with_reducible refine Rg.plan_done ?_)|(with_reducible refine Rg.calm_normal ?_))
 refine (vput_any q2 o (by omega) (by omega) _ _ (Own.sl O2.out.drew)).mono ?_
 rintro e w3 ⟨v3, rfl, o3, b3⟩
 refine hK _ _ (Rg.Keep.of_below b3) ?_
 clear hK
 obtain ⟨q3, hq3⟩ : ∃ q3, q2 ++ vin o (vlen o) = q3 := ⟨_, rfl⟩
 have kq3 : q3.length ≤ 9 := by rw [← hq3]; simp only [List.length_append, vin_length]; have := vlen_le o; omega
 rw [hq3] at o3
 have Hq3 := Lib.hid hq3
 have O3 := Lib.hid (own_lower o3 Q2.out.drew.size)
 have Q3 := Lib.hid (Q2.out.drew.step b3)
 obtain ⟨a3, x3, rfl, -, -, -⟩ := id (Own.sl o3)
 clear b3 o3 hq3 Q2 O2
 clear c0 c1 c2 c3 c4 c5 c6 c7 c8 c9
 obtain ⟨c0, c1, c2, c3, c4, c5, c6, c7, c8, c9⟩ := FC.out _ _ Q3.out.row
 go_wp2_with (first
  |(with_reducible refine Rg.plan_pure ?_ ?_ ?_); kernel_rfl; kernel_rfl; intro _ _|(with_reducible refine Rg.plan_take ?_ ?_ ?_); kernel_rfl; kernel_rfl; intro _ _|(with_reducible refine Rg.plan_keep ?_ ?_); kernel_rfl; intro K hK|refine hK _ _ (Rg.Keep.refl _) ?_; clear hK|refine hK _ _ (Rg.Keep.of_below (by assumption)) ?_; clear hK|(with_reducible refine Rg.plan_skip ?_ ?_); kernel_rfl|(with_reducible refine Rg.plan_done ?_)|(with_reducible refine Rg.calm_normal ?_))
 refine (vput_any q3 dat.length (by omega) (by omega) _ _ (Own.sl O3.out)).mono ?_
 rintro e w4 ⟨v4, rfl, o4, b4⟩
 refine hK _ _ (Rg.Keep.of_below b4) ?_
 clear hK
 obtain ⟨q4, hq4⟩ : ∃ q4, q3 ++ vin dat.length (vlen dat.length) = q4 := ⟨_, rfl⟩
 have kq4 : q4.length ≤ 17 := by rw [← hq4]; simp only [List.length_append, vin_length]; have := vlen_le dat.length; omega
 rw [hq4] at o4
 have Hq4 := Lib.hid hq4
 have O4 := Lib.hid (own_lower o4 Q3.out.size)
 have Q4 := Lib.hid (Q3.out.step b4)
 obtain ⟨a4, x4, rfl, -, -, -⟩ := id (Own.sl o4)
 clear b4 o4 hq4 Q3 O3
 clear c0 c1 c2 c3 c4 c5 c6 c7 c8 c9
 obtain ⟨c0, c1, c2, c3, c4, c5, c6, c7, c8, c9⟩ := FC.out _ _ Q4.out.row
 go_wp2_with (first
  | (with_reducible refine Rw.hold_ops 49 ?_)
  |(with_reducible refine Rg.plan_pure ?_ ?_ ?_); kernel_rfl; kernel_rfl; intro _ _|(with_reducible refine Rg.plan_take ?_ ?_ ?_); kernel_rfl; kernel_rfl; intro _ _|(with_reducible refine Rg.plan_keep ?_ ?_); kernel_rfl; intro K hK|refine hK _ _ (Rg.Keep.refl _) ?_; clear hK|refine hK _ _ (Rg.Keep.of_below (by assumption)) ?_; clear hK|(with_reducible refine Rg.plan_skip ?_ ?_); kernel_rfl|(with_reducible refine Rg.plan_done ?_)|(with_reducible refine Rg.calm_normal ?_))
 refine Rw.Held.mk ?_
 have SS := Lib.hid (HD.out.below Q4.out.bel)
 go_wp2_with (at_builtin; refine app_sl rfl _ _ 22 rfl (w.heap.size + 1) 5 i0 Tryz.underlying22 hi0 hz0 hz1 hz2 _ _ rfl O4.out _ dat rfl SS.out ?hl5 ?hb5 ?_)
 case hl5 => omega
 case hb5 => exact Q4.out.size
 intro v5 w5 o5 g5
 have Q5 := Lib.hid (Q4.out.grown g5 (fun k hk => (O4.out.lt k hk).1))
 obtain ⟨q5, hq5⟩ : ∃ q5, q4 ++ dat = q5 := ⟨_, rfl⟩
 have kq5 : q5.length ≤ 16400 := by rw [← hq5]; simp only [List.length_append]; omega
 rw [← List.map_append, ← List.length_append, hq5] at o5
 have Hq5 := Lib.hid hq5
 have O5 := Lib.hid o5
 obtain ⟨a5, x5, rfl, -, -, -⟩ := id (Own.sl o5)
 clear o5 g5 hq5 Q4 O4 SS
 clear c0 c1 c2 c3 c4 c5 c6 c7 c8 c9
 obtain ⟨c0, c1, c2, c3, c4, c5, c6, c7, c8, c9⟩ := FC.out _ _ Q5.out.row
 have HE := Lib.hid (show q5 = Fr.put ⟨6, n, d, rs, i, o, fin, dat, cid, tok⟩ by
  rw [← Hq5.out, ← Hq4.out, ← Hq3.out, ← Hq2.out]; rfl)
 go_wp2_with fail
 go_ret
 exact ⟨_, rfl, HE.out ▸ O5.out, Q5.out.bel⟩
set_option maxRecDepth 100000 in
set_option maxHeartbeats 2000000 in
theorem fput_8f (n d : Nat) (rs : List (Nat × Nat)) (i o : Nat) (dat cid tok : List UInt8) (ar ad ac at_ : Option Addr) (er ed ec et : Nat) (hm : mayB 8 n d rs.length (rsOk rs) i o false dat.length cid.length tok.length = true) (w : World) (hr : Sr w (.slice ar rs.length er) rs) (hd : Sl w (.slice ad dat.length ed) dat) (hc : Sl w (.slice ac cid.length ec) cid) (ht : Sl w (.slice at_ tok.length et) tok) :
  Calls Tryz.prog 124 #[.agg (fvA 8 n d (.slice ar rs.length er) i o false (.slice ad dat.length ed) (.slice ac cid.length ec) (.slice at_ tok.length et))] w fun e w' => ∃ v', e = .returned v' ∧ w'.ownsRow (w.heap.size + 1) 5 1 v' (Fr.put ⟨8, n, d, rs, i, o, false, dat, cid, tok⟩).length ((Fr.put ⟨8, n, d, rs, i, o, false, dat, cid, tok⟩).map bv) ∧ Below w.heap.size w w' := by
 obtain ⟨i0, hi0, hz0, hz1, hz2⟩ := info_parts info8
 have hm2 := hm
 have hpl : (decide (dat.length < 16384 ∧ i ≤ 4611686018427387903 ∧ o + dat.length ≤ 4611686018427387903) && plainB n d rs.length 0 0 false 0 cid.length tok.length) = true := hm2
 rw [Bool.and_eq_true, decide_eq_true_eq] at hpl
 have hk := hpl.1
 have pb := plainB_true hpl.2
 have hnc : cid.length ≤ 1000000 := by omega
 have hnt : tok.length ≤ 1000000 := by omega
 have ld : dat.length ≤ 16383 := by omega
 have hi' : i < 4611686018427387904 := by omega
 have ho' : o < 4611686018427387904 := by omega
 have hw : IntKind.u64.wrap ((dat.length : Nat) : Int) = (dat.length : Nat) := by simp only [IntKind.wrap_u64]; omega
 have hmay := fun W hs' => fmay_any 8 n d i o false ar ad ac at_ rs.length dat.length cid.length tok.length er ed ec et rs hnc hnt W hs'
 rw [may_eq _ _ _ _ _ _ _ _ _ _ _ rsOk_pos, hm2] at hmay
 have fc := fun (W : World) (b : Nat) (h : row? W b = some (fvA 8 n d (.slice ar rs.length er) i o false (.slice ad dat.length ed) (.slice ac cid.length ec) (.slice at_ tok.length et))) => fv_cells h
 have hz : (fvA 8 n d (.slice ar rs.length er) i o false (.slice ad dat.length ed) (.slice ac cid.length ec) (.slice at_ tok.length et)).size = 10 := rfl
 generalize fvA 8 n d (.slice ar rs.length er) i o false (.slice ad dat.length ed) (.slice ac cid.length ec) (.slice at_ tok.length et) = F at *
 have P0 : PS w F (w.alloc (.cells F 159)) := ⟨row?_alloc_at _ _ _ _ rfl, (Below.refl _ _).alloc (Nat.le_refl _) _⟩
 have lf := rldFF (w.alloc (.cells F 159)) w.heap.size (by rw [P0.row, Option.map_some, hz])
 rw [P0.row] at lf
 have lf' : (loadAgg 159 (.pointer (some ⟨w.heap.size, 0, none⟩))).run Tryz.prog (w.alloc (.cells F 159)) = .ok (.agg F) (w.alloc (.cells F 159)) := lf
 have HMAY := Lib.hid hmay
 have FC := Lib.hid fc
 have HR := Lib.hid hr
 have HD := Lib.hid hd
 have HC := Lib.hid hc
 have HT := Lib.hid ht
 have Q0 := Lib.hid P0
 clear hmay fc lf hm hm2 P0 hr hd hc ht hpl pb hk
 go_enter Tryz.func124, Tryz.ntmps124
 go_wp2_with fail
 refine (HMAY.out _ (HR.out.below Q0.out.bel)).mono ?_
 rintro e w1 ⟨rfl, b1⟩
 have Q1 := Lib.hid (Q0.out.step b1)
 obtain ⟨c0, c1, c2, c3, c4, c5, c6, c7, c8, c9⟩ := FC.out _ _ Q1.out.row
 clear b1 lf' Q0
 go_wp2_with fail
 refine (vput_any [] 14 (by simp) (by omega) _ _ (Sl.nil _)).mono ?_
 rintro e w2 ⟨v2, rfl, o2, b2⟩
 have e2 : ([] ++ vin 14 (vlen 14) : List UInt8) = [14] := by decide
 obtain ⟨q2, hq2⟩ : ∃ q2 : List UInt8, [14] = q2 := ⟨_, rfl⟩
 have kq2 : q2.length ≤ 1 := by rw [← hq2]; decide
 rw [e2, hq2] at o2
 have Hq2 := Lib.hid hq2
 have O2 := Lib.hid (own_lower o2 Q1.out.size)
 have Q2 := Lib.hid (Q1.out.step b2)
 obtain ⟨a2, x2, rfl, -, -, -⟩ := id (Own.sl o2)
 clear b2 o2 hq2 e2 Q1
 clear c0 c1 c2 c3 c4 c5 c6 c7 c8 c9
 obtain ⟨c0, c1, c2, c3, c4, c5, c6, c7, c8, c9⟩ := FC.out _ _ Q2.out.row
 go_wp2_with fail
 refine (vput_any q2 i (by omega) (by omega) _ _ (Own.sl O2.out)).mono ?_
 rintro e w3 ⟨v3, rfl, o3, b3⟩
 obtain ⟨q3, hq3⟩ : ∃ q3, q2 ++ vin i (vlen i) = q3 := ⟨_, rfl⟩
 have kq3 : q3.length ≤ 9 := by rw [← hq3]; simp only [List.length_append, vin_length]; have := vlen_le i; omega
 rw [hq3] at o3
 have Hq3 := Lib.hid hq3
 have O3 := Lib.hid (own_lower o3 Q2.out.size)
 have Q3 := Lib.hid (Q2.out.step b3)
 obtain ⟨a3, x3, rfl, -, -, -⟩ := id (Own.sl o3)
 clear b3 o3 hq3 Q2 O2
 clear c0 c1 c2 c3 c4 c5 c6 c7 c8 c9
 obtain ⟨c0, c1, c2, c3, c4, c5, c6, c7, c8, c9⟩ := FC.out _ _ Q3.out.row
 have HW := Lib.hid hw
 clear hw
 go_wp2_with fail
 have hw := HW.out
 refine Rg.wp_region_plan (Rg.row [(0, 3), (1, 3), (2, 0), (4, 3), (5, 0), (6, 0), (7, 3), (3, 1), (8, 1), (9, 3)] []) [] (by kernel_rfl) (by kernel_rfl) ?_
 simp only [Rg.row, Rg.PT.map, List.map_nil, List.getD_cons_zero, List.getD_cons_succ]
 go_wp2_with (first
  |(with_reducible refine Rg.plan_pure ?_ ?_ ?_); kernel_rfl; kernel_rfl; intro _ _|(with_reducible refine Rg.plan_take ?_ ?_ ?_); kernel_rfl; kernel_rfl; intro _ _|(with_reducible refine Rg.plan_keep ?_ ?_); kernel_rfl; intro K hK|refine hK _ _ (Rg.Keep.refl _) ?_; clear hK|refine hK _ _ (Rg.Keep.of_below (by assumption)) ?_; clear hK|(with_reducible refine Rg.plan_skip ?_ ?_); kernel_rfl|(with_reducible refine Rg.plan_done ?_)|(with_reducible refine Rg.calm_normal ?_))
 refine (vput_any q3 o (by omega) (by omega) _ _ (Own.sl O3.out.drew)).mono ?_
 rintro e w4 ⟨v4, rfl, o4, b4⟩
 refine hK _ _ (Rg.Keep.of_below b4) ?_
 clear hK
 obtain ⟨q4, hq4⟩ : ∃ q4, q3 ++ vin o (vlen o) = q4 := ⟨_, rfl⟩
 have kq4 : q4.length ≤ 17 := by rw [← hq4]; simp only [List.length_append, vin_length]; have := vlen_le o; omega
 rw [hq4] at o4
 have Hq4 := Lib.hid hq4
 have O4 := Lib.hid (own_lower o4 Q3.out.drew.size)
 have Q4 := Lib.hid (Q3.out.drew.step b4)
 obtain ⟨a4, x4, rfl, -, -, -⟩ := id (Own.sl o4)
 clear b4 o4 hq4 Q3 O3
 clear c0 c1 c2 c3 c4 c5 c6 c7 c8 c9
 obtain ⟨c0, c1, c2, c3, c4, c5, c6, c7, c8, c9⟩ := FC.out _ _ Q4.out.row
 go_wp2_with (first
  |(with_reducible refine Rg.plan_pure ?_ ?_ ?_); kernel_rfl; kernel_rfl; intro _ _|(with_reducible refine Rg.plan_take ?_ ?_ ?_); kernel_rfl; kernel_rfl; intro _ _|(with_reducible refine Rg.plan_keep ?_ ?_); kernel_rfl; intro K hK|refine hK _ _ (Rg.Keep.refl _) ?_; clear hK|refine hK _ _ (Rg.Keep.of_below (by assumption)) ?_; clear hK|(with_reducible refine Rg.plan_skip ?_ ?_); kernel_rfl|(with_reducible refine Rg.plan_done ?_)|(with_reducible refine Rg.calm_normal ?_))
 refine (vput_any q4 dat.length (by omega) (by omega) _ _ (Own.sl O4.out)).mono ?_
 rintro e w5 ⟨v5, rfl, o5, b5⟩
 refine hK _ _ (Rg.Keep.of_below b5) ?_
 clear hK
 obtain ⟨q5, hq5⟩ : ∃ q5, q4 ++ vin dat.length (vlen dat.length) = q5 := ⟨_, rfl⟩
 have kq5 : q5.length ≤ 25 := by rw [← hq5]; simp only [List.length_append, vin_length]; have := vlen_le dat.length; omega
 rw [hq5] at o5
 have Hq5 := Lib.hid hq5
 have O5 := Lib.hid (own_lower o5 Q4.out.size)
 have Q5 := Lib.hid (Q4.out.step b5)
 obtain ⟨a5, x5, rfl, -, -, -⟩ := id (Own.sl o5)
 clear b5 o5 hq5 Q4 O4
 clear c0 c1 c2 c3 c4 c5 c6 c7 c8 c9
 obtain ⟨c0, c1, c2, c3, c4, c5, c6, c7, c8, c9⟩ := FC.out _ _ Q5.out.row
 go_wp2_with (first
  | (with_reducible refine Rw.hold_ops 49 ?_)
  |(with_reducible refine Rg.plan_pure ?_ ?_ ?_); kernel_rfl; kernel_rfl; intro _ _|(with_reducible refine Rg.plan_take ?_ ?_ ?_); kernel_rfl; kernel_rfl; intro _ _|(with_reducible refine Rg.plan_keep ?_ ?_); kernel_rfl; intro K hK|refine hK _ _ (Rg.Keep.refl _) ?_; clear hK|refine hK _ _ (Rg.Keep.of_below (by assumption)) ?_; clear hK|(with_reducible refine Rg.plan_skip ?_ ?_); kernel_rfl|(with_reducible refine Rg.plan_done ?_)|(with_reducible refine Rg.calm_normal ?_))
 refine Rw.Held.mk ?_
 have SS := Lib.hid (HD.out.below Q5.out.bel)
 go_wp2_with (at_builtin; refine app_sl rfl _ _ 22 rfl (w.heap.size + 1) 5 i0 Tryz.underlying22 hi0 hz0 hz1 hz2 _ _ rfl O5.out _ dat rfl SS.out ?hl6 ?hb6 ?_)
 case hl6 => omega
 case hb6 => exact Q5.out.size
 intro v6 w6 o6 g6
 have Q6 := Lib.hid (Q5.out.grown g6 (fun k hk => (O5.out.lt k hk).1))
 obtain ⟨q6, hq6⟩ : ∃ q6, q5 ++ dat = q6 := ⟨_, rfl⟩
 have kq6 : q6.length ≤ 16408 := by rw [← hq6]; simp only [List.length_append]; omega
 rw [← List.map_append, ← List.length_append, hq6] at o6
 have Hq6 := Lib.hid hq6
 have O6 := Lib.hid o6
 obtain ⟨a6, x6, rfl, -, -, -⟩ := id (Own.sl o6)
 clear o6 g6 hq6 Q5 O5 SS
 clear c0 c1 c2 c3 c4 c5 c6 c7 c8 c9
 obtain ⟨c0, c1, c2, c3, c4, c5, c6, c7, c8, c9⟩ := FC.out _ _ Q6.out.row
 have HE := Lib.hid (show q6 = Fr.put ⟨8, n, d, rs, i, o, false, dat, cid, tok⟩ by
  rw [← Hq6.out, ← Hq5.out, ← Hq4.out, ← Hq3.out, ← Hq2.out]; rfl)
 go_wp2_with fail
 go_ret
 exact ⟨_, rfl, HE.out ▸ O6.out, Q6.out.bel⟩
set_option maxRecDepth 100000 in
set_option maxHeartbeats 2000000 in
theorem fput_8t (n d : Nat) (rs : List (Nat × Nat)) (i o : Nat) (dat cid tok : List UInt8) (ar ad ac at_ : Option Addr) (er ed ec et : Nat) (hm : mayB 8 n d rs.length (rsOk rs) i o true dat.length cid.length tok.length = true) (w : World) (hr : Sr w (.slice ar rs.length er) rs) (hd : Sl w (.slice ad dat.length ed) dat) (hc : Sl w (.slice ac cid.length ec) cid) (ht : Sl w (.slice at_ tok.length et) tok) :
  Calls Tryz.prog 124 #[.agg (fvA 8 n d (.slice ar rs.length er) i o true (.slice ad dat.length ed) (.slice ac cid.length ec) (.slice at_ tok.length et))] w fun e w' => ∃ v', e = .returned v' ∧ w'.ownsRow (w.heap.size + 1) 5 1 v' (Fr.put ⟨8, n, d, rs, i, o, true, dat, cid, tok⟩).length ((Fr.put ⟨8, n, d, rs, i, o, true, dat, cid, tok⟩).map bv) ∧ Below w.heap.size w w' := by
 obtain ⟨i0, hi0, hz0, hz1, hz2⟩ := info_parts info8
 have hm2 := hm
 have hpl : (decide (dat.length < 16384 ∧ i ≤ 4611686018427387903 ∧ o + dat.length ≤ 4611686018427387903) && plainB n d rs.length 0 0 false 0 cid.length tok.length) = true := hm2
 rw [Bool.and_eq_true, decide_eq_true_eq] at hpl
 have hk := hpl.1
 have pb := plainB_true hpl.2
 have hnc : cid.length ≤ 1000000 := by omega
 have hnt : tok.length ≤ 1000000 := by omega
 have ld : dat.length ≤ 16383 := by omega
 have hi' : i < 4611686018427387904 := by omega
 have ho' : o < 4611686018427387904 := by omega
 have hw : IntKind.u64.wrap ((dat.length : Nat) : Int) = (dat.length : Nat) := by simp only [IntKind.wrap_u64]; omega
 have hmay := fun W hs' => fmay_any 8 n d i o true ar ad ac at_ rs.length dat.length cid.length tok.length er ed ec et rs hnc hnt W hs'
 rw [may_eq _ _ _ _ _ _ _ _ _ _ _ rsOk_pos, hm2] at hmay
 have fc := fun (W : World) (b : Nat) (h : row? W b = some (fvA 8 n d (.slice ar rs.length er) i o true (.slice ad dat.length ed) (.slice ac cid.length ec) (.slice at_ tok.length et))) => fv_cells h
 have hz : (fvA 8 n d (.slice ar rs.length er) i o true (.slice ad dat.length ed) (.slice ac cid.length ec) (.slice at_ tok.length et)).size = 10 := rfl
 generalize fvA 8 n d (.slice ar rs.length er) i o true (.slice ad dat.length ed) (.slice ac cid.length ec) (.slice at_ tok.length et) = F at *
 have P0 : PS w F (w.alloc (.cells F 159)) := ⟨row?_alloc_at _ _ _ _ rfl, (Below.refl _ _).alloc (Nat.le_refl _) _⟩
 have lf := rldFF (w.alloc (.cells F 159)) w.heap.size (by rw [P0.row, Option.map_some, hz])
 rw [P0.row] at lf
 have lf' : (loadAgg 159 (.pointer (some ⟨w.heap.size, 0, none⟩))).run Tryz.prog (w.alloc (.cells F 159)) = .ok (.agg F) (w.alloc (.cells F 159)) := lf
 have HMAY := Lib.hid hmay
 have FC := Lib.hid fc
 have HR := Lib.hid hr
 have HD := Lib.hid hd
 have HC := Lib.hid hc
 have HT := Lib.hid ht
 have Q0 := Lib.hid P0
 clear hmay fc lf hm hm2 P0 hr hd hc ht hpl pb hk
 go_enter Tryz.func124, Tryz.ntmps124
 go_wp2_with fail
 refine (HMAY.out _ (HR.out.below Q0.out.bel)).mono ?_
 rintro e w1 ⟨rfl, b1⟩
 have Q1 := Lib.hid (Q0.out.step b1)
 obtain ⟨c0, c1, c2, c3, c4, c5, c6, c7, c8, c9⟩ := FC.out _ _ Q1.out.row
 clear b1 lf' Q0
 go_wp2_with fail
 refine (vput_any [] 15 (by simp) (by omega) _ _ (Sl.nil _)).mono ?_
 rintro e w2 ⟨v2, rfl, o2, b2⟩
 have e2 : ([] ++ vin 15 (vlen 15) : List UInt8) = [15] := by decide
 obtain ⟨q2, hq2⟩ : ∃ q2 : List UInt8, [15] = q2 := ⟨_, rfl⟩
 have kq2 : q2.length ≤ 1 := by rw [← hq2]; decide
 rw [e2, hq2] at o2
 have Hq2 := Lib.hid hq2
 have O2 := Lib.hid (own_lower o2 Q1.out.size)
 have Q2 := Lib.hid (Q1.out.step b2)
 obtain ⟨a2, x2, rfl, -, -, -⟩ := id (Own.sl o2)
 clear b2 o2 hq2 e2 Q1
 clear c0 c1 c2 c3 c4 c5 c6 c7 c8 c9
 obtain ⟨c0, c1, c2, c3, c4, c5, c6, c7, c8, c9⟩ := FC.out _ _ Q2.out.row
 go_wp2_with fail
 refine (vput_any q2 i (by omega) (by omega) _ _ (Own.sl O2.out)).mono ?_
 rintro e w3 ⟨v3, rfl, o3, b3⟩
 obtain ⟨q3, hq3⟩ : ∃ q3, q2 ++ vin i (vlen i) = q3 := ⟨_, rfl⟩
 have kq3 : q3.length ≤ 9 := by rw [← hq3]; simp only [List.length_append, vin_length]; have := vlen_le i; omega
 rw [hq3] at o3
 have Hq3 := Lib.hid hq3
 have O3 := Lib.hid (own_lower o3 Q2.out.size)
 have Q3 := Lib.hid (Q2.out.step b3)
 obtain ⟨a3, x3, rfl, -, -, -⟩ := id (Own.sl o3)
 clear b3 o3 hq3 Q2 O2
 clear c0 c1 c2 c3 c4 c5 c6 c7 c8 c9
 obtain ⟨c0, c1, c2, c3, c4, c5, c6, c7, c8, c9⟩ := FC.out _ _ Q3.out.row
 have HW := Lib.hid hw
 clear hw
 go_wp2_with fail
 have hw := HW.out
 refine Rg.wp_region_plan (Rg.row [(0, 3), (1, 3), (2, 0), (4, 3), (5, 0), (6, 0), (7, 3), (3, 1), (8, 1), (9, 3)] []) [] (by kernel_rfl) (by kernel_rfl) ?_
 simp only [Rg.row, Rg.PT.map, List.map_nil, List.getD_cons_zero, List.getD_cons_succ]
 go_wp2_with (first
  |(with_reducible refine Rg.plan_pure ?_ ?_ ?_); kernel_rfl; kernel_rfl; intro _ _|(with_reducible refine Rg.plan_take ?_ ?_ ?_); kernel_rfl; kernel_rfl; intro _ _|(with_reducible refine Rg.plan_keep ?_ ?_); kernel_rfl; intro K hK|refine hK _ _ (Rg.Keep.refl _) ?_; clear hK|refine hK _ _ (Rg.Keep.of_below (by assumption)) ?_; clear hK|(with_reducible refine Rg.plan_skip ?_ ?_); kernel_rfl|(with_reducible refine Rg.plan_done ?_)|(with_reducible refine Rg.calm_normal ?_))
 refine (vput_any q3 o (by omega) (by omega) _ _ (Own.sl O3.out.drew)).mono ?_
 rintro e w4 ⟨v4, rfl, o4, b4⟩
 refine hK _ _ (Rg.Keep.of_below b4) ?_
 clear hK
 obtain ⟨q4, hq4⟩ : ∃ q4, q3 ++ vin o (vlen o) = q4 := ⟨_, rfl⟩
 have kq4 : q4.length ≤ 17 := by rw [← hq4]; simp only [List.length_append, vin_length]; have := vlen_le o; omega
 rw [hq4] at o4
 have Hq4 := Lib.hid hq4
 have O4 := Lib.hid (own_lower o4 Q3.out.drew.size)
 have Q4 := Lib.hid (Q3.out.drew.step b4)
 obtain ⟨a4, x4, rfl, -, -, -⟩ := id (Own.sl o4)
 clear b4 o4 hq4 Q3 O3
 clear c0 c1 c2 c3 c4 c5 c6 c7 c8 c9
 obtain ⟨c0, c1, c2, c3, c4, c5, c6, c7, c8, c9⟩ := FC.out _ _ Q4.out.row
 go_wp2_with (first
  |(with_reducible refine Rg.plan_pure ?_ ?_ ?_); kernel_rfl; kernel_rfl; intro _ _|(with_reducible refine Rg.plan_take ?_ ?_ ?_); kernel_rfl; kernel_rfl; intro _ _|(with_reducible refine Rg.plan_keep ?_ ?_); kernel_rfl; intro K hK|refine hK _ _ (Rg.Keep.refl _) ?_; clear hK|refine hK _ _ (Rg.Keep.of_below (by assumption)) ?_; clear hK|(with_reducible refine Rg.plan_skip ?_ ?_); kernel_rfl|(with_reducible refine Rg.plan_done ?_)|(with_reducible refine Rg.calm_normal ?_))
 refine (vput_any q4 dat.length (by omega) (by omega) _ _ (Own.sl O4.out)).mono ?_
 rintro e w5 ⟨v5, rfl, o5, b5⟩
 refine hK _ _ (Rg.Keep.of_below b5) ?_
 clear hK
 obtain ⟨q5, hq5⟩ : ∃ q5, q4 ++ vin dat.length (vlen dat.length) = q5 := ⟨_, rfl⟩
 have kq5 : q5.length ≤ 25 := by rw [← hq5]; simp only [List.length_append, vin_length]; have := vlen_le dat.length; omega
 rw [hq5] at o5
 have Hq5 := Lib.hid hq5
 have O5 := Lib.hid (own_lower o5 Q4.out.size)
 have Q5 := Lib.hid (Q4.out.step b5)
 obtain ⟨a5, x5, rfl, -, -, -⟩ := id (Own.sl o5)
 clear b5 o5 hq5 Q4 O4
 clear c0 c1 c2 c3 c4 c5 c6 c7 c8 c9
 obtain ⟨c0, c1, c2, c3, c4, c5, c6, c7, c8, c9⟩ := FC.out _ _ Q5.out.row
 go_wp2_with (first
  | (with_reducible refine Rw.hold_ops 49 ?_)
  |(with_reducible refine Rg.plan_pure ?_ ?_ ?_); kernel_rfl; kernel_rfl; intro _ _|(with_reducible refine Rg.plan_take ?_ ?_ ?_); kernel_rfl; kernel_rfl; intro _ _|(with_reducible refine Rg.plan_keep ?_ ?_); kernel_rfl; intro K hK|refine hK _ _ (Rg.Keep.refl _) ?_; clear hK|refine hK _ _ (Rg.Keep.of_below (by assumption)) ?_; clear hK|(with_reducible refine Rg.plan_skip ?_ ?_); kernel_rfl|(with_reducible refine Rg.plan_done ?_)|(with_reducible refine Rg.calm_normal ?_))
 refine Rw.Held.mk ?_
 have SS := Lib.hid (HD.out.below Q5.out.bel)
 go_wp2_with (at_builtin; refine app_sl rfl _ _ 22 rfl (w.heap.size + 1) 5 i0 Tryz.underlying22 hi0 hz0 hz1 hz2 _ _ rfl O5.out _ dat rfl SS.out ?hl6 ?hb6 ?_)
 case hl6 => omega
 case hb6 => exact Q5.out.size
 intro v6 w6 o6 g6
 have Q6 := Lib.hid (Q5.out.grown g6 (fun k hk => (O5.out.lt k hk).1))
 obtain ⟨q6, hq6⟩ : ∃ q6, q5 ++ dat = q6 := ⟨_, rfl⟩
 have kq6 : q6.length ≤ 16408 := by rw [← hq6]; simp only [List.length_append]; omega
 rw [← List.map_append, ← List.length_append, hq6] at o6
 have Hq6 := Lib.hid hq6
 have O6 := Lib.hid o6
 obtain ⟨a6, x6, rfl, -, -, -⟩ := id (Own.sl o6)
 clear o6 g6 hq6 Q5 O5 SS
 clear c0 c1 c2 c3 c4 c5 c6 c7 c8 c9
 obtain ⟨c0, c1, c2, c3, c4, c5, c6, c7, c8, c9⟩ := FC.out _ _ Q6.out.row
 have HE := Lib.hid (show q6 = Fr.put ⟨8, n, d, rs, i, o, true, dat, cid, tok⟩ by
  rw [← Hq6.out, ← Hq5.out, ← Hq4.out, ← Hq3.out, ← Hq2.out]; rfl)
 go_wp2_with fail
 go_ret
 exact ⟨_, rfl, HE.out ▸ O6.out, Q6.out.bel⟩
end Go.Proofs.YthjbmggpleliaaaGreatDoor
