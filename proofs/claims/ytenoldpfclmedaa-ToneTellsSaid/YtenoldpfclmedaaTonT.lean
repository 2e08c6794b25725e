/- The walk of the law ToneTells. -/
import Derived.Test.YtenoldpfclmedaaTonL1
namespace Tone
open Go
def mx2 (x y : Int) : Int := if y > x then y else x
def max4 (x y z u : Int) : Int := mx2 (mx2 (mx2 x y) z) u
theorem max4_le (a b : Int) : max4 a (-a) b (-b) ≤ 33554432 ↔ (a.natAbs : Int) ≤ 33554432 ∧ (b.natAbs : Int) ≤ 33554432 := by
  unfold max4 mx2
  split <;> split <;> split <;> omega
end Tone
namespace Go.Proofs.Ytenoldpfclmedaa
open Go.RowKit Go.Rw Tone
theorem run_max4 (ts : Array TypeId) (t : TypeId) (x y z u : Int) (w : World) : (Builtin.max_ ts t #[.int .i64 x, .int .i64 y, .int .i64 z, .int .i64 u]).run Try.prog w = .ok (.int .i64 (max4 x y z u)) w := rfl
attribute [local go_sem ↓] ldZ stZ alZ ldI stI alI ldQ stQ alQ
attribute [local go_sem] rldZ rstZ ralZ rldI rstI ralI rldQ rstQ ralQ setRow_alloc_at setRow_alloc_past setRow_drew run_store_cx rl_len run_max4
theorem ldP (x : Value) : Instr.loadAt 27 x = loadAgg 27 x := rfl
attribute [local go_sem ↓] ldP
theorem pair_ld (f : Nat → Int) (k b : Nat) (hk : k < 4) (w : World) (h : row? w b = some (ivs (rl (two f)))) : (loadAgg 27 (.pointer (some ⟨b, k * 2, none⟩))).run Try.prog w = .ok (.agg (ivs [re f k, im f k])) w := by
  rw [part_rule AgP w b (k * 2) (decide_eq_true (by rw [h]; show _ ≤ (ivs (rl (two f))).size; rw [ivs_size, rl_len]; omega)) (by rw [h]; rfl), h]
  congr 2
  rcases (by omega : k = 0 ∨ k = 1 ∨ k = 2 ∨ k = 3) with rfl | rfl | rfl | rfl <;> simp [rl, two, ivs, iv, List.range_succ]
/-- is it flat so far? -/
def fl (f : Nat → Int) : Nat → Bool
  | 0 => true
  | k + 1 => fl f k && (k == 0 || powV (re f k) (im f k) == 0)
theorem fl4 (f : Nat → Int) : fl f 4 = flatB f := by
  simp [fl, flatB]
theorem flBig (x : Int) (h : x.natAbs ≤ 4398046511104) : Fl (floatOfInt .f64 x) x := ofInt_Fl (by omega)
theorem rowL_len (l : List Int) (fr to : Int) : (rowL l fr to).length ≤ 1000000 := by
  unfold rowL
  split
  · rw [rwN_len]; omega
  · simp
set_option maxRecDepth 20000 in
set_option maxHeartbeats 4000000 in
theorem tellsLaw_any (xs ticks : List Int) (turn fr to : Int) (vx vt : Value) (hfr : i64B fr) (hto : i64B to) (w : World) (hx : Si w vx xs) (ht : Si w vt ticks) :
    Calls Try.prog 3 #[vx, .int .i64 turn, vt, .int .i64 fr, .int .i64 to] w fun e w' => e = .returned (.bool true) ∧ Below w.heap.size w w' := by
  have HX := Lib.hid hx
  have HT := Lib.hid ht
  obtain ⟨ax, cx, rfl, _, _, _⟩ := hx
  obtain ⟨at_, ct, rfl, _, _, _⟩ := ht
  have HFR := Lib.hid hfr
  have HTO := Lib.hid hto
  clear hfr hto
  by_cases hl1 : 60 < xs.length
  · have hl : (60 : Int) < xs.length := by omega
    go_enter Try.func3, Try.ntmps3
    go_wp2_with fail
    refine (awake_any _).mono ?_
    rintro e w' ⟨rfl, hb⟩
    go_wp2_with fail
    go_ret
    exact ⟨rfl, hb⟩
  by_cases hl2 : 60 < ticks.length
  · have hl : (60 : Int) < ticks.length := by omega
    go_enter Try.func3, Try.ntmps3
    go_wp2_with fail
    refine (awake_any _).mono ?_
    rintro e w' ⟨rfl, hb⟩
    go_wp2_with fail
    go_ret
    exact ⟨rfl, hb⟩
  go_enter Try.func3, Try.ntmps3
  go_wp2_with fail
  refine (sums_all xs (by omega) _ _ HX.out).mono ?_
  rintro e w1 ⟨z, rfl, hz, hb1⟩
  have HZ := Lib.hid hz
  have HB1 := Lib.hid hb1
  clear hz hb1
  go_wp2_with fail
  refine (rsums_any xs (by omega) _ _ (HX.out.below HB1.out)).mono ?_
  rintro e w2 ⟨rfl, hb2⟩
  have HB2 := Lib.hid (HB1.out.trans (hb2.mono HB1.out.size))
  have HSM := Lib.hid (fN_small xs (by omega))
  have HFL := Lib.hid (fl4 (fN xs))
  clear hb2
  generalize hf : fN xs = f at *
  go_wp2_with fail
  go_loopw [13, 14] (fun q v wr => ∃ k : Nat, k ≤ 4 ∧ v = .int .i64 k ∧ q = .bool (fl f k) ∧ row? wr w2.heap.size = some (zv z) ∧ row? wr (w2.heap.size + 1) = some (ivs (rl (two f))) ∧ Below w.heap.size w wr) (fun _ v _ => 4 - (intOf v).toNat)
  case atStart => exact ⟨0, by omega, rfl, rfl, by simp [go_sem], by simp [go_sem], (HB2.out.alloc HB2.out.size _).alloc (by have := HB2.out.size; simp; omega) _⟩
  case round =>
    obtain ⟨k, hk, rfl, rfl, h0, h1, hb⟩ := hrel
    have H0 := Lib.hid h0
    have H1 := Lib.hid h1
    by_cases hlt : k < 4
    · have cz := (row?_cell h0 k).trans (zv_get z k hlt)
      have CZ := Lib.hid (zv_get z k hlt)
      have hld := pair_ld f k (w2.heap.size + 1) hlt wr.drew (by rw [row?_drew]; exact h1)
      obtain ⟨g1, g2⟩ := HZ.out k hlt
      have b1 := re_lt HSM.out hlt
      have b2 := im_lt HSM.out hlt
      have hfl : fl f (k + 1) = (fl f k && (k == 0 || powV (re f k) (im f k) == 0)) := rfl
      have q0 : (ivs (rl (two f)))[k * 2]? = some (.int .i64 (re f k)) := by rw [ivs_getElem?, rl_len, if_pos (by omega), rl_0 _ _ hlt]; rfl
      have q1 : (ivs (rl (two f)))[k * 2 + 1]? = some (.int .i64 (im f k)) := by rw [ivs_getElem?, rl_len, if_pos (by omega), rl_1 _ _ hlt]; rfl
      have G1 := Lib.hid g1
      have G2 := Lib.hid g2
      have HFK := Lib.hid hfl
      have Q0 := Lib.hid q0
      have Q1 := Lib.hid q1
      clear h0 h1 g1 g2 hfl q0 q1
      generalize (z k).1 = p at *
      generalize (z k).2 = q at *
      generalize re f k = a at *
      generalize im f k = b at *
      go_wp2_with fail
      refine Rg.wp_region_plan (Rg.row [(0, 3), (1, 3), (2, 0), (3, 3), (4, 3), (5, 0), (6, 1), (7, 1)] []) [] (by kernel_rfl) (by kernel_rfl) ?_
      simp only [Rg.row, Rg.PT.map, List.map_nil, List.getD_cons_zero, List.getD_cons_succ]
      go_wp2_with (first
        | ((with_reducible refine Rg.plan_pure ?_ ?_ ?_); kernel_rfl; kernel_rfl; intro _ _)
        | ((with_reducible refine Rg.plan_take ?_ ?_ ?_); kernel_rfl; kernel_rfl; intro _ _)
        | ((with_reducible refine Rg.plan_keep ?_ ?_); kernel_rfl; intro K hK)
        | (refine hK _ _ (Rg.Keep.refl _) ?_; clear hK)
        | (refine hK _ _ (Rg.Keep.of_below (by assumption)) ?_; clear hK)
        | ((with_reducible refine Rg.plan_skip ?_ ?_); kernel_rfl)
        | (with_reducible refine Rg.plan_done ?_)
        | (with_reducible refine Rg.calm_normal ?_))
      refine (number_any a b _).mono ?_
      rintro e w3 ⟨rfl, hb3⟩
      have o1 := order_eq G1.out (flBig a b1)
      have o2 := order_eq G2.out (flBig b b2)
      have HB3 := Lib.hid hb3
      have r0 : row? w3 w2.heap.size = some (zv z) := by rw [row?_below hb3 (row?_lt H0.out), row?_drew]; exact H0.out
      have r1 : row? w3 (w2.heap.size + 1) = some (ivs (rl (two f))) := by rw [row?_below hb3 (row?_lt H1.out), row?_drew]; exact H1.out
      have hbw : Below w.heap.size w w3 := hb.drew.trans (hb3.mono (by have := hb.size; simpa using this))
      have R0 := Lib.hid r0
      have R1 := Lib.hid r1
      clear hb3 cz hld
      dsimp only
      refine hK _ _ (Rg.Keep.of_below HB3.out) ?_
      clear hK
      go_wp2_with (first
        | ((with_reducible refine Rg.plan_pure ?_ ?_ ?_); kernel_rfl; kernel_rfl; intro _ _)
        | ((with_reducible refine Rg.plan_take ?_ ?_ ?_); kernel_rfl; kernel_rfl; intro _ _)
        | ((with_reducible refine Rg.plan_keep ?_ ?_); kernel_rfl; intro K hK)
        | (refine hK _ _ (Rg.Keep.refl _) ?_; clear hK)
        | (refine hK _ _ (Rg.Keep.of_below (by assumption)) ?_; clear hK)
        | ((with_reducible refine Rg.plan_skip ?_ ?_); kernel_rfl)
        | (with_reducible refine Rg.plan_done ?_)
        | (with_reducible refine Rg.calm_normal ?_))
      refine hK _ _ (Rg.Keep.refl _) ?_
      clear hK
      have cz := (row?_cell r0 k).trans CZ.out
      have q0 := (row?_cell r1 (k * 2)).trans Q0.out
      have q1 := (row?_cell r1 (k * 2 + 1)).trans Q1.out
      have n1 : wrap64 (-a) = -a := IntWalk.wrap64_in _ (by omega)
      have n2 : wrap64 (-b) = -b := IntWalk.wrap64_in _ (by omega)
      have hmx := max4_le a b
      clear r0 r1 o1 o2
      obtain ⟨P, hP⟩ : ∃ P, powV a b = P := ⟨_, rfl⟩
      have HPP := Lib.hid hP
      rw [hP] at HFK
      clear hP
      by_cases hle : (a.natAbs : Int) ≤ 33554432 ∧ (b.natAbs : Int) ≤ 33554432
      · have hm := hmx.2 hle
        clear hmx
        have hpv : powV a b = a * a + b * b := by unfold powV; rw [if_pos hle]
        have s1 := sq_le hle.1
        have s2 := sq_le hle.2
        rw [HPP.out] at hpv
        generalize hX : a * a = X at *
        generalize hY : b * b = Y at *
        have m1 : wrap64 X = X := IntWalk.wrap64_in _ (by omega)
        have m2 : wrap64 Y = Y := IntWalk.wrap64_in _ (by omega)
        have m3 : wrap64 (X + Y) = P := by rw [hpv]; exact IntWalk.wrap64_in _ (by omega)
        clear hpv s1 s2 hle b1 b2
        go_wp2_with (first
          | ((with_reducible refine Rg.plan_pure ?_ ?_ ?_); kernel_rfl; kernel_rfl; intro _ _)
          | ((with_reducible refine Rg.plan_take ?_ ?_ ?_); kernel_rfl; kernel_rfl; intro _ _)
          | ((with_reducible refine Rg.plan_keep ?_ ?_); kernel_rfl; intro K hK)
          | (refine hK _ _ (Rg.Keep.refl _) ?_; clear hK)
          | (refine hK _ _ (Rg.Keep.of_below (by assumption)) ?_; clear hK)
          | ((with_reducible refine Rg.plan_skip ?_ ?_); kernel_rfl)
          | (with_reducible refine Rg.plan_done ?_)
          | (with_reducible refine Rg.calm_normal ?_))
        refine Rg.wp_region_plan (Rg.row [(0, 3), (1, 3), (2, 3), (3, 0), (4, 3), (5, 3), (6, 3), (7, 0), (8, 3), (9, 3), (10, 3), (11, 3), (12, 0), (13, 3), (14, 3), (15, 3), (16, 0), (17, 3), (18, 1), (19, 3)] []) [] (by kernel_rfl) (by kernel_rfl) ?_
        simp only [Rg.row, Rg.PT.map, List.map_nil, List.getD_cons_zero, List.getD_cons_succ]
        go_wp2_with (first
          | ((with_reducible refine Rg.plan_pure ?_ ?_ ?_); kernel_rfl; kernel_rfl; intro _ _)
          | ((with_reducible refine Rg.plan_take ?_ ?_ ?_); kernel_rfl; kernel_rfl; intro _ _)
          | ((with_reducible refine Rg.plan_keep ?_ ?_); kernel_rfl; intro K hK)
          | (refine hK _ _ (Rg.Keep.refl _) ?_; clear hK)
          | (refine hK _ _ (Rg.Keep.of_below (by assumption)) ?_; clear hK)
          | ((with_reducible refine Rg.plan_skip ?_ ?_); kernel_rfl)
          | (with_reducible refine Rg.plan_done ?_)
          | (with_reducible refine Rg.calm_normal ?_))
        refine hK _ _ (Rg.Keep.refl _) ?_
        clear hK
        go_wp2_with (first
          | ((with_reducible refine Rg.plan_pure ?_ ?_ ?_); kernel_rfl; kernel_rfl; intro _ _)
          | ((with_reducible refine Rg.plan_take ?_ ?_ ?_); kernel_rfl; kernel_rfl; intro _ _)
          | ((with_reducible refine Rg.plan_keep ?_ ?_); kernel_rfl; intro K hK)
          | (refine hK _ _ (Rg.Keep.refl _) ?_; clear hK)
          | (refine hK _ _ (Rg.Keep.of_below (by assumption)) ?_; clear hK)
          | ((with_reducible refine Rg.plan_skip ?_ ?_); kernel_rfl)
          | (with_reducible refine Rg.plan_done ?_)
          | (with_reducible refine Rg.calm_normal ?_))
        refine Rg.wp_region_plan (Rg.row [(0, 3), (1, 3), (2, 3), (3, 0), (4, 3), (5, 3), (6, 3), (7, 0), (8, 3), (9, 3), (10, 3), (11, 3), (12, 0), (13, 3), (14, 3), (15, 3), (16, 0), (17, 3), (18, 3), (19, 3)] []) [] (by kernel_rfl) (by kernel_rfl) ?_
        simp only [Rg.row, Rg.PT.map, List.map_nil, List.getD_cons_zero, List.getD_cons_succ]
        go_wp2_with (first
          | ((with_reducible refine Rg.plan_pure ?_ ?_ ?_); kernel_rfl; kernel_rfl; intro _ _)
          | ((with_reducible refine Rg.plan_take ?_ ?_ ?_); kernel_rfl; kernel_rfl; intro _ _)
          | ((with_reducible refine Rg.plan_keep ?_ ?_); kernel_rfl; intro K hK)
          | (refine hK _ _ (Rg.Keep.refl _) ?_; clear hK)
          | (refine hK _ _ (Rg.Keep.of_below (by assumption)) ?_; clear hK)
          | ((with_reducible refine Rg.plan_skip ?_ ?_); kernel_rfl)
          | (with_reducible refine Rg.plan_done ?_)
          | (with_reducible refine Rg.calm_normal ?_))
        refine (power_any G1.out G2.out _).mono ?_
        rintro e w4 ⟨rfl, rfl⟩
        rw [HPP.out]
        cases hfk : fl f k
        · go_wp2_with fail
          go_roundw
          case rel => exact ⟨k + 1, by omega, by go_num, by rw [HFK.out, hfk]; rfl, R0.out, R1.out, hbw.drew.drew⟩
          case measure => simp [intOf]; omega
        · by_cases hk0 : k = 0
          · subst hk0
            go_wp2_with fail
            go_roundw
            case rel => exact ⟨0 + 1, by omega, by go_num, by rw [HFK.out, hfk]; rfl, R0.out, R1.out, hbw.drew.drew⟩
            case measure => simp [intOf]
          · by_cases hp0 : P = 0
            · subst hp0
              go_wp2_with fail
              go_roundw
              case rel => exact ⟨k + 1, by omega, by go_num, by rw [HFK.out, hfk]; simp, R0.out, R1.out, hbw.drew.drew⟩
              case measure => simp [intOf]; omega
            · go_wp2_with fail
              go_roundw
              case rel => exact ⟨k + 1, by omega, by go_num, by rw [HFK.out, hfk]; simp [show ((k : Int) == 0) = (k == 0) by rw [Bool.eq_iff_iff]; simp], R0.out, R1.out, hbw.drew.drew⟩
              case measure => simp [intOf]; omega
      · have hm : ¬ max4 a (-a) b (-b) ≤ 33554432 := fun h => hle (hmx.1 h)
        clear hmx
        have hp0 : P = 0 := by rw [← HPP.out]; unfold powV; rw [if_neg hle]
        subst hp0
        clear hle b1 b2
        go_wp2_with (first
          | ((with_reducible refine Rg.plan_pure ?_ ?_ ?_); kernel_rfl; kernel_rfl; intro _ _)
          | ((with_reducible refine Rg.plan_take ?_ ?_ ?_); kernel_rfl; kernel_rfl; intro _ _)
          | ((with_reducible refine Rg.plan_keep ?_ ?_); kernel_rfl; intro K hK)
          | (refine hK _ _ (Rg.Keep.refl _) ?_; clear hK)
          | (refine hK _ _ (Rg.Keep.of_below (by assumption)) ?_; clear hK)
          | ((with_reducible refine Rg.plan_skip ?_ ?_); kernel_rfl)
          | (with_reducible refine Rg.plan_done ?_)
          | (with_reducible refine Rg.calm_normal ?_))
        refine Rg.wp_region_plan (Rg.row [(0, 3), (1, 3), (2, 3), (3, 0), (4, 3), (5, 3), (6, 3), (7, 0), (8, 3), (9, 3), (10, 3), (11, 3), (12, 0), (13, 3), (14, 3), (15, 3), (16, 0), (17, 3), (18, 1), (19, 3)] []) [] (by kernel_rfl) (by kernel_rfl) ?_
        simp only [Rg.row, Rg.PT.map, List.map_nil, List.getD_cons_zero, List.getD_cons_succ]
        go_wp2_with (first
          | ((with_reducible refine Rg.plan_pure ?_ ?_ ?_); kernel_rfl; kernel_rfl; intro _ _)
          | ((with_reducible refine Rg.plan_take ?_ ?_ ?_); kernel_rfl; kernel_rfl; intro _ _)
          | ((with_reducible refine Rg.plan_keep ?_ ?_); kernel_rfl; intro K hK)
          | (refine hK _ _ (Rg.Keep.refl _) ?_; clear hK)
          | (refine hK _ _ (Rg.Keep.of_below (by assumption)) ?_; clear hK)
          | ((with_reducible refine Rg.plan_skip ?_ ?_); kernel_rfl)
          | (with_reducible refine Rg.plan_done ?_)
          | (with_reducible refine Rg.calm_normal ?_))
        refine hK _ _ (Rg.Keep.refl _) ?_
        clear hK
        go_wp2_with (first
          | ((with_reducible refine Rg.plan_pure ?_ ?_ ?_); kernel_rfl; kernel_rfl; intro _ _)
          | ((with_reducible refine Rg.plan_take ?_ ?_ ?_); kernel_rfl; kernel_rfl; intro _ _)
          | ((with_reducible refine Rg.plan_keep ?_ ?_); kernel_rfl; intro K hK)
          | (refine hK _ _ (Rg.Keep.refl _) ?_; clear hK)
          | (refine hK _ _ (Rg.Keep.of_below (by assumption)) ?_; clear hK)
          | ((with_reducible refine Rg.plan_skip ?_ ?_); kernel_rfl)
          | (with_reducible refine Rg.plan_done ?_)
          | (with_reducible refine Rg.calm_normal ?_))
        refine (power_any G1.out G2.out _).mono ?_
        rintro e w4 ⟨rfl, rfl⟩
        rw [HPP.out]
        cases hfk : fl f k
        · go_wp2_with fail
          go_roundw
          case rel => exact ⟨k + 1, by omega, by go_num, by rw [HFK.out, hfk]; rfl, R0.out, R1.out, hbw.drew⟩
          case measure => simp [intOf]; omega
        · by_cases hk0 : k = 0
          · subst hk0
            go_wp2_with fail
            go_roundw
            case rel => exact ⟨0 + 1, by omega, by go_num, by rw [HFK.out, hfk]; rfl, R0.out, R1.out, hbw.drew⟩
            case measure => simp [intOf]
          · go_wp2_with fail
            go_roundw
            case rel => exact ⟨k + 1, by omega, by go_num, by rw [HFK.out, hfk]; simp, R0.out, R1.out, hbw.drew⟩
            case measure => simp [intOf]; omega
    · obtain rfl : k = 4 := by omega
      rw [HFL.out]
      clear h0 h1
      have HXW := Lib.hid (HX.out.below hb)
      have HTW := Lib.hid (HT.out.below hb)
      go_wp2_with fail
      refine (rturn_any turn _).mono ?_
      rintro e w3 ⟨rfl, rfl⟩
      go_wp2_with fail
      refine (row_any ticks (by omega) fr to HFR.out HTO.out _ _ HTW.out).mono ?_
      rintro e w3 ⟨v3, rfl, hs3, hb3⟩
      have HS3 := Lib.hid hs3
      have HB3 := Lib.hid (hb.trans (hb3.mono hb.size))
      have HXW3 := Lib.hid (HX.out.below HB3.out)
      clear hs3 hb3
      go_wp2_with fail
      refine (turn_any turn _).mono ?_
      rintro e w4 ⟨c, d, rfl, hc, hd, rfl⟩
      have o1 := order_eq hc (flBig (cs turn) (by have := cs_le turn; omega))
      have o2 := order_eq hd (flBig (sn turn) (by have := sn_le turn; omega))
      clear hc hd
      generalize cs turn = ct at *
      generalize sn turn = st at *
      go_wp2_with fail
      refine (number_any ct st _).mono ?_
      rintro e w4 ⟨rfl, hb4⟩
      have HB4 := Lib.hid (HB3.out.trans (hb4.mono HB3.out.size))
      have HXW4 := Lib.hid (HX.out.below HB4.out)
      have HTW4 := Lib.hid (HT.out.below HB4.out)
      have HS4 := Lib.hid (HS3.out.below hb4)
      clear hb4
      go_wp2_with fail
      refine (flat_any xs (by omega) _ _ HXW4.out).mono ?_
      rw [hf]
      rintro e w5 ⟨rfl, hb5⟩
      have HB5 := Lib.hid (HB4.out.trans (hb5.mono HB4.out.size))
      have HTW5 := Lib.hid (HT.out.below HB5.out)
      have HS5 := Lib.hid (HS4.out.below hb5)
      clear hb5
      generalize flatB f = fb at *
      go_wp2_with fail
      refine (rrow_any ticks (by omega) fr to HFR.out HTO.out _ _ HTW5.out).mono ?_
      rintro e w6 ⟨v6, rfl, hs6, hb6⟩
      have HB6 := Lib.hid (HB5.out.trans (hb6.mono HB5.out.size))
      have HS6 := Lib.hid hs6
      have HS36 := Lib.hid (HS5.out.below hb6)
      clear hs6 hb6
      go_wp2_with fail
      refine (sameI_any _ _ (rowL_len _ _ _) _ _ _ HS36.out HS6.out).mono ?_
      rw [show decide (rowL ticks fr to = rowL ticks fr to) = true from decide_eq_true rfl]
      rintro e w7 ⟨rfl, hb7⟩
      have HB7 := Lib.hid (HB6.out.trans (hb7.mono HB6.out.size))
      clear hb7
      go_wp2_with fail
      refine (awake_any _).mono ?_
      rintro e w8 ⟨rfl, hb8⟩
      have HB8 := Lib.hid (HB7.out.trans (hb8.mono HB7.out.size))
      clear hb8
      go_wp2_with fail
      go_ret
      exact ⟨rfl, HB8.out⟩
end Go.Proofs.Ytenoldpfclmedaa
