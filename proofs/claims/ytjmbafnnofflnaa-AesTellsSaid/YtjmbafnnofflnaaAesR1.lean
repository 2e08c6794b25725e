/- The document's Double, times, Box and cross: what they compute. -/
import Derived.Test.YtjmbafnnofflnaaAesRM
import Derived.Test.YtjmbafnnofflnaaAesW1
namespace Go.Proofs.Ytjmbafnnofflnaa
open Go.RowKit Go.Rw Aes
attribute [local go_sem ↓] ld16 st16 al16 ld176 st176 al176 shift_shl8 shift_shr8 bvs_getElem?
attribute [local go_sem] rst16p rld16p rld16 rst16 ral16 rld176 rst176 ral176 setRow_alloc_at setRow_alloc_past setRow_drew bvs_setn

theorem double_ge (a : UInt8) (h : 128 ≤ n8 a) : double a = shl8 a 1 ^^^ 27 := by
  have := all8 (p := fun a => 128 ≤ n8 a → double a = shl8 a 1 ^^^ 27) (by decide +kernel) a
  exact this h
theorem double_lt (a : UInt8) (h : ¬ 128 ≤ n8 a) : double a = shl8 a 1 := by
  have := all8 (p := fun a => ¬ 128 ≤ n8 a → double a = shl8 a 1) (by decide +kernel) a
  exact this h
set_option maxRecDepth 10000 in
set_option maxHeartbeats 400000 in
theorem rdouble_any (a : UInt8) (w : World) :
    Calls Try.prog 14 #[.int .u8 (n8 a : Nat)] w fun e w' => e = .returned (.int .u8 (n8 (double a) : Nat)) ∧ w = w' := by
  by_cases h : 128 ≤ n8 a
  · have E := Lib.hid (double_ge a h)
    go_enter Try.func14, Try.ntmps14
    go_wp2
    go_ret
    exact ⟨by rw [E.out]; rfl, rfl⟩
  · have E := Lib.hid (double_lt a h)
    go_enter Try.func14, Try.ntmps14
    go_wp2
    go_ret
    exact ⟨by rw [E.out]; rfl, rfl⟩

theorem n8_zero : n8 (0 : UInt8) = 0 := rfl
theorem tms_step (f : Nat) (a b c : UInt8) (h : b ≠ 0) : tms (f + 1) a b c = tms f (double a) (shr8 b 1) (if b &&& 1 == 1 then c ^^^ a else c) := by
  rw [tms, if_neg (by simpa using h)]
theorem tms_end (f : Nat) (a c : UInt8) : tms f a 0 c = c := by cases f <;> rfl
theorem n8_ne {b : UInt8} (h : b ≠ 0) : 0 < n8 b := by
  rcases Nat.eq_zero_or_pos (n8 b) with e | e
  · exact absurd (n8_inj (a := b) (b := 0) (by rw [e, n8_zero])) h
  · exact e
set_option maxHeartbeats 400000 in
theorem times_any (a0 b0 : UInt8) (w : World) :
    Calls Try.prog 23 #[.int .u8 (n8 a0 : Nat), .int .u8 (n8 b0 : Nat)] w fun e w' => e = .returned (.int .u8 (n8 (times a0 b0) : Nat)) ∧ w = w' := by
  go_enter Try.func23, Try.ntmps23
  go_wp2_with fail
  go_loop [0, 1, 5] (fun x y z => ∃ (f : Nat) (a b c : UInt8), x = .int .u8 (n8 a : Nat) ∧ y = .int .u8 (n8 b : Nat) ∧ z = .int .u8 (n8 c : Nat) ∧ n8 b < 2 ^ f ∧ tms f a b c = times a0 b0) (fun _ y _ => (intOf y).toNat)
  case atStart => exact ⟨8, a0, b0, 0, rfl, rfl, rfl, n8_lt _, rfl⟩
  case round =>
    obtain ⟨f, a, b, c, rfl, rfl, rfl, hf, he⟩ := hrel
    have HE := Lib.hid he; clear he
    by_cases h0 : b = 0
    · subst h0
      have hz : ¬ 0 < n8 (0 : UInt8) := by rw [n8_zero]; omega
      go_wp2_with fail
      go_ret
      exact ⟨by rw [← HE.out, tms_end]; rfl, rfl⟩
    · have hp := n8_ne h0
      obtain ⟨g, rfl⟩ : ∃ g, f = g + 1 := by
        cases f with
        | zero => simp at hf; omega
        | succ g => exact ⟨g, rfl⟩
      have hs := n8_shr8 b 1
      have hg : n8 (shr8 b 1) < 2 ^ g := by rw [hs, Nat.div_lt_iff_lt_mul (by omega)]; rw [Nat.pow_succ] at hf; omega
      have hm : n8 (shr8 b 1) < n8 b := by rw [hs]; omega
      have HS := Lib.hid (tms_step g a b c h0)
      clear hs hf
      have HG := Lib.hid hg; clear hg
      by_cases h1 : (b &&& 1 == 1) = true
      · go_wp2_with (go_at_call 14; refine (rdouble_any _ _).mono ?_; rintro e w' ⟨rfl, rfl⟩)
        go_round
        case rel => exact ⟨g, double a, shr8 b 1, c ^^^ a, rfl, rfl, rfl, HG.out, by rw [← HE.out, HS.out, if_pos h1]⟩
        case measure => simp [intOf]; omega
      · have h1' : (b &&& 1 == 1) = false := by simpa using h1
        go_wp2_with (go_at_call 14; refine (rdouble_any _ _).mono ?_; rintro e w' ⟨rfl, rfl⟩)
        go_round
        case rel => exact ⟨g, double a, shr8 b 1, c, rfl, rfl, rfl, HG.out, by rw [← HE.out, HS.out, if_neg h1]⟩
        case measure => simp [intOf]; omega

set_option maxHeartbeats 400000 in
theorem cross_any (s k : List UInt8) (hs : s.length = 16) (hk : k.length = 16) (w : World) :
    Calls Try.prog 24 #[.agg (bvs s), .agg (bvs k)] w fun e w' => e = .returned (.agg (bvs (add s k))) ∧ Below w.heap.size w w' := by
  go_enter Try.func24, Try.ntmps24
  go_wp2_with fail
  go_loopw [5] (fun v wr => ∃ j : Nat, j ≤ 16 ∧ v = .int .i64 j ∧ row? wr w.heap.size = some (bvs (upto (addF s k) s 16 j)) ∧ row? wr (w.heap.size + 1) = some (bvs k) ∧
      row? wr (w.heap.size + 2) = some (bvs (zeros 16)) ∧ Below w.heap.size w wr) (fun v _ => 16 - (intOf v).toNat)
  case atStart => exact ⟨0, by omega, rfl, by rw [upto_zero _ _ _ hs]; simp [go_sem], by simp [go_sem], by simp [go_sem], (bel2 _ _ _).alloc (by simp; omega) _⟩
  case round =>
    obtain ⟨j, hj, rfl, h0, h1, h2, hb⟩ := hrel
    by_cases hlt : j < 16
    · have g := upto_set (addF s k) s 16 j hlt
      have ghi := upto_hi (f := addF s k) (z := s) hlt (Nat.le_refl j)
      have G := Lib.hid g; clear g
      have H0 := Lib.hid h0
      have H1 := Lib.hid h1
      have H2 := Lib.hid h2
      have c0 := row?_cell h0
      have c1 := row?_cell h1
      have f0 := row?_frozen h0
      clear h0 h1 h2
      go_wp2_with fail
      refine Rg.wp_region_plan (Rg.row [(0, 3), (1, 3), (2, 3), (3, 0), (4, 3), (5, 3), (6, 0), (7, 3), (8, 3)] [9]) [9] (by kernel_rfl) (by kernel_rfl) ?_
      simp only [Rg.row, Rg.PT.map, List.map_cons, List.map_nil, List.getD_cons_zero, List.getD_cons_succ]
      go_wp2_with (first
        | ((with_reducible refine Rg.plan_pure ?_ ?_ ?_); kernel_rfl; kernel_rfl; intro _ _)
        | ((with_reducible refine Rg.plan_take ?_ ?_ ?_); kernel_rfl; kernel_rfl; intro _ _)
        | ((with_reducible refine Rg.plan_keep ?_ ?_); kernel_rfl; intro K hK)
        | (refine hK _ _ (Rg.Keep.refl _) ?_; clear hK)
        | (refine hK _ _ (Rg.Keep.of_below (by assumption)) ?_; clear hK)
        | ((with_reducible refine Rg.plan_skip ?_ ?_); kernel_rfl)
        | (with_reducible refine Rg.plan_done ?_)
        | (with_reducible refine Rg.calm_normal ?_))
      go_roundw
      case rel =>
        refine ⟨j + 1, by omega, by go_num, ?_, ?_, ?_, (hb.setCell (Nat.le_refl _) _).drew⟩
        · rw [row?_drew, row?_setCell_eq H0.out, bvs_setn]; exact congrArg (fun l => some (bvs l)) G.out
        · rw [row?_drew, row?_setCell_ne _ _ _ _ (by simp)]; exact H1.out
        · rw [row?_drew, row?_setCell_ne _ _ _ _ (by simp)]; exact H2.out
      case measure => simp [intOf]; omega
    · obtain rfl : j = 16 := by omega
      rw [upto_full] at h0
      go_wp2_with fail
      refine ret16 (w.heap.size + 2) (bvs (add s k)) rfl rfl rfl (row?_setRow_eq h2) (by rw [bvs_size]; exact add_length _ _) ⟨rfl, ?_⟩
      exact below_setRow hb (by omega) _

theorem byte_lit (k : Nat) (h : k < 255) : Value.int .u8 ((k : Int) + 1) = .int .u8 (n8 (UInt8.ofNat k + 1) : Nat) := by
  have e : UInt8.ofNat k + 1 = UInt8.ofNat (k + 1) := (UInt8.ofNat_add k 1).symm
  rw [e, n8_ofNat _ (by omega)]; rfl
set_option maxRecDepth 10000 in
set_option maxHeartbeats 400000 in
theorem rbox_any (b : UInt8) (w : World) :
    Calls Try.prog 12 #[.int .u8 (n8 b : Nat)] w fun e w' => e = .returned (.int .u8 (n8 (box b) : Nat)) ∧ Below w.heap.size w w' := by
  rw [← refBox_eq]
  by_cases hb : b = 0
  · subst hb
    obtain ⟨iv, hiv⟩ : ∃ iv : UInt8, (0 : UInt8) = iv := ⟨_, rfl⟩
    have HV := Lib.hid (show refBox 0 = affAt iv 5 by rw [← hiv]; simp [refBox])
    go_enter Try.func12, Try.ntmps12
    go_wp2_with fail
    go_loop [3, 4] (fun u v => v = .int .i64 1 ∧ u = .int .u8 (n8 iv : Nat)) (fun _ v => 300 - (intOf v).toNat)
    case atStart => exact ⟨rfl, by rw [← hiv]; rfl⟩
    case round =>
      obtain ⟨rfl, rfl⟩ := hrel
      go_wp2_with fail
      go_loopw [5, 6] (fun s v wr => ∃ i : Nat, i ≤ 5 ∧ v = .int .i64 i ∧ s = .int .u8 (n8 (affAt iv i) : Nat) ∧ Below w.heap.size w wr) (fun _ v _ => 16 - (intOf v).toNat)
      case atStart => exact ⟨0, by omega, rfl, rfl, Below.refl _ _⟩
      case round =>
        obtain ⟨i, hi, rfl, rfl, hb⟩ := hrel
        by_cases hlt : i < 5
        · have h8 : (0 : Int) ≤ 8 - i := by omega
          have h8' : (i : Int) ≤ 8 := by omega
          have h8n : ((8 : Int) - i).toNat = 8 - i := by omega
          have G := Lib.hid (show affAt iv (i + 1) = affAt iv i ^^^ (shl8 iv i ||| shr8 iv (8 - i)) from rfl)
          go_wp2_with fail
          refine Rg.wp_region_plan (Rg.row [(0, 3), (1, 3), (2, 3), (3, 3), (4, 3), (5, 3), (6, 3), (7, 3), (8, 3), (9, 3), (10, 3)] []) [] (by kernel_rfl) (by kernel_rfl) ?_
          simp only [Rg.row, Rg.PT.map, List.map_nil, List.getD_cons_zero, List.getD_cons_succ]
          go_wp2_with (first
            | ((with_reducible refine Rg.plan_pure ?_ ?_ ?_); kernel_rfl; kernel_rfl; intro _ _)
            | ((with_reducible refine Rg.plan_take ?_ ?_ ?_); kernel_rfl; kernel_rfl; intro _ _)
            | ((with_reducible refine Rg.plan_keep ?_ ?_); kernel_rfl; intro K hK)
            | (refine hK _ _ (Rg.Keep.refl _) ?_; clear hK)
            | (refine hK _ _ (Rg.Keep.of_below (by assumption)) ?_; clear hK)
            | ((with_reducible refine Rg.plan_skip ?_ ?_); kernel_rfl)
            | (with_reducible refine Rg.plan_done ?_)
            | (with_reducible refine Rg.calm_normal ?_))
          go_roundw
          case rel => exact ⟨i + 1, by omega, by go_num, by rw [G.out], hb.drew⟩
          case measure => simp [intOf]; omega
        · obtain rfl : i = 5 := by omega
          go_wp2_with fail
          go_ret
          exact ⟨by rw [HV.out]; rfl, hb⟩
  · have hn : (b == 0) = false := by simpa using hb
    have hne : (b != 0) = true := by simpa using hb
    have HV := Lib.hid (show refBox b = affAt (invAt b 255) 5 by simp [refBox, hn])
    go_enter Try.func12, Try.ntmps12
    go_wp2_with fail
    go_loop [3, 4] (fun u v => ∃ k : Nat, k ≤ 255 ∧ v = .int .i64 (k + 1) ∧ u = .int .u8 (n8 (invAt b k) : Nat)) (fun _ v => 300 - (intOf v).toNat)
    case atStart => exact ⟨0, by omega, rfl, rfl⟩
    case round =>
      obtain ⟨k, hk, rfl, rfl⟩ := hrel
      by_cases hlt : k < 255
      · have bl := byte_lit k hlt
        by_cases h1 : (times b (UInt8.ofNat k + 1) == 1) = true
        · have hi : invAt b (k + 1) = UInt8.ofNat k + 1 := by rw [invAt, if_pos h1]
          go_wp2_with (go_at_call 23; rw [bl]; refine (times_any b (UInt8.ofNat k + 1) w).mono ?_; rintro e w' ⟨rfl, rfl⟩)
          go_round
          case rel => exact ⟨k + 1, by omega, rfl, by first | (rw [hi]; done) | (rw [hi]; exact bl)⟩
          case measure => simp [intOf]; omega
        · have h1' : (times b (UInt8.ofNat k + 1) == 1) = false := by simpa using h1
          have hi : invAt b (k + 1) = invAt b k := by rw [invAt, if_neg h1]
          go_wp2_with (go_at_call 23; rw [bl]; refine (times_any b (UInt8.ofNat k + 1) w).mono ?_; rintro e w' ⟨rfl, rfl⟩)
          go_round
          case rel => exact ⟨k + 1, by omega, rfl, by first | (rw [hi]; done) | (rw [hi]; exact bl)⟩
          case measure => simp [intOf]; omega
      · obtain rfl : k = 255 := by omega
        generalize hiv : invAt b 255 = iv at HV
        go_wp2_with fail
        go_loopw [5, 6] (fun s v wr => ∃ i : Nat, i ≤ 5 ∧ v = .int .i64 i ∧ s = .int .u8 (n8 (affAt iv i) : Nat) ∧ Below w.heap.size w wr) (fun _ v _ => 16 - (intOf v).toNat)
        case atStart => exact ⟨0, by omega, rfl, rfl, Below.refl _ _⟩
        case round =>
          obtain ⟨i, hi, rfl, rfl, hb⟩ := hrel
          by_cases hlt : i < 5
          · have h8 : (0 : Int) ≤ 8 - i := by omega
            have h8' : (i : Int) ≤ 8 := by omega
            have h8n : ((8 : Int) - i).toNat = 8 - i := by omega
            have G := Lib.hid (show affAt iv (i + 1) = affAt iv i ^^^ (shl8 iv i ||| shr8 iv (8 - i)) from rfl)
            go_wp2_with fail
            refine Rg.wp_region_plan (Rg.row [(0, 3), (1, 3), (2, 3), (3, 3), (4, 3), (5, 3), (6, 3), (7, 3), (8, 3), (9, 3), (10, 3)] []) [] (by kernel_rfl) (by kernel_rfl) ?_
            simp only [Rg.row, Rg.PT.map, List.map_nil, List.getD_cons_zero, List.getD_cons_succ]
            go_wp2_with (first
              | ((with_reducible refine Rg.plan_pure ?_ ?_ ?_); kernel_rfl; kernel_rfl; intro _ _)
              | ((with_reducible refine Rg.plan_take ?_ ?_ ?_); kernel_rfl; kernel_rfl; intro _ _)
              | ((with_reducible refine Rg.plan_keep ?_ ?_); kernel_rfl; intro K hK)
              | (refine hK _ _ (Rg.Keep.refl _) ?_; clear hK)
              | (refine hK _ _ (Rg.Keep.of_below (by assumption)) ?_; clear hK)
              | ((with_reducible refine Rg.plan_skip ?_ ?_); kernel_rfl)
              | (with_reducible refine Rg.plan_done ?_)
              | (with_reducible refine Rg.calm_normal ?_))
            go_roundw
            case rel => exact ⟨i + 1, by omega, by go_num, by rw [G.out], hb.drew⟩
            case measure => simp [intOf]; omega
          · obtain rfl : i = 5 := by omega
            go_wp2_with fail
            go_ret
            exact ⟨by rw [HV.out]; rfl, hb⟩
end Go.Proofs.Ytjmbafnnofflnaa
