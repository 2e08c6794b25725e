/- The walks of package varint: how many bytes a number has; a number laid in so many bytes, or in the least. -/
import Derived.Test.YthjbmggpleliaaaGreatDoorMhbVarA
import Derived.Test.YthjbmggpleliaaaGreatDoorMhb13
import Derived.Test.YthjbmggpleliaaaGreatDoorMhb4
namespace Hdr
open Go Go.Rw
/-- How many bytes a number must have. -/
def vlen (n : Nat) : Nat := if n < 64 then 1 else if n < 16384 then 2 else if n < 1073741824 then 4 else if n < 4611686018427387904 then 8 else 0
/-- The first byte's mark, and a number's bytes with it. -/
def vmk (many : Nat) : UInt8 := UInt8.ofInt (((Lib.bitLen many : Int) - 1) % 256 * 64 % 256)
def vin (n many : Nat) : List UInt8 := (List.range many).map fun k => if k = 0 then UInt8.ofNat (n / 256 ^ (many - 1 - k)) ||| vmk many else UInt8.ofNat (n / 256 ^ (many - 1 - k))
theorem vin_length (n many : Nat) : (vin n many).length = many := by simp [vin]
theorem vin_take_succ (n many k : Nat) (h : k < many) : (vin n many).take (k + 1) = (vin n many).take k ++ [if k = 0 then UInt8.ofNat (n / 256 ^ (many - 1 - k)) ||| vmk many else UInt8.ofNat (n / 256 ^ (many - 1 - k))] := by
  rw [List.take_add_one]
  congr 1
  rw [List.getElem?_eq_getElem (by rw [vin_length]; exact h)]
  simp [vin]
theorem vlen_le (n : Nat) : vlen n ≤ 8 := by unfold vlen; repeat' split
                                             all_goals omega
end Hdr
namespace Go.Proofs.YthjbmggpleliaaaGreatDoor
open Go.RowKit Go.Rw Hdr
theorem s8_0 : Op.shift .shl .i64 8 .i64 0 = pure (.int .i64 8) := by kernel_rfl
theorem s8_1 : Op.shift .shl .i64 8 .i64 1 = pure (.int .i64 16) := by kernel_rfl
theorem s8_2 : Op.shift .shl .i64 8 .i64 2 = pure (.int .i64 32) := by kernel_rfl
theorem s8_3 : Op.shift .shl .i64 8 .i64 3 = pure (.int .i64 64) := by kernel_rfl
theorem s1_0 : Op.shift .shl .i64 1 .i64 0 = pure (.int .i64 1) := by kernel_rfl
theorem s1_1 : Op.shift .shl .i64 1 .i64 1 = pure (.int .i64 2) := by kernel_rfl
theorem s1_2 : Op.shift .shl .i64 1 .i64 2 = pure (.int .i64 4) := by kernel_rfl
theorem s1_3 : Op.shift .shl .i64 1 .i64 3 = pure (.int .i64 8) := by kernel_rfl
attribute [local go_sem ↓] s8_0 s8_1 s8_2 s8_3 s1_0 s1_1 s1_2 s1_3 shift_shl8

theorem vlen_lt {n k m : Nat} (h : n < 18446744073709551616) (hk : (k = 6 ∧ m = 64) ∨ (k = 14 ∧ m = 16384) ∨ (k = 30 ∧ m = 1073741824) ∨ (k = 62 ∧ m = 4611686018427387904)) : ((Lib.bitLen n : Nat) : Int) ≤ (k : Nat) ↔ n < m := by
  have hb : k < 64 := by rcases hk with ⟨rfl, rfl⟩ | ⟨rfl, rfl⟩ | ⟨rfl, rfl⟩ | ⟨rfl, rfl⟩ <;> decide
  have hm : 2 ^ k = m := by rcases hk with ⟨rfl, rfl⟩ | ⟨rfl, rfl⟩ | ⟨rfl, rfl⟩ | ⟨rfl, rfl⟩ <;> decide
  have := bitLen_lt n k h hb
  rw [hm] at this
  rw [← this]
  exact Int.ofNat_le
set_option maxRecDepth 100000 in
set_option maxHeartbeats 1000000 in
theorem vlen_any (n : Nat) (hn : n < 18446744073709551616) (w : World) :
    Calls Tryz.prog 118 #[.int .u64 (n : Nat)] w fun e w' => e = .returned (.int .i64 (vlen n : Nat)) ∧ Below w.heap.size w w' := by
  have hl : ∀ W, Calls Tryz.prog 149 #[.int .u64 (n : Nat)] W fun e w' => e = .returned (.int .i64 (Lib.bitLen n : Nat)) ∧ w' = W := fun W => by
    have := len64_any (n : Int) W (by omega) (by omega)
    rw [Int.toNat_natCast] at this
    exact this
  have t0 := vlen_lt (k := 6) hn (.inl ⟨rfl, rfl⟩)
  have t1 := vlen_lt (k := 14) hn (.inr (.inl ⟨rfl, rfl⟩))
  have t2 := vlen_lt (k := 30) hn (.inr (.inr (.inl ⟨rfl, rfl⟩)))
  have t3 := vlen_lt (k := 62) hn (.inr (.inr (.inr ⟨rfl, rfl⟩)))
  have HL := Lib.hid hl
  generalize Lib.bitLen n = m at *
  obtain ⟨v, hv⟩ : ∃ v, vlen n = v := ⟨_, rfl⟩
  rw [hv]
  unfold vlen at hv
  have HV := Lib.hid hv
  have T0 := Lib.hid t0
  have T1 := Lib.hid t1
  have T2 := Lib.hid t2
  have T3 := Lib.hid t3
  clear hv t0 t1 t2 t3 hl hn
  go_enter Tryz.func118, Tryz.ntmps118
  go_wp2_with fail
  go_loopw [4] (fun vk wr => ∃ k : Nat, k ≤ 4 ∧ vk = .int .i64 k ∧ Below w.heap.size w wr ∧ (0 < k → 64 ≤ n) ∧ (1 < k → 16384 ≤ n) ∧ (2 < k → 1073741824 ≤ n) ∧ (3 < k → 4611686018427387904 ≤ n)) (fun v _ => 4 - (intOf v).toNat)
  case atStart => exact ⟨0, by omega, rfl, Below.refl _ _, by omega, by omega, by omega, by omega⟩
  case round =>
    obtain ⟨k, hk, rfl, hb, g0, g1, g2, g3⟩ := hrel
    have G0 := Lib.hid g0
    have G1 := Lib.hid g1
    have G2 := Lib.hid g2
    have G3 := Lib.hid g3
    clear g0 g1 g2 g3
    by_cases hlt : k < 4
    · have hkk : k = 0 ∨ k = 1 ∨ k = 2 ∨ k = 3 := by omega
      rcases hkk with rfl | rfl | rfl | rfl
      · go_wp2_with fail
        refine Rg.wp_region_plan (Rg.row [(0, 3), (2, 3), (3, 3), (4, 3), (1, 1), (5, 3)] []) [] (by kernel_rfl) (by kernel_rfl) ?_
        simp only [Rg.row, Rg.PT.map, List.map_nil, List.getD_cons_zero, List.getD_cons_succ]
        go_wp2_with (first
          |(with_reducible refine Rg.plan_pure ?_ ?_ ?_); kernel_rfl; kernel_rfl; intro _ _|(with_reducible refine Rg.plan_take ?_ ?_ ?_); kernel_rfl; kernel_rfl; intro _ _|(with_reducible refine Rg.plan_keep ?_ ?_); kernel_rfl; intro K hK|refine hK _ _ (Rg.Keep.refl _) ?_; clear hK|refine hK _ _ (Rg.Keep.of_below (by assumption)) ?_; clear hK|(with_reducible refine Rg.plan_skip ?_ ?_); kernel_rfl|(with_reducible refine Rg.plan_done ?_)|(with_reducible refine Rg.calm_normal ?_))
        refine (HL.out _).mono ?_
        rintro e w' ⟨rfl, rfl⟩
        by_cases hc : n < 64
        · have hc' : ((m : Nat) : Int) ≤ 6 := T0.out.2 hc
          have HCC := Lib.hid hc
          clear hc
          go_wp2_with (first
            |(with_reducible refine Rg.plan_pure ?_ ?_ ?_); kernel_rfl; kernel_rfl; intro _ _|(with_reducible refine Rg.plan_take ?_ ?_ ?_); kernel_rfl; kernel_rfl; intro _ _|(with_reducible refine Rg.plan_keep ?_ ?_); kernel_rfl; intro K hK|refine hK _ _ (Rg.Keep.refl _) ?_; clear hK|refine hK _ _ (Rg.Keep.of_below (by assumption)) ?_; clear hK|(with_reducible refine Rg.plan_skip ?_ ?_); kernel_rfl|(with_reducible refine Rg.plan_done ?_)|(with_reducible refine Rg.calm_normal ?_))
          go_ret
          have hc := HCC.out
          refine ⟨?_, hb.drew⟩
          rw [← HV.out, if_pos (by omega)]; rfl
        · have hc' : ¬ ((m : Nat) : Int) ≤ 6 := fun h => hc (T0.out.1 h)
          have HCC := Lib.hid hc
          clear hc
          go_wp2_with (first
            |(with_reducible refine Rg.plan_pure ?_ ?_ ?_); kernel_rfl; kernel_rfl; intro _ _|(with_reducible refine Rg.plan_take ?_ ?_ ?_); kernel_rfl; kernel_rfl; intro _ _|(with_reducible refine Rg.plan_keep ?_ ?_); kernel_rfl; intro K hK|refine hK _ _ (Rg.Keep.refl _) ?_; clear hK|refine hK _ _ (Rg.Keep.of_below (by assumption)) ?_; clear hK|(with_reducible refine Rg.plan_skip ?_ ?_); kernel_rfl|(with_reducible refine Rg.plan_done ?_)|(with_reducible refine Rg.calm_normal ?_))
          go_roundw
          case rel =>
            have hc := HCC.out
            exact ⟨1, by omega, by go_num, hb.drew, fun _ => by omega, fun h => by omega, fun h => by omega, fun h => by omega⟩
          case measure => simp [intOf]
      · go_wp2_with fail
        refine Rg.wp_region_plan (Rg.row [(0, 3), (2, 3), (3, 3), (4, 3), (1, 1), (5, 3)] []) [] (by kernel_rfl) (by kernel_rfl) ?_
        simp only [Rg.row, Rg.PT.map, List.map_nil, List.getD_cons_zero, List.getD_cons_succ]
        go_wp2_with (first
          |(with_reducible refine Rg.plan_pure ?_ ?_ ?_); kernel_rfl; kernel_rfl; intro _ _|(with_reducible refine Rg.plan_take ?_ ?_ ?_); kernel_rfl; kernel_rfl; intro _ _|(with_reducible refine Rg.plan_keep ?_ ?_); kernel_rfl; intro K hK|refine hK _ _ (Rg.Keep.refl _) ?_; clear hK|refine hK _ _ (Rg.Keep.of_below (by assumption)) ?_; clear hK|(with_reducible refine Rg.plan_skip ?_ ?_); kernel_rfl|(with_reducible refine Rg.plan_done ?_)|(with_reducible refine Rg.calm_normal ?_))
        refine (HL.out _).mono ?_
        rintro e w' ⟨rfl, rfl⟩
        by_cases hc : n < 16384
        · have hc' : ((m : Nat) : Int) ≤ 14 := T1.out.2 hc
          have HCC := Lib.hid hc
          clear hc
          go_wp2_with (first
            |(with_reducible refine Rg.plan_pure ?_ ?_ ?_); kernel_rfl; kernel_rfl; intro _ _|(with_reducible refine Rg.plan_take ?_ ?_ ?_); kernel_rfl; kernel_rfl; intro _ _|(with_reducible refine Rg.plan_keep ?_ ?_); kernel_rfl; intro K hK|refine hK _ _ (Rg.Keep.refl _) ?_; clear hK|refine hK _ _ (Rg.Keep.of_below (by assumption)) ?_; clear hK|(with_reducible refine Rg.plan_skip ?_ ?_); kernel_rfl|(with_reducible refine Rg.plan_done ?_)|(with_reducible refine Rg.calm_normal ?_))
          go_ret
          have hc := HCC.out
          have hp0 := G0.out (by decide)
          refine ⟨?_, hb.drew⟩
          rw [← HV.out, if_neg (by omega), if_pos (by omega)]; rfl
        · have hc' : ¬ ((m : Nat) : Int) ≤ 14 := fun h => hc (T1.out.1 h)
          have HCC := Lib.hid hc
          clear hc
          go_wp2_with (first
            |(with_reducible refine Rg.plan_pure ?_ ?_ ?_); kernel_rfl; kernel_rfl; intro _ _|(with_reducible refine Rg.plan_take ?_ ?_ ?_); kernel_rfl; kernel_rfl; intro _ _|(with_reducible refine Rg.plan_keep ?_ ?_); kernel_rfl; intro K hK|refine hK _ _ (Rg.Keep.refl _) ?_; clear hK|refine hK _ _ (Rg.Keep.of_below (by assumption)) ?_; clear hK|(with_reducible refine Rg.plan_skip ?_ ?_); kernel_rfl|(with_reducible refine Rg.plan_done ?_)|(with_reducible refine Rg.calm_normal ?_))
          go_roundw
          case rel =>
            have hc := HCC.out
            exact ⟨2, by omega, by go_num, hb.drew, fun _ => G0.out (by decide), fun _ => by omega, fun h => by omega, fun h => by omega⟩
          case measure => simp [intOf]
      · go_wp2_with fail
        refine Rg.wp_region_plan (Rg.row [(0, 3), (2, 3), (3, 3), (4, 3), (1, 1), (5, 3)] []) [] (by kernel_rfl) (by kernel_rfl) ?_
        simp only [Rg.row, Rg.PT.map, List.map_nil, List.getD_cons_zero, List.getD_cons_succ]
        go_wp2_with (first
          |(with_reducible refine Rg.plan_pure ?_ ?_ ?_); kernel_rfl; kernel_rfl; intro _ _|(with_reducible refine Rg.plan_take ?_ ?_ ?_); kernel_rfl; kernel_rfl; intro _ _|(with_reducible refine Rg.plan_keep ?_ ?_); kernel_rfl; intro K hK|refine hK _ _ (Rg.Keep.refl _) ?_; clear hK|refine hK _ _ (Rg.Keep.of_below (by assumption)) ?_; clear hK|(with_reducible refine Rg.plan_skip ?_ ?_); kernel_rfl|(with_reducible refine Rg.plan_done ?_)|(with_reducible refine Rg.calm_normal ?_))
        refine (HL.out _).mono ?_
        rintro e w' ⟨rfl, rfl⟩
        by_cases hc : n < 1073741824
        · have hc' : ((m : Nat) : Int) ≤ 30 := T2.out.2 hc
          have HCC := Lib.hid hc
          clear hc
          go_wp2_with (first
            |(with_reducible refine Rg.plan_pure ?_ ?_ ?_); kernel_rfl; kernel_rfl; intro _ _|(with_reducible refine Rg.plan_take ?_ ?_ ?_); kernel_rfl; kernel_rfl; intro _ _|(with_reducible refine Rg.plan_keep ?_ ?_); kernel_rfl; intro K hK|refine hK _ _ (Rg.Keep.refl _) ?_; clear hK|refine hK _ _ (Rg.Keep.of_below (by assumption)) ?_; clear hK|(with_reducible refine Rg.plan_skip ?_ ?_); kernel_rfl|(with_reducible refine Rg.plan_done ?_)|(with_reducible refine Rg.calm_normal ?_))
          go_ret
          have hc := HCC.out
          have hp0 := G0.out (by decide)
          have hp1 := G1.out (by decide)
          refine ⟨?_, hb.drew⟩
          rw [← HV.out, if_neg (by omega), if_neg (by omega), if_pos (by omega)]; rfl
        · have hc' : ¬ ((m : Nat) : Int) ≤ 30 := fun h => hc (T2.out.1 h)
          have HCC := Lib.hid hc
          clear hc
          go_wp2_with (first
            |(with_reducible refine Rg.plan_pure ?_ ?_ ?_); kernel_rfl; kernel_rfl; intro _ _|(with_reducible refine Rg.plan_take ?_ ?_ ?_); kernel_rfl; kernel_rfl; intro _ _|(with_reducible refine Rg.plan_keep ?_ ?_); kernel_rfl; intro K hK|refine hK _ _ (Rg.Keep.refl _) ?_; clear hK|refine hK _ _ (Rg.Keep.of_below (by assumption)) ?_; clear hK|(with_reducible refine Rg.plan_skip ?_ ?_); kernel_rfl|(with_reducible refine Rg.plan_done ?_)|(with_reducible refine Rg.calm_normal ?_))
          go_roundw
          case rel =>
            have hc := HCC.out
            exact ⟨3, by omega, by go_num, hb.drew, fun _ => G0.out (by decide), fun _ => G1.out (by decide), fun _ => by omega, fun h => by omega⟩
          case measure => simp [intOf]
      · go_wp2_with fail
        refine Rg.wp_region_plan (Rg.row [(0, 3), (2, 3), (3, 3), (4, 3), (1, 1), (5, 3)] []) [] (by kernel_rfl) (by kernel_rfl) ?_
        simp only [Rg.row, Rg.PT.map, List.map_nil, List.getD_cons_zero, List.getD_cons_succ]
        go_wp2_with (first
          |(with_reducible refine Rg.plan_pure ?_ ?_ ?_); kernel_rfl; kernel_rfl; intro _ _|(with_reducible refine Rg.plan_take ?_ ?_ ?_); kernel_rfl; kernel_rfl; intro _ _|(with_reducible refine Rg.plan_keep ?_ ?_); kernel_rfl; intro K hK|refine hK _ _ (Rg.Keep.refl _) ?_; clear hK|refine hK _ _ (Rg.Keep.of_below (by assumption)) ?_; clear hK|(with_reducible refine Rg.plan_skip ?_ ?_); kernel_rfl|(with_reducible refine Rg.plan_done ?_)|(with_reducible refine Rg.calm_normal ?_))
        refine (HL.out _).mono ?_
        rintro e w' ⟨rfl, rfl⟩
        by_cases hc : n < 4611686018427387904
        · have hc' : ((m : Nat) : Int) ≤ 62 := T3.out.2 hc
          have HCC := Lib.hid hc
          clear hc
          go_wp2_with (first
            |(with_reducible refine Rg.plan_pure ?_ ?_ ?_); kernel_rfl; kernel_rfl; intro _ _|(with_reducible refine Rg.plan_take ?_ ?_ ?_); kernel_rfl; kernel_rfl; intro _ _|(with_reducible refine Rg.plan_keep ?_ ?_); kernel_rfl; intro K hK|refine hK _ _ (Rg.Keep.refl _) ?_; clear hK|refine hK _ _ (Rg.Keep.of_below (by assumption)) ?_; clear hK|(with_reducible refine Rg.plan_skip ?_ ?_); kernel_rfl|(with_reducible refine Rg.plan_done ?_)|(with_reducible refine Rg.calm_normal ?_))
          go_ret
          have hc := HCC.out
          have hp0 := G0.out (by decide)
          have hp1 := G1.out (by decide)
          have hp2 := G2.out (by decide)
          refine ⟨?_, hb.drew⟩
          rw [← HV.out, if_neg (by omega), if_neg (by omega), if_neg (by omega), if_pos (by omega)]; rfl
        · have hc' : ¬ ((m : Nat) : Int) ≤ 62 := fun h => hc (T3.out.1 h)
          have HCC := Lib.hid hc
          clear hc
          go_wp2_with (first
            |(with_reducible refine Rg.plan_pure ?_ ?_ ?_); kernel_rfl; kernel_rfl; intro _ _|(with_reducible refine Rg.plan_take ?_ ?_ ?_); kernel_rfl; kernel_rfl; intro _ _|(with_reducible refine Rg.plan_keep ?_ ?_); kernel_rfl; intro K hK|refine hK _ _ (Rg.Keep.refl _) ?_; clear hK|refine hK _ _ (Rg.Keep.of_below (by assumption)) ?_; clear hK|(with_reducible refine Rg.plan_skip ?_ ?_); kernel_rfl|(with_reducible refine Rg.plan_done ?_)|(with_reducible refine Rg.calm_normal ?_))
          go_roundw
          case rel =>
            have hc := HCC.out
            exact ⟨4, by omega, by go_num, hb.drew, fun _ => G0.out (by decide), fun _ => G1.out (by decide), fun _ => G2.out (by decide), fun _ => by omega⟩
          case measure => simp [intOf]
    · obtain rfl : k = 4 := by omega
      go_wp2_with fail
      go_ret
      refine ⟨?_, hb⟩
      have h3 := G3.out (by decide)
      rw [← HV.out, if_neg (by omega), if_neg (by omega), if_neg (by omega), if_neg (by omega)]; rfl

set_option maxRecDepth 100000 in
set_option maxHeartbeats 1000000 in
theorem len_any (n : Nat) (hn : n < 18446744073709551616) (w : World) :
    Calls Tryz.prog 148 #[.int .u64 (n : Nat)] w fun e w' => e = .returned (.int .i64 (Lib.bitLen n : Nat)) ∧ w = w' := by
  have hl : ∀ W, Calls Tryz.prog 149 #[.int .u64 (n : Nat)] W fun e w' => e = .returned (.int .i64 (Lib.bitLen n : Nat)) ∧ w' = W := fun W => by
    have := len64_any (n : Int) W (by omega) (by omega)
    rw [Int.toNat_natCast] at this
    exact this
  generalize Lib.bitLen n = m at *
  have HL := Lib.hid hl
  have hw : IntKind.u64.wrap ((n : Nat) : Int) = (n : Nat) := by simp only [IntKind.wrap_u64]; omega
  clear hl hn
  go_enter Tryz.func148, Tryz.ntmps148
  go_wp2_with fail
  refine (HL.out _).mono ?_
  rintro e w' ⟨rfl, rfl⟩
  go_wp2_with fail
  go_ret
  exact ⟨rfl, rfl⟩
theorem wrap_blm {m : Nat} (h : m ≤ 8) : wrap64 ((Lib.bitLen m : Int) - 1) = (Lib.bitLen m : Int) - 1 := by
  have := Lib.bitLen_le m 4 (by decide) (by omega)
  unfold wrap64; omega
theorem wrap_many {m : Nat} (h : m ≤ 8) : IntKind.u64.wrap ((m : Nat) : Int) = (m : Nat) := by simp only [IntKind.wrap_u64]; omega
attribute [local go_sem ↓] shift_shl8 shift_shr8 shift_shl64 shift_shr64

set_option maxRecDepth 100000 in
set_option maxHeartbeats 1000000 in
theorem vputlen_any (l : List UInt8) (n many : Nat) (hl : l.length ≤ 1000000) (_hn : n < 18446744073709551616) (hm : many ≤ 8) (v : Value) (w : World) (hs : Sl w v l) :
    Calls Tryz.prog 117 #[v, .int .u64 (n : Nat), .int .i64 (many : Nat)] w fun e w' => ∃ v', e = .returned v' ∧ w'.ownsRow w.heap.size 5 1 v' (l ++ vin n many).length ((l ++ vin n many).map bv) ∧ Below w.heap.size w w' := by
  obtain ⟨i0, hi, hz0, hz1, hz2⟩ := info_parts info8
  have hbl := vin_length n many
  have hstep := vin_take_succ n many
  have hlen := fun W => len_any many (by omega) W
  have hmk : UInt8.ofInt (((Lib.bitLen many : Int) - 1) % 256 * 64 % 256) = vmk many := rfl
  have hbw := wrap_blm hm
  generalize Lib.bitLen many = blm at hlen hmk hbw
  generalize vmk many = mk at hmk hstep
  generalize hBE : vin n many = Z at hbl hstep ⊢
  have HLEN := Lib.hid hlen
  have HST := Lib.hid hstep
  have HBL := Lib.hid hbl
  have hmw := wrap_many hm
  have HMK := Lib.hid hmk
  clear hstep hlen hBE hbl hmk
  obtain ⟨ao, cap, rfl, -, -, -⟩ := id hs
  go_enter Tryz.func117, Tryz.ntmps117
  have HS := Lib.hid hs
  clear hs
  go_wp2_with (at_builtin; refine app_sl rfl _ _ 22 rfl w.heap.size 5 i0 Tryz.underlying22 hi hz0 hz1 hz2 (.slice none 0 0) [] rfl (World.ownsRow_nil _ _ _ _) (.slice ao l.length cap) l rfl HS.out (by simp; omega) (Nat.le_refl _) ?_)
  intro v0 w1 hown hgrow
  have b1 : Below w.heap.size w w1 := (Below.refl _ _).grown hgrow (Nat.le_refl _) (by intro k hk; cases hk)
  have HO0 := Lib.hid hown
  clear hown hgrow
  go_wp2_with fail
  go_loopw [7, 8, 9, 13] (fun vb v8 v9 v wr => ∃ k : Nat, k ≤ many ∧ v = .int .i64 k ∧ wr.ownsRow w.heap.size 5 1 vb (l.length + k) ((l ++ Z.take k).map bv) ∧ Below w.heap.size w wr) (fun _ _ _ v _ => many - (intOf v).toNat)
  case atStart => exact ⟨0, by omega, rfl, by simpa using HO0.out, b1⟩
  case round =>
    obtain ⟨k, hk, rfl, how, hb⟩ := hrel
    have HO := Lib.hid how
    clear how
    by_cases hlt : k < many
    · have hv := shr_byte n (many - 1 - k)
      have hst := HST.out k hlt
      generalize UInt8.ofNat (n / 256 ^ (many - 1 - k)) = c at hv hst
      have HV := Lib.hid hv
      have hsub : ((many : Int) - 1 - (k : Int)) = ((many - 1 - k : Nat) : Int) := by omega
      by_cases hk0 : k = 0
      · have hkb : ((k : Int) == 0) = true := by simp [hk0]
        rw [if_pos hk0] at hst
        have HS' := Lib.hid hst
        have HK0 := Lib.hid hk0
        clear hst hk0
        go_wp2_with fail
        refine (HLEN.out _).mono ?_
        rintro e w' ⟨rfl, rfl⟩
        have HMKo := HMK.out
        go_wp2_with (at_builtin; refine wpList_append_own _ rfl _ _ 22 rfl w.heap.size 5 i0 (.int .u8 0) 1 1 Tryz.underlying22 hi hz0 hz1 hz2 rfl (by decide) _ (l.length + k) _ rfl (HO.out.alloc _) ⟨_, 0, none⟩ 1 1 [bv (c ||| mk)] rfl rfl ?c1 ?c2 ?c3 ?c4 ?c5 ?_)
        case c1 =>
          intro j u hj
          match j, hj with
          | 0, hj => simp at hj; subst hj; rw [cell_new _ _ _ _ rfl]; rfl
        case c2 => exact map_bv_one [c ||| mk]
        case c3 => unfold maxLen; omega
        case c4 => omega
        case c5 => have := hb.size; simp; omega
        intro v' w2 hown2 hgrow2 _
        have hlt2 := Own.lt HO.out
        have kb : Below w.heap.size w w2 := (hb.alloc (by have := hb.size; omega) _).grown hgrow2 (by have := hb.size; simp; omega) (fun q hq => (HO.out.lt q hq).1)
        have HO2 := Lib.hid hown2
        clear hown2 hgrow2 hlt2
        go_wp2_with fail
        go_roundw
        case rel =>
          refine ⟨k + 1, by omega, by go_num, ?_, kb⟩
          have := HO2.out
          rw [HS'.out]
          simpa [Nat.add_assoc] using this
        case measure => simp [intOf]; omega
      · have hkb : ((k : Int) == 0) = false := by simp [hk0]
        rw [if_neg hk0] at hst
        have HS' := Lib.hid hst
        have HK0 := Lib.hid hk0
        clear hst hk0
        go_wp2_with (at_builtin; refine wpList_append_own _ rfl _ _ 22 rfl w.heap.size 5 i0 (.int .u8 0) 1 1 Tryz.underlying22 hi hz0 hz1 hz2 rfl (by decide) _ (l.length + k) _ rfl (HO.out.alloc _) ⟨_, 0, none⟩ 1 1 [bv (c)] rfl rfl ?c1 ?c2 ?c3 ?c4 ?c5 ?_)
        case c1 =>
          intro j u hj
          match j, hj with
          | 0, hj => simp at hj; subst hj; rw [cell_new _ _ _ _ rfl]; rfl
        case c2 => exact map_bv_one [c]
        case c3 => unfold maxLen; omega
        case c4 => omega
        case c5 => have := hb.size; simp; omega
        intro v' w2 hown2 hgrow2 _
        have hlt2 := Own.lt HO.out
        have kb : Below w.heap.size w w2 := (hb.alloc (by have := hb.size; omega) _).grown hgrow2 (by have := hb.size; simp; omega) (fun q hq => (HO.out.lt q hq).1)
        have HO2 := Lib.hid hown2
        clear hown2 hgrow2 hlt2
        go_wp2_with fail
        go_roundw
        case rel =>
          refine ⟨k + 1, by omega, by go_num, ?_, kb⟩
          have := HO2.out
          rw [HS'.out]
          simpa [Nat.add_assoc] using this
        case measure => simp [intOf]; omega
    · obtain rfl : k = many := by omega
      have hz : Z.take k = Z := List.take_of_length_le (by have := HBL.out; omega)
      go_wp2_with fail
      go_ret
      refine ⟨_, rfl, ?_, hb⟩
      have := HO.out
      rw [hz] at this
      rw [List.length_append, HBL.out]
      exact this

set_option maxRecDepth 100000 in
set_option maxHeartbeats 1000000 in
theorem vput_any (l : List UInt8) (n : Nat) (hl : l.length ≤ 1000000) (hn : n < 18446744073709551616) (v : Value) (w : World) (hs : Sl w v l) :
    Calls Tryz.prog 87 #[v, .int .u64 (n : Nat)] w fun e w' => ∃ v', e = .returned v' ∧ w'.ownsRow w.heap.size 5 1 v' (l ++ vin n (vlen n)).length ((l ++ vin n (vlen n)).map bv) ∧ Below w.heap.size w w' := by
  have hv := vlen_any n hn w
  have hp := fun W hs => vputlen_any l n (vlen n) hl hn (vlen_le n) v W hs
  generalize vlen n = many at hv hp ⊢
  have HP := Lib.hid hp
  have HS := Lib.hid hs
  have HV := Lib.hid hv
  clear hv hp hs
  go_enter Tryz.func87, Tryz.ntmps87
  go_wp2_with fail
  refine HV.out.mono ?_
  rintro e w1 ⟨rfl, b1⟩
  go_wp2_with fail
  refine (HP.out _ (HS.out.below b1)).mono ?_
  rintro e w2 ⟨v', rfl, o2, b2⟩
  have O2 := Lib.hid (own_lower o2 b1.size)
  clear o2
  go_wp2_with fail
  go_ret
  exact ⟨_, rfl, O2.out, b1.trans (b2.mono b1.size)⟩
end Go.Proofs.YthjbmggpleliaaaGreatDoor
