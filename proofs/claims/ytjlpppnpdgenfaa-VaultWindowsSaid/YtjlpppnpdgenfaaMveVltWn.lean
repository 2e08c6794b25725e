/- The walk of VaultWindows. -/
import Derived.Test.YtjlpppnpdgenfaaMve0
import Derived.Test.YtjlpppnpdgenfaaMvbVltTM
import Derived.Test.YtjlpppnpdgenfaaMvbLawK
import Derived.Test.YtjlpppnpdgenfaaMvbHdrW1
namespace Go.Proofs.Ytjlpppnpdgenfaa
open Go.RowKit Go.Rw Aes Hdr Vlt
theorem and_60 (x : Int) : bits .and .u64 x 1152921504606846975 = x % 1152921504606846976 := by
 rw [bits_and64]
 have e : n64 (UInt64.ofInt x &&& UInt64.ofInt 1152921504606846975) = (x % 18446744073709551616).toNat &&& (2 ^ 60 - 1) := by
  show (UInt64.ofInt x &&& UInt64.ofInt 1152921504606846975).toNat = _
  rw [UInt64.toNat_and, u64_ofInt_toNat]; rfl
 rw [e, Nat.and_two_pow_sub_one_eq_mod]
 omega
theorem and_30 (x : Int) : bits .and .u64 x 1073741823 = x % 1073741824 := by
 rw [bits_and64]
 have e : n64 (UInt64.ofInt x &&& UInt64.ofInt 1073741823) = (x % 18446744073709551616).toNat &&& (2 ^ 30 - 1) := by
  show (UInt64.ofInt x &&& UInt64.ofInt 1073741823).toNat = _
  rw [UInt64.toNat_and, u64_ofInt_toNat]; rfl
 rw [e, Nat.and_two_pow_sub_one_eq_mod]
 omega
theorem w8_sl (w : World) (t : TypeId) : Sl (w.alloc (.cells #[.int .u8 8, .int .u8 7, .int .u8 6, .int .u8 5, .int .u8 4, .int .u8 3, .int .u8 2, .int .u8 1] t)) (.slice (some ⟨w.heap.size, 0, none⟩) 8 8) w8 := by
 refine ⟨_, 8, rfl, by decide, fun h => (by cases h), fun _ => ⟨w.heap.size, 0, rfl, fun k hk => ?_⟩⟩
 have hr : row? (w.alloc (.cells #[.int .u8 8, .int .u8 7, .int .u8 6, .int .u8 5, .int .u8 4, .int .u8 3, .int .u8 2, .int .u8 1] t)) w.heap.size = some (w8.map bv).toArray := row?_alloc_at _ _ _ _ rfl
 rw [row?_cell hr]
 have hk8 : k < 8 := hk
 match k, hk8 with
 | 0, _ => rfl
 | 1, _ => rfl
 | 2, _ => rfl
 | 3, _ => rfl
 | 4, _ => rfl
 | 5, _ => rfl
 | 6, _ => rfl
 | 7, _ => rfl
attribute [local go_sem high] and_60 and_30
attribute [local go_sem ↓] hvA_0 hvA_1 hvA_2 hvA_3 hvA_4 hvA_5 hvA_6 hvA_7 hvA_8 hvA_9
attribute [local go_sem ↓] ldH stH alH ldK stK alK ld16 st16 al16 ld12 st12 al12 shift_shl8 bvs_getElem?
attribute [local go_sem] rldH rstH ralH rstK ralK rld16 rst16 ral16 rld12 rst12 ral12 setRow_alloc_at setRow_alloc_past setRow_drew bvs_setn
theorem buildW (n : Nat) (x : Int) (a : Option Addr) (m c : Nat) (w : World) : (buildP 30 #[(3, .slice a m c), (8, .int .u64 (n : Nat)), (9, .int .i64 x)]).run Try.prog w = .ok (.agg (hvA false 0 0 (.slice a m c) (.slice none 0 0) (.slice none 0 0) false false n x)) w := Go.run_build w _ _ _ (by kernel_rfl)
attribute [local go_sem] buildW
set_option maxRecDepth 100000 in
set_option maxHeartbeats 8000000 in
theorem vwindows_any (key iv msk : List UInt8) (hk : key.length = 16) (hiv : iv.length = 12) (hmk : msk.length = 16) (acked far at_ : Nat) (text : List UInt8) (h1 : acked < 18446744073709551616) (h2 : far < 18446744073709551616) (h3 : at_ < 18446744073709551616) (vx : Value) (w : World) (hsx : Sl w vx text) :
  Calls Try.prog 9 #[.agg (bvs (ksB key iv msk)), .int .u64 (acked : Nat), .int .u64 (far : Nat), .int .u64 (at_ : Nat), vx] w fun e w' => e = .returned (.bool true) ∧ Below w.heap.size w w' := by
 obtain ⟨ax, cx, rfl, -, -, -⟩ := id hsx
 obtain ⟨i0, hi, hz0, hz1, hz2⟩ := info_parts info8
 have hKl := ksB_length hk hiv hmk
 have HIV := Lib.hid hiv
 have HMK := Lib.hid hmk
 have HKK := Lib.hid hk
 have SX := Lib.hid hsx
 have HB := Lib.hid (And.intro h1 (And.intro h2 h3))
 clear hsx hk hiv hmk h1 h2 h3
 generalize hKBe : ksB key iv msk = KB at hKl ⊢
 have HKB := Lib.hid hKBe
 clear hKBe
 have rk0 : row? (w.alloc (.cells (bvs KB) 25)) w.heap.size = some (bvs KB) := row?_alloc_at _ _ _ _ rfl
 have bk0 : Below w.heap.size w (w.alloc (.cells (bvs KB) 25)) := (Below.refl _ _).alloc (Nat.le_refl _) _
 have RK := Lib.hid rk0
 have BB := Lib.hid bk0
 clear rk0 bk0
 go_enter Try.func9, Try.ntmps9
 go_wp2_with (with_reducible refine Rw.hold_ops 23 ?_)
 refine Rw.Held.mk ?_
 generalize (w.alloc (.cells (bvs KB) 25)) = w0 at RK BB ⊢
 by_cases g2 : ((text.length : Nat) : Int) < 4
 ·go_wp2_with fail
  refine (awake_any _).mono ?_
  rintro e w5 ⟨rfl, b5⟩
  have hW5 : Below w.heap.size w w5 := BB.out.trans (b5.mono BB.out.size)
  go_wp2_with fail
  go_ret
  exact ⟨rfl, hW5⟩
 by_cases g3 : (60 : Int) < (text.length : Nat)
 ·go_wp2_with fail
  refine (awake_any _).mono ?_
  rintro e w5 ⟨rfl, b5⟩
  have hW5 : Below w.heap.size w w5 := BB.out.trans (b5.mono BB.out.size)
  go_wp2_with fail
  go_ret
  exact ⟨rfl, hW5⟩
 have HL := Lib.hid (show 4 ≤ text.length ∧ text.length ≤ 60 by omega)
 have lk : w.heap.size < w0.heap.size := row?_lt RK.out
 go_wp2_with (with_reducible refine Rw.hold_ops 32 ?_)
 refine Rw.Held.mk ?_
 clear g2 g3
 go_wp2_with fail
 have eA : (acked : Int) % 1152921504606846976 = ((acked % 1152921504606846976 : Nat) : Int) := by omega
 have eD : 1 + (far : Int) % 1073741824 = ((1 + far % 1073741824 : Nat) : Int) := by omega
 rw [eA, eD]
 have hA : acked % 1152921504606846976 < 1152921504606846976 := by omega
 have hD1 : 1 ≤ 1 + far % 1073741824 := by omega
 have hD2 : 1 + far % 1073741824 ≤ 1073741824 := by omega
 clear eA eD
 generalize acked % 1152921504606846976 = A at hA ⊢
 generalize 1 + far % 1073741824 = D at hD1 hD2 ⊢
 have eS : (A : Int) + (D : Int) = ((A + D : Nat) : Int) := by push_cast; rfl
 obtain ⟨u, hu⟩ : ∃ u : UInt64, n64 u = A + D := ⟨UInt64.ofNat (A + D), by simp [n64]; omega⟩
 rw [eS, ← hu]
 have hws := windows_seal key iv msk (text := text) hu hA hD1 hD2 HL.out.1 HL.out.2
 rw [← hu] at hws
 have hr := cut_range (n64 u) A true
 have hcut := cut_any (n64 u) A true u.toNat_lt (by omega) (w0.alloc (.cells #[.int .u8 8, .int .u8 7, .int .u8 6, .int .u8 5, .int .u8 4, .int .u8 3, .int .u8 2, .int .u8 1] 5))
 generalize cut (n64 u) A true = m at hws hr hcut
 have hseal := fun (h : text.length ≤ 1000000) W (vd vs vt' vx' : Value) h1 h2 h3 h4 => vseal_any key iv msk HKK.out HIV.out HMK.out false 0 0 w8 [] [] false false u (m : Nat) text (by decide) h vd vs vt' vx' W h1 h2 h3 h4
 have hop := fun (B : List UInt8) (hb : B.length ≤ 1000000) (L : Nat) (hl : L < 18446744073709551616) W vb h => vopen_any key iv msk HKK.out HIV.out HMK.out B hb L hl true vb W h
 have hrop := fun (B : List UInt8) (hb : B.length ≤ 1000000) (L : Nat) (hl : L < 18446744073709551616) W vb h => ropen16_any key iv msk HKK.out HIV.out HMK.out B hb L hl true vb W h
 have hkeys := fun W => vkeys_any key iv msk HKK.out HIV.out HMK.out W
 rw [HKB.out] at hseal hop hrop hkeys
 generalize sealR key iv msk false 0 0 w8 [] [] false false u (m : Nat) text = SR at hseal hws
 generalize openV key iv msk = OV at hws hop hrop
 have HSE := Lib.hid hseal
 have HOP := Lib.hid hop
 have HRO := Lib.hid hrop
 have HKY := Lib.hid hkeys
 have HWS := Lib.hid hws
 have HM := Lib.hid hr
 obtain ⟨M, hM⟩ : ∃ M, at_ % D = M := ⟨_, rfl⟩
 have hm1 := Nat.mod_lt at_ hD1
 rw [hM] at hm1
 have HS := Lib.hid (And.intro hA (And.intro hD1 (And.intro hD2 (And.intro hu (And.intro hM hm1)))))
 clear hseal hop hrop hkeys hws hr hA hD1 hD2 hu hM hm1 eS HKK HIV HMK HKB
 have s8 := w8_sl w0 5
 have b1 : Below w0.heap.size w0 (w0.alloc (.cells #[.int .u8 8, .int .u8 7, .int .u8 6, .int .u8 5, .int .u8 4, .int .u8 3, .int .u8 2, .int .u8 1] 5)) := (Below.refl _ _).alloc (Nat.le_refl _) _
 have hbw := BB.out.trans (b1.mono BB.out.size)
 have hrk := Rg.stable_row b1 RK.out
 have hsx := SX.out.below hbw
 generalize (w0.alloc (.cells #[.int .u8 8, .int .u8 7, .int .u8 6, .int .u8 5, .int .u8 4, .int .u8 3, .int .u8 2, .int .u8 1] 5)) = w1 at s8 hbw hrk hsx hcut ⊢
 generalize w0.heap.size = db at s8 ⊢
 clear b1 RK BB SX lk
 have RK := Lib.hid hrk
 have BB := Lib.hid hbw
 have D3 := Lib.hid s8
 have SX := Lib.hid hsx
 clear hrk hbw s8 hsx
 refine hcut.mono ?_
 clear hcut
 rintro e w2 ⟨rfl, rfl⟩
 have eS : (A : Int) + (D : Int) = (n64 u : Nat) := by have := HS.out.2.2.2.1; omega
 have hva : (#[.bool false, .int .i64 0, .int .u32 0, .slice (some ⟨db, 0, none⟩) 8 8, .slice none 0 0, .slice none 0 0, .bool false, .bool false, .int .u64 (n64 u : Nat), .int .i64 (m : Nat)] : Array Value) = (hvA false 0 0 (.slice (some ⟨db, 0, none⟩) 8 8) (.slice none 0 0) (.slice none 0 0) false false (n64 u) (m : Nat)) := rfl
 go_wp2_with fail
 clear hva
 have rh : row? (w1.alloc (.cells (hvA false 0 0 (.slice (some ⟨db, 0, none⟩) 8 8) (.slice none 0 0) (.slice none 0 0) false false (n64 u) (m : Nat)) 30)) w1.heap.size = some (hvA false 0 0 (.slice (some ⟨db, 0, none⟩) 8 8) (.slice none 0 0) (.slice none 0 0) false false (n64 u) (m : Nat)) := row?_alloc_at _ _ _ _ rfl
 have b3 : Below w1.heap.size w1 (w1.alloc (.cells (hvA false 0 0 (.slice (some ⟨db, 0, none⟩) 8 8) (.slice none 0 0) (.slice none 0 0) false false (n64 u) (m : Nat)) 30)) := (Below.refl _ _).alloc (Nat.le_refl _) _
 have bA : Below w.heap.size w (w1.alloc (.cells (hvA false 0 0 (.slice (some ⟨db, 0, none⟩) 8 8) (.slice none 0 0) (.slice none 0 0) false false (n64 u) (m : Nat)) 30)) := BB.out.trans (b3.mono BB.out.size)
 have rkA := Rg.stable_row b3 RK.out
 have d3 := D3.out.below b3
 have sx3 := SX.out.below b3
 obtain ⟨hb, hhb⟩ : ∃ hb, hb = w1.heap.size := ⟨_, rfl⟩
 have hbw : w.heap.size < hb := by have := row?_lt RK.out; omega
 rw [← hhb] at rh ⊢
 generalize (w1.alloc (.cells (hvA false 0 0 (.slice (some ⟨db, 0, none⟩) 8 8) (.slice none 0 0) (.slice none 0 0) false false (n64 u) (m : Nat)) 30)) = WA at rh bA rkA d3 sx3 ⊢
 clear RK BB D3 SX b3 hhb eS
 have RK := Lib.hid rkA
 have RH := Lib.hid rh
 have BB := Lib.hid bA
 have D3 := Lib.hid d3
 have SX := Lib.hid sx3
 clear rkA rh bA d3 sx3
 refine Rg.wp_region_plan (Rg.row [(0, 0), (1, 0), (2, 3), (3, 1), (4, 1), (5, 3), (6, 3), (7, 3), (8, 3), (9, 3)] []) [] (by kernel_rfl) (by kernel_rfl) ?_
 simp only [Rg.row, Rg.PT.map, List.map_nil, List.getD_cons_zero, List.getD_cons_succ]
 have h77 : Below WA.heap.size WA WA.drew := (Below.refl _ _).drew
 have xk := Rg.stable_row h77 RK.out
 have xr := Rg.stable_row h77 RH.out
 have xb := BB.out.trans (h77.mono BB.out.size)
 clear RK RH BB
 have RK := Lib.hid xk
 have RH := Lib.hid xr
 have BB := Lib.hid xb
 clear xk xr xb
 have zz := D3.out.below h77
 clear D3
 have D3 := Lib.hid zz
 clear zz
 have zz := SX.out.below h77
 clear SX
 have SX := Lib.hid zz
 clear zz
 clear h77
 generalize WA.drew = WB at RK RH BB D3 SX ⊢
 have lk : (loadAgg 25 (.pointer (some ⟨w.heap.size, 0, none⟩))).run Try.prog WB = .ok (.agg (bvs KB)) WB := rldK WB _ _ RK.out hKl
 have lh : (loadAgg 30 (.pointer (some ⟨hb, 0, none⟩))).run Try.prog WB = .ok (.agg (hvA false 0 0 (.slice (some ⟨db, 0, none⟩) 8 8) (.slice none 0 0) (.slice none 0 0) false false (n64 u) (m : Nat))) WB := by rw [rldH WB _ (by rw [RH.out]; rfl), RH.out]; rfl
 go_wp2_with (first
  |(with_reducible refine Rg.plan_pure ?_ ?_ ?_); kernel_rfl; kernel_rfl; intro _ _|(with_reducible refine Rg.plan_take ?_ ?_ ?_); kernel_rfl; kernel_rfl; intro _ _|(with_reducible refine Rg.plan_keep ?_ ?_); kernel_rfl; intro K hK; refine Rg.stay_ ?_|refine hK _ _ (Rg.Keep.refl _) ?_; clear hK|refine hK _ _ (Rg.Keep.of_below (by assumption)) ?_; clear hK|(with_reducible refine Rg.plan_skip ?_ ?_); kernel_rfl|(with_reducible refine Rg.plan_done ?_)|(with_reducible refine Rg.calm_normal ?_))
 refine Rg.Stay.mk ?_
 with_reducible refine Rg.wp_copy (l := text) (v := .slice ax text.length cx) (t := 27) (e := 5) (i := i0) (.tmp 50) ?_ Try.underlying27 hi hz0 hz1 hz2 ?_ SX.out ?_ ?_
 kernel_rfl
 kernel_rfl
 have := HL.out; omega
 intro va WC o' hX
 refine hK _ _ (Rg.Keep.of_below hX) ?_
 clear hK
 have OA := Lib.hid o'
 clear o'
 have xk := Rg.stable_row hX RK.out
 have xr := Rg.stable_row hX RH.out
 have xb := BB.out.trans (hX.mono BB.out.size)
 clear RK RH BB
 have RK := Lib.hid xk
 have RH := Lib.hid xr
 have BB := Lib.hid xb
 clear xk xr xb
 have zz := D3.out.below hX
 clear D3
 have D3 := Lib.hid zz
 clear zz
 have zz := SX.out.below hX
 clear SX
 have SX := Lib.hid zz
 clear zz
 clear hX
 obtain ⟨aa, ac, rfl, -, -, -⟩ := id (Own.sl OA.out)
 have A3 := Lib.hid (Own.sl OA.out)
 clear OA lk lh
 go_wp2_with (first
  |(with_reducible refine Rg.plan_pure ?_ ?_ ?_); kernel_rfl; kernel_rfl; intro _ _|(with_reducible refine Rg.plan_take ?_ ?_ ?_); kernel_rfl; kernel_rfl; intro _ _|(with_reducible refine Rg.plan_keep ?_ ?_); kernel_rfl; intro K hK|refine hK _ _ (Rg.Keep.refl _) ?_; clear hK|refine hK _ _ (Rg.Keep.of_below (by assumption)) ?_; clear hK|(with_reducible refine Rg.plan_skip ?_ ?_); kernel_rfl|(with_reducible refine Rg.plan_done ?_)|(with_reducible refine Rg.calm_normal ?_))
 have hse := HSE.out (by have := HL.out; omega) WC _ _ _ _ D3.out (Sl.nil _) (Sl.nil _) A3.out
 clear HSE A3
 refine hse.mono ?_
 clear hse
 rintro e WD ⟨vb, rfl, ob, hX⟩
 refine hK _ _ (Rg.Keep.of_below hX) ?_
 clear hK
 obtain ⟨S, hSR, hSl, hSo⟩ := HWS.out
 subst hSR
 clear HWS
 have HSB := Lib.hid hSl
 have HSO := Lib.hid hSo
 clear hSl hSo
 simp only [] at ob
 obtain ⟨ab, cb, rfl, -, -, -⟩ := id (Own.sl ob)
 have S3 := Lib.hid (Own.sl ob)
 clear ob
 have xk := Rg.stable_row hX RK.out
 have xr := Rg.stable_row hX RH.out
 have xb := BB.out.trans (hX.mono BB.out.size)
 clear RK RH BB
 have RK := Lib.hid xk
 have RH := Lib.hid xr
 have BB := Lib.hid xb
 clear xk xr xb
 have zz := D3.out.below hX
 clear D3
 have D3 := Lib.hid zz
 clear zz
 have zz := SX.out.below hX
 clear SX
 have SX := Lib.hid zz
 clear zz
 clear hX
 have c9 : WD.cell? ⟨hb, 9, none⟩ = some (.int .i64 (m : Nat)) := row?_cell RH.out 9
 have hn1 : ¬ ((m : Nat) : Int) < 1 := by have := HM.out; omega
 have hn4 : ¬ (4 : Int) < (m : Nat) := by have := HM.out; omega
 have hw : wrap64 (wrap64 (9 + (m : Int) + (text.length : Nat)) + 16) = (S.length : Nat) := by
  have h1 := HSB.out
  have h2 := HM.out
  have h3 := HL.out
  unfold wrap64; omega
 go_wp2_with (first
  |(with_reducible refine Rg.plan_pure ?_ ?_ ?_); kernel_rfl; kernel_rfl; intro _ _|(with_reducible refine Rg.plan_take ?_ ?_ ?_); kernel_rfl; kernel_rfl; intro _ _|(with_reducible refine Rg.plan_keep ?_ ?_); kernel_rfl; intro K hK|refine hK _ _ (Rg.Keep.refl _) ?_; clear hK|refine hK _ _ (Rg.Keep.of_below (by assumption)) ?_; clear hK|(with_reducible refine Rg.plan_skip ?_ ?_); kernel_rfl|(with_reducible refine Rg.plan_done ?_)|(with_reducible refine Rg.calm_normal ?_))
 clear c9 hn1 hn4 hw
 obtain ⟨L1, hL1⟩ : ∃ L1, A + M = L1 := ⟨_, rfl⟩
 have HL1 := Lib.hid hL1
 have HLT := Lib.hid (show L1 < 18446744073709551616 by have := HS.out; omega)
 have eM : (at_ : Int) % (D : Int) = (M : Nat) := by rw [← HS.out.2.2.2.2.1]; push_cast; rfl
 have hD0 : ¬ ((D : Int) = 0) := by have := HS.out.2.1; omega
 have eL : (A : Int) + (M : Int) = (L1 : Nat) := by have := HL1.out; omega
 have fL : IntKind.u64.wrap ((L1 : Nat) : Int) = (L1 : Nat) := by have := HLT.out; simp only [IntKind.wrap, IntKind.signed, IntKind.bits]; simp; omega
 clear hL1
 refine Rg.wp_region_inv9 [(1, 3), (3, 3), (4, 3), (5, 3), (6, 3), (7, 3)] [⟨0, 80, [], false, fun _ _ => True⟩, ⟨2, 82, [], false, fun _ _ => True⟩, ⟨8, 88, [0, 2], false, fun _ _ => True⟩, ⟨9, 79, [8], false, fun _ _ => True⟩, ⟨10, 89, [9], false, fun _ _ => True⟩, ⟨11, 90, [9], false, fun _ _ => True⟩, ⟨12, 91, [9], false, fun _ _ => True⟩, ⟨13, 14, [], false, fun _ _ => True⟩, ⟨14, 100014, [0, 2, 8, 9, 10, 13], false, fun _ _ => True⟩, ⟨15, 15, [0, 2, 8, 9, 10, 11, 13, 14], false, fun _ _ => True⟩, ⟨16, 16, [0, 2, 8, 9, 10, 11, 12, 13, 14, 15], false, fun _ _ => True⟩] [(0, 80, []), (2, 82, []), (8, 88, [0, 2]), (9, 79, [8]), (10, 89, [9]), (11, 90, [9]), (12, 91, [9]), (13, 14, []), (14, 100014, [0, 2, 8, 9, 10, 13]), (15, 15, [0, 2, 8, 9, 10, 11, 13, 14]), (16, 16, [0, 2, 8, 9, 10, 11, 12, 13, 14, 15])] [14] [] (by kernel_rfl) (by kernel_rfl) rfl (by kernel_rfl) ?_
 simp only [Rg.row, Rg.PT.map, List.getD_cons_zero, List.getD_cons_succ]
 go_wp2_with (first
  |(with_reducible refine Rg.plan_pure ?_ ?_ ?_); kernel_rfl; kernel_rfl; intro _ _|(with_reducible refine Rg.plan_take ?_ ?_ ?_); kernel_rfl; kernel_rfl; intro _ _|(with_reducible refine Rg.plan_keep ?_ ?_); kernel_rfl; intro K hK|refine hK _ _ (Rg.Keep.refl _) ?_; clear hK|refine hK _ _ (Rg.Keep.of_below (by assumption)) ?_; clear hK|(with_reducible refine Rg.plan_skip ?_ ?_); kernel_rfl|(with_reducible refine Rg.plan_done ?_)|(with_reducible refine Rg.calm_normal ?_))
 have h77 : Below WD.heap.size WD WD.drew := (Below.refl _ _).drew
 have xk := Rg.stable_row h77 RK.out
 have xr := Rg.stable_row h77 RH.out
 have xb := BB.out.trans (h77.mono BB.out.size)
 clear RK RH BB
 have RK := Lib.hid xk
 have RH := Lib.hid xr
 have BB := Lib.hid xb
 clear xk xr xb
 have zz := D3.out.below h77
 clear D3
 have D3 := Lib.hid zz
 clear zz
 have zz := SX.out.below h77
 clear SX
 have SX := Lib.hid zz
 clear zz
 have zz := S3.out.below h77
 clear S3
 have S3 := Lib.hid zz
 clear zz
 clear h77
 generalize WD.drew = WE at RK RH BB D3 SX S3 ⊢
 have HWH := Lib.hid (show hb < WE.heap.size from row?_lt RH.out)
 have HWK := Lib.hid (show w.heap.size < WE.heap.size from row?_lt RK.out)
 obtain ⟨q, hq⟩ : ∃ q, OV S L1 true = q := ⟨_, rfl⟩
 refine Rg.phase_spare (w0 := WE) [⟨0, 80, [], [], none, [], [0, 0], (Rg.At 0 0 (Rg.JC (.agg (bvs KB))))⟩, ⟨2, 82, [], [], none, [], [2, 2], (Rg.At 2 2 (Rg.JA 5 S))⟩, ⟨8, 88, [0, 2], [0, 2], none, [], [8, 8], (Rg.At 8 8 (JOpen q))⟩, ⟨9, 79, [8], [8], none, [], [9, 8], (Rg.At 9 8 (JOpen q))⟩, ⟨10, 89, [9], [9], none, [], [10, 8], (Rg.At 10 8 (JHdr q.1))⟩, ⟨11, 90, [9], [9], none, [], [11, 8], (Rg.At 11 8 (Rg.JA 5 q.2.1))⟩, ⟨12, 91, [9], [9], none, [], [12, 8], (Rg.At 12 8 (Rg.JC (.int .i64 q.2.2)))⟩, ⟨13, 14, [], [], none, [], [13, 13], (Rg.At 13 13 (Rg.JV (hvA false 0 0 (.slice none 0 0) (.slice none 0 0) (.slice none 0 0) false false 0 0)))⟩, ⟨14, 100014, [0, 2, 8, 9, 10, 13], [13, 10], (some 13), [13], [14, 13, 10], (Rg.JSt 13 10)⟩, ⟨15, 15, [0, 2, 8, 9, 10, 11, 13, 14], [11], none, [], [15, 8], (Rg.At 15 8 (Rg.JA 5 q.2.1))⟩, ⟨16, 16, [0, 2, 8, 9, 10, 11, 12, 13, 14, 15], [12], none, [], [16, 8], (Rg.At 16 8 (Rg.JC (.int .i64 q.2.2)))⟩] rfl (by kernel_rfl) ?_ ?_ ?_ ?_ ?_
 ·exact List.forall_mem_cons.2 ⟨Rg.At.congr (i := 0) (k := 0) (J := (Rg.JC (.agg (bvs KB)))), List.forall_mem_cons.2 ⟨Rg.At.congr (i := 2) (k := 2) (J := (Rg.JA 5 S)), List.forall_mem_cons.2 ⟨Rg.At.congr (i := 8) (k := 8) (J := (JOpen q)), List.forall_mem_cons.2 ⟨Rg.At.congr (i := 9) (k := 8) (J := (JOpen q)), List.forall_mem_cons.2 ⟨Rg.At.congr (i := 10) (k := 8) (J := (JHdr q.1)), List.forall_mem_cons.2 ⟨Rg.At.congr (i := 11) (k := 8) (J := (Rg.JA 5 q.2.1)), List.forall_mem_cons.2 ⟨Rg.At.congr (i := 12) (k := 8) (J := (Rg.JC (.int .i64 q.2.2))), List.forall_mem_cons.2 ⟨Rg.At.congr (i := 13) (k := 13) (J := (Rg.JV (hvA false 0 0 (.slice none 0 0) (.slice none 0 0) (.slice none 0 0) false false 0 0))), List.forall_mem_cons.2 ⟨Rg.JSt.congr, List.forall_mem_cons.2 ⟨Rg.At.congr (i := 15) (k := 8) (J := (Rg.JA 5 q.2.1)), List.forall_mem_cons.2 ⟨Rg.At.congr (i := 16) (k := 8) (J := (Rg.JC (.int .i64 q.2.2))), fun r hr => (by cases hr)⟩⟩⟩⟩⟩⟩⟩⟩⟩⟩⟩
 ·exact List.forall_mem_cons.2 ⟨Rg.At.sb (i := 0) (k := 0) Rg.JC.sb, List.forall_mem_cons.2 ⟨Rg.At.sb (i := 2) (k := 2) Rg.JA.sb, List.forall_mem_cons.2 ⟨Rg.At.sb (i := 8) (k := 8) JOpen.sb, List.forall_mem_cons.2 ⟨Rg.At.sb (i := 9) (k := 8) JOpen.sb, List.forall_mem_cons.2 ⟨Rg.At.sb (i := 10) (k := 8) JHdr.sb, List.forall_mem_cons.2 ⟨Rg.At.sb (i := 11) (k := 8) Rg.JA.sb, List.forall_mem_cons.2 ⟨Rg.At.sb (i := 12) (k := 8) Rg.JC.sb, List.forall_mem_cons.2 ⟨Rg.At.sb (i := 13) (k := 13) Rg.JV.sb, List.forall_mem_cons.2 ⟨Rg.JSt.sb, List.forall_mem_cons.2 ⟨Rg.At.sb (i := 15) (k := 8) Rg.JA.sb, List.forall_mem_cons.2 ⟨Rg.At.sb (i := 16) (k := 8) Rg.JC.sb, fun r hr => (by cases hr)⟩⟩⟩⟩⟩⟩⟩⟩⟩⟩⟩
 ·refine List.forall_mem_cons.2 ⟨fun _ _ s _ _ _ _ => Rg.At.ss (i := 0) (k := 0) Rg.JC.ss s, List.forall_mem_cons.2 ⟨fun _ _ s _ _ _ _ => Rg.At.ss (i := 2) (k := 2) Rg.JA.ss s, List.forall_mem_cons.2 ⟨fun _ _ s _ _ _ _ => Rg.At.ss (i := 8) (k := 8) JOpen.ss s, List.forall_mem_cons.2 ⟨fun _ _ s _ _ _ _ => Rg.At.ss (i := 9) (k := 8) JOpen.ss s, List.forall_mem_cons.2 ⟨fun _ _ s _ _ _ _ => Rg.At.ss (i := 10) (k := 8) JHdr.ss s, List.forall_mem_cons.2 ⟨fun _ _ s _ _ _ _ => Rg.At.ss (i := 11) (k := 8) Rg.JA.ss s, List.forall_mem_cons.2 ⟨fun _ _ s _ _ _ _ => Rg.At.ss (i := 12) (k := 8) Rg.JC.ss s, List.forall_mem_cons.2 ⟨fun _ _ s _ _ _ _ => Rg.At.ss (i := 13) (k := 13) Rg.JV.ss s, List.forall_mem_cons.2 ⟨fun _ _ s _ _ _ _ => Rg.JSt.ss s, List.forall_mem_cons.2 ⟨fun _ _ s _ _ _ _ => Rg.At.ss (i := 15) (k := 8) Rg.JA.ss s, List.forall_mem_cons.2 ⟨fun _ _ s _ _ _ _ => Rg.At.ss (i := 16) (k := 8) Rg.JC.ss s, fun r hr => (by cases hr)⟩⟩⟩⟩⟩⟩⟩⟩⟩⟩⟩
 ·refine List.forall_mem_cons.2 ⟨?_, List.forall_mem_cons.2 ⟨?_, List.forall_mem_cons.2 ⟨?_, List.forall_mem_cons.2 ⟨?_, List.forall_mem_cons.2 ⟨?_, List.forall_mem_cons.2 ⟨?_, List.forall_mem_cons.2 ⟨?_, List.forall_mem_cons.2 ⟨?_, List.forall_mem_cons.2 ⟨?_, List.forall_mem_cons.2 ⟨?_, List.forall_mem_cons.2 ⟨?_, fun r hr => (by cases hr)⟩⟩⟩⟩⟩⟩⟩⟩⟩⟩⟩
  ·with_reducible refine Rg.es_load 0 80 [] [] [] (t := 25) (x := (.tmp 5)) (xv := (.pointer (some ⟨w.heap.size, 0, none⟩))) (v := (.agg (bvs KB))) ?_ ?_ ?_ ?_
   ·kernel_rfl
   ·kernel_rfl
   ·intro us; kernel_rfl
   ·exact fun w hb => rldK w _ _ (Rg.row_below hb RK.out HWK.out) hKl
  ·with_reducible refine Rg.es_app0 2 82 [] [] [] (t := 27) (e := 5) (inf := i0) (x := (.tmp 81)) (xv := fun _ => .slice ab S.length cb) (S) ?_ ?_ Try.underlying27 hi hz0 hz1 hz2 ?_ ?_ ?_
   ·kernel_rfl
   ·kernel_rfl
   ·intro us; kernel_rfl
   ·have := HSB.out; have := HL.out; have := HM.out; omega
   ·exact fun _ _ _ w hb _ => S3.out.below hb
  ·with_reducible refine Rg.es_call 8 88 [] [0, 2] [0, 2] [8, 8] (JOpen q) (f := 14) (xs := #[.tmp 80, .tmp 82, .tmp 87, .const (.bool true)]) (ts := #[25, 27, 28, 4]) (args := fun us => #[us 0, us 2, .int .u64 (L1 : Nat), .bool true]) ?_ (fun args w => ?_) ?_ ?_ ?_
   ·kernel_rfl
   ·kernel_rfl
   ·kernel_rfl
   ·intro us; kernel_rfl
   ·intro us lo hi w hb hdep
    have e0 : us 0 = .agg (bvs KB) := (hdep _ (List.getElem_mem (n := 0) (by simp)) (by simp)).1
    have e4 := (show w.ownsRow (lo 2) 5 1 (us 2) S.length (S.map bv) from (hdep _ (List.getElem_mem (n := 1) (by simp)) (by simp)).1.1)
    show Calls Try.prog _ #[us 0, us 2, .int .u64 (L1 : Nat), .bool true] w _
    rw [e0]
    refine (HOP.out (S) (by have := HSB.out; have := HL.out; have := HM.out; omega) L1 HLT.out w (us 2) (Own.sl e4)).mono ?_
    rw [hq]
    intro e w' h
    exact h.J
  ·with_reducible refine Rg.es_mv 9 79 [] [8] ⟨8, 88, [0, 2], [0, 2], none, [], [8, 8], (Rg.At 8 8 (JOpen q))⟩ 8 8 (JOpen q) (x := (.tmp 88)) ?_ ?_ ?_ ?_ ?_ ?_ ?_
   ·kernel_rfl
   ·exact .inl (by kernel_rfl)
   ·intro us; kernel_rfl
   ·exact (List.getElem_mem (n := 2) (by simp))
   ·rfl
   ·rfl
   ·decide
  ·with_reducible refine Rg.es_ext 10 89 [] [9] ⟨9, 79, [8], [8], none, [], [9, 8], (Rg.At 9 8 (JOpen q))⟩ 9 8 (JOpen q) (JHdr q.1) (x := (.tmp 79)) (ix := 0) ?_ ?_ ?_ ?_ ?_ ?_ ?_ JOpen.e0
   ·kernel_rfl
   ·kernel_rfl
   ·intro us; kernel_rfl
   ·exact (List.getElem_mem (n := 3) (by simp))
   ·rfl
   ·rfl
   ·decide
  ·with_reducible refine Rg.es_ext 11 90 [] [9] ⟨9, 79, [8], [8], none, [], [9, 8], (Rg.At 9 8 (JOpen q))⟩ 9 8 (JOpen q) (Rg.JA 5 q.2.1) (x := (.tmp 79)) (ix := 1) ?_ ?_ ?_ ?_ ?_ ?_ ?_ JOpen.e1
   ·kernel_rfl
   ·kernel_rfl
   ·intro us; kernel_rfl
   ·exact (List.getElem_mem (n := 3) (by simp))
   ·rfl
   ·rfl
   ·decide
  ·with_reducible refine Rg.es_ext 12 91 [] [9] ⟨9, 79, [8], [8], none, [], [9, 8], (Rg.At 9 8 (JOpen q))⟩ 9 8 (JOpen q) (Rg.JC (.int .i64 q.2.2)) (x := (.tmp 79)) (ix := 2) ?_ ?_ ?_ ?_ ?_ ?_ ?_ JOpen.e2
   ·kernel_rfl
   ·kernel_rfl
   ·intro us; kernel_rfl
   ·exact (List.getElem_mem (n := 3) (by simp))
   ·rfl
   ·rfl
   ·decide
  ·with_reducible refine Rg.es_alloc 13 14 [] [] [] (t := 30) (Z := (hvA false 0 0 (.slice none 0 0) (.slice none 0 0) (.slice none 0 0) false false 0 0)) ?_ ?_ ?_
   ·kernel_rfl
   ·kernel_rfl
   ·exact fun w => (congrArg (Sem.run Try.prog · w) (alH ..)).trans (ralH ..)
  ·with_reducible refine Rg.es_store 14 100014 [13] [0, 2, 8, 9, 10, 13] ⟨13, 14, [], [], none, [], [13, 13], (Rg.At 13 13 (Rg.JV (hvA false 0 0 (.slice none 0 0) (.slice none 0 0) (.slice none 0 0) false false 0 0)))⟩ ⟨10, 89, [9], [9], none, [], [10, 8], (Rg.At 10 8 (JHdr q.1))⟩ 13 10 8 (JHdr q.1) (fun H => H.size = 10 ∧ allOne H = true) (t := 30) (Z := (hvA false 0 0 (.slice none 0 0) (.slice none 0 0) (.slice none 0 0) false false 0 0)) (x := (.tmp 14)) (y := (.tmp 89)) ?_ ?_ ?_ ?_ ?_ ?_ ?_ ?_ ?_ ?_ ?_ ?_ ?_ JHdr.agg ?_
   ·kernel_rfl
   ·kernel_rfl
   ·kernel_rfl
   ·intro us; kernel_rfl
   ·intro us; kernel_rfl
   ·exact (List.getElem_mem (n := 7) (by simp))
   ·rfl
   ·rfl
   ·exact (List.getElem_mem (n := 4) (by simp))
   ·rfl
   ·rfl
   ·decide
   ·decide
   ·exact fun w b H h1 h2 => (congrArg (Sem.run Try.prog · w) (stH ..)).trans (rstH w b H (by rw [h1]; rfl) h2.1 h2.2)
  ·with_reducible refine Rg.es_mv 15 15 [] [0, 2, 8, 9, 10, 11, 13, 14] ⟨11, 90, [9], [9], none, [], [11, 8], (Rg.At 11 8 (Rg.JA 5 q.2.1))⟩ 11 8 (Rg.JA 5 q.2.1) (x := (.tmp 90)) ?_ ?_ ?_ ?_ ?_ ?_ ?_
   ·kernel_rfl
   ·exact .inr (by kernel_rfl)
   ·intro us; kernel_rfl
   ·exact (List.getElem_mem (n := 5) (by simp))
   ·rfl
   ·rfl
   ·decide
  ·with_reducible refine Rg.es_mv 16 16 [] [0, 2, 8, 9, 10, 11, 12, 13, 14, 15] ⟨12, 91, [9], [9], none, [], [12, 8], (Rg.At 12 8 (Rg.JC (.int .i64 q.2.2)))⟩ 12 8 (Rg.JC (.int .i64 q.2.2)) (x := (.tmp 91)) ?_ ?_ ?_ ?_ ?_ ?_ ?_
   ·kernel_rfl
   ·exact .inr (by kernel_rfl)
   ·intro us; kernel_rfl
   ·exact (List.getElem_mem (n := 6) (by simp))
   ·rfl
   ·rfl
   ·decide
 ·intro us lo hi WF hX hJ hbd hdj
  have j1 : Rg.JSt 13 10 us lo hi WF := hJ _ (List.getElem_mem (n := 8) (by simp)) (by simp)
  have j2 : JHdr q.1 (us 10) (lo 8) (hi 8) WF := hJ _ (List.getElem_mem (n := 4) (by simp)) (by simp)
  have j3 : Rg.JA 5 q.2.1 (us 15) (lo 8) (hi 8) WF := hJ _ (List.getElem_mem (n := 9) (by simp)) (by simp)
  have j4 : us 16 = .int .i64 q.2.2 := hJ _ (List.getElem_mem (n := 10) (by simp)) (by simp)
  have d1 : hi 8 ≤ lo 13 ∨ hi 13 ≤ lo 8 := hdj _ (List.getElem_mem (n := 2) (by simp)) _ (List.getElem_mem (n := 7) (by simp)) (by simp)
  have b1 : WE.heap.size ≤ lo 13 ∧ lo 13 ≤ hi 13 ∧ hi 13 ≤ WF.heap.size := hbd _ (List.getElem_mem (n := 7) (by simp))
  clear hJ hbd hdj
  simp only [Rg.puts, List.map_cons, List.map_nil]
  obtain ⟨H, e9, e12, hb12, hrow⟩ := j1
  obtain ⟨⟨pa1, pc1, pa2, pc2, pa3, pc3, e9', g1, g2, g3, -, -, -⟩⟩ := JHdr.inn (b := lo 13) j2 (by omega)
  rw [e9] at e9' ⊢
  injection e9' with e9'
  subst e9'
  obtain ⟨o4, -⟩ := j3
  have g4 := Own.sl o4
  clear o4
  have hqe : q = (⟨false, 0, 0, w8, [], [], false, false, n64 u, (m : Nat)⟩, text, 0) := hq.symm.trans (HSO.out L1 (by have := HL1.out; omega) (by have := HL1.out; have := HS.out; omega))
  subst hqe
  dsimp only at g1 g2 g3 g4 hrow j4
  rw [e12, j4]
  generalize us 15 = v4 at g4 ⊢
  obtain ⟨pa4, pc4, rfl, -, -, -⟩ := id g4
  have hgb := b1.1
  generalize lo 13 = gb at hgb hrow ⊢
  clear e12 j4 e9 j2 d1 b1 hb12 hq
  generalize us 0 = u0
  generalize us 2 = u2
  generalize us 8 = u8
  generalize us 9 = u9
  generalize us 11 = u11
  generalize us 12 = u12
  generalize us 14 = u14
  clear us lo hi
  have xk := Rg.stable_row hX RK.out
  have xr := Rg.stable_row hX RH.out
  have xb := BB.out.trans (hX.mono BB.out.size)
  clear RK RH BB
  have RK := Lib.hid xk
  have RH := Lib.hid xr
  have BB := Lib.hid xb
  clear xk xr xb
  have zz := D3.out.below hX
  clear D3
  have D3 := Lib.hid zz
  clear zz
  have zz := SX.out.below hX
  clear SX
  have SX := Lib.hid zz
  clear zz
  have zz := S3.out.below hX
  clear S3
  have S3 := Lib.hid zz
  clear zz
  have RG := Lib.hid hrow
  have GB := Lib.hid (show w.heap.size < gb ∧ hb < gb from ⟨Nat.lt_of_lt_of_le HWK.out hgb, Nat.lt_of_lt_of_le HWH.out hgb⟩)
  have G1 := Lib.hid g1
  have G2 := Lib.hid g2
  have G3 := Lib.hid g3
  have G4 := Lib.hid g4
  clear g1 g2 g3 g4 hX hgb hrow HWK HWH
  obtain ⟨L2, hL2⟩ : ∃ L2, A + 1099511627776 = L2 := ⟨_, rfl⟩
  have HLT2 := Lib.hid (show L2 < 18446744073709551616 by have := HS.out; omega)
  have eL2 : (A : Int) + 1099511627776 = (L2 : Nat) := by omega
  have fL2 : IntKind.u64.wrap ((L2 : Nat) : Int) = (L2 : Nat) := by have := HLT2.out; simp only [IntKind.wrap, IntKind.signed, IntKind.bits]; simp; omega
  have HL2 := Lib.hid hL2
  clear hL2
  have lk : (loadAgg 25 (.pointer (some ⟨w.heap.size, 0, none⟩))).run Try.prog WF = .ok (.agg (bvs KB)) WF := rldK WF _ _ RK.out hKl
  go_wp2_with (first
   |(with_reducible refine Rg.plan_pure ?_ ?_ ?_); kernel_rfl; kernel_rfl; intro _ _|(with_reducible refine Rg.plan_take ?_ ?_ ?_); kernel_rfl; kernel_rfl; intro _ _|(with_reducible refine Rg.plan_keep ?_ ?_); kernel_rfl; intro K hK|refine hK _ _ (Rg.Keep.refl _) ?_; clear hK|refine hK _ _ (Rg.Keep.of_below (by assumption)) ?_; clear hK|(with_reducible refine Rg.plan_skip ?_ ?_); kernel_rfl|(with_reducible refine Rg.plan_done ?_)|(with_reducible refine Rg.calm_normal ?_))
  clear eL2 fL2
  obtain ⟨⟨hh, T, oe⟩, hx⟩ : ∃ r, OV S L2 true = r := ⟨_, rfl⟩
  have hop := HOP.out S (by have := HSB.out; have := HL.out; have := HM.out; omega) L2 HLT2.out WF _ S3.out
  clear lk
  rw [hx] at hop
  refine hop.mono ?_
  clear hop
  rintro e WG ⟨v1, v2, v3, v4, he, o1, o2, o3, o4, hX⟩
  simp only [] at he o1 o2 o3 o4
  subst he
  obtain ⟨ra, rb, rfl, -, -, -⟩ := id (Own.sl o1)
  obtain ⟨rc, rd_, rfl, -, -, -⟩ := id (Own.sl o2)
  obtain ⟨re, rf, rfl, -, -, -⟩ := id (Own.sl o3)
  obtain ⟨rg, rh, rfl, -, -, -⟩ := id (Own.sl o4)
  clear o1 o2 o3 o4
  have xk := Rg.stable_row hX RK.out
  have xr := Rg.stable_row hX RH.out
  have xb := BB.out.trans (hX.mono BB.out.size)
  clear RK RH BB
  have RK := Lib.hid xk
  have RH := Lib.hid xr
  have BB := Lib.hid xb
  clear xk xr xb
  have zz := D3.out.below hX
  clear D3
  have D3 := Lib.hid zz
  clear zz
  have zz := SX.out.below hX
  clear SX
  have SX := Lib.hid zz
  clear zz
  have zz := S3.out.below hX
  clear S3
  have S3 := Lib.hid zz
  clear zz
  have zz := G1.out.below hX
  clear G1
  have G1 := Lib.hid zz
  clear zz
  have zz := G2.out.below hX
  clear G2
  have G2 := Lib.hid zz
  clear zz
  have zz := G3.out.below hX
  clear G3
  have G3 := Lib.hid zz
  clear zz
  have zz := G4.out.below hX
  clear G4
  have G4 := Lib.hid zz
  clear zz
  have zz := Rg.stable_row hX RG.out
  clear RG
  have RG := Lib.hid zz
  clear zz
  clear hX
  have k5 : Below WG.heap.size WG (WG.alloc (.cells (hvA hh.long hh.kind hh.ver (.slice ra hh.dst.length rb) (.slice rc hh.src.length rd_) (.slice re hh.tok.length rf) hh.spin hh.phase hh.num hh.nl) 30)) := (Below.refl _ _).alloc (Nat.le_refl _) _
  have lk : (loadAgg 25 (.pointer (some ⟨w.heap.size, 0, none⟩))).run Try.prog (WG.alloc (.cells (hvA hh.long hh.kind hh.ver (.slice ra hh.dst.length rb) (.slice rc hh.src.length rd_) (.slice re hh.tok.length rf) hh.spin hh.phase hh.num hh.nl) 30)) = .ok (.agg (bvs KB)) (WG.alloc (.cells (hvA hh.long hh.kind hh.ver (.slice ra hh.dst.length rb) (.slice rc hh.src.length rd_) (.slice re hh.tok.length rf) hh.spin hh.phase hh.num hh.nl) 30)) := rldK _ _ _ (Rg.stable_row k5 RK.out) hKl
  have eL2 : (A : Int) + 1099511627776 = (L2 : Nat) := by have := HL2.out; omega
  have fL2 : IntKind.u64.wrap ((L2 : Nat) : Int) = (L2 : Nat) := by have := HLT2.out; simp only [IntKind.wrap, IntKind.signed, IntKind.bits]; simp; omega
  go_wp2_with fail
  generalize (WG.alloc (.cells (hvA hh.long hh.kind hh.ver (.slice ra hh.dst.length rb) (.slice rc hh.src.length rd_) (.slice re hh.tok.length rf) hh.spin hh.phase hh.num hh.nl) 30)) = WI at k5 lk ⊢
  have xk := Rg.stable_row k5 RK.out
  have xr := Rg.stable_row k5 RH.out
  have xb := BB.out.trans (k5.mono BB.out.size)
  clear RK RH BB
  have RK := Lib.hid xk
  have RH := Lib.hid xr
  have BB := Lib.hid xb
  clear xk xr xb
  have zz := D3.out.below k5
  clear D3
  have D3 := Lib.hid zz
  clear zz
  have zz := SX.out.below k5
  clear SX
  have SX := Lib.hid zz
  clear zz
  have zz := S3.out.below k5
  clear S3
  have S3 := Lib.hid zz
  clear zz
  have zz := G1.out.below k5
  clear G1
  have G1 := Lib.hid zz
  clear zz
  have zz := G2.out.below k5
  clear G2
  have G2 := Lib.hid zz
  clear zz
  have zz := G3.out.below k5
  clear G3
  have G3 := Lib.hid zz
  clear zz
  have zz := G4.out.below k5
  clear G4
  have G4 := Lib.hid zz
  clear zz
  have zz := Rg.stable_row k5 RG.out
  clear RG
  have RG := Lib.hid zz
  clear zz
  clear k5 lk
  refine (HKY.out _).mono ?_
  rintro e wk ⟨rfl, hX⟩
  have xk := Rg.stable_row hX RK.out
  have xr := Rg.stable_row hX RH.out
  have xb := BB.out.trans (hX.mono BB.out.size)
  clear RK RH BB
  have RK := Lib.hid xk
  have RH := Lib.hid xr
  have BB := Lib.hid xb
  clear xk xr xb
  have zz := D3.out.below hX
  clear D3
  have D3 := Lib.hid zz
  clear zz
  have zz := SX.out.below hX
  clear SX
  have SX := Lib.hid zz
  clear zz
  have zz := S3.out.below hX
  clear S3
  have S3 := Lib.hid zz
  clear zz
  have zz := G1.out.below hX
  clear G1
  have G1 := Lib.hid zz
  clear zz
  have zz := G2.out.below hX
  clear G2
  have G2 := Lib.hid zz
  clear zz
  have zz := G3.out.below hX
  clear G3
  have G3 := Lib.hid zz
  clear zz
  have zz := G4.out.below hX
  clear G4
  have G4 := Lib.hid zz
  clear zz
  have zz := Rg.stable_row hX RG.out
  clear RG
  have RG := Lib.hid zz
  clear zz
  clear hX
  go_wp2_with fail
  have hrop := HRO.out S (by have := HSB.out; have := HL.out; have := HM.out; omega) L2 HLT2.out wk _ S3.out
  rw [hx] at hrop
  refine hrop.mono ?_
  clear hrop
  rintro e WJ ⟨v1, v2, v3, v4, he, o1, o2, o3, o4, hX⟩
  simp only [] at he o1 o2 o3 o4
  subst he
  obtain ⟨ra, rb, rfl, -, -, -⟩ := id (Own.sl o1)
  obtain ⟨rc, rd_, rfl, -, -, -⟩ := id (Own.sl o2)
  obtain ⟨re, rf, rfl, -, -, -⟩ := id (Own.sl o3)
  obtain ⟨rg, rh, rfl, -, -, -⟩ := id (Own.sl o4)
  clear o1 o2 o3 o4
  have xk := Rg.stable_row hX RK.out
  have xr := Rg.stable_row hX RH.out
  have xb := BB.out.trans (hX.mono BB.out.size)
  clear RK RH BB
  have RK := Lib.hid xk
  have RH := Lib.hid xr
  have BB := Lib.hid xb
  clear xk xr xb
  have zz := D3.out.below hX
  clear D3
  have D3 := Lib.hid zz
  clear zz
  have zz := SX.out.below hX
  clear SX
  have SX := Lib.hid zz
  clear zz
  have zz := S3.out.below hX
  clear S3
  have S3 := Lib.hid zz
  clear zz
  have zz := G1.out.below hX
  clear G1
  have G1 := Lib.hid zz
  clear zz
  have zz := G2.out.below hX
  clear G2
  have G2 := Lib.hid zz
  clear zz
  have zz := G3.out.below hX
  clear G3
  have G3 := Lib.hid zz
  clear zz
  have zz := G4.out.below hX
  clear G4
  have G4 := Lib.hid zz
  clear zz
  have zz := Rg.stable_row hX RG.out
  clear RG
  have RG := Lib.hid zz
  clear zz
  clear hX
  go_wp2_with (with_reducible refine Rw.hold_ops 111 ?_)
  refine Rw.Held.mk ?_
  have k5 : Below WJ.heap.size WJ (WJ.alloc (.cells (hvA hh.long hh.kind hh.ver (.slice ra hh.dst.length rb) (.slice rc hh.src.length rd_) (.slice re hh.tok.length rf) hh.spin hh.phase hh.num hh.nl) 30)) := (Below.refl _ _).alloc (Nat.le_refl _) _
  generalize (WJ.alloc (.cells (hvA hh.long hh.kind hh.ver (.slice ra hh.dst.length rb) (.slice rc hh.src.length rd_) (.slice re hh.tok.length rf) hh.spin hh.phase hh.num hh.nl) 30)) = WZ at k5 ⊢
  have xk := Rg.stable_row k5 RK.out
  have xr := Rg.stable_row k5 RH.out
  have xb := BB.out.trans (k5.mono BB.out.size)
  clear RK RH BB
  have RK := Lib.hid xk
  have RH := Lib.hid xr
  have BB := Lib.hid xb
  clear xk xr xb
  have zz := D3.out.below k5
  clear D3
  have D3 := Lib.hid zz
  clear zz
  have zz := SX.out.below k5
  clear SX
  have SX := Lib.hid zz
  clear zz
  have zz := S3.out.below k5
  clear S3
  have S3 := Lib.hid zz
  clear zz
  have zz := G1.out.below k5
  clear G1
  have G1 := Lib.hid zz
  clear zz
  have zz := G2.out.below k5
  clear G2
  have G2 := Lib.hid zz
  clear zz
  have zz := G3.out.below k5
  clear G3
  have G3 := Lib.hid zz
  clear zz
  have zz := G4.out.below k5
  clear G4
  have G4 := Lib.hid zz
  clear zz
  have zz := Rg.stable_row k5 RG.out
  clear RG
  have RG := Lib.hid zz
  clear zz
  clear k5 eL2 fL2
  have c8 : WZ.cell? ⟨gb, 8, none⟩ = some (.int .u64 (n64 u : Nat)) := row?_cell RG.out 8
  have c8h : WZ.cell? ⟨hb, 8, none⟩ = some (.int .u64 (n64 u : Nat)) := row?_cell RH.out 8
  go_wp2_with fail
  have hsb := same_any text text (by have := HL.out; omega) _ _ WZ G4.out SX.out
  rw [decide_eq_true rfl] at hsb
  refine hsb.mono ?_
  clear hsb c8 c8h
  rintro e wP ⟨rfl, hX⟩
  have xk := Rg.stable_row hX RK.out
  have xr := Rg.stable_row hX RH.out
  have xb := BB.out.trans (hX.mono BB.out.size)
  clear RK RH BB
  have RK := Lib.hid xk
  have RH := Lib.hid xr
  have BB := Lib.hid xb
  clear xk xr xb
  have zz := D3.out.below hX
  clear D3
  have D3 := Lib.hid zz
  clear zz
  have zz := SX.out.below hX
  clear SX
  have SX := Lib.hid zz
  clear zz
  have zz := S3.out.below hX
  clear S3
  have S3 := Lib.hid zz
  clear zz
  have zz := G1.out.below hX
  clear G1
  have G1 := Lib.hid zz
  clear zz
  have zz := G2.out.below hX
  clear G2
  have G2 := Lib.hid zz
  clear zz
  have zz := G3.out.below hX
  clear G3
  have G3 := Lib.hid zz
  clear zz
  have zz := G4.out.below hX
  clear G4
  have G4 := Lib.hid zz
  clear zz
  have zz := Rg.stable_row hX RG.out
  clear RG
  have RG := Lib.hid zz
  clear zz
  clear hX
  have c3 : wP.cell? ⟨gb, 3, none⟩ = some (.slice pa1 w8.length pc1) := row?_cell RG.out 3
  have c3h : wP.cell? ⟨hb, 3, none⟩ = some (.slice (some ⟨db, 0, none⟩) 8 8) := row?_cell RH.out 3
  go_wp2_with fail
  have hsb := same_any w8 w8 (by decide) _ _ wP G1.out D3.out
  rw [decide_eq_true rfl] at hsb
  refine hsb.mono ?_
  clear hsb c3 c3h
  rintro e wQ ⟨rfl, hX⟩
  have xb := BB.out.trans (hX.mono BB.out.size)
  go_wp2_with fail
  refine (awake_any _).mono ?_
  rintro e wI ⟨rfl, hk⟩
  go_wp2_with fail
  go_ret
  exact ⟨rfl, xb.trans (hk.mono xb.size)⟩
end Go.Proofs.Ytjlpppnpdgenfaa
