/- What every program answers that is one (chapter 16): the walk of awake. -/
import Derived.Test.YtjlpppnpdgenfaaMva22
import Derived.Test.YtjlpppnpdgenfaaMvaVltT
import Derived.Test.YtjlpppnpdgenfaaMvaVltO
import Derived.Test.YtjlpppnpdgenfaaMvaVltSe
import Derived.Test.YtjlpppnpdgenfaaMva17
namespace Vlt
open Go Go.Rw Aes Hdr Gcm
def k0 : List UInt8 := zeros 16
def k1 : List UInt8 := [1, 0, 0, 0, 0, 0, 0, 0, 0, 0, 0, 0, 0, 0, 0, 0]
def i0 : List UInt8 := zeros 12
def d0 : List UInt8 := zeros 8
def H0 : List UInt8 := headB false 0 0 d0 [] [] true false 7 4 16
def B0 : List UInt8 := packB k0 i0 k0 H0 [] 7 4
theorem H0_len : H0.length = 13 := by decide
theorem B0_len : B0.length = 29 := by rw [B0, packB_length, H0_len]; rfl
theorem aw_seal : sealR k0 i0 k0 false 0 0 d0 [] [] true false 7 4 [] = (B0, 0) := by
  have := sealR_ok (key := k0) (iv := i0) (msk := k0) (lg := false) (kind := 0) (ver := 0) (dst := d0) (src := []) (tok := []) (sp := true) (ph := false) (u := 7) (n := 4) (text := []) (by decide) (by decide) (by decide)
  exact this
def aH : Hd := ⟨false, 0, 0, d0, [], [], true, false, 7, 4⟩
theorem aw_get (z : List UInt8) (hz : z.length = 16) : get (H0 ++ (z ++ [])) = (aH, H0.length, 0 + 16, 0) := by
  have h : H0 = [first true false 4] ++ d0 ++ be 7 4 := by unfold H0 headB; rw [if_neg (by decide)]
  rw [List.append_nil, H0_len, h, get_shortB true false d0 z 7 4 (by decide) (by decide) (by decide), hz]
  rfl
theorem aw_open : openV k0 i0 k0 B0 0 false = (aH, [], 0) := by
  have h := open_pack (key := k0) (iv := i0) (msk := k0) (H := H0) (z := []) (text := []) (u := 7) (hd := aH) (nl := 4) (largest := 0) (any := false) (by rw [H0_len]; simp) (aw_get _ (by rw [sealed_length]; rfl)) (fun _ => rfl) rfl (by decide) (by decide) (by decide) (by decide)
  rw [List.append_nil] at h
  exact h
theorem aw_bad : (opened k1 (nonce i0 7) (sealed k0 (nonce i0 7) [] H0) H0).1 = 7 := by decide +kernel
theorem aw_open1 : openV k1 i0 k0 B0 0 false = (hd0, [], 7) := by
  have h := open_pack0 (key := k1) (iv := i0) (msk := k0) (H := H0) (z := []) (C := sealed k0 (nonce i0 7) [] H0) (tl := 0) (hd := aH) (nl := 4) (largest := 0) (any := false) (by rw [H0_len]; simp) (by rw [sealed_length]; rfl) (aw_get _ (by rw [sealed_length]; rfl)) (fun _ => rfl) rfl (by decide) (by decide) (by decide)
  rw [List.append_nil] at h
  rw [B0, packB, h, openN_split]
  have hf : full aH.num ((4 : Nat) : Int) 0 false = 7 := by decide
  rw [hf]
  have hu : UInt64.ofNat 7 = 7 := by decide
  simp only [hu, aw_bad]
  rfl
end Vlt
namespace Go.Proofs.Ytjlpppnpdgenfaa
open Go.RowKit Go.Rw Aes Hdr Vlt
theorem buildAV (ao : Option Addr) (m cap : Nat) (w : World) : (buildP 30 #[(3, .slice ao m cap), (9, .int .i64 4), (8, .int .u64 7), (6, .bool true)]).run Try.prog w = .ok (.agg (hvA false 0 0 (.slice ao m cap) (.slice none 0 0) (.slice none 0 0) true false 7 4)) w := Go.run_build w _ _ _ (by kernel_rfl)
theorem bdK (ps : Array (Nat × Value)) : Instr.build 25 ps = buildP 25 ps := rfl
theorem bd16 (ps : Array (Nat × Value)) : Instr.build 22 ps = buildP 22 ps := rfl
theorem buildK0 (w : World) : (buildP 25 #[]).run Try.prog w = .ok (.agg (bvs (ksB k0 i0 k0))) w := Go.run_build w _ _ _ (by kernel_rfl)
theorem build16 (w : World) : (buildP 22 #[(0, .int .u8 1)]).run Try.prog w = .ok (.agg (bvs k1)) w := Go.run_build w _ _ _ (by kernel_rfl)
theorem buildK1 (w : World) : (buildP 25 #[(0, .agg (bvs k1))]).run Try.prog w = .ok (.agg (bvs (ksB k1 i0 k0))) w := Go.run_build w _ _ _ (by kernel_rfl)
attribute [local go_sem ↓] ldH stH alH bdH bdK bd16 hvA_0 hvA_1 hvA_2 hvA_3 hvA_4 hvA_5 hvA_6 hvA_7 hvA_8 hvA_9
attribute [local go_sem] rldH rstH ralH setRow_alloc_at setRow_alloc_past setRow_drew buildAV buildH0 buildK0 build16 buildK1
set_option maxRecDepth 100000 in
set_option maxHeartbeats 4000000 in
theorem awake_any (w : World) : Calls Try.prog 10 #[] w fun e w' => e = .returned (.bool true) ∧ Below w.heap.size w w' := by
  obtain ⟨ti0, hi, hz0, hz1, hz2⟩ := info_parts info8
  go_enter Try.func10, Try.ntmps10
  go_wp2_with (at_make; refine wpList_make_full _ rfl _ _ 27 rfl w.heap.size 5 ti0 (.int .u8 0) 1 Try.underlying27 hi hz0 hz1 _ _ _ _ 8 rfl rfl rfl rfl ?b1 ?b2 ?b3 ?_)
  case b1 => rw [hz2]; omega
  case b2 => decide
  case b3 => exact Nat.le_refl _
  intro w1 hown1 hgrow1
  rw [zeros_made] at hown1
  have b1 : Below w.heap.size w w1 := (Below.refl _ _).grown hgrow1 (Nat.le_refl _) (by intro k hk; cases hk)
  have s1 : Sl w1 (.slice (some ⟨w.heap.size, 0, none⟩) 8 8) d0 := Own.sl (l := d0) (by simpa [d0, zeros, List.replicate] using hown1)
  clear hgrow1 hown1
  have hz1' := b1.size
  have S1 := Lib.hid s1
  clear s1
  go_wp2_with fail
  have a1 : row? (w1.alloc (.cells (hvA false 0 0 (.slice (some ⟨w.heap.size, 0, none⟩) 8 8) (.slice none 0 0) (.slice none 0 0) true false 7 4) 30)) w1.heap.size = some (hvA false 0 0 (.slice (some ⟨w.heap.size, 0, none⟩) 8 8) (.slice none 0 0) (.slice none 0 0) true false 7 4) := row?_alloc_at _ _ _ _ rfl
  have a4 : Below w.heap.size w (w1.alloc (.cells (hvA false 0 0 (.slice (some ⟨w.heap.size, 0, none⟩) 8 8) (.slice none 0 0) (.slice none 0 0) true false 7 4) 30)) := b1.alloc hz1' _
  have as1 : Sl (w1.alloc (.cells (hvA false 0 0 (.slice (some ⟨w.heap.size, 0, none⟩) 8 8) (.slice none 0 0) (.slice none 0 0) true false 7 4) 30)) (.slice (some ⟨w.heap.size, 0, none⟩) 8 8) d0 := S1.out.below ((Below.refl _ _).alloc (Nat.le_refl _) _)
  have hse := vseal_any k0 Vlt.i0 k0 rfl rfl rfl false 0 0 d0 [] [] true false 7 4 [] (by decide) (by simp) _ _ _ _ _ as1 (Sl.nil _) (Sl.nil _) (Sl.nil _)
  rw [aw_seal] at hse
  have HSE := Lib.hid hse
  have zA : (w1.alloc (.cells (hvA false 0 0 (.slice (some ⟨w.heap.size, 0, none⟩) 8 8) (.slice none 0 0) (.slice none 0 0) true false 7 4) 30)).heap.size = w1.heap.size + 1 := by simp
  generalize (w1.alloc (.cells (hvA false 0 0 (.slice (some ⟨w.heap.size, 0, none⟩) 8 8) (.slice none 0 0) (.slice none 0 0) true false 7 4) 30)) = W2 at a1 a4 as1 zA HSE ⊢
  clear S1 hse
  refine HSE.out.mono ?_
  rintro e w3 ⟨vb, rfl, ob, h3⟩
  have z3 := h3.size
  obtain ⟨abp, cb, rfl, -, -, -⟩ := id (Own.sl ob)
  have SB := Lib.hid (Own.sl ob)
  have AS := Lib.hid (as1.below h3)
  have RH := Lib.hid (Rg.stable_row h3 a1)
  have B3 := Lib.hid (a4.trans (h3.mono (by omega)))
  have e29 : (B0, (0 : Int)).1.length = 29 := B0_len
  rw [e29]
  clear HSE a1 a4 as1 ob h3
  go_wp2_with fail
  have ho := vopen_any k0 Vlt.i0 k0 rfl rfl rfl B0 (by rw [B0_len]; simp) 0 (by simp) false _ _ SB.out
  rw [aw_open, e29] at ho
  have HO := Lib.hid ho
  clear ho
  refine HO.out.mono ?_
  rintro e w4 ⟨vd, vs, vt, vx, rfl, od, os, ot, ox, h4⟩
  have z4 := h4.size
  obtain ⟨av, cv, rfl, -, -, -⟩ := id (Own.sl od)
  obtain ⟨as_, cs, rfl, -, -, -⟩ := id (Own.sl os)
  obtain ⟨at_, ct, rfl, -, -, -⟩ := id (Own.sl ot)
  obtain ⟨ax, cx, rfl, -, -, -⟩ := id (Own.sl ox)
  simp only [aH] at od os ot ⊢
  have hd8 : d0.length = 8 := by decide
  simp only [hd8, List.length_nil] at od os ot ox ⊢
  go_wp2_with fail
  have r4 : row? (w4.alloc (.cells (hvA false 0 0 (.slice av 8 cv) (.slice as_ 0 cs) (.slice at_ 0 ct) true false 7 4) 30)) w4.heap.size = some (hvA false 0 0 (.slice av 8 cv) (.slice as_ 0 cs) (.slice at_ 0 ct) true false 7 4) := row?_alloc_at _ _ _ _ rfl
  have k4 : Below w4.heap.size w4 (w4.alloc (.cells (hvA false 0 0 (.slice av 8 cv) (.slice as_ 0 cs) (.slice at_ 0 ct) true false 7 4) 30)) := (Below.refl _ _).alloc (Nat.le_refl _) _
  have hz4 : (w4.alloc (.cells (hvA false 0 0 (.slice av 8 cv) (.slice as_ 0 cs) (.slice at_ 0 ct) true false 7 4) 30)).heap.size = w4.heap.size + 1 := by simp
  generalize (w4.alloc (.cells (hvA false 0 0 (.slice av 8 cv) (.slice as_ 0 cs) (.slice at_ 0 ct) true false 7 4) 30)) = W4 at r4 k4 hz4 ⊢
  have k34 : Below w3.heap.size w3 W4 := h4.trans (k4.mono z4)
  have ho := vopen_any k1 Vlt.i0 k0 rfl rfl rfl B0 (by rw [B0_len]; simp) 0 (by simp) false _ _ (SB.out.below k34)
  have e29' : B0.length = 29 := B0_len
  rw [aw_open1] at ho
  simp only [e29'] at ho
  have HO2 := Lib.hid ho
  have RG := Lib.hid r4
  have SG1 := Lib.hid ((Own.sl (l := d0) od).below k4)
  have SG2 := Lib.hid ((Own.sl (l := []) os).below k4)
  have SG3 := Lib.hid ((Own.sl (l := []) ot).below k4)
  have RH4 := Lib.hid (Rg.stable_row k34 RH.out)
  have AS4 := Lib.hid (AS.out.below k34)
  have B4 := Lib.hid (B3.out.trans (k34.mono B3.out.size))
  clear ho HO r4 k4 k34 od os ot ox h4
  refine HO2.out.mono ?_
  rintro e w5 ⟨vd5, vs5, vt5, vx5, rfl, od, os, ot, ox, h5⟩
  have z5 := h5.size
  obtain ⟨a5, c5, rfl, -, -, -⟩ := id (Own.sl od)
  obtain ⟨a6, c6, rfl, -, -, -⟩ := id (Own.sl os)
  obtain ⟨a7, c7, rfl, -, -, -⟩ := id (Own.sl ot)
  obtain ⟨a8, c8, rfl, -, -, -⟩ := id (Own.sl ox)
  simp only [hd0, List.length_nil] at od os ot ox ⊢
  go_wp2_with fail
  have hs3 : Sl ((w5.alloc (.cells (hvA false 0 0 (.slice a5 0 c5) (.slice a6 0 c6) (.slice a7 0 c7) false false 0 0) 30)).alloc (.cells #[.int .u8 1, .int .u8 2, .int .u8 3] 5)) (.slice (some ⟨w5.heap.size + 1, 0, none⟩) 3 3) [1, 2, 3] := Sl.row (l := [1, 2, 3]) (row?_alloc_at _ _ _ _ (by simp))
  have k5 : Below w5.heap.size w5 ((w5.alloc (.cells (hvA false 0 0 (.slice a5 0 c5) (.slice a6 0 c6) (.slice a7 0 c7) false false 0 0) 30)).alloc (.cells #[.int .u8 1, .int .u8 2, .int .u8 3] 5)) := bel2 w5 _ _
  generalize ((w5.alloc (.cells (hvA false 0 0 (.slice a5 0 c5) (.slice a6 0 c6) (.slice a7 0 c7) false false 0 0) 30)).alloc (.cells #[.int .u8 1, .int .u8 2, .int .u8 3] 5)) = W5 at hs3 k5 ⊢
  have k45 : Below W4.heap.size W4 W5 := h5.trans (k5.mono z5)
  have RG5 := Lib.hid (Rg.stable_row k45 RG.out)
  have T1 := Lib.hid (SG1.out.below k45)
  have T2 := Lib.hid (SG2.out.below k45)
  have T3 := Lib.hid (SG3.out.below k45)
  have RH5 := Lib.hid (Rg.stable_row k45 RH4.out)
  have AS5 := Lib.hid (AS4.out.below k45)
  have B5 := Lib.hid (B4.out.trans (k45.mono B4.out.size))
  have z45 := k45.size
  clear k5 k45 od os ot ox h5 HO2 RG SG1 SG2 SG3 RH4 AS4 B4 RH AS B3 SB
  refine (newtable_any [1, 2, 3] (by simp) _ _ hs3).mono ?_
  rintro e w6 ⟨BT, vo, vm, rfl, hBT, rt, oo, hvo, h6⟩
  have z6 := h6.size
  have s6 := Own.sl oo
  have hseal1 := tseal_any BT 2 (by decide) [1, 2, 3] (by simp) vo vm 0 (by decide) w6 rt s6 (fun b off n cap e h0 => by have := hvo b (by rw [e]; rfl); omega)
  have HS1 := Lib.hid hseal1
  have B6 := Lib.hid h6
  have HVO := Lib.hid hvo
  have hbt6 := row?_lt rt
  clear hseal1 h6 hvo rt oo s6 hs3
  go_wp2_with fail
  refine HS1.out.mono ?_
  rintro e w7 ⟨v1, vo1, rfl, o7, rt7, s7, hvo7, m7⟩
  have z7 := m7.size
  obtain ⟨b1', e1', rfl, -, -, -⟩ := id (Own.sl (l := [1, 2]) o7)
  have hseal2 := tseal_any BT 2 (by decide) [3] (by simp) vo1 vm 1 (by decide) w7 rt7 s7 (fun b off n cap e h0 => by
    obtain ⟨off', n', cap', e', h0'⟩ := hvo7 b off n cap e h0
    have := HVO.out b (by rw [e']; rfl); omega)
  have HS2 := Lib.hid hseal2
  have V1 := Lib.hid (Own.sl (l := [1, 2]) o7)
  have hlt7 := Own.lt o7
  have HL7 := Lib.hid hlt7
  have B7 := Lib.hid (B6.out.trans (m7.below (by omega) z6))
  clear hseal2 o7 rt7 s7 hvo7 m7 hlt7 HS1 B6
  go_wp2_with fail
  refine HS2.out.mono ?_
  rintro e w8 ⟨v2, vo2, rfl, o8, rt8, s8, hvo8, m8⟩
  have z8 := m8.size
  obtain ⟨b2', e2', rfl, -, -, -⟩ := id (Own.sl (l := [3, 0]) o8)
  have B8 := B7.out.trans (m8.below (by omega) B7.out.size)
  have V18 := Lib.hid (m8.sl V1.out (fun b off n cap e h0 => by have := (HL7.out b off n cap e).1; omega))
  have V28 := Lib.hid (Own.sl (l := [3, 0]) o8)
  have hleft := tleft_any BT [] vo2 vm 2 w8 rt8 s8
  have rg := Rg.stable_row B8 RG5.out
  have rh := Rg.stable_row B8 RH5.out
  have RG8 := Lib.hid rg
  have BB := Lib.hid (B5.out.trans (B8.mono B5.out.size))
  have hsame := sameHeader_eq false 0 0 true false 7 4 d0 [] [] (by decide) (by simp) (by simp) _ _ _ _ _ _ w8 (T1.out.below B8) (AS5.out.below B8) (T2.out.below B8) (Sl.nil _) (T3.out.below B8) (Sl.nil _)
  have HSM := Lib.hid hsame
  have RT8 := Lib.hid (And.intro rt8 s8)
  clear hleft hsame o8 rt8 s8 hvo8 m8 B8 V1 HL7 B7 HS2
  go_wp2_with fail
  refine HSM.out.mono ?_
  rintro e w9 ⟨rfl, h9⟩
  have z9 := h9.size
  go_wp2_with fail
  have q1 : Below w9.heap.size w9 (w9.alloc (.cells #[.int .u8 1, .int .u8 2] 5)) := (Below.refl _ _).alloc (Nat.le_refl _) _
  have hsb1 := same_any [1, 2] [1, 2] (by simp) _ _ _ ((V18.out.below h9).below q1) (Sl.row (l := [1, 2]) (row?_alloc_at w9 #[.int .u8 1, .int .u8 2] 5 _ rfl))
  refine hsb1.mono ?_
  rintro e w10 ⟨rfl, h10⟩
  have z10 := h10.size
  simp at z10
  have k10 := h9.trans ((q1.mono z9).trans (h10.mono (by simp; omega)))
  clear hsb1
  go_wp2_with fail
  have q2 : Below w10.heap.size w10 (w10.alloc (.cells #[.int .u8 3, .int .u8 0] 5)) := (Below.refl _ _).alloc (Nat.le_refl _) _
  have hsb2 := same_any [3, 0] [3, 0] (by simp) _ _ _ ((V28.out.below k10).below q2) (Sl.row (l := [3, 0]) (row?_alloc_at w10 #[.int .u8 3, .int .u8 0] 5 _ rfl))
  refine hsb2.mono ?_
  rintro e w11 ⟨rfl, h11⟩
  have z11 := h11.size
  simp at z11
  have k11 := k10.trans ((q2.mono (by omega)).trans (h11.mono (by simp; omega)))
  clear hsb2 q1 q2 h9 h10 h11
  go_wp2_with fail
  refine (tleft_any BT [] vo2 vm 2 w11 (Rg.stable_row k11 RT8.out.1) (RT8.out.2.below k11)).mono ?_
  rintro e w12 ⟨rfl, rfl⟩
  go_wp2_with fail
  go_ret
  exact ⟨rfl, BB.out.trans (k11.mono BB.out.size)⟩
end Go.Proofs.Ytjlpppnpdgenfaa
