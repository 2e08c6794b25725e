/- The walk of vault.Seal. -/
import Derived.Test.YtjlpppnpdgenfaaMva22
import Derived.Test.YtjlpppnpdgenfaaMvaLibF
namespace Go.Proofs.Ytjlpppnpdgenfaa
open Go.RowKit Go.Rw Aes Hdr Vlt
attribute [local go_sem ↓] hvA_0 hvA_1 hvA_2 hvA_3 hvA_4 hvA_5 hvA_6 hvA_7 hvA_8 hvA_9
attribute [local go_sem ↓] ldH stH alH ld16 st16 al16 ld12 shift_shr8 bvs_getElem?
attribute [local go_sem] rldH rstH ralH setRow_alloc_at setRow_alloc_past setRow_drew bvs_setn
theorem AgK : Agg Try.prog 25 44 := ⟨⟨_, Try.underlying25, rfl⟩, by kernel_rfl⟩
theorem ldK (x : Value) : Instr.loadAt 25 x = loadAgg 25 x := rfl
theorem rldK (w : World) (b : Nat) (K : List UInt8) (h : row? w b = some (bvs K)) (hl : K.length = 44) : (loadAgg 25 (.pointer (some ⟨b, 0, none⟩))).run Try.prog w = .ok (.agg (bvs K)) w := by
  rw [load_rule AgK w b (by rw [h]; simp [bvs_size, hl]), h]; rfl
attribute [local go_sem ↓] ldK
set_option maxRecDepth 100000 in
set_option maxHeartbeats 4000000 in
theorem vseal_any (key iv msk : List UInt8) (hk : key.length = 16) (hiv : iv.length = 12) (hmk : msk.length = 16) (lg : Bool) (kind : Int) (ver : Nat) (dst src tok : List UInt8) (sp ph : Bool) (u : UInt64) (nl : Int) (text : List UInt8) (hver : ver < 4294967296) (htl : text.length ≤ 1000000) (vd vs vt vx : Value) (w : World) (hsd : Sl w vd dst) (hss : Sl w vs src) (hst : Sl w vt tok) (hsx : Sl w vx text) :
    Calls Try.prog 11 #[.agg (bvs (ksB key iv msk)), .agg (hvA lg kind ver vd vs vt sp ph (n64 u) nl), vx] w fun e w' =>
      ∃ v, e = .returned (.tuple #[v, .int .i64 (sealR key iv msk lg kind ver dst src tok sp ph u nl text).2]) ∧ w'.ownsRow w.heap.size 5 1 v (sealR key iv msk lg kind ver dst src tok sp ph u nl text).1.length ((sealR key iv msk lg kind ver dst src tok sp ph u nl text).1.map bv) ∧ Below w.heap.size w w' := by
  obtain ⟨i0, hi, hz0, hz1, hz2⟩ := info_parts info8
  obtain ⟨ad, cd, rfl, -, -, -⟩ := id hsd
  obtain ⟨as_, cs, rfl, -, -, -⟩ := id hss
  obtain ⟨at_, ct, rfl, -, -, -⟩ := id hst
  obtain ⟨ax, cx, rfl, -, -, -⟩ := id hsx
  have hKl := ksB_length hk hiv hmk
  have hKk := ksB_key (iv := iv) (msk := msk) hk
  have hKi := ksB_iv (msk := msk) hk hiv
  have HSD := Lib.hid hsd
  have HSS := Lib.hid hss
  have HST := Lib.hid hst
  have HSX := Lib.hid hsx
  obtain ⟨R, hR⟩ : ∃ R, sealR key iv msk lg kind ver dst src tok sp ph u nl text = R := ⟨_, rfl⟩
  rw [hR]
  cases hm : mayN lg kind ver dst.length src.length tok.length sp ph (n64 u) nl with
  | false =>
    rw [sealR_no hm] at hR
    have HRR := Lib.hid hR
    clear hR hsd hss hst hsx
    generalize ksB key iv msk = K at *
    go_enter Try.func11, Try.ntmps11
    go_wp2_with fail
    refine (may_any lg kind ver ad as_ at_ dst.length src.length tok.length cd cs ct sp ph (n64 u) nl _).mono ?_
    rintro e w1 ⟨rfl, hb1⟩
    rw [hm]
    have hbw : Below w.heap.size w w1 := (bel2 w _ _).trans (hb1.mono (by simp; omega))
    clear hb1 hm
    go_wp2_with fail
    go_ret2
    rw [← HRR.out]
    exact ⟨_, rfl, World.ownsRow_nil _ _ _ _, hbw⟩
  | true =>
    obtain ⟨f1, f2, f3, f4, f5, f6, -, -⟩ := may_facts hm
    obtain ⟨n, rfl⟩ : ∃ n : Nat, nl = (n : Int) := ⟨nl.toNat, by omega⟩
    clear f3
    have g1 : 1 ≤ n := by omega
    have g2 : n ≤ 4 := by omega
    clear f1 f2
    have F4 := Lib.hid f4
    clear f4
    by_cases h4 : (n : Int) + (text.length : Int) < 4
    · rw [sealR_low h4] at hR
      have HRR := Lib.hid hR
      have H4 := Lib.hid h4
      clear hR hsd hss hst hsx
      generalize ksB key iv msk = K at *
      go_enter Try.func11, Try.ntmps11
      go_wp2_with fail
      refine (may_any lg kind ver ad as_ at_ dst.length src.length tok.length cd cs ct sp ph (n64 u) n _).mono ?_
      rintro e w1 ⟨rfl, hb1⟩
      rw [hm]
      have hbw : Below w.heap.size w w1 := (bel2 w _ _).trans (hb1.mono (by simp; omega))
      have r1 : row? w1 (w.heap.size + 1) = some (hvA lg kind ver (.slice ad dst.length cd) (.slice as_ src.length cs) (.slice at_ tok.length ct) sp ph (n64 u) n) := by rw [row?_below hb1 (by simp)]; simp [go_sem]
      have c9' : w1.cell? ⟨w.heap.size + 1, 9, none⟩ = some (.int .i64 (n : Nat)) := row?_cell r1 9
      clear hb1 hm
      go_wp2_with fail
      go_ret2
      rw [← HRR.out]
      exact ⟨_, rfl, World.ownsRow_nil _ _ _ _, hbw⟩
    by_cases h2 : 2000 < text.length
    · rw [sealR_long hm h4 h2] at hR
      have HRR := Lib.hid hR
      have H4 := Lib.hid h4
      clear hR hsd hss hst hsx
      generalize ksB key iv msk = K at *
      go_enter Try.func11, Try.ntmps11
      go_wp2_with fail
      refine (may_any lg kind ver ad as_ at_ dst.length src.length tok.length cd cs ct sp ph (n64 u) n _).mono ?_
      rintro e w1 ⟨rfl, hb1⟩
      rw [hm]
      have hbw : Below w.heap.size w w1 := (bel2 w _ _).trans (hb1.mono (by simp; omega))
      have r1 : row? w1 (w.heap.size + 1) = some (hvA lg kind ver (.slice ad dst.length cd) (.slice as_ src.length cs) (.slice at_ tok.length ct) sp ph (n64 u) n) := by rw [row?_below hb1 (by simp)]; simp [go_sem]
      have c9' : w1.cell? ⟨w.heap.size + 1, 9, none⟩ = some (.int .i64 (n : Nat)) := row?_cell r1 9
      clear hb1 hm
      go_wp2_with fail
      go_ret2
      rw [← HRR.out]
      exact ⟨_, rfl, World.ownsRow_nil _ _ _ _, hbw⟩
    rw [sealR_ok hm h4 h2] at hR
    obtain ⟨hH1, hH2⟩ := headB_length (lg := lg) (kind := kind) (ver := ver) (dst := dst) (src := src) (tok := tok) (sp := sp) (ph := ph) (num := n64 u) (nl := n) (rest := text.length + 16) F4.out f5 f6 (by omega)
    have hput := fun W => put_u lg kind ver dst src tok sp ph (n64 u) n (text.length + 16) hm hver (by omega) (.slice ad dst.length cd) (.slice as_ src.length cs) (.slice at_ tok.length ct) W
    generalize headB lg kind ver dst src tok sp ph (n64 u) n (text.length + 16) = H at hR hH1 hH2 hput
    have hpl := packB_length key iv msk H text u n
    obtain ⟨C, hC⟩ : ∃ C, Gcm.sealed key (nonce iv u) text H = C := ⟨_, rfl⟩
    have hCl : C.length = text.length + 16 := by rw [← hC]; exact Gcm.sealed_length ..
    obtain ⟨N, hN⟩ : ∃ N, nonce iv u = N := ⟨_, rfl⟩
    have hNl : N.length = 12 := by rw [← hN]; exact (nv_length iv u 8).trans hiv
    have HRR := Lib.hid hR
    have H4 := Lib.hid h4
    have HC := Lib.hid hC
    have HN := Lib.hid hN
    clear hR hsd hss hst hsx hC hN
    have hmask := fun W g cap o => mask_any key iv msk (H ++ C) hk hiv hmk (H.length - n) n g cap w.heap.size (by rw [List.length_append]; omega) (by rw [List.length_append]; omega) (by omega) W o
    generalize hKK : ksB key iv msk = KB at *
    go_enter Try.func11, Try.ntmps11
    go_wp2_with fail
    refine (may_any lg kind ver ad as_ at_ dst.length src.length tok.length cd cs ct sp ph (n64 u) n _).mono ?_
    rintro e w1 ⟨rfl, hb1⟩
    rw [hm]
    have hbw : Below w.heap.size w w1 := (bel2 w _ _).trans (hb1.mono (by simp; omega))
    have z1 := hb1.size
    simp at z1
    have r1 : row? w1 (w.heap.size + 1) = some (hvA lg kind ver (.slice ad dst.length cd) (.slice as_ src.length cs) (.slice at_ tok.length ct) sp ph (n64 u) n) := by rw [row?_below hb1 (by simp)]; simp [go_sem]
    have r0 : row? w1 w.heap.size = some (bvs KB) := by rw [row?_below hb1 (by simp; omega)]; simp [go_sem]
    have c9' : w1.cell? ⟨w.heap.size + 1, 9, none⟩ = some (.int .i64 (n : Nat)) := row?_cell r1 9
    have R0 := Lib.hid r0
    clear hb1 hm r0
    go_wp2_with fail
    have HM := Lib.hid hmask
    have R1 := Lib.hid r1
    clear hmask
    refine (hput _ ?_ ?_ ?_).mono ?_
    · exact HSD.out.below hbw
    · exact HSS.out.below hbw
    · exact HST.out.below hbw
    rintro e w2 ⟨vh, rfl, hsh, hb2⟩
    have z2 := hb2.size
    have hbw2 : Below w.heap.size w w2 := hbw.trans (hb2.mono (by omega))
    have r0 : row? w2 w.heap.size = some (bvs KB) := by rw [row?_below hb2 (by omega)]; exact R0.out
    have r1' : row? w2 (w.heap.size + 1) = some (hvA lg kind ver (.slice ad dst.length cd) (.slice as_ src.length cs) (.slice at_ tok.length ct) sp ph (n64 u) n) := by rw [row?_below hb2 (by omega)]; exact R1.out
    obtain ⟨ah, ch, rfl, -, -, -⟩ := id hsh
    have HSH := Lib.hid hsh
    have HP := Lib.hid hput
    clear hb2 r1 c9' hsh hput
    have R0 := Lib.hid r0
    have R1 := Lib.hid r1'
    clear r0 r1'
    go_wp2_with fail
    have l1 : (loadAgg 22 (.pointer (some ⟨w.heap.size, 0, none⟩))).run Try.prog w2.drew = .ok (.agg (bvs key)) w2.drew := part16 w2.drew _ _ _ _ R0.out (by simp only [bvs_size]; omega) hKk
    have l2 : (loadAgg 23 (.pointer (some ⟨w.heap.size, 16, none⟩))).run Try.prog w2.drew = .ok (.agg (bvs iv)) w2.drew := part12 w2.drew _ _ _ _ R0.out (by simp only [bvs_size]; omega) hKi
    have c8 : w2.cell? ⟨w.heap.size + 1, 8, none⟩ = some (.int .u64 (n64 u : Nat)) := row?_cell R1.out 8
    refine Rg.wp_region_plan (Rg.row [(0, 3), (2, 3), (3, 0), (4, 3), (5, 0), (6, 3), (7, 0), (9, 3), (10, 3), (1, 1), (8, 1), (11, 1)] [12, 13]) [12, 13] (by kernel_rfl) (by kernel_rfl) ?_
    simp only [Rg.row, Rg.PT.map, List.map_cons, List.map_nil, List.getD_cons_zero, List.getD_cons_succ]
    go_wp2_with (first
      | ((with_reducible refine Rg.plan_pure ?_ ?_ ?_); kernel_rfl; kernel_rfl; intro _ _)
      | ((with_reducible refine Rg.plan_take ?_ ?_ ?_); kernel_rfl; kernel_rfl; intro _ _)
      | ((with_reducible refine Rg.plan_keep ?_ ?_); kernel_rfl; intro K hK)
      | (refine hK _ _ (Rg.Keep.refl _) ?_; clear hK)
      | (refine hK _ _ (Rg.Keep.of_below (by assumption)) ?_; clear hK)
      | ((with_reducible refine Rg.plan_skip ?_ ?_); kernel_rfl)
      | (with_reducible refine Rg.plan_done ?_)
      | (with_reducible refine Rg.calm_normal ?_))
    refine (clone_any H (by omega) _ _ (HSH.out.below (Below.refl _ _).drew)).mono ?_
    rintro e w3 ⟨vc, rfl, oc, hb3⟩
    refine hK _ _ (Rg.Keep.of_below hb3) ?_
    clear hK
    have z3 := hb3.size
    simp at z3 oc
    have OC := Lib.hid oc
    have HB3 := Lib.hid hb3
    clear oc hb3
    go_wp2_with (first
      | ((with_reducible refine Rg.plan_pure ?_ ?_ ?_); kernel_rfl; kernel_rfl; intro _ _)
      | ((with_reducible refine Rg.plan_take ?_ ?_ ?_); kernel_rfl; kernel_rfl; intro _ _)
      | ((with_reducible refine Rg.plan_keep ?_ ?_); kernel_rfl; intro K hK)
      | (refine hK _ _ (Rg.Keep.refl _) ?_; clear hK)
      | (refine hK _ _ (Rg.Keep.of_below (by assumption)) ?_; clear hK)
      | ((with_reducible refine Rg.plan_skip ?_ ?_); kernel_rfl)
      | (with_reducible refine Rg.plan_done ?_)
      | (with_reducible refine Rg.calm_normal ?_))
    refine (nonce_any iv hiv u _).mono ?_
    rintro e w4 ⟨rfl, hb4⟩
    rw [HN.out]
    refine hK _ _ (Rg.Keep.of_below hb4) ?_
    clear hK
    have z4 := hb4.size
    have HB4 := Lib.hid hb4
    clear hb4
    go_wp2_with (first
      | ((with_reducible refine Rg.plan_pure ?_ ?_ ?_); kernel_rfl; kernel_rfl; intro _ _)
      | ((with_reducible refine Rg.plan_take ?_ ?_ ?_); kernel_rfl; kernel_rfl; intro _ _)
      | ((with_reducible refine Rg.plan_keep ?_ ?_); kernel_rfl; intro K hK)
      | (refine hK _ _ (Rg.Keep.refl _) ?_; clear hK)
      | (refine hK _ _ (Rg.Keep.of_below (by assumption)) ?_; clear hK)
      | ((with_reducible refine Rg.plan_skip ?_ ?_); kernel_rfl)
      | (with_reducible refine Rg.plan_done ?_)
      | (with_reducible refine Rg.calm_normal ?_))
    refine (seal_any key N text H hk hNl htl (by omega) _ _ _ ((HSX.out.below hbw2).below ((Below.refl _ _).drew.trans (HB3.out.trans (HB4.out.mono z3)))) (HSH.out.below ((Below.refl _ _).drew.trans (HB3.out.trans (HB4.out.mono z3))))).mono ?_
    rintro e w5 ⟨g, rfl, og, hb5⟩
    have hC : Gcm.sealed key N text H = C := by rw [← HN.out]; exact HC.out
    rw [hC] at og
    have hsC : Sl w5 (.slice (some ⟨g, 0, none⟩) (text.length + 16) (text.length + 16)) C := by rw [← hCl] at og ⊢; exact Own.sl og
    clear og
    generalize (Value.slice (some ⟨g, 0, none⟩) (text.length + 16) (text.length + 16)) = vg at hsC ⊢
    refine hK _ _ (Rg.Keep.of_below hb5) ?_
    clear hK hC
    have z5 := hb5.size
    have OC5 := Lib.hid (Go.Rw.own_below (Go.Rw.own_below OC.out HB4.out) hb5)
    have SC := Lib.hid hsC
    have b5 : Below w.heap.size w w5 := hbw2.trans ((Below.refl _ _).drew.trans ((HB3.out.mono (by simp; omega)).trans ((HB4.out.mono (by omega)).trans (hb5.mono (by omega)))))
    have R15 := Lib.hid (show row? w5 (w.heap.size + 1) = some (hvA lg kind ver (.slice ad dst.length cd) (.slice as_ src.length cs) (.slice at_ tok.length ct) sp ph (n64 u) n) by rw [row?_below hb5 (by omega), row?_below HB4.out (by omega), row?_below HB3.out (by simp; omega)]; exact R1.out)
    have R05 := Lib.hid (show row? w5 w.heap.size = some (bvs KB) by rw [row?_below hb5 (by omega), row?_below HB4.out (by omega), row?_below HB3.out (by simp; omega)]; exact R0.out)
    clear hsC hb5 c8 l1 l2
    go_wp2_with (first
      | (at_builtin; refine Classical.byContradiction ?_)
      | ((with_reducible refine Rg.plan_pure ?_ ?_ ?_); kernel_rfl; kernel_rfl; intro _ _)
      | ((with_reducible refine Rg.plan_take ?_ ?_ ?_); kernel_rfl; kernel_rfl; intro _ _)
      | ((with_reducible refine Rg.plan_keep ?_ ?_); kernel_rfl; intro K hK)
      | (refine hK _ _ (Rg.Keep.refl _) ?_; clear hK)
      | (refine hK _ _ (Rg.Keep.of_below (by assumption)) ?_; clear hK)
      | ((with_reducible refine Rg.plan_skip ?_ ?_); kernel_rfl)
      | (with_reducible refine Rg.plan_done ?_)
      | (with_reducible refine Rg.calm_normal ?_))
    intro hh; apply hh; clear hh
    refine app_sl rfl _ _ 27 rfl w2.heap.size 5 i0 Try.underlying27 hi hz0 hz1 hz2 vc H rfl OC5.out vg C rfl SC.out (by omega) (by omega) ?_
    intro v6 w6 o6 g6
    have hq6 : ∀ q, vc.ownBlock = some q → w2.heap.size ≤ q := fun q hq => (OC5.out.lt q hq).1
    have b6 : Below w.heap.size w w6 := b5.grown g6 (by omega) (fun q hq => by have := hq6 q hq; omega)
    have R16 := Lib.hid (show row? w6 (w.heap.size + 1) = some (hvA lg kind ver (.slice ad dst.length cd) (.slice as_ src.length cs) (.slice at_ tok.length ct) sp ph (n64 u) n) from row_grown g6 R15.out (fun h => by have := hq6 _ h.symm; omega))
    have R06 := Lib.hid (show row? w6 w.heap.size = some (bvs KB) from row_grown g6 R05.out (fun h => by have := hq6 _ h.symm; omega))
    have hlHC : (H ++ C).length = H.length + C.length := List.length_append
    obtain ⟨g, cap, hv6, hgB⟩ : ∃ g cap, v6 = .slice (some ⟨g, 0, none⟩) (H ++ C).length cap ∧ w2.heap.size ≤ g := by
      rcases o6.2 with ⟨_, h0⟩ | ⟨g, cap, cur, e, hb, _⟩
      · omega
      · exact ⟨g, cap, e, hb⟩
    rw [hv6] at o6
    have O6 := Lib.hid o6
    have GG := Lib.hid g6
    obtain ⟨a, ha⟩ : ∃ a, H.length - n = a := ⟨_, rfl⟩
    have hHa : H.length = a + n := by omega
    have HHA := Lib.hid (And.intro ha hHa)
    have l9 : (loadAgg 25 (.pointer (some ⟨w.heap.size, 0, none⟩))).run Try.prog w6 = .ok (.agg (bvs KB)) w6 := rldK w6 _ _ R06.out hKl
    have c9 : w6.cell? ⟨w.heap.size + 1, 9, none⟩ = some (.int .i64 (n : Nat)) := row?_cell R16.out 9
    have h9 : (H.length : Int) - (n : Int) = (a : Nat) := by omega
    rw [hv6]
    have hHM := HM.out
    obtain ⟨L, hL⟩ : ∃ L, (H ++ C).length = L := ⟨_, rfl⟩
    rw [hL] at O6 hHM ⊢
    rw [ha] at hHM
    have HV6 := Lib.hid hv6
    have HLC := Lib.hid hlHC
    have HLL := Lib.hid hL
    have HM2 := Lib.hid (hHM w6 g cap (own_lower O6.out (by omega)))
    have HCl := Lib.hid hCl
    clear o6 g6 hv6 ha hHa hlHC hL hHM hCl HM
    go_wp2_with (first
      | ((with_reducible refine Rg.plan_pure ?_ ?_ ?_); kernel_rfl; kernel_rfl; intro _ _)
      | ((with_reducible refine Rg.plan_take ?_ ?_ ?_); kernel_rfl; kernel_rfl; intro _ _)
      | ((with_reducible refine Rg.plan_keep ?_ ?_); kernel_rfl; intro K hK)
      | (refine hK _ _ (Rg.Keep.refl _) ?_; clear hK)
      | (refine hK _ _ (Rg.Keep.of_below (by assumption)) ?_; clear hK)
      | ((with_reducible refine Rg.plan_skip ?_ ?_); kernel_rfl)
      | (with_reducible refine Rg.plan_done ?_)
      | (with_reducible refine Rg.calm_normal ?_))
    refine HM2.out.mono ?_
    rintro e w7 ⟨rfl, o7, g7⟩
    have O7 := Lib.hid o7
    have b7 : Below w.heap.size w w7 := b6.grown g7 b6.size (fun q hq => by have e : g = q := Option.some.inj hq; have := hbw2.size; omega)
    clear o7 g7 l9 c9
    go_wp2_with fail
    go_ret2
    rw [← HRR.out]
    refine ⟨_, rfl, ?_, b7⟩
    have ho := O7.out
    rw [← HHA.out.1, ← HC.out] at ho
    have hpL : (packB key iv msk H text u n).length = L := by rw [hpl, ← HLL.out, List.length_append, HCl.out]
    show w7.ownsRow w.heap.size 5 1 (.slice (some ⟨g, 0, none⟩) L cap) (packB key iv msk H text u n).length ((packB key iv msk H text u n).map bv)
    rw [hpL]
    exact ho
end Go.Proofs.Ytjlpppnpdgenfaa
