/- The walk of the document's Seal. -/
import Derived.Test.YtjlpppnpdgenfaaMvb23
import Derived.Test.YtjlpppnpdgenfaaMvbLibF
namespace Go.Proofs.Ytjlpppnpdgenfaa
open Go.RowKit Go.Rw Aes Hdr Vlt
attribute [local go_sem ↓] hvA_0 hvA_1 hvA_2 hvA_3 hvA_4 hvA_5 hvA_6 hvA_7 hvA_8 hvA_9
attribute [local go_sem ↓] ldH stH alH ld16 st16 al16 ld12 shift_shr8 bvs_getElem?
attribute [local go_sem] rldH rstH ralH setRow_alloc_at setRow_alloc_past setRow_drew bvs_setn
theorem AgKr : Agg Try.prog 36 44 := ⟨⟨_, Try.underlying36, rfl⟩, by kernel_rfl⟩
theorem ldKr (x : Value) : Instr.loadAt 36 x = loadAgg 36 x := rfl
theorem rldKr (w : World) (b : Nat) (K : List UInt8) (h : row? w b = some (bvs K)) (hl : K.length = 44) : (loadAgg 36 (.pointer (some ⟨b, 0, none⟩))).run Try.prog w = .ok (.agg (bvs K)) w := by
 rw [load_rule AgKr w b (by rw [h]; simp [bvs_size, hl]), h]; rfl
attribute [local go_sem ↓] ldKr
attribute [local go_sem] rld16 rst16 ral16
set_option maxRecDepth 100000 in
set_option maxHeartbeats 4000000 in
theorem rseal16_any (key iv msk : List UInt8) (hk : key.length = 16) (hiv : iv.length = 12) (hmk : msk.length = 16) (lg : Bool) (kind : Int) (ver : Nat) (dst src tok : List UInt8) (sp ph : Bool) (u : UInt64) (nl : Int) (text : List UInt8) (hver : ver < 4294967296) (htl : text.length ≤ 1000000) (vd vs vt vx : Value) (w : World) (hsd : Sl w vd dst) (hss : Sl w vs src) (hst : Sl w vt tok) (hsx : Sl w vx text) :
  Calls Try.prog 12 #[.agg (bvs (ksB key iv msk)), .agg (hvA lg kind ver vd vs vt sp ph (n64 u) nl), vx] w fun e w' =>
   ∃ v, e = .returned (.tuple #[v, .int .i64 (sealR key iv msk lg kind ver dst src tok sp ph u nl text).2]) ∧ w'.ownsRow w.heap.size 5 1 v (sealR key iv msk lg kind ver dst src tok sp ph u nl text).1.length ((sealR key iv msk lg kind ver dst src tok sp ph u nl text).1.map bv) ∧ Below w.heap.size w w' := by
 obtain ⟨i0, hi, hz0, hz1, hz2⟩ := info_parts info8
 obtain ⟨ad, cd, rfl, -, -, -⟩ := id hsd
 obtain ⟨as_, cs, rfl, -, -, -⟩ := id hss
 obtain ⟨at_, ct, rfl, -, -, -⟩ := id hst
 obtain ⟨ax, cx, rfl, -, -, -⟩ := id hsx
 have hKl := ksB_length hk hiv hmk
 have hKk := ksB_key (iv := iv) (msk := msk) hk
 have hKi := ksB_iv (msk := msk) hk hiv
 have HSD := Lib.hid hsd
 have HSS := Lib.hid hss
 have HST := Lib.hid hst
 have HSX := Lib.hid hsx
 obtain ⟨R, hR⟩ : ∃ R, sealR key iv msk lg kind ver dst src tok sp ph u nl text = R := ⟨_, rfl⟩
 rw [hR]
 cases hm : mayN lg kind ver dst.length src.length tok.length sp ph (n64 u) nl with
 | false =>
  rw [sealR_no hm] at hR
  have HRR := Lib.hid hR
  clear hR hsd hss hst hsx
  generalize ksB key iv msk = K at *
  go_enter Try.func12, Try.ntmps12
  go_wp2_with fail
  refine (rmay_any lg kind ver ad as_ at_ dst.length src.length tok.length cd cs ct sp ph (n64 u) nl _).mono ?_
  rintro e w1 ⟨rfl, hb1⟩
  rw [hm]
  have hbw : Below w.heap.size w w1 := (bel2 w _ _).trans (hb1.mono (by simp; omega))
  clear hb1 hm
  go_wp2_with fail
  go_ret2
  rw [← HRR.out]
  exact ⟨_, rfl, World.ownsRow_nil _ _ _ _, hbw⟩
 | true =>
  obtain ⟨f1, f2, f3, f4, f5, f6, -, -⟩ := may_facts hm
  obtain ⟨n, rfl⟩ : ∃ n : Nat, nl = (n : Int) := ⟨nl.toNat, by omega⟩
  clear f3
  have g1 : 1 ≤ n := by omega
  have g2 : n ≤ 4 := by omega
  clear f1 f2
  have F4 := Lib.hid f4
  clear f4
  by_cases h4 : (n : Int) + (text.length : Int) < 4
  ·rw [sealR_low h4] at hR
   have HRR := Lib.hid hR
   have H4 := Lib.hid h4
   clear hR hsd hss hst hsx
   generalize ksB key iv msk = K at *
   go_enter Try.func12, Try.ntmps12
   go_wp2_with fail
   refine (rmay_any lg kind ver ad as_ at_ dst.length src.length tok.length cd cs ct sp ph (n64 u) n _).mono ?_
   rintro e w1 ⟨rfl, hb1⟩
   rw [hm]
   have hbw : Below w.heap.size w w1 := (bel2 w _ _).trans (hb1.mono (by simp; omega))
   have r1 : row? w1 (w.heap.size + 1) = some (hvA lg kind ver (.slice ad dst.length cd) (.slice as_ src.length cs) (.slice at_ tok.length ct) sp ph (n64 u) n) := by rw [row?_below hb1 (by simp)]; simp [go_sem]
   have c9' : w1.cell? ⟨w.heap.size + 1, 9, none⟩ = some (.int .i64 (n : Nat)) := row?_cell r1 9
   clear hb1 hm
   go_wp2_with fail
   go_ret2
   rw [← HRR.out]
   exact ⟨_, rfl, World.ownsRow_nil _ _ _ _, hbw⟩
  by_cases h2 : 2000 < text.length
  ·rw [sealR_long hm h4 h2] at hR
   have HRR := Lib.hid hR
   have H4 := Lib.hid h4
   clear hR hsd hss hst hsx
   generalize ksB key iv msk = K at *
   go_enter Try.func12, Try.ntmps12
   go_wp2_with fail
   refine (rmay_any lg kind ver ad as_ at_ dst.length src.length tok.length cd cs ct sp ph (n64 u) n _).mono ?_
   rintro e w1 ⟨rfl, hb1⟩
   rw [hm]
   have hbw : Below w.heap.size w w1 := (bel2 w _ _).trans (hb1.mono (by simp; omega))
   have r1 : row? w1 (w.heap.size + 1) = some (hvA lg kind ver (.slice ad dst.length cd) (.slice as_ src.length cs) (.slice at_ tok.length ct) sp ph (n64 u) n) := by rw [row?_below hb1 (by simp)]; simp [go_sem]
   have c9' : w1.cell? ⟨w.heap.size + 1, 9, none⟩ = some (.int .i64 (n : Nat)) := row?_cell r1 9
   clear hb1 hm
   go_wp2_with fail
   go_ret2
   rw [← HRR.out]
   exact ⟨_, rfl, World.ownsRow_nil _ _ _ _, hbw⟩
  rw [sealR_ok hm h4 h2] at hR
  obtain ⟨hH1, hH2⟩ := headB_length (lg := lg) (kind := kind) (ver := ver) (dst := dst) (src := src) (tok := tok) (sp := sp) (ph := ph) (num := n64 u) (nl := n) (rest := text.length + 16) F4.out f5 f6 (by omega)
  have hput := fun W => rput_u lg kind ver dst src tok sp ph (n64 u) n (text.length + 16) hm hver (by omega) (.slice ad dst.length cd) (.slice as_ src.length cs) (.slice at_ tok.length ct) W
  generalize headB lg kind ver dst src tok sp ph (n64 u) n (text.length + 16) = H at hR hH1 hH2 hput
  have hpl := packB_length key iv msk H text u n
  obtain ⟨C, hC⟩ : ∃ C, Gcm.sealed key (nonce iv u) text H = C := ⟨_, rfl⟩
  have hCl : C.length = text.length + 16 := by rw [← hC]; exact Gcm.sealed_length ..
  obtain ⟨N, hN⟩ : ∃ N, nonce iv u = N := ⟨_, rfl⟩
  have hNl : N.length = 12 := by rw [← hN]; exact (nv_length iv u 8).trans hiv
  have HRR := Lib.hid hR
  have H4 := Lib.hid h4
  have HC := Lib.hid hC
  have HN := Lib.hid hN
  clear hR hsd hss hst hsx hC hN
  generalize hKK : ksB key iv msk = KB at *
  go_enter Try.func12, Try.ntmps12
  go_wp2_with fail
  refine (rmay_any lg kind ver ad as_ at_ dst.length src.length tok.length cd cs ct sp ph (n64 u) n _).mono ?_
  rintro e w1 ⟨rfl, hb1⟩
  rw [hm]
  have hbw : Below w.heap.size w w1 := (bel2 w _ _).trans (hb1.mono (by simp; omega))
  have z1 := hb1.size
  simp at z1
  have r1 : row? w1 (w.heap.size + 1) = some (hvA lg kind ver (.slice ad dst.length cd) (.slice as_ src.length cs) (.slice at_ tok.length ct) sp ph (n64 u) n) := by rw [row?_below hb1 (by simp)]; simp [go_sem]
  have r0 : row? w1 w.heap.size = some (bvs KB) := by rw [row?_below hb1 (by simp; omega)]; simp [go_sem]
  have c9' : w1.cell? ⟨w.heap.size + 1, 9, none⟩ = some (.int .i64 (n : Nat)) := row?_cell r1 9
  have R0 := Lib.hid r0
  clear hb1 hm r0
  go_wp2_with fail
  have R1 := Lib.hid r1
  refine (hput _ ?_ ?_ ?_).mono ?_
  ·exact HSD.out.below hbw
  ·exact HSS.out.below hbw
  ·exact HST.out.below hbw
  rintro e w2 ⟨vh, rfl, oh, hb2⟩
  have z2 := hb2.size
  have hbw2 : Below w.heap.size w w2 := hbw.trans (hb2.mono (by omega))
  have r0 : row? w2 w.heap.size = some (bvs KB) := by rw [row?_below hb2 (by omega)]; exact R0.out
  have r1' : row? w2 (w.heap.size + 1) = some (hvA lg kind ver (.slice ad dst.length cd) (.slice as_ src.length cs) (.slice at_ tok.length ct) sp ph (n64 u) n) := by rw [row?_below hb2 (by omega)]; exact R1.out
  obtain ⟨ah, ch, rfl, -, -, -⟩ := id (Own.sl oh)
  have OH := Lib.hid oh
  have HP := Lib.hid hput
  clear hb2 r1 c9' oh hput
  have R0 := Lib.hid r0
  have R1 := Lib.hid r1'
  clear r0 r1'
  have c9 : w2.cell? ⟨w.heap.size + 1, 9, none⟩ = some (.int .i64 (n : Nat)) := row?_cell R1.out 9
  obtain ⟨a, ha⟩ : ∃ a, H.length - n = a := ⟨_, rfl⟩
  have hHa : H.length = a + n := by omega
  have h9 : (H.length : Int) - (n : Int) = (a : Nat) := by omega
  have HHA := Lib.hid (And.intro ha hHa)
  clear ha hHa
  go_wp2_with fail
  have l1 : (loadAgg 22 (.pointer (some ⟨w.heap.size, 0, none⟩))).run Try.prog w2.drew = .ok (.agg (bvs key)) w2.drew := part16 w2.drew _ _ _ _ R0.out (by simp only [bvs_size]; omega) hKk
  have l2 : (loadAgg 23 (.pointer (some ⟨w.heap.size, 16, none⟩))).run Try.prog w2.drew = .ok (.agg (bvs iv)) w2.drew := part12 w2.drew _ _ _ _ R0.out (by simp only [bvs_size]; omega) hKi
  have c8 : w2.cell? ⟨w.heap.size + 1, 8, none⟩ = some (.int .u64 (n64 u : Nat)) := row?_cell R1.out 8
  refine Rg.wp_region_plan (Rg.row [(0, 3), (1, 3), (2, 0), (3, 3), (4, 0), (5, 3), (6, 0), (8, 3), (9, 3), (7, 1), (10, 1)] [11, 12]) [11, 12] (by kernel_rfl) (by kernel_rfl) ?_
  simp only [Rg.row, Rg.PT.map, List.map_cons, List.map_nil, List.getD_cons_zero, List.getD_cons_succ]
  go_wp2_with (first
   |(with_reducible refine Rg.plan_pure ?_ ?_ ?_); kernel_rfl; kernel_rfl; intro _ _|(with_reducible refine Rg.plan_take ?_ ?_ ?_); kernel_rfl; kernel_rfl; intro _ _|(with_reducible refine Rg.plan_keep ?_ ?_); kernel_rfl; intro K hK|refine hK _ _ (Rg.Keep.refl _) ?_; clear hK|refine hK _ _ (Rg.Keep.of_below (by assumption)) ?_; clear hK|(with_reducible refine Rg.plan_skip ?_ ?_); kernel_rfl|(with_reducible refine Rg.plan_done ?_)|(with_reducible refine Rg.calm_normal ?_))
  refine (rnonce_any iv hiv u _).mono ?_
  rintro e w4 ⟨rfl, hb4⟩
  rw [HN.out]
  refine hK _ _ (Rg.Keep.of_below hb4) ?_
  clear hK
  have z4 := hb4.size
  simp at z4
  have HB4 := Lib.hid hb4
  clear hb4
  go_wp2_with (first
   |(with_reducible refine Rg.plan_pure ?_ ?_ ?_); kernel_rfl; kernel_rfl; intro _ _|(with_reducible refine Rg.plan_take ?_ ?_ ?_); kernel_rfl; kernel_rfl; intro _ _|(with_reducible refine Rg.plan_keep ?_ ?_); kernel_rfl; intro K hK|refine hK _ _ (Rg.Keep.refl _) ?_; clear hK|refine hK _ _ (Rg.Keep.of_below (by assumption)) ?_; clear hK|(with_reducible refine Rg.plan_skip ?_ ?_); kernel_rfl|(with_reducible refine Rg.plan_done ?_)|(with_reducible refine Rg.calm_normal ?_))
  refine (rseal_any key N text H hk hNl htl (by omega) _ _ _ ((HSX.out.below hbw2).below ((Below.refl _ _).drew.trans HB4.out)) ((Own.sl OH.out).below ((Below.refl _ _).drew.trans HB4.out))).mono ?_
  rintro e w5 ⟨vg, rfl, og, hb5⟩
  have hC : Gcm.sealed key N text H = C := by rw [← HN.out]; exact HC.out
  rw [hC, ← hCl] at og
  have hsC := Own.sl og
  clear og
  refine hK _ _ (Rg.Keep.of_below hb5) ?_
  clear hK hC
  have z5 := hb5.size
  have OC5 := Lib.hid (Go.Rw.own_below (Go.Rw.own_below OH.out ((Below.refl _ _).drew.trans HB4.out)) hb5)
  have SC := Lib.hid hsC
  have b5 : Below w.heap.size w w5 := hbw2.trans ((Below.refl _ _).drew.trans ((HB4.out.mono (by simp; omega)).trans (hb5.mono (by omega))))
  have R15 := Lib.hid (show row? w5 (w.heap.size + 1) = some (hvA lg kind ver (.slice ad dst.length cd) (.slice as_ src.length cs) (.slice at_ tok.length ct) sp ph (n64 u) n) by rw [row?_below hb5 (by omega), row?_below HB4.out (by simp; omega)]; exact R1.out)
  have R05 := Lib.hid (show row? w5 w.heap.size = some (bvs KB) by rw [row?_below hb5 (by omega), row?_below HB4.out (by simp; omega)]; exact R0.out)
  clear hsC hb5 c8 l1 l2
  go_wp2_with (first
   | (at_builtin; refine Classical.byContradiction ?_)
   |(with_reducible refine Rg.plan_pure ?_ ?_ ?_); kernel_rfl; kernel_rfl; intro _ _|(with_reducible refine Rg.plan_take ?_ ?_ ?_); kernel_rfl; kernel_rfl; intro _ _|(with_reducible refine Rg.plan_keep ?_ ?_); kernel_rfl; intro K hK|refine hK _ _ (Rg.Keep.refl _) ?_; clear hK|refine hK _ _ (Rg.Keep.of_below (by assumption)) ?_; clear hK|(with_reducible refine Rg.plan_skip ?_ ?_); kernel_rfl|(with_reducible refine Rg.plan_done ?_)|(with_reducible refine Rg.calm_normal ?_))
  intro hh; apply hh; clear hh
  refine app_sl rfl _ _ 27 rfl w1.heap.size 5 i0 Try.underlying27 hi hz0 hz1 hz2 (.slice ah H.length ch) H rfl OC5.out vg C rfl SC.out (by omega) (by omega) ?_
  intro v6 w6 o6 g6
  have hq6 : ∀ q, (Value.slice ah H.length ch).ownBlock = some q → w1.heap.size ≤ q := fun q hq => (OC5.out.lt q hq).1
  have b6 : Below w.heap.size w w6 := b5.grown g6 (by omega) (fun q hq => by have := hq6 q hq; omega)
  have R16 := Lib.hid (show row? w6 (w.heap.size + 1) = some (hvA lg kind ver (.slice ad dst.length cd) (.slice as_ src.length cs) (.slice at_ tok.length ct) sp ph (n64 u) n) from row_grown g6 R15.out (fun h => by have := hq6 _ h.symm; omega))
  have R06 := Lib.hid (show row? w6 w.heap.size = some (bvs KB) from row_grown g6 R05.out (fun h => by have := hq6 _ h.symm; omega))
  obtain ⟨L, hL⟩ : ∃ L, H ++ C = L := ⟨_, rfl⟩
  have hLl : L.length = H.length + C.length := by rw [← hL, List.length_append]
  rw [hL] at o6
  obtain ⟨g, cap, hv6, hgB⟩ : ∃ g cap, v6 = .slice (some ⟨g, 0, none⟩) L.length cap ∧ w1.heap.size ≤ g := by
   rcases o6.2 with ⟨_, h0⟩ | ⟨g, cap, cur, e, hb, _⟩
   ·omega
   ·exact ⟨g, cap, e, hb⟩
  rw [hv6] at o6
  have O6 := Lib.hid o6
  have hL20 : a + 20 ≤ L.length := by have := HHA.out.2; omega
  have hLm : L.length ≤ 10000 := by omega
  rw [hv6]
  have HV6 := Lib.hid hv6
  have HLC := Lib.hid (And.intro hL hLl)
  have HCl := Lib.hid hCl
  clear o6 g6 hv6 hL hLl hCl hq6 c9
  have l9 : (loadAgg 36 (.pointer (some ⟨w.heap.size, 0, none⟩))).run Try.prog w6 = .ok (.agg (bvs KB)) w6 := rldKr w6 _ _ R06.out hKl
  go_wp2_with (first
   |(with_reducible refine Rg.plan_pure ?_ ?_ ?_); kernel_rfl; kernel_rfl; intro _ _|(with_reducible refine Rg.plan_take ?_ ?_ ?_); kernel_rfl; kernel_rfl; intro _ _|(with_reducible refine Rg.plan_keep ?_ ?_); kernel_rfl; intro K hK|refine hK _ _ (Rg.Keep.refl _) ?_; clear hK|refine hK _ _ (Rg.Keep.of_below (by assumption)) ?_; clear hK|(with_reducible refine Rg.plan_skip ?_ ?_); kernel_rfl|(with_reducible refine Rg.plan_done ?_)|(with_reducible refine Rg.calm_normal ?_))
  obtain ⟨cur, hcur, -, hncap, hcs, -, hpart⟩ := own_part O6.out
  clear hcur hcs hpart cur
  obtain ⟨M, hM⟩ : ∃ M, block msk (smp L a) = M := ⟨_, rfl⟩
  have hMl : M.length = 16 := by rw [← hM]; exact block_length _ _
  have HMM := Lib.hid hM
  clear hM
  have l9 : (loadAgg 36 (.pointer (some ⟨w.heap.size, 0, none⟩))).run Try.prog w6.drew = .ok (.agg (bvs KB)) w6.drew := rldKr w6.drew _ _ R06.out hKl
  refine Rg.wp_region_flo [(0, 0), (1, 3), (2, 3), (3, 3), (4, 3), (5, 3), (6, 3)] [
    ⟨7, 62, [], false, fun v _ => v = .agg (bvs M)⟩,
    ⟨8, 11, [], true, fun v w' => ∃ B, v = .pointer (some ⟨B, 0, none⟩) ∧ row? w' B = some (bvs (zeros 16))⟩] [(7, 62, []), (8, 11, [])] [9] (by kernel_rfl) (by kernel_rfl) rfl ?_
  simp only [Rg.row, Rg.PT.map, List.getD_cons_zero, List.getD_cons_succ]
  go_wp2_with (first
   |(with_reducible refine Rg.plan_pure ?_ ?_ ?_); kernel_rfl; kernel_rfl; intro _ _|(with_reducible refine Rg.plan_take ?_ ?_ ?_); kernel_rfl; kernel_rfl; intro _ _|(with_reducible refine Rg.plan_keep ?_ ?_); kernel_rfl; intro K hK|refine hK _ _ (Rg.Keep.refl _) ?_; clear hK|refine hK _ _ (Rg.Keep.of_below (by assumption)) ?_; clear hK|(with_reducible refine Rg.plan_skip ?_ ?_); kernel_rfl|(with_reducible refine Rg.plan_done ?_)|(with_reducible refine Rg.calm_normal ?_))
  refine Rg.phase_done (Rg.Phase.mk ?_ ?_ ?_)
  ·refine List.forall_mem_cons.2 ⟨?_, List.forall_mem_cons.2 ⟨?_, fun r hr => (by cases hr)⟩⟩
   ·exact fun v w1 w2 _ h => h
   ·rintro v w1 w2 hb ⟨B, e, h⟩; exact ⟨B, e, Rg.stable_row hb h⟩
  ·refine List.forall_mem_cons.2 ⟨?_, List.forall_mem_cons.2 ⟨?_, fun r hr => (by cases hr)⟩⟩
   ·intro us wx hbx hdep K hK
    have hsm : Sl wx (.slice (some ⟨g, a + 4, none⟩) (a + 20 - (a + 4)) (cap - (a + 4))) (smp L a) := by
     have hx := ((Own.sl O6.out).below ((Below.refl _ _).drew)).below hbx
     have := hx.cut (a + 4) (a + 20) (by omega) (by omega)
     unfold cutA at this
     rw [if_neg (by omega)] at this
     simpa [Addr.add_lit, smp, Nat.add_assoc] using this
    refine Rg.exec_call (f := 35) (args := #[.agg (bvs KB), .slice (some ⟨g, a + 4, none⟩) (a + 20 - (a + 4)) (cap - (a + 4))]) (by simp [go_sem, execOp, Rg.puts]) (by rw [← hKK]; exact rmask_any key iv msk (smp L a) hk hiv hmk (smp_length L a hL20) _ wx hsm) ?_
    rintro e wy ⟨rfl, hy⟩
    exact ⟨_, rfl, hK _ _ _ rfl (by rw [HMM.out]) hy (fun h => (by cases h))⟩
   ·intro us wx hbx hdep K hK
    exact Rg.exec_value (by simp [go_sem, execOp, Rg.puts]; rfl) (hK _ _ _ rfl ⟨_, rfl, row?_alloc_at _ _ _ _ rfl⟩ ((Below.refl _ _).alloc (Nat.le_refl _) _) (fun _ => ⟨Nat.le_refl _, by simp [Rg.vblk]⟩))
  ·intro us wZ hbZ hJ hfr hne
   have hfr0 : w6.drew.heap.size ≤ Rg.vblk (us 8) := (hfr _ (List.getElem_mem (n := 1) (by simp)) rfl).1
   simp only [List.forall_mem_cons] at hJ
   obtain ⟨e7, ⟨BM, e8, rM⟩, -⟩ := hJ
   rw [e8] at hfr0
   have hBM : w6.heap.size ≤ BM := hfr0
   have zZ := hbZ.size
   have bZ : Below w.heap.size w wZ := b6.trans ((Below.refl _ _).drew.trans (hbZ.mono b6.size))
   have OZ := Lib.hid (Go.Rw.own_below O6.out ((Below.refl _ _).drew.trans hbZ))
   have hg6 := (Own.lt O6.out _ _ _ _ rfl).2
   simp only [Rg.puts, List.map_cons, List.map_nil, List.getD_cons_zero, List.getD_cons_succ]
   simp only [e7, e8]
   have o1 : (wZ.setRow BM (bvs M)).ownsRow w1.heap.size 5 1 (.slice (some ⟨g, 0, none⟩) L.length cap) L.length (L.map bv) := own_same OZ.out (setRow_other wZ BM g _ (by omega))
   have b1 : Below w.heap.size w (wZ.setRow BM (bvs M)) := below_setRow bZ (by omega) _
   have rh1 : row? (wZ.setRow BM (bvs M)) (w.heap.size + 1) = some (hvA lg kind ver (.slice ad dst.length cd) (.slice as_ src.length cs) (.slice at_ tok.length ct) sp ph (n64 u) n) := by rw [row?_setRow_ne _ _ _ _ (by omega)]; exact Rg.stable_row hbZ R16.out
   have rm1 : row? (wZ.setRow BM (bvs M)) BM = some (bvs M) := row?_setRow_eq rM
   have c0 : (wZ.setRow BM (bvs M)).cell? ⟨g, 0, none⟩ = some (.int .u8 (n8 (nth L 0) : Nat)) := by
    rw [o1.cellAt 0 (by omega)]
    simp [nth, bv, n8, show 0 < L.length by omega]
   have m0 : (wZ.setRow BM (bvs M)).cell? ⟨BM, 0, none⟩ = some (.int .u8 (n8 (nth M 0) : Nat)) := by rw [row?_cell rm1, bvs_getElem?, if_pos (by omega)]
   have fO := o1.frozenAt 0
   have hlow := fun W => rlow_any (nth L 0) W
   obtain ⟨lo, hlo⟩ : ∃ lo, lowB (nth L 0) = lo := ⟨_, rfl⟩
   rw [hlo] at hlow
   obtain ⟨F, hF⟩ : ∃ F, nth L 0 ^^^ (nth M 0 &&& lo) = F := ⟨_, rfl⟩
   have hL1 : mfirst M L = L.set 0 F := by unfold mfirst; rw [hlo, hF]
   have O2 := Lib.hid (own_stored o1 0 F)
   have B2 := Lib.hid (show Below w.heap.size w ((wZ.setRow BM (bvs M)).setCell ⟨g, 0, none⟩ (.int .u8 (n8 F : Nat))) from b1.setCell (by show w.heap.size ≤ g; omega) _)
   have RH2 := Lib.hid (show row? ((wZ.setRow BM (bvs M)).setCell ⟨g, 0, none⟩ (.int .u8 (n8 F : Nat))) (w.heap.size + 1) = some (hvA lg kind ver (.slice ad dst.length cd) (.slice as_ src.length cs) (.slice at_ tok.length ct) sp ph (n64 u) n) by rw [row?_setCell_ne _ _ _ _ (by show w.heap.size + 1 ≠ g; omega)]; exact rh1)
   have RM2 := Lib.hid (show row? ((wZ.setRow BM (bvs M)).setCell ⟨g, 0, none⟩ (.int .u8 (n8 F : Nat))) BM = some (bvs M) by rw [row?_setCell_ne _ _ _ _ (by show BM ≠ g; omega)]; exact rm1)
   have HL1 := Lib.hid hL1
   clear hlo hL1 o1 b1 rh1 rm1 e7 e8 hfr hne hncap
   go_wp2_with (first
    |(with_reducible refine Rg.plan_pure ?_ ?_ ?_); kernel_rfl; kernel_rfl; intro _ _|(with_reducible refine Rg.plan_take ?_ ?_ ?_); kernel_rfl; kernel_rfl; intro _ _|(with_reducible refine Rg.plan_keep ?_ ?_); kernel_rfl; intro K hK|refine hK _ _ (Rg.Keep.refl _) ?_; clear hK|refine hK _ _ (Rg.Keep.of_below (by assumption)) ?_; clear hK|(with_reducible refine Rg.plan_skip ?_ ?_); kernel_rfl|(with_reducible refine Rg.plan_done ?_)|(with_reducible refine Rg.calm_normal ?_))
   refine Rg.wp_region_plan (Rg.row [(0, 3), (1, 3), (2, 3), (3, 0), (4, 3), (5, 0), (6, 3), (7, 3), (8, 0), (9, 1), (10, 3), (11, 3), (12, 3)] [13]) [13] (by kernel_rfl) (by kernel_rfl) ?_
   simp only [Rg.row, Rg.PT.map, List.map_cons, List.map_nil, List.getD_cons_zero, List.getD_cons_succ]
   go_wp2_with (first
    |(with_reducible refine Rg.plan_pure ?_ ?_ ?_); kernel_rfl; kernel_rfl; intro _ _|(with_reducible refine Rg.plan_take ?_ ?_ ?_); kernel_rfl; kernel_rfl; intro _ _|(with_reducible refine Rg.plan_keep ?_ ?_); kernel_rfl; intro K hK|refine hK _ _ (Rg.Keep.refl _) ?_; clear hK|refine hK _ _ (Rg.Keep.of_below (by assumption)) ?_; clear hK|(with_reducible refine Rg.plan_skip ?_ ?_); kernel_rfl|(with_reducible refine Rg.plan_done ?_)|(with_reducible refine Rg.calm_normal ?_))
   refine (hlow _).mono ?_
   rintro e wq ⟨rfl, rfl⟩
   refine hK _ _ (Rg.Keep.refl _) ?_
   clear hK
   go_wp2_with (first
    |(with_reducible refine Rg.plan_pure ?_ ?_ ?_); kernel_rfl; kernel_rfl; intro _ _|(with_reducible refine Rg.plan_take ?_ ?_ ?_); kernel_rfl; kernel_rfl; intro _ _|(with_reducible refine Rg.plan_keep ?_ ?_); kernel_rfl; intro K hK|refine hK _ _ (Rg.Keep.refl _) ?_; clear hK|refine hK _ _ (Rg.Keep.of_below (by assumption)) ?_; clear hK|(with_reducible refine Rg.plan_skip ?_ ?_); kernel_rfl|(with_reducible refine Rg.plan_done ?_)|(with_reducible refine Rg.calm_normal ?_))
   clear c0 m0 fO
   have hmm : mmany (L.set 0 F) n = n := by unfold mmany; rw [if_neg (by omega)]
   have HMm := Lib.hid hmm
   clear hmm
   go_loopw [12] (fun v wr => ∃ k : Nat, k ≤ n ∧ v = .int .i64 (k : Nat) ∧ wr.ownsRow w1.heap.size 5 1 (.slice (some ⟨g, 0, none⟩) L.length cap) L.length ((mset M a (L.set 0 F) k).map bv) ∧ row? wr BM = some (bvs M) ∧ row? wr (w.heap.size + 1) = some (hvA lg kind ver (.slice ad dst.length cd) (.slice as_ src.length cs) (.slice at_ tok.length ct) sp ph (n64 u) n) ∧ Below w.heap.size w wr) (fun v _ => n - (intOf v).toNat)
   case atStart => exact ⟨0, by omega, rfl, O2.out, RM2.out, RH2.out, B2.out.drew⟩
   case round =>
    obtain ⟨k, hk, rfl, ho, hr, hh, hg⟩ := hrel
    have hlen : (mset M a (L.set 0 F) k).length = L.length := by rw [mset_length, List.length_set]
    have HO := Lib.hid ho
    have HR := Lib.hid hr
    have HH := Lib.hid hh
    have HG := Lib.hid hg
    have cn : wr.cell? ⟨w.heap.size + 1, 9, none⟩ = some (.int .i64 (n : Nat)) := row?_cell hh 9
    by_cases hlt : k < n
    ·have p : decide (k < n) = true := decide_eq_true hlt
     have e1 : wr.cell? ⟨g, a + k, none⟩ = some (.int .u8 (n8 (nth (mset M a (L.set 0 F) k) (a + k)) : Nat)) := by
      rw [ho.cellAt (a + k) (by omega)]
      simp [nth, bv, n8, show a + k < (mset M a (L.set 0 F) k).length by omega]
     have e2 : wr.cell? ⟨BM, 1 + k, none⟩ = some (.int .u8 (n8 (nth M (1 + k)) : Nat)) := by rw [row?_cell hr, bvs_getElem?, if_pos (by omega)]
     have e3 := ho.frozenAt (a + k)
     have HN := Lib.hid (own_stored ho (a + k) (nth (mset M a (L.set 0 F) k) (a + k) ^^^ nth M (1 + k)))
     have HGN := Lib.hid (show Below w.heap.size w (wr.setCell ⟨g, a + k, none⟩ (.int .u8 (n8 (nth (mset M a (L.set 0 F) k) (a + k) ^^^ nth M (1 + k)) : Nat))) from hg.setCell (by show w.heap.size ≤ g; omega) _)
     have HLT := Lib.hid hlt
     have hik : a + k < L.length := by omega
     have hik2 : 1 + k < 16 := by omega
     clear ho hr hg hh
     go_wp2_with fail
     refine Rg.wp_region_plan (Rg.row [(0, 3), (1, 3), (2, 3), (3, 3), (4, 3), (5, 3), (6, 3), (7, 3), (8, 3), (9, 0), (10, 3), (11, 3), (12, 3), (13, 0), (14, 3), (15, 3)] [16]) [16] (by kernel_rfl) (by kernel_rfl) ?_
     simp only [Rg.row, Rg.PT.map, List.map_cons, List.map_nil, List.getD_cons_zero, List.getD_cons_succ]
     go_wp2_with (first
      |(with_reducible refine Rg.plan_pure ?_ ?_ ?_); kernel_rfl; kernel_rfl; intro _ _|(with_reducible refine Rg.plan_take ?_ ?_ ?_); kernel_rfl; kernel_rfl; intro _ _|(with_reducible refine Rg.plan_keep ?_ ?_); kernel_rfl; intro K hK|refine hK _ _ (Rg.Keep.refl _) ?_; clear hK|refine hK _ _ (Rg.Keep.of_below (by assumption)) ?_; clear hK|(with_reducible refine Rg.plan_skip ?_ ?_); kernel_rfl|(with_reducible refine Rg.plan_done ?_)|(with_reducible refine Rg.calm_normal ?_))
     go_roundw
     case rel => exact ⟨k + 1, HLT.out, by go_num, HN.out, (row?_setCell_ne _ _ _ _ (by show BM ≠ g; omega)).trans HR.out, (row?_setCell_ne _ _ _ _ (by show w.heap.size + 1 ≠ g; omega)).trans HH.out, HGN.out.drew⟩
     case measure => have := HLT.out; simp [intOf]; omega
    ·obtain rfl : k = n := by omega
     clear ho hr hg hh
     go_wp2_with fail
     go_ret2
     rw [← HRR.out]
     refine ⟨_, rfl, ?_, HG.out⟩
     have ho := HO.out
     have hW : maskW msk L a k = mset M a (L.set 0 F) k := by rw [maskW, HMM.out, HL1.out, HMm.out]
     rw [← hW, ← HLC.out.1, ← HHA.out.1, ← HC.out] at ho
     have hpL : (packB key iv msk H text u k).length = L.length := by rw [hpl, HLC.out.2, HCl.out]
     show wr.ownsRow w.heap.size 5 1 (.slice (some ⟨g, 0, none⟩) L.length cap) (packB key iv msk H text u k).length ((packB key iv msk H text u k).map bv)
     rw [hpL]
     exact own_lower (by rw [← HLC.out.1, ← HC.out]; exact ho) (by omega)
end Go.Proofs.Ytjlpppnpdgenfaa
