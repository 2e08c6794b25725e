/- VltSe; VltO; VltK. -/
import Derived.Test.YtjlpppnpdgenfaaMvb21
import Derived.Test.YtjlpppnpdgenfaaMvbLibF
import Derived.Test.YtjlpppnpdgenfaaMvb22
import Derived.Test.YtjlpppnpdgenfaaMvbGcmW7
import Derived.Test.YtjlpppnpdgenfaaMvbVltT
import Derived.Test.YtjlpppnpdgenfaaMvb16
section
namespace Go.Proofs.Ytjlpppnpdgenfaa
open Go.RowKit Go.Rw Aes Hdr Vlt
attribute [local go_sem ↓] hvA_0 hvA_1 hvA_2 hvA_3 hvA_4 hvA_5 hvA_6 hvA_7 hvA_8 hvA_9
attribute [local go_sem ↓] ldH stH alH ld16 st16 al16 ld12 shift_shr8 bvs_getElem?
attribute [local go_sem] rldH rstH ralH setRow_alloc_at setRow_alloc_past setRow_drew bvs_setn
theorem AgK : Agg Try.prog 25 44 := ⟨⟨_, Try.underlying25, rfl⟩, by kernel_rfl⟩
theorem ldK (x : Value) : Instr.loadAt 25 x = loadAgg 25 x := rfl
theorem rldK (w : World) (b : Nat) (K : List UInt8) (h : row? w b = some (bvs K)) (hl : K.length = 44) : (loadAgg 25 (.pointer (some ⟨b, 0, none⟩))).run Try.prog w = .ok (.agg (bvs K)) w := by
 rw [load_rule AgK w b (by rw [h]; simp [bvs_size, hl]), h]; rfl
attribute [local go_sem ↓] ldK
set_option maxRecDepth 100000 in
set_option maxHeartbeats 4000000 in
theorem vseal_any (key iv msk : List UInt8) (hk : key.length = 16) (hiv : iv.length = 12) (hmk : msk.length = 16) (lg : Bool) (kind : Int) (ver : Nat) (dst src tok : List UInt8) (sp ph : Bool) (u : UInt64) (nl : Int) (text : List UInt8) (hver : ver < 4294967296) (htl : text.length ≤ 1000000) (vd vs vt vx : Value) (w : World) (hsd : Sl w vd dst) (hss : Sl w vs src) (hst : Sl w vt tok) (hsx : Sl w vx text) :
  Calls Try.prog 11 #[.agg (bvs (ksB key iv msk)), .agg (hvA lg kind ver vd vs vt sp ph (n64 u) nl), vx] w fun e w' =>
   ∃ v, e = .returned (.tuple #[v, .int .i64 (sealR key iv msk lg kind ver dst src tok sp ph u nl text).2]) ∧ w'.ownsRow w.heap.size 5 1 v (sealR key iv msk lg kind ver dst src tok sp ph u nl text).1.length ((sealR key iv msk lg kind ver dst src tok sp ph u nl text).1.map bv) ∧ Below w.heap.size w w' := by
 obtain ⟨i0, hi, hz0, hz1, hz2⟩ := info_parts info8
 obtain ⟨ad, cd, rfl, -, -, -⟩ := id hsd
 obtain ⟨as_, cs, rfl, -, -, -⟩ := id hss
 obtain ⟨at_, ct, rfl, -, -, -⟩ := id hst
 obtain ⟨ax, cx, rfl, -, -, -⟩ := id hsx
 have hKl := ksB_length hk hiv hmk
 have hKk := ksB_key (iv := iv) (msk := msk) hk
 have hKi := ksB_iv (msk := msk) hk hiv
 have HSD := Lib.hid hsd
 have HSS := Lib.hid hss
 have HST := Lib.hid hst
 have HSX := Lib.hid hsx
 obtain ⟨R, hR⟩ : ∃ R, sealR key iv msk lg kind ver dst src tok sp ph u nl text = R := ⟨_, rfl⟩
 rw [hR]
 cases hm : mayN lg kind ver dst.length src.length tok.length sp ph (n64 u) nl with
 | false =>
  rw [sealR_no hm] at hR
  have HRR := Lib.hid hR
  clear hR hsd hss hst hsx
  generalize ksB key iv msk = K at *
  go_enter Try.func11, Try.ntmps11
  go_wp2_with fail
  refine (may_any lg kind ver ad as_ at_ dst.length src.length tok.length cd cs ct sp ph (n64 u) nl _).mono ?_
  rintro e w1 ⟨rfl, hb1⟩
  rw [hm]
  have hbw : Below w.heap.size w w1 := (bel2 w _ _).trans (hb1.mono (by simp; omega))
  clear hb1 hm
  go_wp2_with fail
  go_ret2
  rw [← HRR.out]
  exact ⟨_, rfl, World.ownsRow_nil _ _ _ _, hbw⟩
 | true =>
  obtain ⟨f1, f2, f3, f4, f5, f6, -, -⟩ := may_facts hm
  obtain ⟨n, rfl⟩ : ∃ n : Nat, nl = (n : Int) := ⟨nl.toNat, by omega⟩
  clear f3
  have g1 : 1 ≤ n := by omega
  have g2 : n ≤ 4 := by omega
  clear f1 f2
  have F4 := Lib.hid f4
  clear f4
  by_cases h4 : (n : Int) + (text.length : Int) < 4
  ·rw [sealR_low h4] at hR
   have HRR := Lib.hid hR
   have H4 := Lib.hid h4
   clear hR hsd hss hst hsx
   generalize ksB key iv msk = K at *
   go_enter Try.func11, Try.ntmps11
   go_wp2_with fail
   refine (may_any lg kind ver ad as_ at_ dst.length src.length tok.length cd cs ct sp ph (n64 u) n _).mono ?_
   rintro e w1 ⟨rfl, hb1⟩
   rw [hm]
   have hbw : Below w.heap.size w w1 := (bel2 w _ _).trans (hb1.mono (by simp; omega))
   have r1 : row? w1 (w.heap.size + 1) = some (hvA lg kind ver (.slice ad dst.length cd) (.slice as_ src.length cs) (.slice at_ tok.length ct) sp ph (n64 u) n) := by rw [row?_below hb1 (by simp)]; simp [go_sem]
   have c9' : w1.cell? ⟨w.heap.size + 1, 9, none⟩ = some (.int .i64 (n : Nat)) := row?_cell r1 9
   clear hb1 hm
   go_wp2_with fail
   go_ret2
   rw [← HRR.out]
   exact ⟨_, rfl, World.ownsRow_nil _ _ _ _, hbw⟩
  by_cases h2 : 2000 < text.length
  ·rw [sealR_long hm h4 h2] at hR
   have HRR := Lib.hid hR
   have H4 := Lib.hid h4
   clear hR hsd hss hst hsx
   generalize ksB key iv msk = K at *
   go_enter Try.func11, Try.ntmps11
   go_wp2_with fail
   refine (may_any lg kind ver ad as_ at_ dst.length src.length tok.length cd cs ct sp ph (n64 u) n _).mono ?_
   rintro e w1 ⟨rfl, hb1⟩
   rw [hm]
   have hbw : Below w.heap.size w w1 := (bel2 w _ _).trans (hb1.mono (by simp; omega))
   have r1 : row? w1 (w.heap.size + 1) = some (hvA lg kind ver (.slice ad dst.length cd) (.slice as_ src.length cs) (.slice at_ tok.length ct) sp ph (n64 u) n) := by rw [row?_below hb1 (by simp)]; simp [go_sem]
   have c9' : w1.cell? ⟨w.heap.size + 1, 9, none⟩ = some (.int .i64 (n : Nat)) := row?_cell r1 9
   clear hb1 hm
   go_wp2_with fail
   go_ret2
   rw [← HRR.out]
   exact ⟨_, rfl, World.ownsRow_nil _ _ _ _, hbw⟩
  rw [sealR_ok hm h4 h2] at hR
  obtain ⟨hH1, hH2⟩ := headB_length (lg := lg) (kind := kind) (ver := ver) (dst := dst) (src := src) (tok := tok) (sp := sp) (ph := ph) (num := n64 u) (nl := n) (rest := text.length + 16) F4.out f5 f6 (by omega)
  have hput := fun W => put_u lg kind ver dst src tok sp ph (n64 u) n (text.length + 16) hm hver (by omega) (.slice ad dst.length cd) (.slice as_ src.length cs) (.slice at_ tok.length ct) W
  generalize headB lg kind ver dst src tok sp ph (n64 u) n (text.length + 16) = H at hR hH1 hH2 hput
  have hpl := packB_length key iv msk H text u n
  obtain ⟨C, hC⟩ : ∃ C, Gcm.sealed key (nonce iv u) text H = C := ⟨_, rfl⟩
  have hCl : C.length = text.length + 16 := by rw [← hC]; exact Gcm.sealed_length ..
  obtain ⟨N, hN⟩ : ∃ N, nonce iv u = N := ⟨_, rfl⟩
  have hNl : N.length = 12 := by rw [← hN]; exact (nv_length iv u 8).trans hiv
  have HRR := Lib.hid hR
  have H4 := Lib.hid h4
  have HC := Lib.hid hC
  have HN := Lib.hid hN
  clear hR hsd hss hst hsx hC hN
  have hmask := fun W g cap o => mask_any key iv msk (H ++ C) hk hiv hmk (H.length - n) n g cap w.heap.size (by rw [List.length_append]; omega) (by rw [List.length_append]; omega) (by omega) W o
  generalize hKK : ksB key iv msk = KB at *
  go_enter Try.func11, Try.ntmps11
  go_wp2_with fail
  refine (may_any lg kind ver ad as_ at_ dst.length src.length tok.length cd cs ct sp ph (n64 u) n _).mono ?_
  rintro e w1 ⟨rfl, hb1⟩
  rw [hm]
  have hbw : Below w.heap.size w w1 := (bel2 w _ _).trans (hb1.mono (by simp; omega))
  have z1 := hb1.size
  simp at z1
  have r1 : row? w1 (w.heap.size + 1) = some (hvA lg kind ver (.slice ad dst.length cd) (.slice as_ src.length cs) (.slice at_ tok.length ct) sp ph (n64 u) n) := by rw [row?_below hb1 (by simp)]; simp [go_sem]
  have r0 : row? w1 w.heap.size = some (bvs KB) := by rw [row?_below hb1 (by simp; omega)]; simp [go_sem]
  have c9' : w1.cell? ⟨w.heap.size + 1, 9, none⟩ = some (.int .i64 (n : Nat)) := row?_cell r1 9
  have R0 := Lib.hid r0
  clear hb1 hm r0
  go_wp2_with fail
  have HM := Lib.hid hmask
  have R1 := Lib.hid r1
  clear hmask
  refine (hput _ ?_ ?_ ?_).mono ?_
  ·exact HSD.out.below hbw
  ·exact HSS.out.below hbw
  ·exact HST.out.below hbw
  rintro e w2 ⟨vh, rfl, hsh, hb2⟩
  have z2 := hb2.size
  have hbw2 : Below w.heap.size w w2 := hbw.trans (hb2.mono (by omega))
  have r0 : row? w2 w.heap.size = some (bvs KB) := by rw [row?_below hb2 (by omega)]; exact R0.out
  have r1' : row? w2 (w.heap.size + 1) = some (hvA lg kind ver (.slice ad dst.length cd) (.slice as_ src.length cs) (.slice at_ tok.length ct) sp ph (n64 u) n) := by rw [row?_below hb2 (by omega)]; exact R1.out
  obtain ⟨ah, ch, rfl, -, -, -⟩ := id hsh
  have HSH := Lib.hid hsh
  have HP := Lib.hid hput
  clear hb2 r1 c9' hsh hput
  have R0 := Lib.hid r0
  have R1 := Lib.hid r1'
  clear r0 r1'
  go_wp2_with fail
  have l1 : (loadAgg 22 (.pointer (some ⟨w.heap.size, 0, none⟩))).run Try.prog w2.drew = .ok (.agg (bvs key)) w2.drew := part16 w2.drew _ _ _ _ R0.out (by simp only [bvs_size]; omega) hKk
  have l2 : (loadAgg 23 (.pointer (some ⟨w.heap.size, 16, none⟩))).run Try.prog w2.drew = .ok (.agg (bvs iv)) w2.drew := part12 w2.drew _ _ _ _ R0.out (by simp only [bvs_size]; omega) hKi
  have c8 : w2.cell? ⟨w.heap.size + 1, 8, none⟩ = some (.int .u64 (n64 u : Nat)) := row?_cell R1.out 8
  refine Rg.wp_region_plan (Rg.row [(0, 3), (2, 3), (3, 0), (4, 3), (5, 0), (6, 3), (7, 0), (9, 3), (10, 3), (1, 1), (8, 1), (11, 1)] [12, 13]) [12, 13] (by kernel_rfl) (by kernel_rfl) ?_
  simp only [Rg.row, Rg.PT.map, List.map_cons, List.map_nil, List.getD_cons_zero, List.getD_cons_succ]
  go_wp2_with (first
   |(with_reducible refine Rg.plan_pure ?_ ?_ ?_); kernel_rfl; kernel_rfl; intro _ _|(with_reducible refine Rg.plan_take ?_ ?_ ?_); kernel_rfl; kernel_rfl; intro _ _|(with_reducible refine Rg.plan_keep ?_ ?_); kernel_rfl; intro K hK|refine hK _ _ (Rg.Keep.refl _) ?_; clear hK|refine hK _ _ (Rg.Keep.of_below (by assumption)) ?_; clear hK|(with_reducible refine Rg.plan_skip ?_ ?_); kernel_rfl|(with_reducible refine Rg.plan_done ?_)|(with_reducible refine Rg.calm_normal ?_))
  refine (clone_any H (by omega) _ _ (HSH.out.below (Below.refl _ _).drew)).mono ?_
  rintro e w3 ⟨vc, rfl, oc, hb3⟩
  refine hK _ _ (Rg.Keep.of_below hb3) ?_
  clear hK
  have z3 := hb3.size
  simp at z3 oc
  have OC := Lib.hid oc
  have HB3 := Lib.hid hb3
  clear oc hb3
  go_wp2_with (first
   |(with_reducible refine Rg.plan_pure ?_ ?_ ?_); kernel_rfl; kernel_rfl; intro _ _|(with_reducible refine Rg.plan_take ?_ ?_ ?_); kernel_rfl; kernel_rfl; intro _ _|(with_reducible refine Rg.plan_keep ?_ ?_); kernel_rfl; intro K hK|refine hK _ _ (Rg.Keep.refl _) ?_; clear hK|refine hK _ _ (Rg.Keep.of_below (by assumption)) ?_; clear hK|(with_reducible refine Rg.plan_skip ?_ ?_); kernel_rfl|(with_reducible refine Rg.plan_done ?_)|(with_reducible refine Rg.calm_normal ?_))
  refine (nonce_any iv hiv u _).mono ?_
  rintro e w4 ⟨rfl, hb4⟩
  rw [HN.out]
  refine hK _ _ (Rg.Keep.of_below hb4) ?_
  clear hK
  have z4 := hb4.size
  have HB4 := Lib.hid hb4
  clear hb4
  go_wp2_with (first
   |(with_reducible refine Rg.plan_pure ?_ ?_ ?_); kernel_rfl; kernel_rfl; intro _ _|(with_reducible refine Rg.plan_take ?_ ?_ ?_); kernel_rfl; kernel_rfl; intro _ _|(with_reducible refine Rg.plan_keep ?_ ?_); kernel_rfl; intro K hK|refine hK _ _ (Rg.Keep.refl _) ?_; clear hK|refine hK _ _ (Rg.Keep.of_below (by assumption)) ?_; clear hK|(with_reducible refine Rg.plan_skip ?_ ?_); kernel_rfl|(with_reducible refine Rg.plan_done ?_)|(with_reducible refine Rg.calm_normal ?_))
  refine (seal_any key N text H hk hNl htl (by omega) _ _ _ ((HSX.out.below hbw2).below ((Below.refl _ _).drew.trans (HB3.out.trans (HB4.out.mono z3)))) (HSH.out.below ((Below.refl _ _).drew.trans (HB3.out.trans (HB4.out.mono z3))))).mono ?_
  rintro e w5 ⟨g, rfl, og, hb5⟩
  have hC : Gcm.sealed key N text H = C := by rw [← HN.out]; exact HC.out
  rw [hC] at og
  have hsC : Sl w5 (.slice (some ⟨g, 0, none⟩) (text.length + 16) (text.length + 16)) C := by rw [← hCl] at og ⊢; exact Own.sl og
  clear og
  generalize (Value.slice (some ⟨g, 0, none⟩) (text.length + 16) (text.length + 16)) = vg at hsC ⊢
  refine hK _ _ (Rg.Keep.of_below hb5) ?_
  clear hK hC
  have z5 := hb5.size
  have OC5 := Lib.hid (Go.Rw.own_below (Go.Rw.own_below OC.out HB4.out) hb5)
  have SC := Lib.hid hsC
  have b5 : Below w.heap.size w w5 := hbw2.trans ((Below.refl _ _).drew.trans ((HB3.out.mono (by simp; omega)).trans ((HB4.out.mono (by omega)).trans (hb5.mono (by omega)))))
  have R15 := Lib.hid (show row? w5 (w.heap.size + 1) = some (hvA lg kind ver (.slice ad dst.length cd) (.slice as_ src.length cs) (.slice at_ tok.length ct) sp ph (n64 u) n) by rw [row?_below hb5 (by omega), row?_below HB4.out (by omega), row?_below HB3.out (by simp; omega)]; exact R1.out)
  have R05 := Lib.hid (show row? w5 w.heap.size = some (bvs KB) by rw [row?_below hb5 (by omega), row?_below HB4.out (by omega), row?_below HB3.out (by simp; omega)]; exact R0.out)
  clear hsC hb5 c8 l1 l2
  go_wp2_with (first
   | (at_builtin; refine Classical.byContradiction ?_)
   |(with_reducible refine Rg.plan_pure ?_ ?_ ?_); kernel_rfl; kernel_rfl; intro _ _|(with_reducible refine Rg.plan_take ?_ ?_ ?_); kernel_rfl; kernel_rfl; intro _ _|(with_reducible refine Rg.plan_keep ?_ ?_); kernel_rfl; intro K hK|refine hK _ _ (Rg.Keep.refl _) ?_; clear hK|refine hK _ _ (Rg.Keep.of_below (by assumption)) ?_; clear hK|(with_reducible refine Rg.plan_skip ?_ ?_); kernel_rfl|(with_reducible refine Rg.plan_done ?_)|(with_reducible refine Rg.calm_normal ?_))
  intro hh; apply hh; clear hh
  refine app_sl rfl _ _ 27 rfl w2.heap.size 5 i0 Try.underlying27 hi hz0 hz1 hz2 vc H rfl OC5.out vg C rfl SC.out (by omega) (by omega) ?_
  intro v6 w6 o6 g6
  have hq6 : ∀ q, vc.ownBlock = some q → w2.heap.size ≤ q := fun q hq => (OC5.out.lt q hq).1
  have b6 : Below w.heap.size w w6 := b5.grown g6 (by omega) (fun q hq => by have := hq6 q hq; omega)
  have R16 := Lib.hid (show row? w6 (w.heap.size + 1) = some (hvA lg kind ver (.slice ad dst.length cd) (.slice as_ src.length cs) (.slice at_ tok.length ct) sp ph (n64 u) n) from row_grown g6 R15.out (fun h => by have := hq6 _ h.symm; omega))
  have R06 := Lib.hid (show row? w6 w.heap.size = some (bvs KB) from row_grown g6 R05.out (fun h => by have := hq6 _ h.symm; omega))
  have hlHC : (H ++ C).length = H.length + C.length := List.length_append
  obtain ⟨g, cap, hv6, hgB⟩ : ∃ g cap, v6 = .slice (some ⟨g, 0, none⟩) (H ++ C).length cap ∧ w2.heap.size ≤ g := by
   rcases o6.2 with ⟨_, h0⟩ | ⟨g, cap, cur, e, hb, _⟩
   ·omega
   ·exact ⟨g, cap, e, hb⟩
  rw [hv6] at o6
  have O6 := Lib.hid o6
  have GG := Lib.hid g6
  obtain ⟨a, ha⟩ : ∃ a, H.length - n = a := ⟨_, rfl⟩
  have hHa : H.length = a + n := by omega
  have HHA := Lib.hid (And.intro ha hHa)
  have l9 : (loadAgg 25 (.pointer (some ⟨w.heap.size, 0, none⟩))).run Try.prog w6 = .ok (.agg (bvs KB)) w6 := rldK w6 _ _ R06.out hKl
  have c9 : w6.cell? ⟨w.heap.size + 1, 9, none⟩ = some (.int .i64 (n : Nat)) := row?_cell R16.out 9
  have h9 : (H.length : Int) - (n : Int) = (a : Nat) := by omega
  rw [hv6]
  have hHM := HM.out
  obtain ⟨L, hL⟩ : ∃ L, (H ++ C).length = L := ⟨_, rfl⟩
  rw [hL] at O6 hHM ⊢
  rw [ha] at hHM
  have HV6 := Lib.hid hv6
  have HLC := Lib.hid hlHC
  have HLL := Lib.hid hL
  have HM2 := Lib.hid (hHM w6 g cap (own_lower O6.out (by omega)))
  have HCl := Lib.hid hCl
  clear o6 g6 hv6 ha hHa hlHC hL hHM hCl HM
  go_wp2_with (first
   |(with_reducible refine Rg.plan_pure ?_ ?_ ?_); kernel_rfl; kernel_rfl; intro _ _|(with_reducible refine Rg.plan_take ?_ ?_ ?_); kernel_rfl; kernel_rfl; intro _ _|(with_reducible refine Rg.plan_keep ?_ ?_); kernel_rfl; intro K hK|refine hK _ _ (Rg.Keep.refl _) ?_; clear hK|refine hK _ _ (Rg.Keep.of_below (by assumption)) ?_; clear hK|(with_reducible refine Rg.plan_skip ?_ ?_); kernel_rfl|(with_reducible refine Rg.plan_done ?_)|(with_reducible refine Rg.calm_normal ?_))
  refine HM2.out.mono ?_
  rintro e w7 ⟨rfl, o7, g7⟩
  have O7 := Lib.hid o7
  have b7 : Below w.heap.size w w7 := b6.grown g7 b6.size (fun q hq => by have e : g = q := Option.some.inj hq; have := hbw2.size; omega)
  clear o7 g7 l9 c9
  go_wp2_with fail
  go_ret2
  rw [← HRR.out]
  refine ⟨_, rfl, ?_, b7⟩
  have ho := O7.out
  rw [← HHA.out.1, ← HC.out] at ho
  have hpL : (packB key iv msk H text u n).length = L := by rw [hpl, ← HLL.out, List.length_append, HCl.out]
  show w7.ownsRow w.heap.size 5 1 (.slice (some ⟨g, 0, none⟩) L cap) (packB key iv msk H text u n).length ((packB key iv msk H text u n).map bv)
  rw [hpL]
  exact ho
end Go.Proofs.Ytjlpppnpdgenfaa

end
section
namespace Go.Rw
open Go Go.RowKit
theorem Sl.first {w : World} {ao : Option Addr} {n cap : Nat} {l : List UInt8} (h : Sl w (.slice ao n cap) l) (m : Nat) (hm : m ≤ n) : Sl w (.slice ao m cap) (l.take m) := by
 obtain ⟨ao', cap', e, hc, hn, hp⟩ := h
 cases e
 have hl : (l.take m).length = m := by rw [List.length_take]; omega
 refine ⟨ao, cap, by rw [hl], by rw [hl]; omega, hn, fun h0 => ?_⟩
 rw [hl] at h0
 obtain ⟨b, off, rfl, hcell⟩ := hp (by omega)
 refine ⟨b, off, rfl, fun k hk => ?_⟩
 rw [hl] at hk
 rw [hcell k (by omega)]
 unfold nth
 rw [List.getElem?_take, if_pos hk]
theorem results_row3 {P : Program} {fn : Func} {p a b : Tmp} {t n : Nat} (A : Agg P t n) (hr : fn.results = #[.cell p t, .tmp a, .tmp b]) (tmps : Array Value) (w : World) (blk : Nat) (cells : Array Value)
  (hp : tmps.getD p undef = .pointer (some ⟨blk, 0, none⟩)) (h : row? w blk = some cells) (hn : cells.size = n) : (results fn tmps).run P w = .ok (.tuple #[.agg cells, tmps.getD a undef, tmps.getD b undef]) w := by
 have h1 := results_row (fn := { fn with results := #[.cell p t] }) A rfl tmps w blk cells hp h hn
 simp only [results] at h1 ⊢
 simp [hr, Sem.run_bind, Result.andThen] at h1 ⊢
 cases hq : Sem.run P (asAddr (tmps[p]?.getD undef)) w with
 | ok x w1 =>
  rw [hq] at h1
  simp only [] at h1 ⊢
  rw [h1]
 | halt x w1 => rw [hq] at h1; cases h1
end Go.Rw
namespace Vlt
open Go.Rw Hdr
theorem full_lt (c : Nat) (n : Int) (largest : Nat) (any : Bool) : full c n largest any < 18446744073709551616 := by
 unfold full
 split
 ·decide
 ·rename_i h
  have hw : Hdr.wide n = 256 ∨ wide n = 65536 ∨ wide n = 16777216 ∨ wide n = 4294967296 := by
   unfold Hdr.wide
   split
   ·exact .inl rfl
   split
   ·exact .inr (.inl rfl)
   split
   ·exact .inr (.inr (.inl rfl))
   ·exact .inr (.inr (.inr rfl))
  have hx : (if any = true then largest + 1 else 0) ≤ 4611686018427387904 := by split <;> omega
  generalize (if any = true then largest + 1 else 0) = x at hx
  generalize Hdr.wide n = W at hw
  unfold fullW
  have h1 : x / W * W ≤ x := Nat.div_mul_le_self _ _
  have h2 : c % W < W := Nat.mod_lt _ (by omega)
  generalize x / W * W = o at *
  generalize c % W = r at *
  simp only []
  split
  ·omega
  split <;> omega
end Vlt
namespace Go.Proofs.Ytjlpppnpdgenfaa
open Go.RowKit Go.Rw Aes Hdr Vlt
attribute [local go_sem ↓] bdH hvA_0 hvA_1 hvA_2 hvA_3 hvA_4 hvA_5 hvA_6 hvA_7 hvA_8 hvA_9
attribute [local go_sem ↓] ldH stH alH ld16 st16 al16 ld12 ldK shift_shr8 bvs_getElem?
attribute [local go_sem] rldH rstH ralH rld16 rst16 ral16 setRow_alloc_at setRow_alloc_past setRow_drew bvs_setn buildH buildH0
def OpenPost (w : World) (q : Hd × List UInt8 × Int) (e : Ending) (w' : World) : Prop :=
 ∃ vd vs vt vx, e = .returned (.tuple #[.agg (hvA q.1.long q.1.kind q.1.ver vd vs vt q.1.spin q.1.phase q.1.num q.1.nl), vx, .int .i64 q.2.2]) ∧
  w'.ownsRow w.heap.size 5 1 vd q.1.dst.length (q.1.dst.map bv) ∧ w'.ownsRow w.heap.size 5 1 vs q.1.src.length (q.1.src.map bv) ∧ w'.ownsRow w.heap.size 5 1 vt q.1.tok.length (q.1.tok.map bv) ∧
  w'.ownsRow w.heap.size 5 1 vx q.2.1.length (q.2.1.map bv) ∧ Below w.heap.size w w'
theorem OpenPost.none {w w' : World} {x : Int} (h : Below w.heap.size w w') : OpenPost w (hd0, [], x) (.returned (.tuple #[.agg (hvA false 0 0 (.slice none 0 0) (.slice none 0 0) (.slice none 0 0) false false 0 0), .slice none 0 0, .int .i64 x])) w' :=
 ⟨_, _, _, _, rfl, World.ownsRow_nil _ _ _ _, World.ownsRow_nil _ _ _ _, World.ownsRow_nil _ _ _ _, World.ownsRow_nil _ _ _ _, h⟩
set_option maxRecDepth 100000 in
set_option maxHeartbeats 4000000 in
theorem vopen_any (key iv msk : List UInt8) (hk : key.length = 16) (hiv : iv.length = 12) (hmk : msk.length = 16) (b : List UInt8) (hb : b.length ≤ 1000000) (largest : Nat) (hlg : largest < 18446744073709551616) (any : Bool) (vb : Value) (w : World) (hsb : Sl w vb b) :
  Calls Try.prog 14 #[.agg (bvs (ksB key iv msk)), vb, .int .u64 (largest : Nat), .bool any] w (OpenPost w (openV key iv msk b largest any)) := by
 obtain ⟨ao, cap, rfl, hcap, -, -⟩ := id hsb
 have hKl := ksB_length hk hiv hmk
 have hKk := ksB_key (iv := iv) (msk := msk) hk
 have hKi := ksB_iv (msk := msk) hk hiv
 obtain ⟨R, hR⟩ : ∃ R, openV key iv msk b largest any = R := ⟨_, rfl⟩
 rw [hR]
 have hah := fun W (h : Sl W (.slice ao b.length cap) b) => ahead_w b hb (.slice ao b.length cap) W h
 rw [aheadP_Q b hb] at hah
 unfold aheadQ at hah
 unfold openV at hR
 have HSB := Lib.hid hsb
 have HLG := Lib.hid hlg
 clear hsb hlg
 cases hl : lead b true with
 | error x =>
  have hx := lead_err hl
  rw [hl] at hah hR
  have HAH := Lib.hid hah
  have HRR := Lib.hid hR
  have hx' : (x != 0) = true := by simpa using hx
  clear hah hR hl hx
  generalize ksB key iv msk = KB at *
  go_enter Try.func14, Try.ntmps14
  go_wp2_with fail
  refine (HAH.out _ (HSB.out.below (bel2 w _ _))).mono ?_
  rintro e w1 ⟨rfl, hb1⟩
  have z1 := hb1.size
  simp at z1
  have r1 : row? w1 (w.heap.size + 1) = some (hvA false 0 0 (.slice none 0 0) (.slice none 0 0) (.slice none 0 0) false false 0 0) := by rw [row?_below hb1 (by simp)]; simp [go_sem]
  have hbw : Below w.heap.size w w1 := (bel2 w _ _).trans (hb1.mono (by simp; omega))
  clear hb1
  go_wp2_with fail
  refine bodyPost_ret (results_row3 AgH rfl _ _ (w.heap.size + 1) (hvA false 0 0 (.slice none 0 0) (.slice none 0 0) (.slice none 0 0) false false 0 0) rfl (row?_setRow_eq r1) (hvA_size ..)) rfl ?_
  rw [← HRR.out]
  exact OpenPost.none (below_setRow hbw (by omega) _)
 | ok q =>
  obtain ⟨h, at_, told⟩ := q
  rw [hl] at hah hR
  simp only [] at hah hR
  by_cases hs : b.length < at_ + told
  ·have hR' := hR
   rw [if_pos (.inr hs)] at hR'
   rw [if_pos hs] at hah
   have HAH := Lib.hid hah
   have HRR := Lib.hid hR'
   clear hah hR hR' hl hs
   generalize ksB key iv msk = KB at *
   go_enter Try.func14, Try.ntmps14
   go_wp2_with fail
   refine (HAH.out _ (HSB.out.below (bel2 w _ _))).mono ?_
   rintro e w1 ⟨rfl, hb1⟩
   have z1 := hb1.size
   simp at z1
   have r1 : row? w1 (w.heap.size + 1) = some (hvA false 0 0 (.slice none 0 0) (.slice none 0 0) (.slice none 0 0) false false 0 0) := by rw [row?_below hb1 (by simp)]; simp [go_sem]
   have hbw : Below w.heap.size w w1 := (bel2 w _ _).trans (hb1.mono (by simp; omega))
   clear hb1
   go_wp2_with fail
   refine bodyPost_ret (results_row3 AgH rfl _ _ (w.heap.size + 1) (hvA false 0 0 (.slice none 0 0) (.slice none 0 0) (.slice none 0 0) false false 0 0) rfl (row?_setRow_eq r1) (hvA_size ..)) rfl ?_
   rw [← HRR.out]
   exact OpenPost.none (below_setRow hbw (by omega) _)
  by_cases h20 : told < 20
  ·rw [if_pos (.inl h20)] at hR
   rw [if_neg hs] at hah
   have HAH := Lib.hid hah
   have HRR := Lib.hid hR
   have h20i : ((at_ + told : Nat) : Int) - (at_ : Nat) < 20 := by omega
   clear hah hR hl
   generalize ksB key iv msk = KB at *
   go_enter Try.func14, Try.ntmps14
   go_wp2_with fail
   refine (HAH.out _ (HSB.out.below (bel2 w _ _))).mono ?_
   rintro e w1 ⟨rfl, hb1⟩
   have z1 := hb1.size
   simp at z1
   have r1 : row? w1 (w.heap.size + 1) = some (hvA false 0 0 (.slice none 0 0) (.slice none 0 0) (.slice none 0 0) false false 0 0) := by rw [row?_below hb1 (by simp)]; simp [go_sem]
   have hbw : Below w.heap.size w w1 := (bel2 w _ _).trans (hb1.mono (by simp; omega))
   clear hb1
   go_wp2_with fail
   refine bodyPost_ret (results_row3 AgH rfl _ _ (w.heap.size + 1) (hvA false 0 0 (.slice none 0 0) (.slice none 0 0) (.slice none 0 0) false false 0 0) rfl (row?_setRow_eq r1) (hvA_size ..)) rfl ?_
   rw [← HRR.out]
   exact OpenPost.none (below_setRow hbw (by omega) _)
  rw [if_neg (not_or.2 ⟨h20, hs⟩)] at hR
  rw [if_neg hs] at hah
  obtain ⟨h1, hget⟩ := get_unmask (msk := msk) hb hl (by omega) (by omega)
  have hlt : (b.take (at_ + told)).length = at_ + told := by rw [List.length_take]; omega
  have hmask := fun W g cap o => mask_any key iv msk (b.take (at_ + told)) hk hiv hmk at_ 0 g cap w.heap.size (by omega) (by omega) (by omega) W o
  have hcl : (maskW msk (b.take (at_ + told)) at_ 0).length = at_ + told := by rw [maskW_length, hlt]
  unfold openC at hR
  generalize maskW msk (b.take (at_ + told)) at_ 0 = c at *
  have hga := fun vc W (h : Sl W vc c) => get_any c (by omega) vc W h
  rw [hget] at hga
  have hclone := fun vc W (h : Sl W vc (b.take (at_ + told))) => clone_any (b.take (at_ + told)) (by omega) vc W h
  have hcut := fun W (h : Sl W (.slice ao b.length cap) b) => Sl.first h (at_ + told) (by omega)
  obtain ⟨en, hen⟩ : ∃ en, at_ + told = en := ⟨_, rfl⟩
  rw [hen] at hah hmask hlt hcl hclone hcut
  generalize b.take en = p at *
  simp only [hlt] at hmask hclone
  have HAH := Lib.hid hah
  have HRR := Lib.hid hR
  have HGA := Lib.hid hga
  have HMK := Lib.hid hmask
  have HCL := Lib.hid hclone
  have HCT := Lib.hid hcut
  have HLT := Lib.hid hlt
  have HCC := Lib.hid hcl
  have HEN := Lib.hid hen
  have hen1 : at_ + 20 ≤ en := by omega
  have hen2 : en ≤ b.length := by omega
  have hen3 : en ≤ cap := by omega
  have h20i : ¬ ((en : Nat) : Int) - (at_ : Nat) < 20 := by omega
  clear hah hR hl hget hga hmask hclone hcut hlt hcl hen hs h20
  generalize ksB key iv msk = KB at *
  go_enter Try.func14, Try.ntmps14
  go_wp2_with fail
  refine (HAH.out _ (HSB.out.below (bel2 w _ _))).mono ?_
  rintro e w1 ⟨rfl, hb1⟩
  have z1 := hb1.size
  simp at z1
  have r1 : row? w1 (w.heap.size + 1) = some (hvA false 0 0 (.slice none 0 0) (.slice none 0 0) (.slice none 0 0) false false 0 0) := by rw [row?_below hb1 (by simp)]; simp [go_sem]
  have hbw : Below w.heap.size w w1 := (bel2 w _ _).trans (hb1.mono (by simp; omega))
  have r0 : row? w1 w.heap.size = some (bvs KB) := by rw [row?_below hb1 (by simp; omega)]; simp [go_sem]
  have R0 := Lib.hid r0
  have R1 := Lib.hid r1
  have B1 := Lib.hid hb1
  clear r0 r1 hb1
  go_wp2_with fail
  refine (HCL.out _ _ (HCT.out _ (HSB.out.below hbw))).mono ?_
  rintro e w2 ⟨vc, rfl, oc, hb2⟩
  have z2 := hb2.size
  have hbw2 : Below w.heap.size w w2 := hbw.trans (hb2.mono (by omega))
  have r0 : row? w2 w.heap.size = some (bvs KB) := by rw [row?_below hb2 (by omega)]; exact R0.out
  have r1 : row? w2 (w.heap.size + 1) = some (hvA false 0 0 (.slice none 0 0) (.slice none 0 0) (.slice none 0 0) false false 0 0) := by rw [row?_below hb2 (by omega)]; exact R1.out
  obtain ⟨g, c2, rfl, hgB, hc2⟩ : ∃ g c2, vc = .slice (some ⟨g, 0, none⟩) en c2 ∧ w1.heap.size ≤ g ∧ en ≤ c2 := by
   rcases oc.2 with ⟨_, h0⟩ | ⟨g, cap, cur, e, hb, _, hle, _⟩
   ·omega
   ·exact ⟨g, cap, e, hb, hle⟩
  have hmk := HMK.out w2 g c2 (own_lower oc (by omega))
  have MK2 := Lib.hid hmk
  have l2 : (loadAgg 25 (.pointer (some ⟨w.heap.size, 0, none⟩))).run Try.prog w2 = .ok (.agg (bvs KB)) w2 := rldK w2 _ _ r0 hKl
  clear R0 R1 hbw HCL HCT B1 oc hmk HMK
  have R0 := Lib.hid r0
  have R1 := Lib.hid r1
  clear r0 r1 hb2
  go_wp2_with fail
  refine MK2.out.mono ?_
  rintro e w3 ⟨rfl, o3, g3⟩
  have hbw3 : Below w.heap.size w w3 := hbw2.grown g3 hbw2.size (fun q hq => by have e : g = q := Option.some.inj hq; omega)
  have z3 := g3.size
  have r0 : row? w3 w.heap.size = some (bvs KB) := row_grown g3 R0.out (fun h => by have := Option.some.inj h; omega)
  have r1 : row? w3 (w.heap.size + 1) = some (hvA false 0 0 (.slice none 0 0) (.slice none 0 0) (.slice none 0 0) false false 0 0) := row_grown g3 R1.out (fun h => by have := Option.some.inj h; omega)
  have sc : Sl w3 (.slice (some ⟨g, 0, none⟩) en c2) c := by
   have := o3
   rw [← HCC.out] at this ⊢
   exact Own.sl this
  clear R0 R1 hbw2 l2 MK2 g3 o3
  have R0 := Lib.hid r0
  have R1 := Lib.hid r1
  have SC := Lib.hid sc
  clear r0 sc
  go_wp2_with fail
  refine (HGA.out _ _ SC.out).mono ?_
  by_cases ho : oddU h c ≠ 0
  ·have hR := HRR.out
   rw [if_pos ho] at hR
   rw [if_pos ho]
   have HR2 := Lib.hid hR
   rintro e w4 ⟨vd, vs, vt, rfl, od, os, ot, -, hb4⟩
   have r1' : row? w4 (w.heap.size + 1) = some (hvA false 0 0 (.slice none 0 0) (.slice none 0 0) (.slice none 0 0) false false 0 0) := by rw [row?_below hb4 (by omega)]; exact r1
   have hbw4 : Below w.heap.size w w4 := hbw3.trans (hb4.mono (by omega))
   have z4 := hb4.size
   have hlt4 : w.heap.size + 1 < w4.heap.size := by omega
   obtain ⟨av, cv, rfl, -, -, -⟩ := id (Own.sl od)
   obtain ⟨as_, cs, rfl, -, -, -⟩ := id (Own.sl os)
   obtain ⟨at_', ct, rfl, -, -, -⟩ := id (Own.sl ot)
   clear HGA HRR hR ho od os ot hb4 r1 R0 R1 hbw3
   go_wp2_with fail
   refine bodyPost_ret (results_row3 AgH rfl _ _ (w.heap.size + 1) (hvA false 0 0 (.slice none 0 0) (.slice none 0 0) (.slice none 0 0) false false 0 0) rfl (by rw [row?_alloc_past _ _ _ (by simpa using hlt4)]; exact row?_setRow_eq r1') (hvA_size ..)) rfl ?_
   rw [← HR2.out]
   exact OpenPost.none ((below_setRow hbw4 (by omega) _).alloc (by simp; omega) _)
  ·have hR := HRR.out
   rw [if_neg ho] at hR
   rw [if_neg ho]
   have hnum : num ((c.drop at_).take (nlU c)) < 18446744073709551616 := by
    have h := num_lt ((c.drop at_).take (nlU c))
    have h2 : 256 ^ ((c.drop at_).take (nlU c)).length ≤ 256 ^ 4 := Nat.pow_le_pow_right (by decide) (by have := (nlU_bd c).2; simp; omega)
    exact Nat.lt_of_lt_of_le h (Nat.le_trans h2 (by decide))
   obtain ⟨hnl1, hnl4⟩ := nlU_bd c
   have hfull := fun W => full_any (num ((c.drop at_).take (nlU c))) (nlU c : Nat) largest any hnum (by omega) (by omega) HLG.out W
   have hflt := full_lt (num ((c.drop at_).take (nlU c))) (nlU c : Nat) largest any
   generalize full (num ((c.drop at_).take (nlU c))) (nlU c : Nat) largest any = fu at hR hfull hflt
   obtain ⟨u, rfl⟩ : ∃ u : UInt64, fu = n64 u := ⟨UInt64.ofNat fu, (n64_ofNat fu (by omega)).symm⟩
   generalize num ((c.drop at_).take (nlU c)) = nu at *
   have hnlE : (hdU h c).nl = (nlU c : Nat) := rfl
   unfold openN at hR
   simp only [] at hR
   have hu : UInt64.ofNat (n64 u) = u := UInt64.ofNat_toNat
   rw [hu] at hR
   generalize hdU h c = hd at *
   obtain ⟨lg, kind, ver, dst, src, tok, sp, ph, nm, nl⟩ := hd
   simp only [] at hR hnlE ⊢
   subst hnlE
   generalize nlU c = n at *
   have HR2 := Lib.hid hR
   have HFU := Lib.hid hfull
   rintro e w4 ⟨vd, vs, vt, rfl, od, os, ot, -, hb4⟩
   simp only [] at od os ot ⊢
   have r1' : row? w4 (w.heap.size + 1) = some (hvA false 0 0 (.slice none 0 0) (.slice none 0 0) (.slice none 0 0) false false 0 0) := by rw [row?_below hb4 (by omega)]; exact r1
   have r0' : row? w4 w.heap.size = some (bvs KB) := by rw [row?_below hb4 (by omega)]; exact R0.out
   have hbw4 : Below w.heap.size w w4 := hbw3.trans (hb4.mono (by omega))
   have z4 := hb4.size
   have hlt4 : w.heap.size + 1 < w4.heap.size := by omega
   have sc := SC.out.below hb4
   obtain ⟨av, cv, rfl, -, -, -⟩ := id (Own.sl od)
   obtain ⟨as_, cs, rfl, -, -, -⟩ := id (Own.sl os)
   obtain ⟨at_', ct, rfl, -, -, -⟩ := id (Own.sl ot)
   have OD := Lib.hid od
   have OS := Lib.hid os
   have OT := Lib.hid ot
   have R0' := Lib.hid r0'
   have R1' := Lib.hid r1'
   have SC' := Lib.hid sc
   clear HGA HRR hR ho od os ot hb4 r1 R0 R1 hbw3 hfull r0' r1' sc SC hflt hnum hu
   go_wp2_with fail
   refine (HFU.out _).mono ?_
   rintro e w5 ⟨rfl, rfl⟩
   clear HFU
   have a5 : row? (w4.alloc (.cells (hvA lg kind ver (.slice av dst.length cv) (.slice as_ src.length cs) (.slice at_' tok.length ct) sp ph nu n) 30)) w4.heap.size = some (hvA lg kind ver (.slice av dst.length cv) (.slice as_ src.length cs) (.slice at_' tok.length ct) sp ph nu n) := row?_alloc_at _ _ _ _ rfl
   have b5 : row? (w4.alloc (.cells (hvA lg kind ver (.slice av dst.length cv) (.slice as_ src.length cs) (.slice at_' tok.length ct) sp ph nu n) 30)) (w.heap.size + 1) = some (hvA false 0 0 (.slice none 0 0) (.slice none 0 0) (.slice none 0 0) false false 0 0) := by rw [row?_alloc_past _ _ _ hlt4]; exact R1'.out
   have d5 : row? (w4.alloc (.cells (hvA lg kind ver (.slice av dst.length cv) (.slice as_ src.length cs) (.slice at_' tok.length ct) sp ph nu n) 30)) w.heap.size = some (bvs KB) := by rw [row?_alloc_past _ _ _ (by omega)]; exact R0'.out
   have e5 : Below w4.heap.size w4 (w4.alloc (.cells (hvA lg kind ver (.slice av dst.length cv) (.slice as_ src.length cs) (.slice at_' tok.length ct) sp ph nu n) 30)) := (Below.refl _ _).alloc (Nat.le_refl _) _
   generalize (w4.alloc (.cells (hvA lg kind ver (.slice av dst.length cv) (.slice as_ src.length cs) (.slice at_' tok.length ct) sp ph nu n) 30)) = W5 at a5 b5 d5 e5 ⊢
   have c8 := row?_frozen a5 8
   have x5 : row? (W5.setCell ⟨w4.heap.size, 8, none⟩ (.int .u64 (n64 u : Nat))) w4.heap.size = some (hvA lg kind ver (.slice av dst.length cv) (.slice as_ src.length cs) (.slice at_' tok.length ct) sp ph (n64 u) n) := by rw [row?_setCell_eq a5]; rfl
   have mx : Mut w4.heap.size W5 (W5.setCell ⟨w4.heap.size, 8, none⟩ (.int .u64 (n64 u : Nat))) := (Mut.refl _ _).setCell _ _ _
   have y5 := mx.row b5 (by omega)
   have q5 := mx.row d5 (by omega)
   have e6 := e5.trans (mx.below (Nat.le_refl _) e5.size)
   have A5 := Lib.hid a5
   have X5 := Lib.hid (And.intro x5 (And.intro y5 (And.intro q5 e6)))
   clear a5 b5 d5 e5 x5 mx y5 q5 e6
   have c8' := row?_cell A5.out 8
   go_wp2_with fail
   clear c8 c8' A5
   obtain ⟨x5, y5, q5, e6⟩ := X5.out
   generalize (W5.setCell ⟨w4.heap.size, 8, none⟩ (.int .u64 (n64 u : Nat))) = W6 at x5 y5 q5 e6 ⊢
   clear X5
   have l1 : (loadAgg 22 (.pointer (some ⟨w.heap.size, 0, none⟩))).run Try.prog W6.drew = .ok (.agg (bvs key)) W6.drew := part16 W6.drew _ _ _ _ q5 (by simp only [bvs_size]; omega) hKk
   have l2 : (loadAgg 23 (.pointer (some ⟨w.heap.size, 16, none⟩))).run Try.prog W6.drew = .ok (.agg (bvs iv)) W6.drew := part12 W6.drew _ _ _ _ q5 (by simp only [bvs_size]; omega) hKi
   have c8 : W6.cell? ⟨w4.heap.size, 8, none⟩ = some (.int .u64 (n64 u : Nat)) := row?_cell x5 8
   have X5 := Lib.hid (And.intro x5 (And.intro y5 (And.intro q5 e6)))
   clear x5 y5 q5 e6
   refine Rg.wp_region_plan (Rg.row [(0, 3), (1, 0), (2, 3), (3, 0), (4, 3), (5, 0), (7, 3), (8, 3), (9, 3), (10, 3), (11, 3), (12, 3), (6, 1), (13, 1), (14, 3), (15, 3), (16, 3), (17, 3), (18, 3)] []) [] (by kernel_rfl) (by kernel_rfl) ?_
   simp only [Rg.row, Rg.PT.map, List.map_nil, List.getD_cons_zero, List.getD_cons_succ]
   go_wp2_with (first
    |(with_reducible refine Rg.plan_pure ?_ ?_ ?_); kernel_rfl; kernel_rfl; intro _ _|(with_reducible refine Rg.plan_take ?_ ?_ ?_); kernel_rfl; kernel_rfl; intro _ _|(with_reducible refine Rg.plan_keep ?_ ?_); kernel_rfl; intro K hK|refine hK _ _ (Rg.Keep.refl _) ?_; clear hK|refine hK _ _ (Rg.Keep.of_below (by assumption)) ?_; clear hK|(with_reducible refine Rg.plan_skip ?_ ?_); kernel_rfl|(with_reducible refine Rg.plan_done ?_)|(with_reducible refine Rg.calm_normal ?_))
   refine (nonce_any iv hiv u _).mono ?_
   rintro e w7 ⟨rfl, hb7⟩
   refine hK _ _ (Rg.Keep.of_below hb7) ?_
   clear hK
   obtain ⟨N, hN⟩ : ∃ N, nonce iv u = N := ⟨_, rfl⟩
   have hNl : N.length = 12 := by rw [← hN]; exact (nv_length iv u 8).trans hiv
   rw [hN]
   have hR := HR2.out
   rw [hN] at hR
   have HR3 := Lib.hid hR
   have HB7 := Lib.hid hb7
   clear hR HR2 hb7 hN
   go_wp2_with (first
    |(with_reducible refine Rg.plan_pure ?_ ?_ ?_); kernel_rfl; kernel_rfl; intro _ _|(with_reducible refine Rg.plan_take ?_ ?_ ?_); kernel_rfl; kernel_rfl; intro _ _|(with_reducible refine Rg.plan_keep ?_ ?_); kernel_rfl; intro K hK|refine hK _ _ (Rg.Keep.refl _) ?_; clear hK|refine hK _ _ (Rg.Keep.of_below (by assumption)) ?_; clear hK|(with_reducible refine Rg.plan_skip ?_ ?_); kernel_rfl|(with_reducible refine Rg.plan_done ?_)|(with_reducible refine Rg.calm_normal ?_))
   have hcl := HCC.out
   have hst := (SC'.out.below X5.out.2.2.2).below ((Below.refl _ _).drew.trans HB7.out)
   have hs1 : Sl w7 (.slice (some ⟨g, at_ + n, none⟩) (en - (at_ + n)) (c2 - (at_ + n))) (c.drop (at_ + n)) := by
    have := hst.cut (at_ + n) en (by omega) (by omega)
    unfold cutA at this
    rw [if_neg (by omega), List.take_of_length_le (by omega)] at this
    simpa [Addr.add_lit] using this
   have hs2 : Sl w7 (.slice (some ⟨g, 0, none⟩) (at_ + n) c2) (c.take (at_ + n)) := hst.first (at_ + n) (by omega)
   refine (open_any key N (c.drop (at_ + n)) (c.take (at_ + n)) hk hNl (by simp; omega) (by simp; omega) _ _ _ hs1 hs2).mono ?_
   have hR := HR3.out
   obtain ⟨oo, hoo⟩ : ∃ oo, Gcm.opened key N (c.drop (at_ + n)) (c.take (at_ + n)) = oo := ⟨_, rfl⟩
   rw [hoo] at hR ⊢
   obtain ⟨x, T⟩ := oo
   simp only [] at hR ⊢
   clear hoo HR3 hs1 hs2 hst
   rintro e w8 ⟨vx, rfl, ox, hb8⟩
   refine hK _ _ (Rg.Keep.of_below hb8) ?_
   clear hK
   obtain ⟨ax, cx, rfl, -, -, -⟩ := id (Own.sl ox)
   have hz6 := X5.out.2.2.2.size
   have hz7 := HB7.out.size
   have hz8 := hb8.size
   simp at hz7
   have hz7' : W6.heap.size ≤ w7.heap.size := hz7
   have h68 : Below W6.heap.size W6 w8 := (Below.refl _ _).drew.trans (HB7.out.trans (hb8.mono hz7'))
   have h48 : Below w4.heap.size w4 w8 := X5.out.2.2.2.trans (h68.mono hz6)
   have x8 : row? w8 w4.heap.size = some (hvA lg kind ver (.slice av dst.length cv) (.slice as_ src.length cs) (.slice at_' tok.length ct) sp ph (n64 u) n) := Rg.stable_row h68 X5.out.1
   have y8 : row? w8 (w.heap.size + 1) = some (hvA false 0 0 (.slice none 0 0) (.slice none 0 0) (.slice none 0 0) false false 0 0) := Rg.stable_row h68 X5.out.2.1
   have hbw8 : Below w.heap.size w w8 := hbw4.trans (h48.mono hbw4.size)
   have OX := Lib.hid (own_lower ox (show w.heap.size + 2 ≤ w7.heap.size by omega))
   have OD8 := Lib.hid (own_lower (Go.Rw.own_below OD.out h48) (show w.heap.size + 2 ≤ w3.heap.size by omega))
   have OS8 := Lib.hid (own_lower (Go.Rw.own_below OS.out h48) (show w.heap.size + 2 ≤ w3.heap.size by omega))
   have OT8 := Lib.hid (own_lower (Go.Rw.own_below OT.out h48) (show w.heap.size + 2 ≤ w3.heap.size by omega))
   clear ox hb8 l1 l2 c8 h68 h48
   by_cases hx : x = 0
   ·subst hx
    rw [if_neg (by simp)] at hR
    have HR4 := Lib.hid hR
    clear hR
    go_wp2_with (first
     |(with_reducible refine Rg.plan_pure ?_ ?_ ?_); kernel_rfl; kernel_rfl; intro _ _|(with_reducible refine Rg.plan_take ?_ ?_ ?_); kernel_rfl; kernel_rfl; intro _ _|(with_reducible refine Rg.plan_keep ?_ ?_); kernel_rfl; intro K hK|refine hK _ _ (Rg.Keep.refl _) ?_; clear hK|refine hK _ _ (Rg.Keep.of_below (by assumption)) ?_; clear hK|(with_reducible refine Rg.plan_skip ?_ ?_); kernel_rfl|(with_reducible refine Rg.plan_done ?_)|(with_reducible refine Rg.calm_normal ?_))
    refine bodyPost_ret (results_row3 AgH rfl _ _ (w.heap.size + 1) (hvA lg kind ver (.slice av dst.length cv) (.slice as_ src.length cs) (.slice at_' tok.length ct) sp ph (n64 u) n) rfl (row?_setRow_eq y8) (hvA_size ..)) rfl ?_
    rw [← HR4.out]
    have mm : Mut (w.heap.size + 1) w8 (w8.setRow (w.heap.size + 1) (hvA lg kind ver (.slice av dst.length cv) (.slice as_ src.length cs) (.slice at_' tok.length ct) sp ph (n64 u) n)) := (Mut.refl _ _).setRow _
    exact ⟨_, _, _, _, rfl, own_lower (mm.own OD8.out (by omega)) (by omega), own_lower (mm.own OS8.out (by omega)) (by omega), own_lower (mm.own OT8.out (by omega)) (by omega), own_lower (mm.own OX.out (by omega)) (by omega), below_setRow hbw8 (by omega) _⟩
   ·rw [if_pos (by simpa using hx)] at hR
    have HR4 := Lib.hid hR
    have hx' : (((x : Nat) : Int) != 0) = true := by simpa using (show ((x : Nat) : Int) ≠ 0 by omega)
    clear hR hx
    go_wp2_with (first
     |(with_reducible refine Rg.plan_pure ?_ ?_ ?_); kernel_rfl; kernel_rfl; intro _ _|(with_reducible refine Rg.plan_take ?_ ?_ ?_); kernel_rfl; kernel_rfl; intro _ _|(with_reducible refine Rg.plan_keep ?_ ?_); kernel_rfl; intro K hK|refine hK _ _ (Rg.Keep.refl _) ?_; clear hK|refine hK _ _ (Rg.Keep.of_below (by assumption)) ?_; clear hK|(with_reducible refine Rg.plan_skip ?_ ?_); kernel_rfl|(with_reducible refine Rg.plan_done ?_)|(with_reducible refine Rg.calm_normal ?_))
    refine bodyPost_ret (results_row3 AgH rfl _ _ (w.heap.size + 1) (hvA false 0 0 (.slice none 0 0) (.slice none 0 0) (.slice none 0 0) false false 0 0) rfl (row?_setRow_eq y8) (hvA_size ..)) rfl ?_
    rw [← HR4.out]
    exact OpenPost.none (below_setRow hbw8 (by omega) _)
end Go.Proofs.Ytjlpppnpdgenfaa

end
section
namespace Vlt
open Go Go.Rw Aes Hdr Gcm
def k0 : List UInt8 := zeros 16
def k1 : List UInt8 := [1, 0, 0, 0, 0, 0, 0, 0, 0, 0, 0, 0, 0, 0, 0, 0]
def i0 : List UInt8 := zeros 12
def d0 : List UInt8 := zeros 8
def H0 : List UInt8 := headB false 0 0 d0 [] [] true false 7 4 16
def B0 : List UInt8 := packB k0 i0 k0 H0 [] 7 4
theorem H0_len : H0.length = 13 := by decide
theorem B0_len : B0.length = 29 := by rw [B0, packB_length, H0_len]; rfl
theorem aw_seal : sealR k0 i0 k0 false 0 0 d0 [] [] true false 7 4 [] = (B0, 0) := by
 have := sealR_ok (key := k0) (iv := i0) (msk := k0) (lg := false) (kind := 0) (ver := 0) (dst := d0) (src := []) (tok := []) (sp := true) (ph := false) (u := 7) (n := 4) (text := []) (by decide) (by decide) (by decide)
 exact this
def aH : Hd := ⟨false, 0, 0, d0, [], [], true, false, 7, 4⟩
theorem aw_get (z : List UInt8) (hz : z.length = 16) : get (H0 ++ (z ++ [])) = (aH, H0.length, 0 + 16, 0) := by
 have h : H0 = [first true false 4] ++ d0 ++ be 7 4 := by unfold H0 headB; rw [if_neg (by decide)]
 rw [List.append_nil, H0_len, h, get_shortB true false d0 z 7 4 (by decide) (by decide) (by decide), hz]
 rfl
theorem aw_open : openV k0 i0 k0 B0 0 false = (aH, [], 0) := by
 have h := open_pack (key := k0) (iv := i0) (msk := k0) (H := H0) (z := []) (text := []) (u := 7) (hd := aH) (nl := 4) (largest := 0) (any := false) (by rw [H0_len]; simp) (aw_get _ (by rw [sealed_length]; rfl)) (fun _ => rfl) rfl (by decide) (by decide) (by decide) (by decide)
 rw [List.append_nil] at h
 exact h
theorem aw_bad : (opened k1 (nonce i0 7) (sealed k0 (nonce i0 7) [] H0) H0).1 = 7 := by decide +kernel
theorem aw_open1 : openV k1 i0 k0 B0 0 false = (hd0, [], 7) := by
 have h := open_pack0 (key := k1) (iv := i0) (msk := k0) (H := H0) (z := []) (C := sealed k0 (nonce i0 7) [] H0) (tl := 0) (hd := aH) (nl := 4) (largest := 0) (any := false) (by rw [H0_len]; simp) (by rw [sealed_length]; rfl) (aw_get _ (by rw [sealed_length]; rfl)) (fun _ => rfl) rfl (by decide) (by decide) (by decide)
 rw [List.append_nil] at h
 rw [B0, packB, h, openN_split]
 have hf : full aH.num ((4 : Nat) : Int) 0 false = 7 := by decide
 rw [hf]
 have hu : UInt64.ofNat 7 = 7 := by decide
 simp only [hu, aw_bad]
 rfl
end Vlt
namespace Go.Proofs.Ytjlpppnpdgenfaa
open Go.RowKit Go.Rw Aes Hdr Vlt
theorem buildAV (ao : Option Addr) (m cap : Nat) (w : World) : (buildP 30 #[(3, .slice ao m cap), (9, .int .i64 4), (8, .int .u64 7), (6, .bool true)]).run Try.prog w = .ok (.agg (hvA false 0 0 (.slice ao m cap) (.slice none 0 0) (.slice none 0 0) true false 7 4)) w := Go.run_build w _ _ _ (by kernel_rfl)
theorem bdK (ps : Array (Nat × Value)) : Instr.build 25 ps = buildP 25 ps := rfl
theorem bd16 (ps : Array (Nat × Value)) : Instr.build 22 ps = buildP 22 ps := rfl
theorem buildK0 (w : World) : (buildP 25 #[]).run Try.prog w = .ok (.agg (bvs (ksB k0 i0 k0))) w := Go.run_build w _ _ _ (by kernel_rfl)
theorem build16 (w : World) : (buildP 22 #[(0, .int .u8 1)]).run Try.prog w = .ok (.agg (bvs k1)) w := Go.run_build w _ _ _ (by kernel_rfl)
theorem buildK1 (w : World) : (buildP 25 #[(0, .agg (bvs k1))]).run Try.prog w = .ok (.agg (bvs (ksB k1 i0 k0))) w := Go.run_build w _ _ _ (by kernel_rfl)
attribute [local go_sem ↓] ldH stH alH bdH bdK bd16 hvA_0 hvA_1 hvA_2 hvA_3 hvA_4 hvA_5 hvA_6 hvA_7 hvA_8 hvA_9
attribute [local go_sem] rldH rstH ralH setRow_alloc_at setRow_alloc_past setRow_drew buildAV buildH0 buildK0 build16 buildK1
set_option maxRecDepth 100000 in
set_option maxHeartbeats 4000000 in
theorem awake_any (w : World) : Calls Try.prog 10 #[] w fun e w' => e = .returned (.bool true) ∧ Below w.heap.size w w' := by
 obtain ⟨ti0, hi, hz0, hz1, hz2⟩ := info_parts info8
 go_enter Try.func10, Try.ntmps10
 go_wp2_with (at_make; refine wpList_make_full _ rfl _ _ 27 rfl w.heap.size 5 ti0 (.int .u8 0) 1 Try.underlying27 hi hz0 hz1 _ _ _ _ 8 rfl rfl rfl rfl ?b1 ?b2 ?b3 ?_)
 case b1 => rw [hz2]; omega
 case b2 => decide
 case b3 => exact Nat.le_refl _
 intro w1 hown1 hgrow1
 rw [zeros_made] at hown1
 have b1 : Below w.heap.size w w1 := (Below.refl _ _).grown hgrow1 (Nat.le_refl _) (by intro k hk; cases hk)
 have s1 : Sl w1 (.slice (some ⟨w.heap.size, 0, none⟩) 8 8) d0 := Own.sl (l := d0) (by simpa [d0, zeros, List.replicate] using hown1)
 clear hgrow1 hown1
 have hz1' := b1.size
 have S1 := Lib.hid s1
 clear s1
 go_wp2_with fail
 have a1 : row? (w1.alloc (.cells (hvA false 0 0 (.slice (some ⟨w.heap.size, 0, none⟩) 8 8) (.slice none 0 0) (.slice none 0 0) true false 7 4) 30)) w1.heap.size = some (hvA false 0 0 (.slice (some ⟨w.heap.size, 0, none⟩) 8 8) (.slice none 0 0) (.slice none 0 0) true false 7 4) := row?_alloc_at _ _ _ _ rfl
 have a4 : Below w.heap.size w (w1.alloc (.cells (hvA false 0 0 (.slice (some ⟨w.heap.size, 0, none⟩) 8 8) (.slice none 0 0) (.slice none 0 0) true false 7 4) 30)) := b1.alloc hz1' _
 have as1 : Sl (w1.alloc (.cells (hvA false 0 0 (.slice (some ⟨w.heap.size, 0, none⟩) 8 8) (.slice none 0 0) (.slice none 0 0) true false 7 4) 30)) (.slice (some ⟨w.heap.size, 0, none⟩) 8 8) d0 := S1.out.below ((Below.refl _ _).alloc (Nat.le_refl _) _)
 have hse := vseal_any k0 Vlt.i0 k0 rfl rfl rfl false 0 0 d0 [] [] true false 7 4 [] (by decide) (by simp) _ _ _ _ _ as1 (Sl.nil _) (Sl.nil _) (Sl.nil _)
 rw [aw_seal] at hse
 have HSE := Lib.hid hse
 have zA : (w1.alloc (.cells (hvA false 0 0 (.slice (some ⟨w.heap.size, 0, none⟩) 8 8) (.slice none 0 0) (.slice none 0 0) true false 7 4) 30)).heap.size = w1.heap.size + 1 := by simp
 generalize (w1.alloc (.cells (hvA false 0 0 (.slice (some ⟨w.heap.size, 0, none⟩) 8 8) (.slice none 0 0) (.slice none 0 0) true false 7 4) 30)) = W2 at a1 a4 as1 zA HSE ⊢
 clear S1 hse
 refine HSE.out.mono ?_
 rintro e w3 ⟨vb, rfl, ob, h3⟩
 have z3 := h3.size
 obtain ⟨abp, cb, rfl, -, -, -⟩ := id (Own.sl ob)
 have SB := Lib.hid (Own.sl ob)
 have AS := Lib.hid (as1.below h3)
 have RH := Lib.hid (Rg.stable_row h3 a1)
 have B3 := Lib.hid (a4.trans (h3.mono (by omega)))
 have e29 : (B0, (0 : Int)).1.length = 29 := B0_len
 rw [e29]
 clear HSE a1 a4 as1 ob h3
 go_wp2_with fail
 have ho := vopen_any k0 Vlt.i0 k0 rfl rfl rfl B0 (by rw [B0_len]; simp) 0 (by simp) false _ _ SB.out
 rw [aw_open, e29] at ho
 have HO := Lib.hid ho
 clear ho
 refine HO.out.mono ?_
 rintro e w4 ⟨vd, vs, vt, vx, rfl, od, os, ot, ox, h4⟩
 have z4 := h4.size
 obtain ⟨av, cv, rfl, -, -, -⟩ := id (Own.sl od)
 obtain ⟨as_, cs, rfl, -, -, -⟩ := id (Own.sl os)
 obtain ⟨at_, ct, rfl, -, -, -⟩ := id (Own.sl ot)
 obtain ⟨ax, cx, rfl, -, -, -⟩ := id (Own.sl ox)
 simp only [aH] at od os ot ⊢
 have hd8 : d0.length = 8 := by decide
 simp only [hd8, List.length_nil] at od os ot ox ⊢
 go_wp2_with fail
 have r4 : row? (w4.alloc (.cells (hvA false 0 0 (.slice av 8 cv) (.slice as_ 0 cs) (.slice at_ 0 ct) true false 7 4) 30)) w4.heap.size = some (hvA false 0 0 (.slice av 8 cv) (.slice as_ 0 cs) (.slice at_ 0 ct) true false 7 4) := row?_alloc_at _ _ _ _ rfl
 have k4 : Below w4.heap.size w4 (w4.alloc (.cells (hvA false 0 0 (.slice av 8 cv) (.slice as_ 0 cs) (.slice at_ 0 ct) true false 7 4) 30)) := (Below.refl _ _).alloc (Nat.le_refl _) _
 have hz4 : (w4.alloc (.cells (hvA false 0 0 (.slice av 8 cv) (.slice as_ 0 cs) (.slice at_ 0 ct) true false 7 4) 30)).heap.size = w4.heap.size + 1 := by simp
 generalize (w4.alloc (.cells (hvA false 0 0 (.slice av 8 cv) (.slice as_ 0 cs) (.slice at_ 0 ct) true false 7 4) 30)) = W4 at r4 k4 hz4 ⊢
 have k34 : Below w3.heap.size w3 W4 := h4.trans (k4.mono z4)
 have ho := vopen_any k1 Vlt.i0 k0 rfl rfl rfl B0 (by rw [B0_len]; simp) 0 (by simp) false _ _ (SB.out.below k34)
 have e29' : B0.length = 29 := B0_len
 rw [aw_open1] at ho
 simp only [e29'] at ho
 have HO2 := Lib.hid ho
 have RG := Lib.hid r4
 have SG1 := Lib.hid ((Own.sl (l := d0) od).below k4)
 have SG2 := Lib.hid ((Own.sl (l := []) os).below k4)
 have SG3 := Lib.hid ((Own.sl (l := []) ot).below k4)
 have RH4 := Lib.hid (Rg.stable_row k34 RH.out)
 have AS4 := Lib.hid (AS.out.below k34)
 have B4 := Lib.hid (B3.out.trans (k34.mono B3.out.size))
 clear ho HO r4 k4 k34 od os ot ox h4
 refine HO2.out.mono ?_
 rintro e w5 ⟨vd5, vs5, vt5, vx5, rfl, od, os, ot, ox, h5⟩
 have z5 := h5.size
 obtain ⟨a5, c5, rfl, -, -, -⟩ := id (Own.sl od)
 obtain ⟨a6, c6, rfl, -, -, -⟩ := id (Own.sl os)
 obtain ⟨a7, c7, rfl, -, -, -⟩ := id (Own.sl ot)
 obtain ⟨a8, c8, rfl, -, -, -⟩ := id (Own.sl ox)
 simp only [hd0, List.length_nil] at od os ot ox ⊢
 go_wp2_with fail
 have hs3 : Sl ((w5.alloc (.cells (hvA false 0 0 (.slice a5 0 c5) (.slice a6 0 c6) (.slice a7 0 c7) false false 0 0) 30)).alloc (.cells #[.int .u8 1, .int .u8 2, .int .u8 3] 5)) (.slice (some ⟨w5.heap.size + 1, 0, none⟩) 3 3) [1, 2, 3] := Sl.row (l := [1, 2, 3]) (row?_alloc_at _ _ _ _ (by simp))
 have k5 : Below w5.heap.size w5 ((w5.alloc (.cells (hvA false 0 0 (.slice a5 0 c5) (.slice a6 0 c6) (.slice a7 0 c7) false false 0 0) 30)).alloc (.cells #[.int .u8 1, .int .u8 2, .int .u8 3] 5)) := bel2 w5 _ _
 generalize ((w5.alloc (.cells (hvA false 0 0 (.slice a5 0 c5) (.slice a6 0 c6) (.slice a7 0 c7) false false 0 0) 30)).alloc (.cells #[.int .u8 1, .int .u8 2, .int .u8 3] 5)) = W5 at hs3 k5 ⊢
 have k45 : Below W4.heap.size W4 W5 := h5.trans (k5.mono z5)
 have RG5 := Lib.hid (Rg.stable_row k45 RG.out)
 have T1 := Lib.hid (SG1.out.below k45)
 have T2 := Lib.hid (SG2.out.below k45)
 have T3 := Lib.hid (SG3.out.below k45)
 have RH5 := Lib.hid (Rg.stable_row k45 RH4.out)
 have AS5 := Lib.hid (AS4.out.below k45)
 have B5 := Lib.hid (B4.out.trans (k45.mono B4.out.size))
 have z45 := k45.size
 clear k5 k45 od os ot ox h5 HO2 RG SG1 SG2 SG3 RH4 AS4 B4 RH AS B3 SB
 refine (newtable_any [1, 2, 3] (by simp) _ _ hs3).mono ?_
 rintro e w6 ⟨BT, vo, vm, rfl, hBT, rt, oo, hvo, h6⟩
 have z6 := h6.size
 have s6 := Own.sl oo
 have hseal1 := tseal_any BT 2 (by decide) [1, 2, 3] (by simp) vo vm 0 (by decide) w6 rt s6 (fun b off n cap e h0 => by have := hvo b (by rw [e]; rfl); omega)
 have HS1 := Lib.hid hseal1
 have B6 := Lib.hid h6
 have HVO := Lib.hid hvo
 have hbt6 := row?_lt rt
 clear hseal1 h6 hvo rt oo s6 hs3
 go_wp2_with fail
 refine HS1.out.mono ?_
 rintro e w7 ⟨v1, vo1, rfl, o7, rt7, s7, hvo7, m7⟩
 have z7 := m7.size
 obtain ⟨b1', e1', rfl, -, -, -⟩ := id (Own.sl (l := [1, 2]) o7)
 have hseal2 := tseal_any BT 2 (by decide) [3] (by simp) vo1 vm 1 (by decide) w7 rt7 s7 (fun b off n cap e h0 => by
  obtain ⟨off', n', cap', e', h0'⟩ := hvo7 b off n cap e h0
  have := HVO.out b (by rw [e']; rfl); omega)
 have HS2 := Lib.hid hseal2
 have V1 := Lib.hid (Own.sl (l := [1, 2]) o7)
 have hlt7 := Own.lt o7
 have HL7 := Lib.hid hlt7
 have B7 := Lib.hid (B6.out.trans (m7.below (by omega) z6))
 clear hseal2 o7 rt7 s7 hvo7 m7 hlt7 HS1 B6
 go_wp2_with fail
 refine HS2.out.mono ?_
 rintro e w8 ⟨v2, vo2, rfl, o8, rt8, s8, hvo8, m8⟩
 have z8 := m8.size
 obtain ⟨b2', e2', rfl, -, -, -⟩ := id (Own.sl (l := [3, 0]) o8)
 have B8 := B7.out.trans (m8.below (by omega) B7.out.size)
 have V18 := Lib.hid (m8.sl V1.out (fun b off n cap e h0 => by have := (HL7.out b off n cap e).1; omega))
 have V28 := Lib.hid (Own.sl (l := [3, 0]) o8)
 have hleft := tleft_any BT [] vo2 vm 2 w8 rt8 s8
 have rg := Rg.stable_row B8 RG5.out
 have rh := Rg.stable_row B8 RH5.out
 have RG8 := Lib.hid rg
 have BB := Lib.hid (B5.out.trans (B8.mono B5.out.size))
 have hsame := sameHeader_eq false 0 0 true false 7 4 d0 [] [] (by decide) (by simp) (by simp) _ _ _ _ _ _ w8 (T1.out.below B8) (AS5.out.below B8) (T2.out.below B8) (Sl.nil _) (T3.out.below B8) (Sl.nil _)
 have HSM := Lib.hid hsame
 have RT8 := Lib.hid (And.intro rt8 s8)
 clear hleft hsame o8 rt8 s8 hvo8 m8 B8 V1 HL7 B7 HS2
 go_wp2_with fail
 refine HSM.out.mono ?_
 rintro e w9 ⟨rfl, h9⟩
 have z9 := h9.size
 go_wp2_with fail
 have q1 : Below w9.heap.size w9 (w9.alloc (.cells #[.int .u8 1, .int .u8 2] 5)) := (Below.refl _ _).alloc (Nat.le_refl _) _
 have hsb1 := same_any [1, 2] [1, 2] (by simp) _ _ _ ((V18.out.below h9).below q1) (Sl.row (l := [1, 2]) (row?_alloc_at w9 #[.int .u8 1, .int .u8 2] 5 _ rfl))
 refine hsb1.mono ?_
 rintro e w10 ⟨rfl, h10⟩
 have z10 := h10.size
 simp at z10
 have k10 := h9.trans ((q1.mono z9).trans (h10.mono (by simp; omega)))
 clear hsb1
 go_wp2_with fail
 have q2 : Below w10.heap.size w10 (w10.alloc (.cells #[.int .u8 3, .int .u8 0] 5)) := (Below.refl _ _).alloc (Nat.le_refl _) _
 have hsb2 := same_any [3, 0] [3, 0] (by simp) _ _ _ ((V28.out.below k10).below q2) (Sl.row (l := [3, 0]) (row?_alloc_at w10 #[.int .u8 3, .int .u8 0] 5 _ rfl))
 refine hsb2.mono ?_
 rintro e w11 ⟨rfl, h11⟩
 have z11 := h11.size
 simp at z11
 have k11 := k10.trans ((q2.mono (by omega)).trans (h11.mono (by simp; omega)))
 clear hsb2 q1 q2 h9 h10 h11
 go_wp2_with fail
 refine (tleft_any BT [] vo2 vm 2 w11 (Rg.stable_row k11 RT8.out.1) (RT8.out.2.below k11)).mono ?_
 rintro e w12 ⟨rfl, rfl⟩
 go_wp2_with fail
 go_ret
 exact ⟨rfl, BB.out.trans (k11.mono BB.out.size)⟩
end Go.Proofs.Ytjlpppnpdgenfaa

end
