/- VltSe; KeyA; KeyB; KeyC; KeyD; HstO; HstO2; HstP; HstP2; HstQ; HstR; FltN; HstG; HstC; HstC2; HstI; HstJ; HstJ2; HstK. -/
import Derived.Test.YthjbmggpleliaaaGreatDoorMhb25
import Derived.Test.YthjbmggpleliaaaGreatDoorMhb2
import Derived.Test.YthjbmggpleliaaaGreatDoorMhb29
import Derived.Test.YthjbmggpleliaaaGreatDoorMhb7
import Derived.Lib.SmallJoins
import Derived.Test.YthjbmggpleliaaaGreatDoorMhb27
import Derived.Deep.DeepCutAuto
import Derived.Deep.QuietTactic
import Derived.BigQuiet
import Derived.WalkMore
import Derived.ScopeJumps
import Derived.WideLaws
section
namespace Go.Proofs.YthjbmggpleliaaaGreatDoor
open Go.RowKit Go.Rw Aes Hdr Vlt
attribute [local go_sem ↓] hvA_0 hvA_1 hvA_2 hvA_3 hvA_4 hvA_5 hvA_6 hvA_7 hvA_8 hvA_9
attribute [local go_sem ↓] ldH stH alH ld16 st16 al16 ld12 shift_shr8 bvs_getElem?
attribute [local go_sem] rldH rstH ralH setRow_alloc_at setRow_alloc_past setRow_drew bvs_setn
theorem AgK : Agg Tryz.prog 69 44 := ⟨⟨_, Tryz.underlying69, rfl⟩, by kernel_rfl⟩
theorem ldK (x : Value) : Instr.loadAt 69 x = loadAgg 69 x := rfl
theorem rldK (w : World) (b : Nat) (K : List UInt8) (h : row? w b = some (bvs K)) (hl : K.length = 44) : (loadAgg 69 (.pointer (some ⟨b, 0, none⟩))).run Tryz.prog w = .ok (.agg (bvs K)) w := by
 rw [load_rule AgK w b (by rw [h]; simp [bvs_size, hl]), h]; rfl
attribute [local go_sem ↓] ldK
set_option maxRecDepth 100000 in
set_option maxHeartbeats 4000000 in
theorem vseal_any (key iv msk : List UInt8) (hk : key.length = 16) (hiv : iv.length = 12) (hmk : msk.length = 16) (lg : Bool) (kind : Int) (ver : Nat) (dst src tok : List UInt8) (sp ph : Bool) (u : UInt64) (nl : Int) (text : List UInt8) (hver : ver < 4294967296) (htl : text.length ≤ 1000000) (vd vs vt vx : Value) (w : World) (hsd : Sl w vd dst) (hss : Sl w vs src) (hst : Sl w vt tok) (hsx : Sl w vx text) :
  Calls Tryz.prog 101 #[.agg (bvs (ksB key iv msk)), .agg (hvA lg kind ver vd vs vt sp ph (n64 u) nl), vx] w fun e w' =>
   ∃ v, e = .returned (.tuple #[v, .int .i64 (sealR key iv msk lg kind ver dst src tok sp ph u nl text).2]) ∧ w'.ownsRow w.heap.size 5 1 v (sealR key iv msk lg kind ver dst src tok sp ph u nl text).1.length ((sealR key iv msk lg kind ver dst src tok sp ph u nl text).1.map bv) ∧ Below w.heap.size w w' := by
 obtain ⟨i0, hi, hz0, hz1, hz2⟩ := info_parts info8
 obtain ⟨ad, cd, rfl, -, -, -⟩ := id hsd
 obtain ⟨as_, cs, rfl, -, -, -⟩ := id hss
 obtain ⟨at_, ct, rfl, -, -, -⟩ := id hst
 obtain ⟨ax, cx, rfl, -, -, -⟩ := id hsx
 have hKl := ksB_length hk hiv hmk
 have hKk := ksB_key (iv := iv) (msk := msk) hk
 have hKi := ksB_iv (msk := msk) hk hiv
 have HSD := Lib.hid hsd
 have HSS := Lib.hid hss
 have HST := Lib.hid hst
 have HSX := Lib.hid hsx
 obtain ⟨R, hR⟩ : ∃ R, sealR key iv msk lg kind ver dst src tok sp ph u nl text = R := ⟨_, rfl⟩
 rw [hR]
 cases hm : mayN lg kind ver dst.length src.length tok.length sp ph (n64 u) nl with
 | false =>
  rw [sealR_no hm] at hR
  have HRR := Lib.hid hR
  clear hR hsd hss hst hsx
  generalize ksB key iv msk = K at *
  go_enter Tryz.func101, Tryz.ntmps101
  go_wp2_with fail
  refine (may_any lg kind ver ad as_ at_ dst.length src.length tok.length cd cs ct sp ph (n64 u) nl _).mono ?_
  rintro e w1 ⟨rfl, hb1⟩
  rw [hm]
  have hbw : Below w.heap.size w w1 := (bel2 w _ _).trans (hb1.mono (by simp; omega))
  clear hb1 hm
  go_wp2_with fail
  go_ret2
  rw [← HRR.out]
  exact ⟨_, rfl, World.ownsRow_nil _ _ _ _, hbw⟩
 | true =>
  obtain ⟨f1, f2, f3, f4, f5, f6, -, -⟩ := may_facts hm
  obtain ⟨n, rfl⟩ : ∃ n : Nat, nl = (n : Int) := ⟨nl.toNat, by omega⟩
  clear f3
  have g1 : 1 ≤ n := by omega
  have g2 : n ≤ 4 := by omega
  clear f1 f2
  have F4 := Lib.hid f4
  clear f4
  by_cases h4 : (n : Int) + (text.length : Int) < 4
  ·rw [sealR_low h4] at hR
   have HRR := Lib.hid hR
   have H4 := Lib.hid h4
   clear hR hsd hss hst hsx
   generalize ksB key iv msk = K at *
   go_enter Tryz.func101, Tryz.ntmps101
   go_wp2_with fail
   refine (may_any lg kind ver ad as_ at_ dst.length src.length tok.length cd cs ct sp ph (n64 u) n _).mono ?_
   rintro e w1 ⟨rfl, hb1⟩
   rw [hm]
   have hbw : Below w.heap.size w w1 := (bel2 w _ _).trans (hb1.mono (by simp; omega))
   have r1 : row? w1 (w.heap.size + 1) = some (hvA lg kind ver (.slice ad dst.length cd) (.slice as_ src.length cs) (.slice at_ tok.length ct) sp ph (n64 u) n) := by rw [row?_below hb1 (by simp)]; simp [go_sem]
   have c9' : w1.cell? ⟨w.heap.size + 1, 9, none⟩ = some (.int .i64 (n : Nat)) := row?_cell r1 9
   clear hb1 hm
   go_wp2_with fail
   go_ret2
   rw [← HRR.out]
   exact ⟨_, rfl, World.ownsRow_nil _ _ _ _, hbw⟩
  by_cases h2 : 2000 < text.length
  ·rw [sealR_long hm h4 h2] at hR
   have HRR := Lib.hid hR
   have H4 := Lib.hid h4
   clear hR hsd hss hst hsx
   generalize ksB key iv msk = K at *
   go_enter Tryz.func101, Tryz.ntmps101
   go_wp2_with fail
   refine (may_any lg kind ver ad as_ at_ dst.length src.length tok.length cd cs ct sp ph (n64 u) n _).mono ?_
   rintro e w1 ⟨rfl, hb1⟩
   rw [hm]
   have hbw : Below w.heap.size w w1 := (bel2 w _ _).trans (hb1.mono (by simp; omega))
   have r1 : row? w1 (w.heap.size + 1) = some (hvA lg kind ver (.slice ad dst.length cd) (.slice as_ src.length cs) (.slice at_ tok.length ct) sp ph (n64 u) n) := by rw [row?_below hb1 (by simp)]; simp [go_sem]
   have c9' : w1.cell? ⟨w.heap.size + 1, 9, none⟩ = some (.int .i64 (n : Nat)) := row?_cell r1 9
   clear hb1 hm
   go_wp2_with fail
   go_ret2
   rw [← HRR.out]
   exact ⟨_, rfl, World.ownsRow_nil _ _ _ _, hbw⟩
  rw [sealR_ok hm h4 h2] at hR
  obtain ⟨hH1, hH2⟩ := headB_length (lg := lg) (kind := kind) (ver := ver) (dst := dst) (src := src) (tok := tok) (sp := sp) (ph := ph) (num := n64 u) (nl := n) (rest := text.length + 16) F4.out f5 f6 (by omega)
  have hput := fun W => put_u lg kind ver dst src tok sp ph (n64 u) n (text.length + 16) hm hver (by omega) (.slice ad dst.length cd) (.slice as_ src.length cs) (.slice at_ tok.length ct) W
  generalize headB lg kind ver dst src tok sp ph (n64 u) n (text.length + 16) = H at hR hH1 hH2 hput
  have hpl := packB_length key iv msk H text u n
  obtain ⟨C, hC⟩ : ∃ C, Gcm.sealed key (nonce iv u) text H = C := ⟨_, rfl⟩
  have hCl : C.length = text.length + 16 := by rw [← hC]; exact Gcm.sealed_length ..
  obtain ⟨N, hN⟩ : ∃ N, nonce iv u = N := ⟨_, rfl⟩
  have hNl : N.length = 12 := by rw [← hN]; exact (nv_length iv u 8).trans hiv
  have HRR := Lib.hid hR
  have H4 := Lib.hid h4
  have HC := Lib.hid hC
  have HN := Lib.hid hN
  clear hR hsd hss hst hsx hC hN
  have hmask := fun W g cap o => mask_any key iv msk (H ++ C) hk hiv hmk (H.length - n) n g cap w.heap.size (by rw [List.length_append]; omega) (by rw [List.length_append]; omega) (by omega) W o
  generalize hKK : ksB key iv msk = KB at *
  go_enter Tryz.func101, Tryz.ntmps101
  go_wp2_with fail
  refine (may_any lg kind ver ad as_ at_ dst.length src.length tok.length cd cs ct sp ph (n64 u) n _).mono ?_
  rintro e w1 ⟨rfl, hb1⟩
  rw [hm]
  have hbw : Below w.heap.size w w1 := (bel2 w _ _).trans (hb1.mono (by simp; omega))
  have z1 := hb1.size
  simp at z1
  have r1 : row? w1 (w.heap.size + 1) = some (hvA lg kind ver (.slice ad dst.length cd) (.slice as_ src.length cs) (.slice at_ tok.length ct) sp ph (n64 u) n) := by rw [row?_below hb1 (by simp)]; simp [go_sem]
  have r0 : row? w1 w.heap.size = some (bvs KB) := by rw [row?_below hb1 (by simp; omega)]; simp [go_sem]
  have c9' : w1.cell? ⟨w.heap.size + 1, 9, none⟩ = some (.int .i64 (n : Nat)) := row?_cell r1 9
  have R0 := Lib.hid r0
  clear hb1 hm r0
  go_wp2_with fail
  have HM := Lib.hid hmask
  have R1 := Lib.hid r1
  clear hmask
  refine (hput _ ?_ ?_ ?_).mono ?_
  ·exact HSD.out.below hbw
  ·exact HSS.out.below hbw
  ·exact HST.out.below hbw
  rintro e w2 ⟨vh, rfl, hsh, hb2⟩
  have z2 := hb2.size
  have hbw2 : Below w.heap.size w w2 := hbw.trans (hb2.mono (by omega))
  have r0 : row? w2 w.heap.size = some (bvs KB) := by rw [row?_below hb2 (by omega)]; exact R0.out
  have r1' : row? w2 (w.heap.size + 1) = some (hvA lg kind ver (.slice ad dst.length cd) (.slice as_ src.length cs) (.slice at_ tok.length ct) sp ph (n64 u) n) := by rw [row?_below hb2 (by omega)]; exact R1.out
  obtain ⟨ah, ch, rfl, -, -, -⟩ := id hsh
  have HSH := Lib.hid hsh
  have HP := Lib.hid hput
  clear hb2 r1 c9' hsh hput
  have R0 := Lib.hid r0
  have R1 := Lib.hid r1'
  clear r0 r1'
  go_wp2_with fail
  have l1 : (loadAgg 66 (.pointer (some ⟨w.heap.size, 0, none⟩))).run Tryz.prog w2.drew = .ok (.agg (bvs key)) w2.drew := part16 w2.drew _ _ _ _ R0.out (by simp only [bvs_size]; omega) hKk
  have l2 : (loadAgg 67 (.pointer (some ⟨w.heap.size, 16, none⟩))).run Tryz.prog w2.drew = .ok (.agg (bvs iv)) w2.drew := part12 w2.drew _ _ _ _ R0.out (by simp only [bvs_size]; omega) hKi
  have c8 : w2.cell? ⟨w.heap.size + 1, 8, none⟩ = some (.int .u64 (n64 u : Nat)) := row?_cell R1.out 8
  refine Rg.wp_region_plan (Rg.row [(0, 3), (2, 3), (3, 0), (4, 3), (5, 0), (6, 3), (7, 0), (9, 3), (10, 3), (1, 1), (8, 1), (11, 1)] [12, 13]) [12, 13] (by kernel_rfl) (by kernel_rfl) ?_
  simp only [Rg.row, Rg.PT.map, List.map_cons, List.map_nil, List.getD_cons_zero, List.getD_cons_succ]
  go_wp2_with (first
   |(with_reducible refine Rg.plan_pure ?_ ?_ ?_); kernel_rfl; kernel_rfl; intro _ _|(with_reducible refine Rg.plan_take ?_ ?_ ?_); kernel_rfl; kernel_rfl; intro _ _|(with_reducible refine Rg.plan_keep ?_ ?_); kernel_rfl; intro K hK|refine hK _ _ (Rg.Keep.refl _) ?_; clear hK|refine hK _ _ (Rg.Keep.of_below (by assumption)) ?_; clear hK|(with_reducible refine Rg.plan_skip ?_ ?_); kernel_rfl|(with_reducible refine Rg.plan_done ?_)|(with_reducible refine Rg.calm_normal ?_))
  refine (clone_any H (by omega) _ _ (HSH.out.below (Below.refl _ _).drew)).mono ?_
  rintro e w3 ⟨vc, rfl, oc, hb3⟩
  refine hK _ _ (Rg.Keep.of_below hb3) ?_
  clear hK
  have z3 := hb3.size
  simp at z3 oc
  have OC := Lib.hid oc
  have HB3 := Lib.hid hb3
  clear oc hb3
  go_wp2_with (first
   |(with_reducible refine Rg.plan_pure ?_ ?_ ?_); kernel_rfl; kernel_rfl; intro _ _|(with_reducible refine Rg.plan_take ?_ ?_ ?_); kernel_rfl; kernel_rfl; intro _ _|(with_reducible refine Rg.plan_keep ?_ ?_); kernel_rfl; intro K hK|refine hK _ _ (Rg.Keep.refl _) ?_; clear hK|refine hK _ _ (Rg.Keep.of_below (by assumption)) ?_; clear hK|(with_reducible refine Rg.plan_skip ?_ ?_); kernel_rfl|(with_reducible refine Rg.plan_done ?_)|(with_reducible refine Rg.calm_normal ?_))
  refine (nonce_any iv hiv u _).mono ?_
  rintro e w4 ⟨rfl, hb4⟩
  rw [HN.out]
  refine hK _ _ (Rg.Keep.of_below hb4) ?_
  clear hK
  have z4 := hb4.size
  have HB4 := Lib.hid hb4
  clear hb4
  go_wp2_with (first
   |(with_reducible refine Rg.plan_pure ?_ ?_ ?_); kernel_rfl; kernel_rfl; intro _ _|(with_reducible refine Rg.plan_take ?_ ?_ ?_); kernel_rfl; kernel_rfl; intro _ _|(with_reducible refine Rg.plan_keep ?_ ?_); kernel_rfl; intro K hK|refine hK _ _ (Rg.Keep.refl _) ?_; clear hK|refine hK _ _ (Rg.Keep.of_below (by assumption)) ?_; clear hK|(with_reducible refine Rg.plan_skip ?_ ?_); kernel_rfl|(with_reducible refine Rg.plan_done ?_)|(with_reducible refine Rg.calm_normal ?_))
  refine (seal_any key N text H hk hNl htl (by omega) _ _ _ ((HSX.out.below hbw2).below ((Below.refl _ _).drew.trans (HB3.out.trans (HB4.out.mono z3)))) (HSH.out.below ((Below.refl _ _).drew.trans (HB3.out.trans (HB4.out.mono z3))))).mono ?_
  rintro e w5 ⟨g, rfl, og, hb5⟩
  have hC : Gcm.sealed key N text H = C := by rw [← HN.out]; exact HC.out
  rw [hC] at og
  have hsC : Sl w5 (.slice (some ⟨g, 0, none⟩) (text.length + 16) (text.length + 16)) C := by rw [← hCl] at og ⊢; exact Own.sl og
  clear og
  generalize (Value.slice (some ⟨g, 0, none⟩) (text.length + 16) (text.length + 16)) = vg at hsC ⊢
  refine hK _ _ (Rg.Keep.of_below hb5) ?_
  clear hK hC
  have z5 := hb5.size
  have OC5 := Lib.hid (Go.Rw.own_below (Go.Rw.own_below OC.out HB4.out) hb5)
  have SC := Lib.hid hsC
  have b5 : Below w.heap.size w w5 := hbw2.trans ((Below.refl _ _).drew.trans ((HB3.out.mono (by simp; omega)).trans ((HB4.out.mono (by omega)).trans (hb5.mono (by omega)))))
  have R15 := Lib.hid (show row? w5 (w.heap.size + 1) = some (hvA lg kind ver (.slice ad dst.length cd) (.slice as_ src.length cs) (.slice at_ tok.length ct) sp ph (n64 u) n) by rw [row?_below hb5 (by omega), row?_below HB4.out (by omega), row?_below HB3.out (by simp; omega)]; exact R1.out)
  have R05 := Lib.hid (show row? w5 w.heap.size = some (bvs KB) by rw [row?_below hb5 (by omega), row?_below HB4.out (by omega), row?_below HB3.out (by simp; omega)]; exact R0.out)
  clear hsC hb5 c8 l1 l2
  go_wp2_with (first
   | (at_builtin; refine Classical.byContradiction ?_)
   |(with_reducible refine Rg.plan_pure ?_ ?_ ?_); kernel_rfl; kernel_rfl; intro _ _|(with_reducible refine Rg.plan_take ?_ ?_ ?_); kernel_rfl; kernel_rfl; intro _ _|(with_reducible refine Rg.plan_keep ?_ ?_); kernel_rfl; intro K hK|refine hK _ _ (Rg.Keep.refl _) ?_; clear hK|refine hK _ _ (Rg.Keep.of_below (by assumption)) ?_; clear hK|(with_reducible refine Rg.plan_skip ?_ ?_); kernel_rfl|(with_reducible refine Rg.plan_done ?_)|(with_reducible refine Rg.calm_normal ?_))
  intro hh; apply hh; clear hh
  refine app_sl rfl _ _ 22 rfl w2.heap.size 5 i0 Tryz.underlying22 hi hz0 hz1 hz2 vc H rfl OC5.out vg C rfl SC.out (by omega) (by omega) ?_
  intro v6 w6 o6 g6
  have hq6 : ∀ q, vc.ownBlock = some q → w2.heap.size ≤ q := fun q hq => (OC5.out.lt q hq).1
  have b6 : Below w.heap.size w w6 := b5.grown g6 (by omega) (fun q hq => by have := hq6 q hq; omega)
  have R16 := Lib.hid (show row? w6 (w.heap.size + 1) = some (hvA lg kind ver (.slice ad dst.length cd) (.slice as_ src.length cs) (.slice at_ tok.length ct) sp ph (n64 u) n) from row_grown g6 R15.out (fun h => by have := hq6 _ h.symm; omega))
  have R06 := Lib.hid (show row? w6 w.heap.size = some (bvs KB) from row_grown g6 R05.out (fun h => by have := hq6 _ h.symm; omega))
  have hlHC : (H ++ C).length = H.length + C.length := List.length_append
  obtain ⟨g, cap, hv6, hgB⟩ : ∃ g cap, v6 = .slice (some ⟨g, 0, none⟩) (H ++ C).length cap ∧ w2.heap.size ≤ g := by
   rcases o6.2 with ⟨_, h0⟩ | ⟨g, cap, cur, e, hb, _⟩
   ·omega
   ·exact ⟨g, cap, e, hb⟩
  rw [hv6] at o6
  have O6 := Lib.hid o6
  have GG := Lib.hid g6
  obtain ⟨a, ha⟩ : ∃ a, H.length - n = a := ⟨_, rfl⟩
  have hHa : H.length = a + n := by omega
  have HHA := Lib.hid (And.intro ha hHa)
  have l9 : (loadAgg 69 (.pointer (some ⟨w.heap.size, 0, none⟩))).run Tryz.prog w6 = .ok (.agg (bvs KB)) w6 := rldK w6 _ _ R06.out hKl
  have c9 : w6.cell? ⟨w.heap.size + 1, 9, none⟩ = some (.int .i64 (n : Nat)) := row?_cell R16.out 9
  have h9 : (H.length : Int) - (n : Int) = (a : Nat) := by omega
  rw [hv6]
  have hHM := HM.out
  obtain ⟨L, hL⟩ : ∃ L, (H ++ C).length = L := ⟨_, rfl⟩
  rw [hL] at O6 hHM ⊢
  rw [ha] at hHM
  have HV6 := Lib.hid hv6
  have HLC := Lib.hid hlHC
  have HLL := Lib.hid hL
  have HM2 := Lib.hid (hHM w6 g cap (own_lower O6.out (by omega)))
  have HCl := Lib.hid hCl
  clear o6 g6 hv6 ha hHa hlHC hL hHM hCl HM
  go_wp2_with (first
   |(with_reducible refine Rg.plan_pure ?_ ?_ ?_); kernel_rfl; kernel_rfl; intro _ _|(with_reducible refine Rg.plan_take ?_ ?_ ?_); kernel_rfl; kernel_rfl; intro _ _|(with_reducible refine Rg.plan_keep ?_ ?_); kernel_rfl; intro K hK|refine hK _ _ (Rg.Keep.refl _) ?_; clear hK|refine hK _ _ (Rg.Keep.of_below (by assumption)) ?_; clear hK|(with_reducible refine Rg.plan_skip ?_ ?_); kernel_rfl|(with_reducible refine Rg.plan_done ?_)|(with_reducible refine Rg.calm_normal ?_))
  refine HM2.out.mono ?_
  rintro e w7 ⟨rfl, o7, g7⟩
  have O7 := Lib.hid o7
  have b7 : Below w.heap.size w w7 := b6.grown g7 b6.size (fun q hq => by have e : g = q := Option.some.inj hq; have := hbw2.size; omega)
  clear o7 g7 l9 c9
  go_wp2_with fail
  go_ret2
  rw [← HRR.out]
  refine ⟨_, rfl, ?_, b7⟩
  have ho := O7.out
  rw [← HHA.out.1, ← HC.out] at ho
  have hpL : (packB key iv msk H text u n).length = L := by rw [hpl, ← HLL.out, List.length_append, HCl.out]
  show w7.ownsRow w.heap.size 5 1 (.slice (some ⟨g, 0, none⟩) L cap) (packB key iv msk H text u n).length ((packB key iv msk H text u n).map bv)
  rw [hpL]
  exact ho
end Go.Proofs.YthjbmggpleliaaaGreatDoor

end
section
namespace Go.Rw
open Go Go.RowKit
variable {P : Program}
theorem splice_toListK (c : Array Value) (o : Nat) (c' : Array Value) : (splice c o c').toList = c.toList.take o ++ c'.toList ++ c.toList.drop (o + c'.size) := by simp [splice]
theorem set_foldK : ∀ (vs : List Value) (off k : Nat) (cells : Array Value), off + k + vs.length ≤ cells.size →
  ((vs.zipIdx k).foldl (fun cs (p : Value × Nat) => cs.setIfInBounds (off + p.2) p.1) cells).toList = cells.toList.take (off + k) ++ vs ++ cells.toList.drop (off + k + vs.length)
 | [], off, k, cells, _ => by simp
 | v :: vs, off, k, cells, h => by
  simp only [List.length_cons] at h
  rw [List.zipIdx_cons, List.foldl_cons, set_foldK vs off (k + 1) _ (by simp; omega)]
  have hl : off + k < cells.toList.length := by simp; omega
  simp only [Array.toList_setIfInBounds, List.length_cons]
  rw [show off + (k + 1) = off + k + 1 by omega, List.set_eq_take_append_cons_drop, if_pos hl]
  have ht : (cells.toList.take (off + k)).length = off + k := by rw [List.length_take]; omega
  have hd : (cells.toList.take (off + k)).drop (off + k + 1 + vs.length) = [] := List.drop_eq_nil_of_le (by omega)
  have htk : (cells.toList.take (off + k)).take (off + k + 1) = cells.toList.take (off + k) := List.take_of_length_le (by omega)
  rw [List.take_append, List.drop_append, ht, hd, htk, show off + k + 1 - (off + k) = 1 by omega, show off + k + 1 + vs.length - (off + k) = vs.length + 1 by omega]
  simp only [List.take_succ_cons, List.take_zero, List.drop_succ_cons, List.drop_drop, List.nil_append, List.append_assoc, List.cons_append]
  rw [show off + k + 1 + vs.length = off + k + (vs.length + 1) by omega]
theorem fill_overK (off : Nat) (vs cells : Array Value) (h : off + vs.size ≤ cells.size) :
  vs.zipIdx.foldl (fun cs (p : Value × Nat) => cs.setIfInBounds (off + p.2) p.1) cells = splice cells off vs := by
 apply Array.ext'
 rw [splice_toListK, ← Array.foldl_toList, Array.toList_zipIdx, set_foldK vs.toList off 0 cells (by simpa using h)]
 simp
theorem fill_step {f : Nat → Option (Nat × Nat)} {z a : List UInt8} {i off n : Nat} {rest : List (Nat × Value)} (hf : f i = some (off, n)) (ha : a.length = n) (h : off + n ≤ z.length) :
  ∃ y : List UInt8, y.length = z.length ∧ Instr.fill f (bvs z) ((i, .agg (bvs a)) :: rest) = Instr.fill f (bvs y) rest := by
 refine ⟨z.take off ++ a ++ z.drop (off + a.length), by simp; omega, ?_⟩
 have hc : (Value.agg (bvs a)).cells = bvs a := rfl
 have f1 := fill_overK off (bvs a) (bvs z) (by rw [bvs_size, bvs_size]; omega)
 rw [splice_bvs] at f1
 conv => lhs; unfold Instr.fill
 simp only [hc, hf]
 rw [if_neg (by simp [bvs_size]; omega), f1]
end Go.Rw
namespace Go.Proofs.YthjbmggpleliaaaGreatDoor
open Go.RowKit Go.Rw Aes
theorem built73 (parts : List (Nat × Value)) : Tryz.prog.built 69 parts = Instr.fill (#[(0, 16), (16, 12), (28, 16)][·]?) (bvs (zeros 44)) parts := by kernel_rfl
theorem built74 (parts : List (Nat × Value)) : Tryz.prog.built 70 parts = Instr.fill (fun i => some (i * 44, 44)) (bvs (zeros 88)) parts := by kernel_rfl
theorem build73 (a b c : List UInt8) (ha : a.length = 16) (hb : b.length = 12) (hc : c.length = 16) (w : World) : ∃ y, y.length = 44 ∧ (Instr.build 69 #[(0, .agg (bvs a)), (1, .agg (bvs b)), (2, .agg (bvs c))]).run Tryz.prog w = .ok (.agg (bvs y)) w := by
 obtain ⟨y1, h1, e1⟩ := fill_step (f := (#[(0, 16), (16, 12), (28, 16)][·]?)) (z := zeros 44) (i := 0) (off := 0) (n := 16) (rest := [(1, .agg (bvs b)), (2, .agg (bvs c))]) rfl ha (by rw [zeros_length]; omega)
 rw [zeros_length] at h1
 obtain ⟨y2, h2, e2⟩ := fill_step (f := (#[(0, 16), (16, 12), (28, 16)][·]?)) (z := y1) (i := 1) (off := 16) (n := 12) (rest := [(2, .agg (bvs c))]) rfl hb (by omega)
 obtain ⟨y3, h3, e3⟩ := fill_step (f := (#[(0, 16), (16, 12), (28, 16)][·]?)) (z := y2) (i := 2) (off := 28) (n := 16) (rest := []) rfl hc (by omega)
 exact ⟨y3, by omega, Go.run_build w _ _ _ (by rw [built73]; exact (e1.trans (e2.trans e3)).trans rfl)⟩
theorem build74 (a b : List UInt8) (ha : a.length = 44) (hb : b.length = 44) (w : World) : ∃ y, y.length = 88 ∧ (Instr.build 70 #[(0, .agg (bvs a)), (1, .agg (bvs b))]).run Tryz.prog w = .ok (.agg (bvs y)) w := by
 obtain ⟨y1, h1, e1⟩ := fill_step (f := fun i => some (i * 44, 44)) (z := zeros 88) (i := 0) (off := 0) (n := 44) (rest := [(1, .agg (bvs b))]) rfl ha (by rw [zeros_length]; omega)
 rw [zeros_length] at h1
 obtain ⟨y2, h2, e2⟩ := fill_step (f := fun i => some (i * 44, 44)) (z := y1) (i := 1) (off := 44) (n := 44) (rest := []) rfl hb (by omega)
 exact ⟨y2, by omega, Go.run_build w _ _ _ (by rw [built74]; exact (e1.trans e2).trans rfl)⟩
set_option maxRecDepth 100000 in
theorem of_any' (key ctx : List UInt8) (s : ByteArray) (hk : key.length ≤ 10000) (hc : ctx.length ≤ 250) (hl : s.size ≤ 100) (v u : Value) (w : World) (hs : Sl w v key) (hu : Sl w u ctx) (hg : Glob w) :
  Calls Tryz.prog 84 #[v, .string s, u] w fun e w' => (∃ v l, l.length = 32 ∧ e = .returned v ∧ Sl w' v l) ∧ Below w.heap.size w w' := by
 have HL := Lib.hid (label_any key ctx s hk hc hl 32 (by omega) v u w hs hu hg)
 obtain ⟨ao, cap, rfl, -⟩ := id hs
 obtain ⟨bo, bcap, rfl, -⟩ := id hu
 clear hs hu hg hk hc hl
 go_enter Tryz.func84, Tryz.ntmps84
 go_wp2_with fail
 refine HL.out.mono ?_
 rintro e w4 ⟨⟨v4, l4, hl4, rfl, s4⟩, b4⟩
 have H4 := Lib.hid (And.intro hl4 (And.intro s4 b4))
 clear hl4 s4 b4 HL
 go_wp2_with fail
 go_ret
 exact ⟨⟨_, l4, H4.out.1, rfl, H4.out.2.1⟩, H4.out.2.2⟩
end Go.Proofs.YthjbmggpleliaaaGreatDoor

end
section
namespace Go.Rg
open Go Go.RowKit Go.Rw
def JL (n : Nat) (v : Value) (w : World) : Prop := ∃ l : List UInt8, l.length = n ∧ Sl w v l
def JP (n : Nat) (v : Value) (w : World) : Prop := ∃ (b off cap : Nat) (l : List UInt8), v = .pointer (some ⟨b, off, none⟩) ∧ l.length = n ∧ Sl w (.slice (some ⟨b, off, none⟩) n cap) l
def JBy (n : Nat) (v : Value) (_ : World) : Prop := ∃ l : List UInt8, l.length = n ∧ v = .agg (bvs l)
theorem JL.st {n : Nat} : ∀ v w w', Below w.heap.size w w' → JL n v w → JL n v w' := fun _ _ _ hb ⟨l, h1, h2⟩ => ⟨l, h1, h2.below hb⟩
theorem JP.st {n : Nat} : ∀ v w w', Below w.heap.size w w' → JP n v w → JP n v w' := fun _ _ _ hb ⟨b, o, c, l, h1, h2, h3⟩ => ⟨b, o, c, l, h1, h2, h3.below hb⟩
theorem JBy.st {n : Nat} : ∀ v w w', Below w.heap.size w w' → JBy n v w → JBy n v w' := fun _ _ _ _ h => h
theorem run_arr {P : Program} {t e : TypeId} {n : Nat} (hu : P.underlying t = some (.array n e)) (h0 : 0 < n) {o : Oper} {ρ : Operand → Value} {v : Value} {w : World} {x : Operand} (ho : o.op = .sliceToArrayPointer t x) (hx : ρ x = v) (hj : JL n v w) :
  ∃ u, (execOp ρ o).run P w = .ok (.value u) w ∧ JP n u w := by
 obtain ⟨l, hl, hs⟩ := hj
 obtain ⟨ao, cap, rfl, hc, hn, hp⟩ := id hs
 obtain ⟨b, off, rfl, -⟩ := hp (by omega)
 refine ⟨.pointer (some ⟨b, off, none⟩), ?_, b, off, cap, l, rfl, hl, by rw [← hl]; exact hs⟩
 have := run_arrayAt (P := P) w t e n (some ⟨b, off, none⟩) l.length cap hu (by omega)
 unfold execOp
 simp [ho, hx, this, Result.andThen]
theorem run_arrLoad {P : Program} {t n : Nat} (A : Agg P t n) (h0 : 0 < n) {o : Oper} {ρ : Operand → Value} {v : Value} {w : World} {x : Operand} (ho : o.op = .load t x) (hx : ρ x = v) (hj : JP n v w) :
  ∃ u, (execOp ρ o).run P w = .ok (.value u) w ∧ JBy n u w := by
 obtain ⟨b, off, cap, l, rfl, hl, hs⟩ := hj
 refine ⟨.agg (bvs l), ?_, l, hl, rfl⟩
 have := load_sl A hs (by omega) h0
 rw [List.take_of_length_le (by omega)] at this
 unfold execOp
 simp [ho, hx, this, Result.andThen]
theorem run_build3 {P : Program} {t : TypeId} {o : Oper} {ρ : Operand → Value} {x y z : Operand} {a b c v : Value} {w : World} (ho : o.op = .build t #[(0, x), (1, y), (2, z)]) (hx : ρ x = a) (hy : ρ y = b) (hz : ρ z = c) (h : (Instr.build t #[(0, a), (1, b), (2, c)]).run P w = .ok v w) :
  (execOp ρ o).run P w = .ok (.value v) w := by
 unfold execOp
 simp [ho, hx, hy, hz, h, Result.andThen]
theorem ph_b3 {P : Program} {ops : Array Oper} {R : List Flo} {a0 : Act} {w0 : World} (i : Nat) (d : Tmp) (k1 k2 k3 : Nat) {t : TypeId} {x y z : Operand} (J1 J2 J3 J : Value → World → Prop) (hd : (ops.toList.getD i default).dst = some d)
  (ho : (ops.toList.getD i default).op = .build t #[(0, x), (1, y), (2, z)]) (ha : ∀ us, (puts us R a0).eval x = us k1) (hb : ∀ us, (puts us R a0).eval y = us k2) (hc : ∀ us, (puts us R a0).eval z = us k3)
  (r1 r2 r3 : Flo) (hr1 : r1 ∈ R) (hr2 : r2 ∈ R) (hr3 : r3 ∈ R) (hi1 : r1.i = k1) (hi2 : r2.i = k2) (hi3 : r3.i = k3) (hJ1 : r1.J = J1) (hJ2 : r2.J = J2) (hJ3 : r3.J = J3)
  (h : ∀ v1 v2 v3 w, J1 v1 w → J2 v2 w → J3 v3 w → ∃ u, (Instr.build t #[(0, v1), (1, v2), (2, v3)]).run P w = .ok u w ∧ J u w) : ExecOk P ops R a0 w0 ⟨i, d, [k1, k2, k3], false, J⟩ := by
 refine ph_gen i d [k1, k2, k3] false J hd w0.heap.size (Nat.le_refl _) fun us w _ hdep => ?_
 have h1 := hdep r1 hr1 (by rw [hi1]; simp)
 have h2 := hdep r2 hr2 (by rw [hi2]; simp)
 have h3 := hdep r3 hr3 (by rw [hi3]; simp)
 rw [hJ1, hi1] at h1
 rw [hJ2, hi2] at h2
 rw [hJ3, hi3] at h3
 obtain ⟨u, e1, e2⟩ := h _ _ _ _ h1 h2 h3
 exact ⟨u, w, run_build3 ho (ha us) (hb us) (hc us) e1, e2, Below.refl _ _, fun h => by cases h⟩
end Go.Rg
namespace Go.Proofs.YthjbmggpleliaaaGreatDoor
open Go.RowKit Go.Rw Aes
theorem st73 (x y : Value) : Instr.storeAt 69 x y = storeAgg 69 x y := rfl
theorem al73 : Instr.alloc 69 true (.tuple #[]) = allocAgg 69 := rfl
theorem rst73 (w : World) (b : Nat) (c' : Array Value) (h : (row? w b).map (·.size) = some 44) (hn : c'.size = 44) (h1 : allOne c' = true) : (storeAgg 69 (.pointer (some ⟨b, 0, none⟩)) (.agg c')).run Tryz.prog w = .ok () (w.setRow b c') := store_rule AgK w b c' h hn h1
theorem ral73 (w : World) : (allocAgg 69).run Tryz.prog w = .ok (.pointer (some ⟨w.heap.size, 0, none⟩)) (w.alloc (.cells (bvs (zeros 44)) 69)) := alloc_rule (n := 44) (by kernel_rfl) w
attribute [local go_sem ↓] st73 al73
attribute [local go_sem] ral73
theorem cfLabel (args : Array Value) (w : World) : (callFunc 110 args).run Tryz.prog w = .ok (.enter 110 args) w := by kernel_rfl
set_option maxRecDepth 100000 in
set_option maxHeartbeats 2000000 in
theorem packet_any (key : List UInt8) (hk : key.length ≤ 10000) (v : Value) (w : World) (hs : Sl w v key) (hg : Glob w) :
  Calls Tryz.prog 83 #[v] w fun e w' => (∃ l, l.length = 44 ∧ e = .returned (.agg (bvs l))) ∧ Below w.heap.size w w' := by
 obtain ⟨ao, cap, rfl, -⟩ := id hs
 have HS := Lib.hid hs
 have HG := Lib.hid hg
 have HK := Lib.hid hk
 clear hs hg hk
 go_enter Tryz.func83, Tryz.ntmps83
 go_wp2_with fail
 have hlt : w.heap.size < (w.alloc (.cells (bvs (zeros 44)) 69)).drew.heap.size := by simp
 have R0 := Lib.hid (show row? (w.alloc (.cells (bvs (zeros 44)) 69)).drew w.heap.size = some (bvs (zeros 44)) from row?_alloc_at _ _ _ _ rfl)
 have B0 := Lib.hid (show Below w.heap.size w (w.alloc (.cells (bvs (zeros 44)) 69)).drew from ((Below.refl _ _).alloc (Nat.le_refl _) _).drew)
 refine Rg.wp_region_flo [(0, 3), (4, 3), (8, 3)] [
   ⟨1, 4, [], false, Rg.JL 16⟩,
   ⟨2, 5, [1], false, Rg.JP 16⟩,
   ⟨3, 6, [2], false, Rg.JBy 16⟩,
   ⟨5, 8, [1], false, Rg.JL 12⟩,
   ⟨6, 9, [5], false, Rg.JP 12⟩,
   ⟨7, 10, [6], false, Rg.JBy 12⟩,
   ⟨9, 12, [5], false, Rg.JL 16⟩,
   ⟨10, 13, [9], false, Rg.JP 16⟩,
   ⟨11, 14, [10], false, Rg.JBy 16⟩,
   ⟨12, 15, [3, 7, 11], false, Rg.JBy 44⟩] [(1, 4, []), (2, 5, [1]), (3, 6, [2]), (5, 8, [1]), (6, 9, [5]), (7, 10, [6]), (9, 12, [5]), (10, 13, [9]), (11, 14, [10]), (12, 15, [3, 7, 11])] [13] (by kernel_rfl) (by kernel_rfl) rfl ?_
 simp only [Rg.row, Rg.PT.map, List.getD_cons_zero, List.getD_cons_succ]
 go_wp2_with (first
  |(with_reducible refine Rg.plan_pure ?_ ?_ ?_); kernel_rfl; kernel_rfl; intro _ _|(with_reducible refine Rg.plan_take ?_ ?_ ?_); kernel_rfl; kernel_rfl; intro _ _|(with_reducible refine Rg.plan_keep ?_ ?_); kernel_rfl; intro K hK|refine hK _ _ (Rg.Keep.refl _) ?_; clear hK|refine hK _ _ (Rg.Keep.of_below (by assumption)) ?_; clear hK|(with_reducible refine Rg.plan_skip ?_ ?_); kernel_rfl|(with_reducible refine Rg.plan_done ?_)|(with_reducible refine Rg.calm_normal ?_))
 refine Rg.phase_done (Rg.phase_mk ?_ ?_ ?_)
 ·exact List.forall_mem_cons.2 ⟨Rg.JL.st, List.forall_mem_cons.2 ⟨Rg.JP.st, List.forall_mem_cons.2 ⟨Rg.JBy.st, List.forall_mem_cons.2 ⟨Rg.JL.st, List.forall_mem_cons.2 ⟨Rg.JP.st, List.forall_mem_cons.2 ⟨Rg.JBy.st, List.forall_mem_cons.2 ⟨Rg.JL.st, List.forall_mem_cons.2 ⟨Rg.JP.st, List.forall_mem_cons.2 ⟨Rg.JBy.st, List.forall_mem_cons.2 ⟨Rg.JBy.st, fun r hr => (by cases hr)⟩⟩⟩⟩⟩⟩⟩⟩⟩⟩
 ·refine List.forall_mem_cons.2 ⟨?_, List.forall_mem_cons.2 ⟨?_, List.forall_mem_cons.2 ⟨?_, List.forall_mem_cons.2 ⟨?_, List.forall_mem_cons.2 ⟨?_, List.forall_mem_cons.2 ⟨?_, List.forall_mem_cons.2 ⟨?_, List.forall_mem_cons.2 ⟨?_, List.forall_mem_cons.2 ⟨?_, List.forall_mem_cons.2 ⟨?_, fun r hr => (by cases hr)⟩⟩⟩⟩⟩⟩⟩⟩⟩⟩
  ·with_reducible refine Rg.ph_callD 1 4 [] (Rg.JL 16) (f := 110) (xs := #[.tmp 3, .const (.string ⟨#[113, 117, 105, 99, 32, 107, 101, 121]⟩), .const (.slice none 0 0), .const (.int .i64 16)]) (ts := #[22, 9, 22, 3]) (args := fun _ => #[.slice ao key.length cap, .string ⟨#[113, 117, 105, 99, 32, 107, 101, 121]⟩, .slice none 0 0, .int .i64 (16 : Nat)]) ?_ ?_ ?_ ?_ ?_
   ·exact cfLabel
   ·kernel_rfl
   ·kernel_rfl
   ·intro us; kernel_rfl
   ·intro us wx hb _
    refine (label_any key [] ⟨#[113, 117, 105, 99, 32, 107, 101, 121]⟩ HK.out (by simp) (by decide) 16 (by omega) _ _ wx (HS.out.below (B0.out.trans (hb.mono B0.out.size))) (Sl.nil wx) (HG.out.below (B0.out.trans (hb.mono B0.out.size)))).mono ?_
    rintro e w' ⟨⟨v, l, hl, rfl, hs⟩, hb'⟩
    exact ⟨v, rfl, ⟨l, hl, hs⟩, hb'⟩
  ·with_reducible refine Rg.ph_un 2 5 1 (op := .sliceToArrayPointer 66 (.tmp 4)) (x := .tmp 4) (Rg.JL 16) (Rg.JP 16) ?_ ?_ ?_ _ (List.getElem_mem (n := 0) (by simp)) rfl rfl ?_
   ·kernel_rfl
   ·kernel_rfl
   ·intro us; kernel_rfl
   ·exact fun o ρ v w ho hx hj => Rg.run_arr Tryz.underlying66 (by omega) ho hx hj
  ·with_reducible refine Rg.ph_un 3 6 2 (op := .load 66 (.tmp 5)) (x := .tmp 5) (Rg.JP 16) (Rg.JBy 16) ?_ ?_ ?_ _ (List.getElem_mem (n := 1) (by simp)) rfl rfl ?_
   ·kernel_rfl
   ·kernel_rfl
   ·intro us; kernel_rfl
   ·exact fun o ρ v w ho hx hj => Rg.run_arrLoad Ag16 (by omega) ho hx hj
  ·with_reducible refine Rg.ph_callD 5 8 [1] (Rg.JL 12) (f := 110) (xs := #[.tmp 7, .const (.string ⟨#[113, 117, 105, 99, 32, 105, 118]⟩), .const (.slice none 0 0), .const (.int .i64 12)]) (ts := #[22, 9, 22, 3]) (args := fun _ => #[.slice ao key.length cap, .string ⟨#[113, 117, 105, 99, 32, 105, 118]⟩, .slice none 0 0, .int .i64 (12 : Nat)]) ?_ ?_ ?_ ?_ ?_
   ·exact cfLabel
   ·kernel_rfl
   ·kernel_rfl
   ·intro us; kernel_rfl
   ·intro us wx hb _
    refine (label_any key [] ⟨#[113, 117, 105, 99, 32, 105, 118]⟩ HK.out (by simp) (by decide) 12 (by omega) _ _ wx (HS.out.below (B0.out.trans (hb.mono B0.out.size))) (Sl.nil wx) (HG.out.below (B0.out.trans (hb.mono B0.out.size)))).mono ?_
    rintro e w' ⟨⟨v, l, hl, rfl, hs⟩, hb'⟩
    exact ⟨v, rfl, ⟨l, hl, hs⟩, hb'⟩
  ·with_reducible refine Rg.ph_un 6 9 5 (op := .sliceToArrayPointer 67 (.tmp 8)) (x := .tmp 8) (Rg.JL 12) (Rg.JP 12) ?_ ?_ ?_ _ (List.getElem_mem (n := 3) (by simp)) rfl rfl ?_
   ·kernel_rfl
   ·kernel_rfl
   ·intro us; kernel_rfl
   ·exact fun o ρ v w ho hx hj => Rg.run_arr Tryz.underlying67 (by omega) ho hx hj
  ·with_reducible refine Rg.ph_un 7 10 6 (op := .load 67 (.tmp 9)) (x := .tmp 9) (Rg.JP 12) (Rg.JBy 12) ?_ ?_ ?_ _ (List.getElem_mem (n := 4) (by simp)) rfl rfl ?_
   ·kernel_rfl
   ·kernel_rfl
   ·intro us; kernel_rfl
   ·exact fun o ρ v w ho hx hj => Rg.run_arrLoad Ag12 (by omega) ho hx hj
  ·with_reducible refine Rg.ph_callD 9 12 [5] (Rg.JL 16) (f := 110) (xs := #[.tmp 11, .const (.string ⟨#[113, 117, 105, 99, 32, 104, 112]⟩), .const (.slice none 0 0), .const (.int .i64 16)]) (ts := #[22, 9, 22, 3]) (args := fun _ => #[.slice ao key.length cap, .string ⟨#[113, 117, 105, 99, 32, 104, 112]⟩, .slice none 0 0, .int .i64 (16 : Nat)]) ?_ ?_ ?_ ?_ ?_
   ·exact cfLabel
   ·kernel_rfl
   ·kernel_rfl
   ·intro us; kernel_rfl
   ·intro us wx hb _
    refine (label_any key [] ⟨#[113, 117, 105, 99, 32, 104, 112]⟩ HK.out (by simp) (by decide) 16 (by omega) _ _ wx (HS.out.below (B0.out.trans (hb.mono B0.out.size))) (Sl.nil wx) (HG.out.below (B0.out.trans (hb.mono B0.out.size)))).mono ?_
    rintro e w' ⟨⟨v, l, hl, rfl, hs⟩, hb'⟩
    exact ⟨v, rfl, ⟨l, hl, hs⟩, hb'⟩
  ·with_reducible refine Rg.ph_un 10 13 9 (op := .sliceToArrayPointer 66 (.tmp 12)) (x := .tmp 12) (Rg.JL 16) (Rg.JP 16) ?_ ?_ ?_ _ (List.getElem_mem (n := 6) (by simp)) rfl rfl ?_
   ·kernel_rfl
   ·kernel_rfl
   ·intro us; kernel_rfl
   ·exact fun o ρ v w ho hx hj => Rg.run_arr Tryz.underlying66 (by omega) ho hx hj
  ·with_reducible refine Rg.ph_un 11 14 10 (op := .load 66 (.tmp 13)) (x := .tmp 13) (Rg.JP 16) (Rg.JBy 16) ?_ ?_ ?_ _ (List.getElem_mem (n := 7) (by simp)) rfl rfl ?_
   ·kernel_rfl
   ·kernel_rfl
   ·intro us; kernel_rfl
   ·exact fun o ρ v w ho hx hj => Rg.run_arrLoad Ag16 (by omega) ho hx hj
  ·with_reducible refine Rg.ph_b3 12 15 3 7 11 (t := 69) (x := .tmp 6) (y := .tmp 10) (z := .tmp 14) (Rg.JBy 16) (Rg.JBy 12) (Rg.JBy 16) (Rg.JBy 44) ?_ ?_ ?_ ?_ ?_ _ _ _ (List.getElem_mem (n := 2) (by simp)) (List.getElem_mem (n := 5) (by simp)) (List.getElem_mem (n := 8) (by simp)) rfl rfl rfl rfl rfl rfl ?_
   ·kernel_rfl
   ·kernel_rfl
   ·intro us; kernel_rfl
   ·intro us; kernel_rfl
   ·intro us; kernel_rfl
   ·rintro v1 v2 v3 wx ⟨a, ha, rfl⟩ ⟨b, hb, rfl⟩ ⟨c, hc, rfl⟩
    obtain ⟨y, hy, e⟩ := build73 a b c ha hb hc wx
    exact ⟨_, e, y, hy, rfl⟩
 ·intro us wZ hbZ hJ hfr hne
  obtain ⟨y, hy, ey⟩ : Rg.JBy 44 (us 12) wZ := hJ _ (List.getElem_mem (n := 9) (by simp))
  have hsz : (bvs y).size = 44 := by rw [bvs_size, hy]
  have hr : row? wZ w.heap.size = some (bvs (zeros 44)) := by rw [row?_below hbZ hlt]; exact R0.out
  have st := rst73 wZ w.heap.size (bvs y) (by rw [hr, Option.map_some]; rfl) hsz (bvs_all y)
  have HZ := Lib.hid (And.intro hr (And.intro (B0.out.trans (hbZ.mono B0.out.size)) hy))
  clear hbZ hJ hfr hne hr hy
  simp only [Rg.puts, List.map_cons, List.map_nil, List.getD_cons_zero, List.getD_cons_succ]
  rw [ey]
  generalize us 1 = u1
  generalize us 2 = u2
  generalize us 3 = u3
  generalize us 5 = u5
  generalize us 6 = u6
  generalize us 7 = u7
  generalize us 9 = u9
  generalize us 10 = u10
  generalize us 11 = u11
  go_wp2_with (first
   |(with_reducible refine Rg.plan_pure ?_ ?_ ?_); kernel_rfl; kernel_rfl; intro _ _|(with_reducible refine Rg.plan_take ?_ ?_ ?_); kernel_rfl; kernel_rfl; intro _ _|(with_reducible refine Rg.plan_keep ?_ ?_); kernel_rfl; intro K hK|refine hK _ _ (Rg.Keep.refl _) ?_; clear hK|refine hK _ _ (Rg.Keep.of_below (by assumption)) ?_; clear hK|(with_reducible refine Rg.plan_skip ?_ ?_); kernel_rfl|(with_reducible refine Rg.plan_done ?_)|(with_reducible refine Rg.calm_normal ?_))
  refine bodyPost_ret (results_row AgK rfl _ _ w.heap.size (bvs y) rfl ?_ hsz) rfl ?_
  ·exact row?_setRow_eq HZ.out.1
  ·exact ⟨⟨y, HZ.out.2.2, rfl⟩, below_setRow HZ.out.2.1 (Nat.le_refl _) _⟩
end Go.Proofs.YthjbmggpleliaaaGreatDoor

end
section
namespace Go.Proofs.YthjbmggpleliaaaGreatDoor
open Go.RowKit Go.Rw Aes
theorem Ag88 : Agg Tryz.prog 70 88 := ⟨⟨_, Tryz.underlying70, rfl⟩, by kernel_rfl⟩
theorem ld88 (x : Value) : Instr.loadAt 70 x = loadAgg 70 x := rfl
theorem st88 (x y : Value) : Instr.storeAt 70 x y = storeAgg 70 x y := rfl
theorem al88 : Instr.alloc 70 true (.tuple #[]) = allocAgg 70 := rfl
theorem rld88 (w : World) (b : Nat) (h : (row? w b).map (·.size) = some 88) : (loadAgg 70 (.pointer (some ⟨b, 0, none⟩))).run Tryz.prog w = .ok (.agg ((row? w b).getD #[])) w := load_rule Ag88 w b h
theorem rst88 (w : World) (b : Nat) (c' : Array Value) (h : (row? w b).map (·.size) = some 88) (hn : c'.size = 88) (h1 : allOne c' = true) : (storeAgg 70 (.pointer (some ⟨b, 0, none⟩)) (.agg c')).run Tryz.prog w = .ok () (w.setRow b c') := store_rule Ag88 w b c' h hn h1
theorem ral88 (w : World) : (allocAgg 70).run Tryz.prog w = .ok (.pointer (some ⟨w.heap.size, 0, none⟩)) (w.alloc (.cells (bvs (zeros 88)) 70)) := alloc_rule (n := 88) (by kernel_rfl) w
def buildKK (ps : Array (Nat × Value)) : Sem Value := Instr.build 70 ps
theorem bdKK (ps : Array (Nat × Value)) : Instr.build 70 ps = buildKK ps := rfl
attribute [local go_sem ↓] ld88 st88 al88 ld32b st32b al32b bdKK bvs_getElem?
attribute [local go_sem] rld88 rst88 ral88 rld32b rst32b ral32b setRow_alloc_at setRow_alloc_past setRow_drew
set_option maxRecDepth 100000 in
set_option maxHeartbeats 2000000 in
theorem first_any (psk dst : List UInt8) (hk : psk.length ≤ 10000) (hd : dst.length ≤ 10000) (v u : Value) (w : World) (hs : Sl w v psk) (hu : Sl w u dst) (hg : Glob w) :
  Calls Tryz.prog 45 #[v, u] w fun e w' => (∃ l, l.length = 88 ∧ e = .returned (.agg (bvs l))) ∧ Below w.heap.size w w' := by
 obtain ⟨ao, cap, rfl, -⟩ := id hs
 obtain ⟨bo, bcap, rfl, -⟩ := id hu
 have HS := Lib.hid hs
 have HU := Lib.hid hu
 have HG := Lib.hid hg
 have HK := Lib.hid (And.intro hk hd)
 clear hs hg hk hu hd
 go_enter Tryz.func45, Tryz.ntmps45
 go_wp2_with fail
 refine (extract_any dst psk HK.out.2 HK.out.1 _ _ _ (HU.out.below ((Below.refl _ _).alloc (Nat.le_refl _) _)) (HS.out.below ((Below.refl _ _).alloc (Nat.le_refl _) _)) (HG.out.below ((Below.refl _ _).alloc (Nat.le_refl _) _))).mono ?_
 rintro e w1 ⟨⟨h, hh, rfl⟩, b1⟩
 have R1 := Lib.hid (show row? w1 w.heap.size = some (bvs (zeros 88)) by rw [row?_below b1 (by simp)]; exact row?_alloc_at _ _ _ _ rfl)
 have B1 := Lib.hid (((Below.refl _ w).alloc (Nat.le_refl _) (.cells (bvs (zeros 88)) 70)).trans (b1.mono (by simp)))
 have hhz : (bvs h).size = 32 := by rw [bvs_size, hh]
 have HH := Lib.hid hh
 clear b1 hh
 go_wp2_with fail
 have R2 := Lib.hid (show row? (w1.alloc (.cells (bvs h) 163)).drew w1.heap.size = some (bvs h) from row?_alloc_at _ _ _ _ rfl)
 have R3 := Lib.hid (show row? (w1.alloc (.cells (bvs h) 163)).drew w.heap.size = some (bvs (zeros 88)) from (row?_alloc_past _ _ _ (row?_lt R1.out)).trans R1.out)
 have B3 := Lib.hid (show Below w.heap.size w (w1.alloc (.cells (bvs h) 163)).drew from (B1.out.alloc B1.out.size _).drew)
 clear R1 B1
 refine Rg.wp_region_plan (Rg.row [(0, 3), (3, 3), (1, 1), (2, 1), (4, 1), (5, 1), (6, 3)] [7]) [7] (by kernel_rfl) (by kernel_rfl) ?_
 simp only [Rg.row, Rg.PT.map, List.map_cons, List.map_nil, List.getD_cons_zero, List.getD_cons_succ]
 go_wp2_with (first
  |(with_reducible refine Rg.plan_pure ?_ ?_ ?_); kernel_rfl; kernel_rfl; intro _ _|(with_reducible refine Rg.plan_take ?_ ?_ ?_); kernel_rfl; kernel_rfl; intro _ _|(with_reducible refine Rg.plan_keep ?_ ?_); kernel_rfl; intro K hK|refine hK _ _ (Rg.Keep.refl _) ?_; clear hK|refine hK _ _ (Rg.Keep.of_below (by assumption)) ?_; clear hK|(with_reducible refine Rg.plan_skip ?_ ?_); kernel_rfl|(with_reducible refine Rg.plan_done ?_)|(with_reducible refine Rg.calm_normal ?_))
 refine (of_any' h [] ⟨#[99, 108, 105, 101, 110, 116, 32, 105, 110]⟩ (by have := HH.out; omega) (by simp) (by decide) _ _ _ (sl_row R2.out HH.out) (Sl.nil _) (HG.out.below B3.out)).mono ?_
 rintro e w2 ⟨⟨v2, l2, hl2, rfl, s2⟩, b2⟩
 obtain ⟨ao2, cap2, rfl, -⟩ := id s2
 have R4 := Lib.hid (Rg.stable_row b2 R2.out)
 have R5 := Lib.hid (Rg.stable_row b2 R3.out)
 have B5 := Lib.hid (B3.out.trans (b2.mono B3.out.size))
 have S2 := Lib.hid s2
 have HL2 := Lib.hid hl2
 refine hK _ _ (Rg.Keep.of_below b2) ?_
 clear hK b2 s2 hl2 R2 R3 B3
 go_wp2_with (first
  |(with_reducible refine Rg.plan_pure ?_ ?_ ?_); kernel_rfl; kernel_rfl; intro _ _|(with_reducible refine Rg.plan_take ?_ ?_ ?_); kernel_rfl; kernel_rfl; intro _ _|(with_reducible refine Rg.plan_keep ?_ ?_); kernel_rfl; intro K hK|refine hK _ _ (Rg.Keep.refl _) ?_; clear hK|refine hK _ _ (Rg.Keep.of_below (by assumption)) ?_; clear hK|(with_reducible refine Rg.plan_skip ?_ ?_); kernel_rfl|(with_reducible refine Rg.plan_done ?_)|(with_reducible refine Rg.calm_normal ?_))
 refine (packet_any l2 (by have := HL2.out; omega) _ _ S2.out (HG.out.below B5.out)).mono ?_
 rintro e w3 ⟨⟨k1, hk1, rfl⟩, b3⟩
 have R6 := Lib.hid (Rg.stable_row b3 R4.out)
 have R7 := Lib.hid (Rg.stable_row b3 R5.out)
 have B7 := Lib.hid (B5.out.trans (b3.mono B5.out.size))
 have HK1 := Lib.hid hk1
 refine hK _ _ (Rg.Keep.of_below b3) ?_
 clear hK b3 hk1 R4 R5 B5 S2
 go_wp2_with (first
  |(with_reducible refine Rg.plan_pure ?_ ?_ ?_); kernel_rfl; kernel_rfl; intro _ _|(with_reducible refine Rg.plan_take ?_ ?_ ?_); kernel_rfl; kernel_rfl; intro _ _|(with_reducible refine Rg.plan_keep ?_ ?_); kernel_rfl; intro K hK|refine hK _ _ (Rg.Keep.refl _) ?_; clear hK|refine hK _ _ (Rg.Keep.of_below (by assumption)) ?_; clear hK|(with_reducible refine Rg.plan_skip ?_ ?_); kernel_rfl|(with_reducible refine Rg.plan_done ?_)|(with_reducible refine Rg.calm_normal ?_))
 refine (of_any' h [] ⟨#[115, 101, 114, 118, 101, 114, 32, 105, 110]⟩ (by have := HH.out; omega) (by simp) (by decide) _ _ _ (sl_row R6.out HH.out) (Sl.nil _) (HG.out.below B7.out)).mono ?_
 rintro e w4 ⟨⟨v4, l4, hl4, rfl, s4⟩, b4⟩
 obtain ⟨ao4, cap4, rfl, -⟩ := id s4
 have R8 := Lib.hid (Rg.stable_row b4 R7.out)
 have B8 := Lib.hid (B7.out.trans (b4.mono B7.out.size))
 have S4 := Lib.hid s4
 have HL4 := Lib.hid hl4
 refine hK _ _ (Rg.Keep.of_below b4) ?_
 clear hK b4 s4 hl4 R6 R7 B7
 go_wp2_with (first
  |(with_reducible refine Rg.plan_pure ?_ ?_ ?_); kernel_rfl; kernel_rfl; intro _ _|(with_reducible refine Rg.plan_take ?_ ?_ ?_); kernel_rfl; kernel_rfl; intro _ _|(with_reducible refine Rg.plan_keep ?_ ?_); kernel_rfl; intro K hK|refine hK _ _ (Rg.Keep.refl _) ?_; clear hK|refine hK _ _ (Rg.Keep.of_below (by assumption)) ?_; clear hK|(with_reducible refine Rg.plan_skip ?_ ?_); kernel_rfl|(with_reducible refine Rg.plan_done ?_)|(with_reducible refine Rg.calm_normal ?_))
 refine (packet_any l4 (by have := HL4.out; omega) _ _ S4.out (HG.out.below B8.out)).mono ?_
 rintro e w5 ⟨⟨k2, hk2, rfl⟩, b5⟩
 have R9 := Lib.hid (Rg.stable_row b5 R8.out)
 have B9 := Lib.hid (B8.out.trans (b5.mono B8.out.size))
 refine hK _ _ (Rg.Keep.of_below b5) ?_
 obtain ⟨y, hy, e⟩ := build74 k1 k2 HK1.out hk2 w5
 have e' : (buildKK #[(0, .agg (bvs k1)), (1, .agg (bvs k2))]).run Tryz.prog w5 = .ok (.agg (bvs y)) w5 := e
 have hsz : (bvs y).size = 88 := by rw [bvs_size, hy]
 have st := rst88 w5 w.heap.size (bvs y) (by rw [R9.out, Option.map_some]; rfl) hsz (bvs_all y)
 have HY := Lib.hid hy
 clear hK b5 hk2 R8 B8 S4 e hy
 go_wp2_with (first
  |(with_reducible refine Rg.plan_pure ?_ ?_ ?_); kernel_rfl; kernel_rfl; intro _ _|(with_reducible refine Rg.plan_take ?_ ?_ ?_); kernel_rfl; kernel_rfl; intro _ _|(with_reducible refine Rg.plan_keep ?_ ?_); kernel_rfl; intro K hK|refine hK _ _ (Rg.Keep.refl _) ?_; clear hK|refine hK _ _ (Rg.Keep.of_below (by assumption)) ?_; clear hK|(with_reducible refine Rg.plan_skip ?_ ?_); kernel_rfl|(with_reducible refine Rg.plan_done ?_)|(with_reducible refine Rg.calm_normal ?_))
 refine bodyPost_ret (results_row Ag88 rfl _ _ w.heap.size (bvs y) rfl ?_ hsz) rfl ?_
 ·exact row?_setRow_eq R9.out
 ·exact ⟨⟨y, HY.out, rfl⟩, below_setRow B9.out (Nat.le_refl _) _⟩
end Go.Proofs.YthjbmggpleliaaaGreatDoor

end
section
namespace Go.Proofs.YthjbmggpleliaaaGreatDoor
open Go.RowKit Go.Rw Aes
theorem sl_mark (w : World) (n : Nat) (l : List UInt8) (t : TypeId) (fr : Nat × Nat) (hn : l.length = n) (g : Nat) (hg : g = w.heap.size) : Sl (w.alloc (.cells (bvs l) t fr)) (.slice (some ⟨g, 0, none⟩) n n) l := by
 subst hg hn
 exact ⟨_, _, rfl, Nat.le_refl _, fun h => (by cases h), fun _ => ⟨w.heap.size, 0, rfl, fun k hk => by rw [World.cell?_alloc_mark, bvs_getElem?, Nat.zero_add, if_pos hk]⟩⟩
attribute [local go_sem ↓] ld16 st16 al16 ld32b st32b al32b bvs_getElem?
attribute [local go_sem] rld16 rst16 ral16 rld32b rst32b ral32b setRow_alloc_at setRow_alloc_past setRow_drew
set_option maxRecDepth 100000 in
set_option maxHeartbeats 2000000 in
theorem reset_any (sec cid : List UInt8) (hk : sec.length ≤ 10000) (hd : cid.length ≤ 10000) (v u : Value) (w : World) (hs : Sl w v sec) (hu : Sl w u cid) (hg : Glob w) :
  Calls Tryz.prog 79 #[v, u] w fun e w' => (∃ l, l.length = 16 ∧ e = .returned (.agg (bvs l))) ∧ Below w.heap.size w w' := by
 obtain ⟨ao, cap, rfl, -⟩ := id hs
 obtain ⟨bo, bcap, rfl, -⟩ := id hu
 have HS := Lib.hid hs
 have HU := Lib.hid hu
 have HG := Lib.hid hg
 have HK := Lib.hid (And.intro hk hd)
 clear hs hg hk hu hd
 have kc := fun (W : World) (C : Array Value) (n c g : Nat) (hg : g = W.heap.size) => Go.Joins.run_convert_bytes_const_at (P := Tryz.prog) W 22 5 C n c g hg Tryz.underlying22 Tryz.underlying5
 go_enter Tryz.func79, Tryz.ntmps79
 go_wp2_with fail
 have al := bm3 w (.cells (bvs (zeros 16)) 66) (.cells #[.int .u8 114, .int .u8 101, .int .u8 115, .int .u8 101, .int .u8 116] 5 (5, 6)) (.cells #[.slice (some ⟨w.heap.size + 1, 0, none⟩) 5 5, .slice bo cid.length bcap] 22)
 have s1 : Sl (((w.alloc (.cells (bvs (zeros 16)) 66)).alloc (.cells #[.int .u8 114, .int .u8 101, .int .u8 115, .int .u8 101, .int .u8 116] 5 (5, 6))).alloc (.cells #[.slice (some ⟨w.heap.size + 1, 0, none⟩) 5 5, .slice bo cid.length bcap] 22)) (.slice (some ⟨w.heap.size + 1, 0, none⟩) 5 5) [114, 101, 115, 101, 116] := (sl_mark (w.alloc (.cells (bvs (zeros 16)) 66)) 5 [114, 101, 115, 101, 116] 5 (5, 6) rfl _ (by simp)).below ((Below.refl _ _).alloc (Nat.le_refl _) _)
 refine (mac_any sec HK.out.1 [[114, 101, 115, 101, 116], cid] (by simp) (by simp) (by have := HK.out; simp; omega) _ _ _ (HS.out.below al) (pts_2 (B := w.heap.size + 1 + 1) (row?_alloc_at _ _ _ _ (by simp)) s1 (HU.out.below al)) (HG.out.below al)).mono ?_
 rintro e w1 ⟨⟨h, hh, rfl⟩, b1⟩
 have R1 := Lib.hid (show row? w1 w.heap.size = some (bvs (zeros 16)) by rw [row?_below b1 (by simp; omega), row?_alloc_past _ _ _ (by simp; omega), row?_alloc_past _ _ _ (by simp)]; exact row?_alloc_at _ _ _ _ rfl)
 have B1 := Lib.hid (al.trans (b1.mono (by simp; omega)))
 have hhz : (bvs h).size = 32 := by rw [bvs_size, hh]
 have HH := Lib.hid hh
 clear b1 hh s1 al
 have hat : ∀ W, (Instr.arrayAt 66 (.slice (some ⟨w1.heap.size, 0, none⟩) 32 32)).run Tryz.prog W = .ok (.pointer (some ⟨w1.heap.size, 0, none⟩)) W := fun W => run_arrayAt W _ _ 16 _ _ _ Tryz.underlying66 (by omega)
 have sl1 : Sl (w1.alloc (.cells (bvs h) 163)) (.slice (some ⟨w1.heap.size, 0, none⟩) 32 32) h := sl_row (row?_alloc_at _ _ _ _ rfl) HH.out
 have hld : (loadAgg 66 (.pointer (some ⟨w1.heap.size, 0, none⟩))).run Tryz.prog (w1.alloc (.cells (bvs h) 163)) = .ok (.agg (bvs (h.take 16))) (w1.alloc (.cells (bvs h) 163)) := load_sl Ag16 sl1 (by have := HH.out; omega) (by omega)
 have htk : (h.take 16).length = 16 := by have := HH.out; simp; omega
 have hsz : (bvs (h.take 16)).size = 16 := by rw [bvs_size, htk]
 have R2 := Lib.hid (show row? (w1.alloc (.cells (bvs h) 163)) w.heap.size = some (bvs (zeros 16)) from (row?_alloc_past _ _ _ (row?_lt R1.out)).trans R1.out)
 have st := rst16 (w1.alloc (.cells (bvs h) 163)) w.heap.size (bvs (h.take 16)) (by rw [R2.out, Option.map_some]; rfl) hsz (bvs_all _)
 have HT := Lib.hid htk
 clear sl1 htk
 generalize h.take 16 = k at *
 go_wp2_with fail
 refine bodyPost_ret (results_row Ag16 rfl _ _ w.heap.size (bvs k) rfl ?_ hsz) rfl ?_
 ·exact row?_setRow_eq R2.out
 ·exact ⟨⟨k, HT.out, rfl⟩, below_setRow (B1.out.alloc B1.out.size _) (Nat.le_refl _) _⟩
end Go.Proofs.YthjbmggpleliaaaGreatDoor

end
section
namespace Go.Proofs.YthjbmggpleliaaaGreatDoor
open Go.RowKit Go.Rw Aes Hdr Vlt Hst
structure HI (w : World) (N H L M : Nat) (s : HS) (K T R : List UInt8) (n : Nat) (S : Int → Bool) : Prop where
 hr : HR w H s
 hk : OwnB w N s.secret K
 ht : OwnB w N s.tape T
 hx : OwnB w N s.reset R
 as_ : s.asks = .pointer (some ⟨L, 0, none⟩)
 lad : LadR w L M s.role n S
 nH : N ≤ H
 nL : N ≤ L
 nM : N ≤ M
theorem LadR.lt {w : World} {L M : Nat} {host : Int} {n : Nat} {s : Int → Bool} (h : LadR w L M host n s) : L < w.heap.size ∧ M < w.heap.size := by
 obtain ⟨h1, D, ⟨es, cl, hb, _⟩, _⟩ := h
 exact ⟨row?_lt h1, (Array.getElem?_eq_some_iff.1 hb).1⟩
theorem LadR.below {w w' : World} {L M : Nat} {host : Int} {n : Nat} {s : Int → Bool} (h : LadR w L M host n s) (hb : Below w.heap.size w w') : LadR w' L M host n s :=
 LadR.keep (S := fun _ => False) (MutS.of_below hb) h id id
def hsMade (r : Nat) (ideal : Bool) (vk vt : Value) (tp : Option Addr) (L : Nat) : HS := { role := r, addr := (r : Nat), ideal := ideal, secret := vk, tape := vt, table := .pointer tp, reset := .slice none 0 0, at_ := 0, made := 0, ids := 0, resets := 0, acc := false, asks := .pointer (some ⟨L, 0, none⟩), born := 0, used := false, closing := false, turn := false, cur := .pointer none, begun := .slice none 0 0, seen := .map none, inbox := .map none, dues := .slice none 0 0, known := .map none, got := .map none, went := .map none }
def buildHo (ps : Array (Nat × Value)) : Sem Value := Instr.build 61 ps
theorem bdHo (ps : Array (Nat × Value)) : Instr.build 61 ps = buildHo ps := rfl
theorem build65 (r : Nat) (ideal : Bool) (a1 a2 : Option Addr) (n1 n2 c1 c2 : Nat) (tp : Option Addr) (L : Nat) (w : World) : (buildHo #[(0, .int .i64 (r : Nat)), (1, .int .i64 (r : Nat)), (2, .bool ideal), (3, .slice a1 n1 c1), (4, .slice a2 n2 c2), (5, .pointer tp), (12, .pointer (some ⟨L, 0, none⟩))]).run Tryz.prog w = .ok (.agg (HS.row (hsMade r ideal (.slice a1 n1 c1) (.slice a2 n2 c2) tp L))) w := Go.run_build w _ _ _ (by kernel_rfl)
attribute [local go_sem ↓] bdHo
attribute [local go_sem] build65
set_option maxRecDepth 100000 in
set_option maxHeartbeats 4000000 in
theorem hnew_some (r : Nat) (hro : r ≤ 1) (sv tv ov : Value) (tp : Option Addr) (ideal : Bool) (KS TS : List UInt8) (hK : 1 ≤ KS.length ∧ KS.length ≤ 64) (hT : TS.length ≤ 300) (w : World) (hs : Sl w sv KS) (ht : Sl w tv TS)
  (hid : ideal = true → tp ≠ none) (ho : ∃ a n c, ov = .slice a n c) :
  Calls Tryz.prog 15 #[.int .i64 (r : Nat), .agg #[sv, .bool ideal, tv, ov], .pointer tp] w fun e w' => ∃ H L M s R, e = .returned (.pointer (some ⟨H, 0, none⟩)) ∧ HI w' w.heap.size H L M s KS TS R 0 (fun _ => false) ∧ s.role = r ∧ s.addr = (r : Nat) ∧ s.ideal = ideal ∧ s.table = .pointer tp ∧ R.length = 32 ∧ s.at_ = 32 ∧ s.made = 0 ∧ s.ids = 0 ∧ s.resets = 0 ∧ s.acc = false ∧ s.born = 0 ∧ (∃ m, w.heap.size ≤ m ∧ M < m ∧ s = s.bare m ∧ ∀ i, i < 5 → w'.heap[m + i]? = some (.map #[] 0)) ∧ Below w.heap.size w w' := by
 obtain ⟨sa, sc, rfl, -⟩ := id hs
 obtain ⟨ta, tc, rfl, -⟩ := id ht
 obtain ⟨oa, on, oc, rfl⟩ := ho
 have HSK := Lib.hid hs
 have HT := Lib.hid ht
 have HL := Lib.hid (And.intro hK hT)
 have p1 : decide (((KS.length : Nat) : Int) < 1) = false := decide_eq_false (by omega)
 have p2 : decide ((64 : Int) < (KS.length : Nat)) = false := decide_eq_false (by omega)
 have p3 : ¬ ((KS.length : Nat) : Int) < 1 := by omega
 have p4 : ¬ (64 : Int) < (KS.length : Nat) := by omega
 have HRO := Lib.hid hro
 clear hs ht hK hT
 go_enter Tryz.func15, Tryz.ntmps15
 go_upto_region 1 with (fail)
 go_cut [33] (fun b wx => b = .bool false ∧ wx = w.alloc (.cells #[.slice sa KS.length sc, .bool ideal, .slice ta TS.length tc, .slice oa on oc] 24))
 case first =>
  rcases (by omega : r = 0 ∨ r = 1) with rfl | rfl
  all_goals clear hro HRO
  all_goals cases ideal
  all_goals cases tp
  all_goals try (exact absurd rfl (hid rfl))
  all_goals clear hid
  all_goals
   go_wp2_with fail
   go_meet
   exact ⟨rfl, rfl⟩
 obtain ⟨rfl, rfl⟩ := hcut
 go_upto_region 3 with (fail)
 clear p1 p2 p3 p4 hro
 refine Rg.wp_region_plan (Rg.row [(0, 3), (1, 3), (2, 3), (3, 0), (4, 3), (5, 0), (7, 3), (8, 0), (10, 3), (11, 3), (6, 1), (9, 1), (12, 1), (13, 3), (14, 1), (15, 3)] []) [] (by kernel_rfl) (by kernel_rfl) ?_
 simp only [Rg.row, Rg.PT.map, List.map_nil, List.getD_cons_zero, List.getD_cons_succ]
 go_wp2_with (first
  |(with_reducible refine Rg.plan_pure ?_ ?_ ?_); kernel_rfl; kernel_rfl; intro _ _|(with_reducible refine Rg.plan_take ?_ ?_ ?_); kernel_rfl; kernel_rfl; intro _ _|(with_reducible refine Rg.plan_keep ?_ ?_); kernel_rfl; intro K hK|refine hK _ _ (Rg.Keep.refl _) ?_; clear hK|refine hK _ _ (Rg.Keep.of_below (by assumption)) ?_; clear hK|(with_reducible refine Rg.plan_skip ?_ ?_); kernel_rfl|(with_reducible refine Rg.plan_done ?_)|(with_reducible refine Rg.calm_normal ?_))
 have B0 := Lib.hid (show Below w.heap.size w (w.alloc (.cells #[.slice sa KS.length sc, .bool ideal, .slice ta TS.length tc, .slice oa on oc] 24)).drew from ((Below.refl _ _).alloc (Nat.le_refl _) _).drew)
 refine (clone_any KS (by have := HL.out; omega) _ _ (HSK.out.below B0.out)).mono ?_
 rintro e w1 ⟨vk, rfl, ok1, b1⟩
 obtain ⟨ka, kc, rfl, -⟩ := id (Own.sl ok1)
 have B1 := Lib.hid (B0.out.trans (b1.mono B0.out.size))
 have O1 := Lib.hid (own_lower ok1 B0.out.size)
 refine hK _ _ (Rg.Keep.of_below b1) ?_
 clear hK b1 ok1 B0
 go_wp2_with (first
  |(with_reducible refine Rg.plan_pure ?_ ?_ ?_); kernel_rfl; kernel_rfl; intro _ _|(with_reducible refine Rg.plan_take ?_ ?_ ?_); kernel_rfl; kernel_rfl; intro _ _|(with_reducible refine Rg.plan_keep ?_ ?_); kernel_rfl; intro K hK|refine hK _ _ (Rg.Keep.refl _) ?_; clear hK|refine hK _ _ (Rg.Keep.of_below (by assumption)) ?_; clear hK|(with_reducible refine Rg.plan_skip ?_ ?_); kernel_rfl|(with_reducible refine Rg.plan_done ?_)|(with_reducible refine Rg.calm_normal ?_))
 refine (clone_any TS (by have := HL.out; omega) _ _ (HT.out.below B1.out)).mono ?_
 rintro e w2 ⟨vt, rfl, ot2, b2⟩
 obtain ⟨ua, uc, rfl, -⟩ := id (Own.sl ot2)
 have B2 := Lib.hid (B1.out.trans (b2.mono B1.out.size))
 have O2 := Lib.hid (And.intro (own_below O1.out b2) (own_lower ot2 B1.out.size))
 refine hK _ _ (Rg.Keep.of_below b2) ?_
 clear hK b2 ot2 B1 O1
 go_wp2_with (first
  |(with_reducible refine Rg.plan_pure ?_ ?_ ?_); kernel_rfl; kernel_rfl; intro _ _|(with_reducible refine Rg.plan_take ?_ ?_ ?_); kernel_rfl; kernel_rfl; intro _ _|(with_reducible refine Rg.plan_keep ?_ ?_); kernel_rfl; intro K hK|refine hK _ _ (Rg.Keep.refl _) ?_; clear hK|refine hK _ _ (Rg.Keep.of_below (by assumption)) ?_; clear hK|(with_reducible refine Rg.plan_skip ?_ ?_); kernel_rfl|(with_reducible refine Rg.plan_done ?_)|(with_reducible refine Rg.calm_normal ?_))
 refine (ladnew_any (r : Nat) _).mono ?_
 rintro e w3 ⟨L, M, rfl, hL3, hM3, hLM, lad3, b3⟩
 have B3 := Lib.hid (B2.out.trans (b3.mono B2.out.size))
 have O3 := Lib.hid (And.intro (own_below O2.out.1 b3) (own_below O2.out.2 b3))
 have LA := Lib.hid (And.intro lad3 (And.intro (Nat.le_trans B2.out.size hL3) (Nat.le_trans B2.out.size hM3)))
 refine hK _ _ (Rg.Keep.of_below b3) ?_
 clear hK b3 lad3 hL3 hM3 hLM B2 O2
 go_wp2_with (first
  |(with_reducible refine Rg.plan_pure ?_ ?_ ?_); kernel_rfl; kernel_rfl; intro _ _|(with_reducible refine Rg.plan_take ?_ ?_ ?_); kernel_rfl; kernel_rfl; intro _ _|(with_reducible refine Rg.plan_keep ?_ ?_); kernel_rfl; intro K hK|refine hK _ _ (Rg.Keep.refl _) ?_; clear hK|refine hK _ _ (Rg.Keep.of_below (by assumption)) ?_; clear hK|(with_reducible refine Rg.plan_skip ?_ ?_); kernel_rfl|(with_reducible refine Rg.plan_done ?_)|(with_reducible refine Rg.calm_normal ?_))
 have hr4 : HR (w3.alloc (.cells (hsMade r ideal (.slice ka KS.length kc) (.slice ua TS.length uc) tp L).row 61)) w3.heap.size (hsMade r ideal (.slice ka KS.length kc) (.slice ua TS.length uc) tp L) := RT.new w3 _ _ _ rfl
 have b4 : Below w3.heap.size w3 (w3.alloc (.cells (hsMade r ideal (.slice ka KS.length kc) (.slice ua TS.length uc) tp L).row 61)) := (Below.refl _ _).alloc (Nat.le_refl _) _
 have B4 := Lib.hid (B3.out.trans (b4.mono B3.out.size))
 have O4 := Lib.hid (And.intro (own_below O3.out.1 b4) (own_below O3.out.2 b4))
 have LA4 := Lib.hid (LA.out.1.below b4)
 have HZ := Lib.hid B3.out.size
 have HLT := Lib.hid LA.out.1.lt
 have HW4 := Lib.hid (show w3.heap.size < (w3.alloc (.cells (hsMade r ideal (.slice ka KS.length kc) (.slice ua TS.length uc) tp L).row 61)).heap.size by simp)
 refine hK _ _ (Rg.Keep.of_below b4) ?_
 generalize hs0 : hsMade r ideal (.slice ka KS.length kc) (.slice ua TS.length uc) tp L = s0 at *
 have HS0 := Lib.hid hs0
 have HR4 := Lib.hid hr4
 clear hK b4 B3 O3 hr4 hs0
 generalize (w3.alloc (.cells s0.row 61)) = w4 at *
 generalize w3.heap.size = H at *
 go_wp2_with (first
  |(with_reducible refine Rg.plan_pure ?_ ?_ ?_); kernel_rfl; kernel_rfl; intro _ _|(with_reducible refine Rg.plan_take ?_ ?_ ?_); kernel_rfl; kernel_rfl; intro _ _|(with_reducible refine Rg.plan_keep ?_ ?_); kernel_rfl; intro K hK|refine hK _ _ (Rg.Keep.refl _) ?_; clear hK|refine hK _ _ (Rg.Keep.of_below (by assumption)) ?_; clear hK|(with_reducible refine Rg.plan_skip ?_ ?_); kernel_rfl|(with_reducible refine Rg.plan_done ?_)|(with_reducible refine Rg.calm_normal ?_))
 have HTP : OwnB w4 w.heap.size s0.tape TS := by rw [← HS0.out]; exact O4.out.2
 refine (draw_any H s0 32 (by omega) TS (by have := HL.out; omega) (by rw [← HS0.out]; exact Nat.zero_le _) (by rw [← HS0.out]; exact HRO.out) w.heap.size w4 HR4.out HTP).mono ?_
 rintro e w5 ⟨R, rfl, hR, hg5, hr5, hm5⟩
 have c6 : w5.cell? ⟨H, 6, none⟩ = some s0.reset := hr5.c 6
 have c6' : w5.cell? ⟨H, 6, none⟩ = some (.slice none 0 0) := by rw [c6, ← HS0.out]; rfl
 have f6 := hr5.f 6
 have HG5 := Lib.hid (And.intro hg5 (And.intro hr5 (And.intro hm5 hR)))
 clear c6 hg5 hr5 hm5 hR
 go_wp2_with fail
 have h6 : HR (w5.setCell ⟨H, 6, none⟩ (.slice (some ⟨w4.heap.size, 0, none⟩) 32 32)) H { s0 with at_ := s0.at_ + 32, reset := .slice (some ⟨w4.heap.size, 0, none⟩) 32 32 } := by
  have := HG5.out.2.1.set 6 (.slice (some ⟨w4.heap.size, 0, none⟩) 32 32)
  simp only [HS.row, List.setIfInBounds_toArray, List.set_cons_zero, List.set_cons_succ] at this
  exact this
 have m6 : MutS (fun k => k = H) w4 (w5.setCell ⟨H, 6, none⟩ (.slice (some ⟨w4.heap.size, 0, none⟩) 32 32)) := HG5.out.2.2.1.setCell H 6 none _ (.inl rfl)
 have o6 : OwnB (w5.setCell ⟨H, 6, none⟩ (.slice (some ⟨w4.heap.size, 0, none⟩) 32 32)) w.heap.size (.slice (some ⟨w4.heap.size, 0, none⟩) 32 32) R := by
  have o5 : OwnB w5 w.heap.size (.slice (some ⟨w4.heap.size, 0, none⟩) 32 32) R := by
   unfold OwnB
   rw [HG5.out.2.2.2]
   exact own_of_RT HG5.out.1 HG5.out.2.2.2 (by have := B4.out.size; omega) (by omega)
  exact o5.keep ((MutS.refl (fun k => k = H) w5).setCell H 6 none _ (.inl rfl)) (fun k e => by simp only [Value.ownBlock, Option.some.injEq] at e; have := HW4.out; omega)
 generalize (w5.setCell ⟨H, 6, none⟩ (.slice (some ⟨w4.heap.size, 0, none⟩) 32 32)) = w6 at *
 clear c6' f6
 refine (forget_any H _ w6 h6).mono ?_
 rintro e w7 ⟨rfl, hr7, hmaps, m7⟩
 have m47 : MutS (fun k => k = H) w4 w7 := m6.trans m7
 have H7 := Lib.hid (And.intro hr7 (And.intro hmaps (And.intro m47 (And.intro (OwnB.keep m7 o6 (fun k e => OwnB.ne o6 h6 k e)) m6.size))))
 have hsk : s0.secret = .slice ka KS.length kc ∧ s0.tape = .slice ua TS.length uc ∧ s0.asks = .pointer (some ⟨L, 0, none⟩) ∧ s0.role = r := by rw [← HS0.out]; exact ⟨rfl, rfl, rfl, rfl⟩
 have H8 := Lib.hid hsk
 clear hr7 hmaps m7 m6 o6 h6 m47 hsk HTP
 go_wp2_with fail
 go_ret
 obtain ⟨hr7, hmaps, m47, o7, hz6⟩ := H7.out
 obtain ⟨e1, e2, e3, e4⟩ := H8.out
 have hne := HLT.out
 have oK : OwnB w4 w.heap.size s0.secret KS := by rw [e1]; exact O4.out.1
 have oT : OwnB w4 w.heap.size s0.tape TS := by rw [e2]; exact O4.out.2
 refine ⟨H, L, M, _, R, rfl, ⟨hr7, oK.keep m47 (fun k e => OwnB.ne oK HR4.out k e), oT.keep m47 (fun k e => OwnB.ne oT HR4.out k e), o7, e3, ?_, HZ.out, LA.out.2.1, LA.out.2.2⟩, e4, ?_⟩
 ·show LadR w7 L M (s0.role : Nat) 0 (fun _ => false)
  rw [e4]
  exact LA4.out.keep m47 (by omega) (by omega)
 ·rw [← HS0.out]
  refine ⟨rfl, rfl, rfl, HG5.out.2.2.2, rfl, rfl, rfl, rfl, rfl, rfl, ⟨w6.heap.size, Nat.le_trans B4.out.size hz6, Nat.lt_of_lt_of_le LA4.out.lt.2 hz6, rfl, hmaps⟩, B4.out.trans (m47.lower (fun k e => by rw [e]; exact HZ.out) B4.out.size)⟩
end Go.Proofs.YthjbmggpleliaaaGreatDoor

end
section
namespace Go.Proofs.YthjbmggpleliaaaGreatDoor
open Go.RowKit Go.Rw Aes Hdr Vlt Hst
set_option maxRecDepth 100000 in
set_option maxHeartbeats 4000000 in
theorem hnew_none (r : Int) (sv tv ov : Value) (tp : Option Addr) (ideal : Bool) (ks : Nat) (hs : ∃ a c, sv = .slice a ks c) (ht : ∃ a n c, tv = .slice a n c) (ho : ∃ a n c, ov = .slice a n c) (w : World)
  (hno : (r ≠ 0 ∧ r ≠ 1) ∨ ks < 1 ∨ 64 < ks ∨ (ideal = true ∧ tp = none)) :
  Calls Tryz.prog 15 #[.int .i64 r, .agg #[sv, .bool ideal, tv, ov], .pointer tp] w fun e w' => e = .returned (.pointer none) ∧ Below w.heap.size w w' := by
 obtain ⟨sa, sc, rfl⟩ := hs
 obtain ⟨ta, tn, tc, rfl⟩ := ht
 obtain ⟨oa, on, oc, rfl⟩ := ho
 go_enter Tryz.func15, Tryz.ntmps15
 go_upto_region 1 with (fail)
 go_cut [33] (fun b wx => b = .bool true ∧ wx = w.alloc (.cells #[.slice sa ks sc, .bool ideal, .slice ta tn tc, .slice oa on oc] 24))
 case first =>
  by_cases h0 : r = 0
  case pos =>
   subst h0
   by_cases h1 : ((ks : Nat) : Int) < 1
   case pos =>
    have p1 : decide (((ks : Nat) : Int) < 1) = true := decide_eq_true h1
    go_wp2_with fail
    go_meet
    exact ⟨rfl, rfl⟩
   have p1 : decide (((ks : Nat) : Int) < 1) = false := decide_eq_false h1
   by_cases h2 : (64 : Int) < (ks : Nat)
   case pos =>
    have p2 : decide ((64 : Int) < (ks : Nat)) = true := decide_eq_true h2
    go_wp2_with fail
    go_meet
    exact ⟨rfl, rfl⟩
   have p2 : decide ((64 : Int) < (ks : Nat)) = false := decide_eq_false h2
   obtain ⟨rfl, rfl⟩ : ideal = true ∧ tp = none := by
    rcases hno with h | h | h | h
    ·exact absurd rfl h.1
    ·omega
    ·omega
    ·exact h
   clear hno
   go_wp2_with fail
   go_meet
   exact ⟨rfl, rfl⟩
  by_cases h0' : r = 1
  case pos =>
   subst h0'
   by_cases h1 : ((ks : Nat) : Int) < 1
   case pos =>
    have p1 : decide (((ks : Nat) : Int) < 1) = true := decide_eq_true h1
    go_wp2_with fail
    go_meet
    exact ⟨rfl, rfl⟩
   have p1 : decide (((ks : Nat) : Int) < 1) = false := decide_eq_false h1
   by_cases h2 : (64 : Int) < (ks : Nat)
   case pos =>
    have p2 : decide ((64 : Int) < (ks : Nat)) = true := decide_eq_true h2
    go_wp2_with fail
    go_meet
    exact ⟨rfl, rfl⟩
   have p2 : decide ((64 : Int) < (ks : Nat)) = false := decide_eq_false h2
   obtain ⟨rfl, rfl⟩ : ideal = true ∧ tp = none := by
    rcases hno with h | h | h | h
    ·exact absurd rfl h.2
    ·omega
    ·omega
    ·exact h
   clear hno
   go_wp2_with fail
   go_meet
   exact ⟨rfl, rfl⟩
  have q1 : (r != 0) = true := by simpa using h0
  have q2 : (r != 1) = true := by simpa using h0'
  clear hno
  go_wp2_with fail
  go_meet
  exact ⟨rfl, rfl⟩
 obtain ⟨rfl, rfl⟩ := hcut
 go_wp2_with fail
 go_ret
 exact ⟨rfl, (Below.refl _ _).alloc (Nat.le_refl _) _⟩
end Go.Proofs.YthjbmggpleliaaaGreatDoor

end
section
namespace Go.Proofs.YthjbmggpleliaaaGreatDoor
open Go.RowKit Go.Rw Aes Hdr Vlt Hst
set_option maxRecDepth 100000 in
set_option maxHeartbeats 1000000 in
theorem conns_none (H : Nat) (s : HS) (w : World) (hr : HR w H s) (hc : s.cur = .pointer none) (hb : s.begun = .slice none 0 0) :
  Calls Tryz.prog 27 #[.pointer (some ⟨H, 0, none⟩)] w fun e w' => e = .returned (.slice none 0 0) ∧ w = w' := by
 have c17 : w.cell? ⟨H, 17, none⟩ = some (.pointer none) := (hr.c 17).trans (congrArg some hc)
 have c18 : w.cell? ⟨H, 18, none⟩ = some (.slice none 0 0) := (hr.c 18).trans (congrArg some hb)
 clear hr hc hb
 go_enter Tryz.func27, Tryz.ntmps27
 go_wp2_with fail
 go_ret
 exact ⟨rfl, rfl⟩
set_option maxRecDepth 100000 in
set_option maxHeartbeats 1000000 in
theorem ready_none (H : Nat) (s : HS) (w : World) (hr : HR w H s) (hc : s.cur = .pointer none) :
  Calls Tryz.prog 13 #[.pointer (some ⟨H, 0, none⟩)] w fun e w' => e = .returned (.bool false) ∧ w = w' := by
 have c17 : w.cell? ⟨H, 17, none⟩ = some (.pointer none) := (hr.c 17).trans (congrArg some hc)
 clear hr hc
 go_enter Tryz.func13, Tryz.ntmps13
 go_wp2_with fail
 go_ret
 exact ⟨rfl, rfl⟩
set_option maxRecDepth 100000 in
theorem ready_nil (w : World) : Calls Tryz.prog 13 #[.pointer none] w fun e w' => e = .returned (.bool false) ∧ w = w' := by
 go_enter Tryz.func13, Tryz.ntmps13
 go_wp2_with fail
 go_ret
 exact ⟨rfl, rfl⟩
set_option maxRecDepth 100000 in
set_option maxHeartbeats 1000000 in
theorem ready_unmet (H c : Nat) (s : HS) (w : World) (hr : HR w H s) (hc : s.cur = .pointer (some ⟨c, 0, none⟩)) (hm : w.cell? ⟨c, 7, none⟩ = some (.bool false)) :
  Calls Tryz.prog 13 #[.pointer (some ⟨H, 0, none⟩)] w fun e w' => e = .returned (.bool false) ∧ w = w' := by
 have c17 : w.cell? ⟨H, 17, none⟩ = some (.pointer (some ⟨c, 0, none⟩)) := (hr.c 17).trans (congrArg some hc)
 clear hr hc
 go_enter Tryz.func13, Tryz.ntmps13
 go_wp2_with fail
 go_ret
 exact ⟨rfl, rfl⟩
set_option maxRecDepth 100000 in
theorem acc_nil (w : World) : Calls Tryz.prog 16 #[.pointer none] w fun e w' => e = .returned (.bool false) ∧ w = w' := by
 go_enter Tryz.func16, Tryz.ntmps16
 go_wp2_with fail
 go_ret
 exact ⟨rfl, rfl⟩
set_option maxRecDepth 100000 in
theorem acc_any (H : Nat) (s : HS) (w : World) (hr : HR w H s) : Calls Tryz.prog 16 #[.pointer (some ⟨H, 0, none⟩)] w fun e w' => e = .returned (.bool s.acc) ∧ w = w' := by
 have c11 : w.cell? ⟨H, 11, none⟩ = some (.bool s.acc) := hr.c 11
 clear hr
 go_enter Tryz.func16, Tryz.ntmps16
 go_wp2_with fail
 go_ret
 exact ⟨rfl, rfl⟩
end Go.Proofs.YthjbmggpleliaaaGreatDoor

end
section
namespace Go.Proofs.YthjbmggpleliaaaGreatDoor
open Go.RowKit Go.Rw Aes Hdr Vlt Hst
theorem info57 : (Tryz.prog.info? 53).map (fun i => (i.zero, i.size, i.bytes)) = some (some (.pointer none), 1, 8) := by kernel_rfl
set_option maxRecDepth 100000 in
set_option maxHeartbeats 1000000 in
theorem conns_one (H c : Nat) (s : HS) (w : World) (hr : HR w H s) (hc : s.cur = .pointer (some ⟨c, 0, none⟩)) (hb : s.begun = .slice none 0 0) :
  Calls Tryz.prog 27 #[.pointer (some ⟨H, 0, none⟩)] w fun e w' => e = .returned (.slice (some ⟨w.heap.size, 0, none⟩) 1 1) ∧ row? w' w.heap.size = some #[.pointer (some ⟨c, 0, none⟩)] ∧ Below w.heap.size w w' ∧ w'.heap.size = w.heap.size + 1 := by
 obtain ⟨i0, hi, hz0, hz1, hz2⟩ := info_parts info57
 have c17 : w.cell? ⟨H, 17, none⟩ = some (.pointer (some ⟨c, 0, none⟩)) := (hr.c 17).trans (congrArg some hc)
 have c18 : w.cell? ⟨H, 18, none⟩ = some (.slice none 0 0) := (hr.c 18).trans (congrArg some hb)
 clear hr hc hb
 go_enter Tryz.func27, Tryz.ntmps27
 go_wp2_with fail
 refine Rg.wp_region_plan (Rg.row [(0, 3), (1, 3), (2, 3), (3, 0), (5, 3), (6, 3), (7, 3), (8, 0), (4, 1)] [9, 10]) [9, 10] (by kernel_rfl) (by kernel_rfl) ?_
 simp only [Rg.row, Rg.PT.map, List.map_cons, List.map_nil, List.getD_cons_zero, List.getD_cons_succ]
 go_wp2_with (first
  |(with_reducible refine Rg.plan_pure ?_ ?_ ?_); kernel_rfl; kernel_rfl; intro _ _|(with_reducible refine Rg.plan_take ?_ ?_ ?_); kernel_rfl; kernel_rfl; intro _ _|(with_reducible refine Rg.plan_keep ?_ ?_); kernel_rfl; intro K hK|refine hK _ _ (Rg.Keep.refl _) ?_; clear hK|refine hK _ _ (Rg.Keep.of_below (by assumption)) ?_; clear hK|(with_reducible refine Rg.plan_skip ?_ ?_); kernel_rfl|(with_reducible refine Rg.plan_done ?_)|(with_reducible refine Rg.calm_normal ?_))
 have al : Below w.drew.heap.size w.drew (w.alloc (.cells #[.pointer (some ⟨c, 0, none⟩)] 53)).drew := ((Below.refl _ w.drew).alloc (Nat.le_refl _) (.cells #[.pointer (some ⟨c, 0, none⟩)] 53))
 refine hK _ _ (Rg.Keep.of_below al) ?_
 clear hK al
 refine Rg.plan_done ?_
 refine wpList_append_own_none rfl _ _ 54 rfl w.heap.size 53 i0 1 Tryz.underlying54 hi (.slice (some ⟨w.heap.size, 0, none⟩) 1 1) 1 [.pointer (some ⟨c, 0, none⟩)] rfl (own_new1 w _ _) rfl ?_
 go_wp2_with (first
  |(with_reducible refine Rg.plan_pure ?_ ?_ ?_); kernel_rfl; kernel_rfl; intro _ _|(with_reducible refine Rg.plan_take ?_ ?_ ?_); kernel_rfl; kernel_rfl; intro _ _|(with_reducible refine Rg.plan_keep ?_ ?_); kernel_rfl; intro K hK|refine hK _ _ (Rg.Keep.refl _) ?_; clear hK|refine hK _ _ (Rg.Keep.of_below (by assumption)) ?_; clear hK|(with_reducible refine Rg.plan_skip ?_ ?_); kernel_rfl|(with_reducible refine Rg.plan_done ?_)|(with_reducible refine Rg.calm_normal ?_))
 go_ret
 exact ⟨rfl, row?_alloc_at _ _ _ _ rfl, ((Below.refl _ _).alloc (Nat.le_refl _) _).drew, by simp⟩
set_option maxRecDepth 100000 in
set_option maxHeartbeats 1000000 in
theorem cloneC_nil (w : World) : Calls Tryz.prog 55 #[.slice none 0 0] w fun e w' => e = .returned (.slice none 0 0) ∧ w = w' := by
 have hq : ∀ W, (binOp .eql 54 (.slice none 0 0) (.slice none 0 0)).run Tryz.prog W = .ok (.bool true) W := fun _ => rfl
 go_enter Tryz.func55, Tryz.ntmps55
 go_wp2_with fail
 go_ret
 exact ⟨rfl, rfl⟩
set_option maxRecDepth 100000 in
set_option maxHeartbeats 1000000 in
theorem cloneC_one (g c : Nat) (w : World) (hr : row? w g = some #[.pointer (some ⟨c, 0, none⟩)]) : Calls Tryz.prog 55 #[.slice (some ⟨g, 0, none⟩) 1 1] w fun e w' => (∃ g' cap, e = .returned (.slice (some ⟨g', 0, none⟩) 1 cap) ∧ w'.cell? ⟨g', 0, none⟩ = some (.pointer (some ⟨c, 0, none⟩))) ∧ Below w.heap.size w w' := by
 obtain ⟨i0, hi, hz0, hz1, hz2⟩ := info_parts info57
 have hq : ∀ W, (binOp .eql 54 (.slice (some ⟨g, 0, none⟩) 1 1) (.slice none 0 0)).run Tryz.prog W = .ok (.bool false) W := fun _ => rfl
 have HR := Lib.hid hr
 clear hr
 go_enter Tryz.func55, Tryz.ntmps55
 go_wp2_with (at_builtin; refine Classical.byContradiction ?_)
 intro hh; apply hh; clear hh
 refine wpList_append_own _ rfl _ _ 54 rfl w.heap.size 53 i0 (.pointer none) 1 8 Tryz.underlying54 hi hz0 hz1 hz2 rfl (by decide) (.slice (some ⟨w.heap.size, 0, none⟩) 0 0) 0 [] rfl (World.ownsRow_lit (base := w.heap.size) (size := 1) w #[] 0 (Nat.le_refl _) (by decide) (by simp)) ⟨g, 0, none⟩ 1 1 [.pointer (some ⟨c, 0, none⟩)] rfl rfl ?_ ?_ (by unfold maxLen; omega) (by omega) (by simp) ?_
 ·intro j u hj
  match j, hj with
  | 0, hj =>
   simp at hj
   subst hj
   rw [Addr.add_lit, row?_cell ((row?_alloc_past _ _ _ (row?_lt HR.out)).trans HR.out)]
   rfl
 ·intro u hu
  simp at hu
  subst hu
  rfl
 intro v3 w3 o3 g3 _
 have hb : Below w.heap.size w w3 := below_grown ((Below.refl w.heap.size w).alloc (Nat.le_refl _) _) g3 (fun q hq => by simp [Value.ownBlock] at hq; omega) (by simp)
 obtain ⟨g', cap, cur, rfl, hN, hg, hnc, hcm, hcs, htake⟩ : ∃ g cap cur, v3 = .slice (some ⟨g, 0, none⟩) (0 + 1) cap ∧ w.heap.size ≤ g ∧ w3.heap[g]? = some (.cells cur 53 (0, 0)) ∧ 0 + 1 ≤ cap ∧ cap ≤ maxLen ∧ cur.size = cap * 1 ∧ cur.toList.take ((0 + 1) * 1) = [] ++ [.pointer (some ⟨c, 0, none⟩)] := by
  rcases o3.2 with h | h
  ·exact absurd h.2 (by omega)
  ·exact h
 have hc := World.ownsRow.cellAt o3 0 (by omega)
 have H3 := Lib.hid (And.intro hc hb)
 clear hc hb o3 g3 hg hcs htake hnc hcm hN
 go_wp2_with fail
 go_ret
 exact ⟨⟨g', cap, rfl, H3.out.1⟩, H3.out.2⟩
end Go.Proofs.YthjbmggpleliaaaGreatDoor

end
section
namespace Go.Proofs.YthjbmggpleliaaaGreatDoor
open Go.RowKit Go.Rw Aes Hdr Vlt Hst
set_option maxRecDepth 100000 in
set_option maxHeartbeats 1000000 in
theorem idle_none (H : Nat) (s : HS) (t : Int) (w : World) (hr : HR w H s) (hc : s.cur = .pointer none) (hb : s.begun = .slice none 0 0) (hcl : s.closing = false) :
  Calls Tryz.prog 24 #[.pointer (some ⟨H, 0, none⟩), .int .i64 t] w fun e w' => e = .returned (.tuple #[]) ∧ w = w' := by
 have c15 : w.cell? ⟨H, 15, none⟩ = some (.bool false) := (hr.c 15).trans (congrArg (fun b => some (Value.bool b)) hcl)
 have HC := Lib.hid (conns_none H s w hr hc hb)
 clear hr hc hb hcl
 go_enter Tryz.func24, Tryz.ntmps24
 go_wp2_with fail
 refine HC.out.mono ?_
 rintro e w1 ⟨rfl, rfl⟩
 go_wp2_with fail
 refine (cloneC_nil _).mono ?_
 rintro e w1 ⟨rfl, rfl⟩
 go_wp2_with fail
 go_loopw [5, 10] (fun _ v wr => v = .int .i64 0 ∧ w = wr) (fun _ _ _ => 0)
 case atStart => exact ⟨rfl, rfl⟩
 case round =>
  obtain ⟨rfl, rfl⟩ := hrel
  go_wp2_with fail
  go_end0
  exact ⟨rfl, rfl⟩
set_option maxRecDepth 100000 in
set_option maxHeartbeats 2000000 in
theorem idle_one (H c : Nat) (s : HS) (t la : Int) (ht : la ≤ t ∧ t - la < 600 ∧ 0 ≤ la ∧ t ≤ 1000000) (w : World) (hr : HR w H s) (hc : s.cur = .pointer (some ⟨c, 0, none⟩)) (hb : s.begun = .slice none 0 0) (hcl : s.closing = false) (h5 : w.cell? ⟨c, 5, none⟩ = some (.int .i64 la)) :
  Calls Tryz.prog 24 #[.pointer (some ⟨H, 0, none⟩), .int .i64 t] w fun e w' => e = .returned (.tuple #[]) ∧ Below w.heap.size w w' := by
 have c15 : w.cell? ⟨H, 15, none⟩ = some (.bool false) := (hr.c 15).trans (congrArg (fun b => some (Value.bool b)) hcl)
 have HC := Lib.hid (conns_one H c s w hr hc hb)
 have C15 := Lib.hid c15
 have C5 := Lib.hid h5
 have p1 : decide (la ≤ t) = true := decide_eq_true ht.1
 have e1 : wrap64 (t - la) = t - la := IntWalk.wrap64_in _ (by omega)
 have p2 : decide (600 ≤ t - la) = false := decide_eq_false (by omega)
 clear hr hc hb hcl c15 h5 ht
 go_enter Tryz.func24, Tryz.ntmps24
 go_wp2_with fail
 refine HC.out.mono ?_
 rintro e w1 ⟨rfl, hr1, b1, z1⟩
 have HR1 := Lib.hid hr1
 have B1 := Lib.hid b1
 clear hr1 b1
 go_wp2_with fail
 refine (cloneC_one _ c _ HR1.out).mono ?_
 rintro e w2 ⟨⟨g, cap, rfl, h0⟩, b2⟩
 have B2 := Lib.hid (B1.out.trans (b2.mono B1.out.size))
 have H0 := Lib.hid h0
 clear b2 h0
 go_wp2_with fail
 go_loopw [5, 10] (fun _ v wr => ∃ k : Nat, k ≤ 1 ∧ v = .int .i64 (k : Nat) ∧ w2 = wr) (fun _ v _ => 1 - (intOf v).toNat)
 case atStart => exact ⟨0, by omega, rfl, rfl⟩
 case round =>
  obtain ⟨k, hk, rfl, rfl⟩ := hrel
  have c5 := below_cell B2.out C5.out (cell_lt C5.out)
  have c15 := below_cell B2.out C15.out (cell_lt C15.out)
  have h0 := H0.out
  by_cases hk0 : k = 0
  ·subst hk0
   go_wp2_with fail
   exact ⟨⟨1, by omega, rfl, trivial⟩, by simp [intOf]⟩
  ·obtain rfl : k = 1 := by omega
   go_wp2_with fail
   go_end0
   exact ⟨rfl, B2.out⟩
end Go.Proofs.YthjbmggpleliaaaGreatDoor

end
section
namespace Go.Proofs.YthjbmggpleliaaaGreatDoor
open Go.RowKit Go.Rw Aes Hdr Vlt Hst
theorem below_drewN {B : Nat} {a w : World} (h : Below B a w) (n : Nat) : Below B a (w.drewN n) := ⟨h.os, h.tape, h.output, h.size, h.block⟩
set_option maxRecDepth 100000 in
set_option maxHeartbeats 1000000 in
theorem may_client (H m : Nat) (s : HS) (addr : Int) (n : Nat) (w : World) (hr : HR w H s) (hro : s.role = 0) (hk : s.known = .map (some m)) (hm : SetI w Tryz.prog 3 m n (fun _ => false)) (ha : 0 ≤ addr ∧ addr ≤ 1000) :
  Calls Tryz.prog 29 #[.pointer (some ⟨H, 0, none⟩), .int .i64 addr] w fun e w' => e = .returned (.bool true) ∧ Below w.heap.size w w' := by
 have c0 : w.cell? ⟨H, 0, none⟩ = some (.int .i64 0) := (hr.c 0).trans (by rw [HS.at0, hro]; rfl)
 have c22 : w.cell? ⟨H, 22, none⟩ = some (.map (some m)) := (hr.c 22).trans (congrArg some hk)
 have HM := Lib.hid hm
 clear hr hk hm hro
 go_enter Tryz.func29, Tryz.ntmps29
 have hwf : (Lit.int .i64 addr).wf = true := WalkArith.wf_i64 (by omega)
 have hzU := zU w
 clear ha
 go_wp2_with (at_lookup; refine wp_seen rfl _ _ 58 rfl 3 115 Tryz.underlying3 Tryz.underlying58 hzU m n (fun _ => false) rfl HM.out addr rfl hwf ?_)
 have b1 : Below w.heap.size w (w.alloc (.cells #[] 115)) := (Below.refl _ _).alloc (Nat.le_refl _) _
 have c0' := below_cell b1 c0 (cell_lt c0)
 clear c0 c22 hzU hwf
 generalize (w.alloc (.cells #[] 115)) = w1 at *
 go_quiet (fail)
 go_wp2_with fail
 go_ret
 exact ⟨rfl, below_drewN b1 nq⟩
set_option maxRecDepth 100000 in
set_option maxHeartbeats 1000000 in
theorem indexFunc_nil (f : Value) (w : World) : Calls Tryz.prog 61 #[.slice none 0 0, f] w fun e w' => e = .returned (.int .i64 (-1)) ∧ w = w' := by
 go_enter Tryz.func61, Tryz.ntmps61
 go_wp2_with fail
 go_loopw [5, 8] (fun _ v wr => v = .int .i64 0 ∧ w = wr) (fun _ _ _ => 0)
 case atStart => exact ⟨rfl, rfl⟩
 case round =>
  obtain ⟨rfl, rfl⟩ := hrel
  go_wp2_with fail
  go_ret
  exact ⟨rfl, rfl⟩
set_option maxRecDepth 100000 in
set_option maxHeartbeats 1000000 in
theorem pick_one (H c : Nat) (s : HS) (w : World) (hr : HR w H s) (hc : s.cur = .pointer (some ⟨c, 0, none⟩)) (hb : s.begun = .slice none 0 0) (hcl : s.closing = false) :
  Calls Tryz.prog 28 #[.pointer (some ⟨H, 0, none⟩)] w fun e w' => e = .returned (.pointer (some ⟨c, 0, none⟩)) ∧ HR w' H { s with turn := false } ∧ MutS (fun k => k = H) w w' := by
 have c15 : w.cell? ⟨H, 15, none⟩ = some (.bool false) := (hr.c 15).trans (congrArg (fun b => some (Value.bool b)) hcl)
 have c16 : w.cell? ⟨H, 16, none⟩ = some (.bool s.turn) := hr.c 16
 have c17 : w.cell? ⟨H, 17, none⟩ = some (.pointer (some ⟨c, 0, none⟩)) := (hr.c 17).trans (congrArg some hc)
 have c18 : w.cell? ⟨H, 18, none⟩ = some (.slice none 0 0) := (hr.c 18).trans (congrArg some hb)
 have f16 := hr.f 16
 have hlt := hr.lt
 have HR0 := Lib.hid hr
 clear hr hc hb hcl
 go_enter Tryz.func28, Tryz.ntmps28
 go_wp2_with fail
 refine (indexFunc_nil _ _).mono ?_
 rintro e w1 ⟨rfl, rfl⟩
 go_wp2_with fail
 go_ret
 have h6 : HR (w.setCell ⟨H, 16, none⟩ (.bool false)) H { s with turn := false } := by
  have := HR0.out.set 16 (.bool false)
  simp only [HS.row, List.setIfInBounds_toArray, List.set_cons_zero, List.set_cons_succ] at this
  exact this
 exact ⟨rfl, h6.below ((Below.refl _ _).alloc (Nat.le_refl _) _), ((MutS.refl (fun k => k = H) w).setCell H 16 none _ (.inl rfl)).alloc _⟩
end Go.Proofs.YthjbmggpleliaaaGreatDoor

end
section
namespace Go.Proofs.YthjbmggpleliaaaGreatDoor
open Go.RowKit Go.Rw Aes Hdr Vlt Hst
def flt0 : Array Value := #[.slice none 0 0, .bool false, .bool false, .int .u64 0, .int .i64 0, .int .u64 0]
def clk0 : Array Value := #[.bool false, .int .i64 16, .int .i64 8, .int .i64 0]
set_option maxRecDepth 100000 in
theorem fnew_any (w : World) : Calls Tryz.prog 47 #[] w fun e w' => e = .returned (.pointer (some ⟨w.heap.size, 0, none⟩)) ∧ RT w' w.heap.size 180 flt0 ∧ Below w.heap.size w w' := by
 go_enter Tryz.func47, Tryz.ntmps47
 go_wp2_with fail
 go_ret
 exact ⟨rfl, RT.new w _ _ _ rfl, (Below.refl _ _).alloc (Nat.le_refl _) _⟩
set_option maxRecDepth 100000 in
theorem cnew_any (w : World) : Calls Tryz.prog 48 #[] w fun e w' => e = .returned (.pointer (some ⟨w.heap.size, 0, none⟩)) ∧ RT w' w.heap.size 182 clk0 ∧ Below w.heap.size w w' := by
 go_enter Tryz.func48, Tryz.ntmps48
 go_wp2_with fail
 go_ret
 exact ⟨rfl, RT.new w _ _ _ rfl, (Below.refl _ _).alloc (Nat.le_refl _) _⟩
set_option maxRecDepth 100000 in
theorem rnew_any (w : World) : Calls Tryz.prog 46 #[.int .i64 32] w fun e w' => e = .returned (.pointer (some ⟨w.heap.size, 0, none⟩)) ∧ Below w.heap.size w w' ∧ w.heap.size < w'.heap.size := by
 go_enter Tryz.func46, Tryz.ntmps46
 go_wp2_with fail
 go_ret
 exact ⟨rfl, (Below.refl _ _).alloc (Nat.le_refl _) _, by simp⟩
set_option maxRecDepth 100000 in
theorem crnew_any (w : World) : Calls Tryz.prog 49 #[.int .i64 4096] w fun e w' => e = .returned (.pointer (some ⟨w.heap.size, 0, none⟩)) ∧ Below w.heap.size w w' := by
 go_enter Tryz.func49, Tryz.ntmps49
 go_wp2_with fail
 go_ret
 exact ⟨rfl, (Below.refl _ _).alloc (Nat.le_refl _) _⟩
set_option maxRecDepth 100000 in
set_option maxHeartbeats 1000000 in
theorem pto_any (B : Nat) (w : World) (h : row? w B = some clk0) : Calls Tryz.prog 58 #[.pointer (some ⟨B, 0, none⟩), .int .i64 0] w fun e w' => (∃ z : Int, e = .returned (.int .i64 z)) ∧ Below w.heap.size w w' := by
 have c1 : w.cell? ⟨B, 1, none⟩ = some (.int .i64 16) := row?_cell h 1
 have c2 : w.cell? ⟨B, 2, none⟩ = some (.int .i64 8) := row?_cell h 2
 clear h
 go_enter Tryz.func58, Tryz.ntmps58
 go_wp2_with fail
 go_quiet (fail)
 go_wp2_with fail
 go_ret
 exact ⟨⟨_, rfl⟩, below_drewN (Below.refl _ _) nq⟩
set_option maxRecDepth 100000 in
set_option maxHeartbeats 1000000 in
theorem take_none (B : Nat) (f : Value) (w : World) (h : row? w B = some flt0) : Calls Tryz.prog 89 #[.pointer (some ⟨B, 0, none⟩), f] w fun e w' => e = .returned (.slice none 0 0) ∧ w = w' := by
 have c0 : w.cell? ⟨B, 0, none⟩ = some (.slice none 0 0) := row?_cell h 0
 clear h
 go_enter Tryz.func89, Tryz.ntmps89
 go_wp2_with fail
 go_step3
 go_wp2_with fail
 go_step3
 go_wp2_with fail
 rw [Exit.noGoto_ret]
 go_ret
 exact ⟨rfl, rfl⟩
set_option maxRecDepth 100000 in
set_option maxHeartbeats 1000000 in
theorem lost_none (B : Nat) (t z : Int) (w : World) (h : row? w B = some flt0) : Calls Tryz.prog 57 #[.pointer (some ⟨B, 0, none⟩), .int .i64 t, .int .i64 z] w fun e w' => e = .returned (.slice none 0 0) ∧ Below w.heap.size w w' := by
 have H := Lib.hid h
 clear h
 go_enter Tryz.func57, Tryz.ntmps57
 go_wp2_with fail
 have al := bm3 w (.cells #[.pointer (some ⟨B, 0, none⟩)] 76) (.cells #[.int .i64 t] 3) (.cells #[.int .i64 (max z 1)] 3)
 refine (take_none B _ _ ((row?_below al (row?_lt H.out)).trans H.out)).mono ?_
 rintro e w1 ⟨rfl, rfl⟩
 go_wp2_with fail
 go_ret
 exact ⟨rfl, al⟩
set_option maxRecDepth 100000 in
set_option maxHeartbeats 2000000 in
theorem losses_none (c F C : Nat) (t : Int) (w : World) (h1 : w.cell? ⟨c, 279, none⟩ = some (.pointer (some ⟨F, 0, none⟩))) (h2 : w.cell? ⟨c, 280, none⟩ = some (.pointer (some ⟨C, 0, none⟩))) (h3 : w.cell? ⟨c, 281, none⟩ = some (.int .i64 0)) (hF : row? w F = some flt0) (hC : row? w C = some clk0) :
  Calls Tryz.prog 25 #[.pointer (some ⟨c, 0, none⟩), .int .i64 t] w fun e w' => e = .returned (.tuple #[]) ∧ Below w.heap.size w w' := by
 have HF := Lib.hid hF
 have HC := Lib.hid hC
 clear hF hC
 go_enter Tryz.func25, Tryz.ntmps25
 go_wp2_with fail
 refine Rg.wp_region_plan (Rg.row [(0, 3), (1, 3), (2, 3), (3, 0), (4, 3), (5, 3), (6, 3), (7, 3), (8, 0), (9, 3), (10, 3), (11, 3), (12, 0), (13, 1), (14, 1), (15, 3)] []) [] (by kernel_rfl) (by kernel_rfl) ?_
 simp only [Rg.row, Rg.PT.map, List.map_nil, List.getD_cons_zero, List.getD_cons_succ]
 go_wp2_with (first
  |(with_reducible refine Rg.plan_pure ?_ ?_ ?_); kernel_rfl; kernel_rfl; intro _ _|(with_reducible refine Rg.plan_take ?_ ?_ ?_); kernel_rfl; kernel_rfl; intro _ _|(with_reducible refine Rg.plan_keep ?_ ?_); kernel_rfl; intro K hK|refine hK _ _ (Rg.Keep.refl _) ?_; clear hK|refine hK _ _ (Rg.Keep.of_below (by assumption)) ?_; clear hK|(with_reducible refine Rg.plan_skip ?_ ?_); kernel_rfl|(with_reducible refine Rg.plan_done ?_)|(with_reducible refine Rg.calm_normal ?_))
 refine (pto_any C w.drew HC.out).mono ?_
 rintro e w1 ⟨⟨z, rfl⟩, b1⟩
 have F1 := Lib.hid (Rg.stable_row b1 (show row? w.drew F = some flt0 from HF.out))
 have B1 := Lib.hid ((Below.refl w.heap.size w).drew.trans b1)
 refine hK _ _ (Rg.Keep.of_below b1) ?_
 clear hK b1
 go_wp2_with (first
  |(with_reducible refine Rg.plan_pure ?_ ?_ ?_); kernel_rfl; kernel_rfl; intro _ _|(with_reducible refine Rg.plan_take ?_ ?_ ?_); kernel_rfl; kernel_rfl; intro _ _|(with_reducible refine Rg.plan_keep ?_ ?_); kernel_rfl; intro K hK|refine hK _ _ (Rg.Keep.refl _) ?_; clear hK|refine hK _ _ (Rg.Keep.of_below (by assumption)) ?_; clear hK|(with_reducible refine Rg.plan_skip ?_ ?_); kernel_rfl|(with_reducible refine Rg.plan_done ?_)|(with_reducible refine Rg.calm_normal ?_))
 refine (lost_none F t z _ F1.out).mono ?_
 rintro e w2 ⟨rfl, b2⟩
 have B2 := Lib.hid (B1.out.trans (b2.mono B1.out.size))
 refine hK _ _ (Rg.Keep.of_below b2) ?_
 clear hK b2
 go_wp2_with (first
  |(with_reducible refine Rg.plan_pure ?_ ?_ ?_); kernel_rfl; kernel_rfl; intro _ _|(with_reducible refine Rg.plan_take ?_ ?_ ?_); kernel_rfl; kernel_rfl; intro _ _|(with_reducible refine Rg.plan_keep ?_ ?_); kernel_rfl; intro K hK|refine hK _ _ (Rg.Keep.refl _) ?_; clear hK|refine hK _ _ (Rg.Keep.of_below (by assumption)) ?_; clear hK|(with_reducible refine Rg.plan_skip ?_ ?_); kernel_rfl|(with_reducible refine Rg.plan_done ?_)|(with_reducible refine Rg.calm_normal ?_))
 go_loopw [6, 8, 9, 10, 38] (fun _ _ _ _ v wr => v = .int .i64 0 ∧ w2 = wr) (fun _ _ _ _ _ _ => 0)
 case atStart => exact ⟨rfl, rfl⟩
 case round =>
  obtain ⟨rfl, rfl⟩ := hrel
  go_wp2_with fail
  go_end0
  exact ⟨rfl, B2.out⟩
end Go.Proofs.YthjbmggpleliaaaGreatDoor

end
section
namespace Go.Proofs.YthjbmggpleliaaaGreatDoor
open Go.RowKit Go.Rw Aes Hdr Vlt Hst
theorem ownZ_keep {S : Nat → Prop} {N n sz : Nat} {e : TypeId} {v : Value} {xs : List Value} {w w' : World} (h : MutS S w w') (ho : w.ownsRow N e sz v n xs) (hne : ∀ k, v.ownBlock = some k → ¬ S k) : w'.ownsRow N e sz v n xs := by
 refine ⟨ho.1, ?_⟩
 rcases ho.2 with h' | ⟨g, cap, cur, rfl, hb, hg, r⟩
 ·exact .inl h'
 ·exact .inr ⟨g, cap, cur, rfl, hb, (h.block g (Array.getElem?_eq_some_iff.1 hg).1 (hne g rfl)).trans hg, r⟩
theorem ownZ_ne {w : World} {N n sz b : Nat} {e t : TypeId} {v : Value} {xs : List Value} {c : Array Value} (ho : w.ownsRow N e sz v n xs) (h : RT w b t c) (hne : e ≠ t) : ∀ k, v.ownBlock = some k → k ≠ b := by
 rintro k hk rfl
 rcases ho.2 with ⟨rfl, _⟩ | ⟨g, cap, cur, rfl, hb, hg, r⟩
 ·simp [Value.ownBlock] at hk
 ·simp only [Value.ownBlock, Option.some.injEq] at hk
  subst hk
  have := h.symm.trans hg
  injection this with this
  injection this with _ h2
  exact hne h2.symm
theorem info133 : (Tryz.prog.info? 126).map (fun i => (i.zero, i.size, i.bytes)) = some (some (.agg #[.int .u64 0, .slice none 0 0, .slice none 0 0, .bool false, .bool false]), 5, 64) := by kernel_rfl
theorem build133 (a1 a2 : Option Addr) (n1 n2 c1 c2 : Nat) (z : Int) (w : World) : (Instr.build 126 #[(0, .int .u64 z), (1, .slice a1 n1 c1), (2, .slice a2 n2 c2)]).run Tryz.prog w = .ok (.agg #[.int .u64 z, .slice a1 n1 c1, .slice a2 n2 c2, .bool false, .bool false]) w := Go.run_build w _ _ _ (by kernel_rfl)
def buildOw (ps : Array (Nat × Value)) : Sem Value := Instr.build 126 ps
theorem bdOw (ps : Array (Nat × Value)) : Instr.build 126 ps = buildOw ps := rfl
theorem buildOw_ (a1 a2 : Option Addr) (n1 n2 c1 c2 : Nat) (z : Int) (w : World) : (buildOw #[(0, .int .u64 z), (1, .slice a1 n1 c1), (2, .slice a2 n2 c2)]).run Tryz.prog w = .ok (.agg #[.int .u64 z, .slice a1 n1 c1, .slice a2 n2 c2, .bool false, .bool false]) w := build133 a1 a2 n1 n2 c1 c2 z w
attribute [local go_sem ↓] ld16 st16 al16 bdOw
attribute [local go_sem] rld16 rst16 ral16 buildOw_ setRow_alloc_at setRow_alloc_past setRow_drew
set_option maxRecDepth 100000 in
set_option maxHeartbeats 4000000 in
theorem give_any (H c : Nat) (s : HS) (T R : List UInt8) (hT : T.length ≤ 1000000) (hat : s.at_ ≤ 1000) (hma : s.made ≤ 1000) (hro : s.role ≤ 1) (hR : R.length ≤ 1000) (N : Nat) (cc : Array Value) (hcs : cc.size = 296) (h284 : cc[284]? = some (.slice none 0 0)) (w : World) (hr : HR w H s) (ht : OwnB w N s.tape T) (hx : OwnB w N s.reset R) (hc : RT w c 86 cc) (hg : Glob w) (hgH : 3 ≤ H) :
  Calls Tryz.prog 50 #[.pointer (some ⟨H, 0, none⟩), .pointer (some ⟨c, 0, none⟩)] w fun e w' => ∃ g cap vid il vtok, e = .returned (.tuple #[]) ∧ HR w' H { s with at_ := s.at_ + 4, made := s.made + 1 } ∧ RT w' c 86 (cc.setIfInBounds 284 (.slice (some ⟨g, 0, none⟩) 1 cap)) ∧ w.heap.size ≤ g ∧ w'.ownsRow w.heap.size 126 5 (.slice (some ⟨g, 0, none⟩) 1 cap) 1 [.int .u64 0, vid, vtok, .bool false, .bool false] ∧ OwnB w' w.heap.size vid il ∧ il.length = 8 ∧ MutS (fun k => k = H ∨ k = c) w w' := by
 obtain ⟨i0, hi, hz0, hz1, hz2⟩ := info_parts info133
 have HR0 := Lib.hid hr
 have HC0 := Lib.hid hc
 have HT0 := Lib.hid ht
 have HX0 := Lib.hid hx
 have HG := Lib.hid hg
 have HN := Lib.hid (And.intro hT (And.intro hat (And.intro hma (And.intro hro (And.intro hR (And.intro hcs (And.intro h284 hgH)))))))
 clear hr hc ht hx hT hat hma hro hR hg hcs h284
 go_enter Tryz.func50, Tryz.ntmps50
 go_wp2_with fail
 refine (name_any H s T HN.out.1 (by have := HN.out; omega) (by have := HN.out; omega) HN.out.2.2.2.1 N w HR0.out HT0.out).mono ?_
 rintro e w1 ⟨vid, il, rfl, hil, o1, hr1, m1⟩
 obtain ⟨va, vc, rfl, -⟩ := id o1.sl
 have c6 : w1.cell? ⟨H, 6, none⟩ = some s.reset := hr1.c 6
 obtain ⟨xa, xc, hxe, -⟩ := id HX0.out.sl
 rw [hxe] at c6
 have hHc : c ≠ H := RT.ne HC0.out HR0.out (by decide)
 have HR1 := Lib.hid hr1
 have M1 := Lib.hid m1
 have O1 := Lib.hid (And.intro o1 hil)
 have HIL := Lib.hid hil
 clear hr1 m1 o1 hil
 go_wp2_with fail
 have hX1 : Sl w1 (.slice xa R.length xc) R := by rw [← hxe]; exact (HX0.out.keep M1.out (fun k e => HX0.out.ne HR0.out k e)).sl
 refine (reset_any R il (by have := HN.out; omega) (by have := O1.out.2; omega) _ _ w1 hX1 O1.out.1.sl (HG.out.keep M1.out (fun k e => by rw [e]; exact HN.out.2.2.2.2.2.2.2))).mono ?_
 rintro e w2 ⟨⟨tok, htok, rfl⟩, b2⟩
 have htz : (bvs tok).size = 16 := by rw [bvs_size, htok]
 have B2 := Lib.hid b2
 have HTK := Lib.hid htok
 clear b2 htok hX1 c6 hxe
 go_wp2_with fail
 have b3 : Below w1.heap.size w1 (w2.alloc (.cells (bvs tok) 66)) := B2.out.alloc B2.out.size _
 have C3 := Lib.hid ((HC0.out.keep M1.out (fun e => hHc e)).below b3)
 have HR3 := Lib.hid (HR1.out.below b3)
 have O3 := Lib.hid (own_below O1.out.1 b3)
 have S3 := Lib.hid (sl_row (row?_alloc_at w2 (bvs tok) 66 _ rfl) HTK.out)
 have M3 := Lib.hid (M1.out.below' b3)
 have hg2 : w2.heap.size < (w2.alloc (.cells (bvs tok) 66)).heap.size := by simp
 clear b3 O1 HR1 htz
 generalize (w2.alloc (.cells (bvs tok) 66)) = w3 at *
 generalize w2.heap.size = g2 at *
 have c284 : w3.cell? ⟨c, 284, none⟩ = some (.slice none 0 0) := (row?_cell C3.out.row 284).trans HN.out.2.2.2.2.2.2.1
 clear hg2
 refine Rg.wp_region_plan (Rg.row [(0, 3), (1, 3), (2, 3), (3, 3), (4, 0), (5, 3), (6, 3), (7, 3), (8, 0), (9, 0), (10, 3), (11, 3), (12, 3), (13, 3), (14, 1)] [15, 16, 17, 18]) [15, 16, 17, 18] (by kernel_rfl) (by kernel_rfl) ?_
 simp only [Rg.row, Rg.PT.map, List.map_cons, List.map_nil, List.getD_cons_zero, List.getD_cons_succ]
 go_wp2_with (first
  |(with_reducible refine Rg.plan_pure ?_ ?_ ?_); kernel_rfl; kernel_rfl; intro _ _|(with_reducible refine Rg.plan_take ?_ ?_ ?_); kernel_rfl; kernel_rfl; intro _ _|(with_reducible refine Rg.plan_keep ?_ ?_); kernel_rfl; intro K hK|refine hK _ _ (Rg.Keep.refl _) ?_; clear hK|refine hK _ _ (Rg.Keep.of_below (by assumption)) ?_; clear hK|(with_reducible refine Rg.plan_skip ?_ ?_); kernel_rfl|(with_reducible refine Rg.plan_done ?_)|(with_reducible refine Rg.calm_normal ?_))
 have hlt := C3.out.lt
 have al : Below w3.drew.heap.size w3.drew (w3.alloc (.cells #[.int .u64 0, .slice va il.length vc, .slice (some ⟨g2, 0, none⟩) 16 16, .bool false, .bool false] 126)).drew := ((Below.refl _ w3.drew).alloc (Nat.le_refl _) (.cells #[.int .u64 0, .slice va il.length vc, .slice (some ⟨g2, 0, none⟩) 16 16, .bool false, .bool false] 126))
 have AL := Lib.hid (show Below w3.heap.size w3 (w3.alloc (.cells #[.int .u64 0, .slice va il.length vc, .slice (some ⟨g2, 0, none⟩) 16 16, .bool false, .bool false] 126)).drew from ((Below.refl _ w3).alloc (Nat.le_refl _) _).drew)
 have R4 := Lib.hid (show row? (w3.alloc (.cells #[.int .u64 0, .slice va il.length vc, .slice (some ⟨g2, 0, none⟩) 16 16, .bool false, .bool false] 126)).drew w3.heap.size = some #[.int .u64 0, .slice va il.length vc, .slice (some ⟨g2, 0, none⟩) 16 16, .bool false, .bool false] from row?_alloc_at _ _ _ _ rfl)
 refine hK _ _ (Rg.Keep.of_below al) ?_
 clear hK al
 refine Rg.plan_done ?_
 refine wpList_append_own _ rfl _ _ 80 rfl w.heap.size 126 i0 (.agg #[.int .u64 0, .slice none 0 0, .slice none 0 0, .bool false, .bool false]) 5 64 Tryz.underlying80 hi hz0 hz1 hz2 rfl (by decide) (.slice none 0 0) 0 [] rfl (World.ownsRow_nil _ _ _ _) ⟨w3.heap.size, 0, none⟩ 1 1 [.int .u64 0, .slice va il.length vc, .slice (some ⟨g2, 0, none⟩) 16 16, .bool false, .bool false] rfl rfl ?_ ?_ (by unfold maxLen; omega) (by omega) (by have := M3.out.size; have := AL.out.size; omega) ?_
 ·intro j u hj
  rw [Addr.add_lit, row?_cell R4.out]
  simpa using hj
 ·intro u hu
  simp at hu
  rcases hu with rfl | rfl | rfl | rfl | rfl <;> rfl
 intro v4 w4 o4 g4 _
 have b4 : Below w3.heap.size w3 w4 := below_grown AL.out g4 (fun q e => by simp [Value.ownBlock] at e) AL.out.size
 obtain ⟨g, cap, rfl⟩ : ∃ g cap, v4 = .slice (some ⟨g, 0, none⟩) 1 cap := by
  rcases o4.2 with h | ⟨g, cap, cur, rfl, -⟩
  ·exact absurd h.2 (by omega)
  ·exact ⟨g, cap, rfl⟩
 have C4 := Lib.hid (C3.out.below b4)
 have M4 := Lib.hid (MutS.refl (fun k => k = c) w4)
 have H4 := Lib.hid (And.intro o4 (And.intro b4 (HR3.out.below b4)))
 have O4 := Lib.hid (own_below O3.out b4)
 clear o4 g4 b4 AL R4 C3 HR3 O3 c284
 go_wp2_with (first
  |((with_reducible refine hold_store ?_); refine Rw.Held.mk ?_; refine wp_setRT rfl _ _ _ rfl rfl rfl C4 M4 (.inl rfl) (by rw [HN.out.2.2.2.2.2.1]; omega) (by kernel_rfl) rfl rfl ?_; intro w5 C5 M5 Z5)
  |(with_reducible refine Rg.plan_pure ?_ ?_ ?_); kernel_rfl; kernel_rfl; intro _ _|(with_reducible refine Rg.plan_take ?_ ?_ ?_); kernel_rfl; kernel_rfl; intro _ _|(with_reducible refine Rg.plan_keep ?_ ?_); kernel_rfl; intro K hK|refine hK _ _ (Rg.Keep.refl _) ?_; clear hK|refine hK _ _ (Rg.Keep.of_below (by assumption)) ?_; clear hK|(with_reducible refine Rg.plan_skip ?_ ?_); kernel_rfl|(with_reducible refine Rg.plan_done ?_)|(with_reducible refine Rg.calm_normal ?_))
 go_end0
 have hown := H4.out.1
 have hm : MutS (fun k => k = c) w4 w5 := M5.out
 have hHc' : H ≠ c := fun e => hHc e.symm
 have m1 : MutS (fun k => k = H ∨ k = c) w w3 := M3.out.mono fun k hk => .inl (.inl hk)
 have o5 : OwnB w5 w.heap.size (.slice va il.length vc) il := OwnB.keep hm O4.out (own_ne O4.out C4.out (by decide))
 exact ⟨rfl, H4.out.2.2.keep hm hHc', g, cap, C5.out, (hown.lt g rfl).1, _, ⟨_, ownZ_keep hm hown (ownZ_ne hown C4.out (by decide))⟩, il, o5, HIL.out, (m1.below' H4.out.2.1).trans (hm.mono fun k hk => .inl (.inr hk))⟩
end Go.Proofs.YthjbmggpleliaaaGreatDoor

end
section
namespace Go.Rw
open Go Go.RowKit
theorem splice_get {c c' : Array Value} {o : Nat} (h : o + c'.size ≤ c.size) (i : Nat) : (splice c o c')[i]? = if i < o then c[i]? else if i < o + c'.size then c'[i - o]? else c[i]? := by
 rw [← Array.getElem?_toList, splice_toListK, ← Array.getElem?_toList, ← Array.getElem?_toList]
 have h1 : (c.toList.take o).length = o := by rw [List.length_take, Array.length_toList]; omega
 by_cases a : i < o
 ·rw [if_pos a, List.append_assoc, List.getElem?_append_left (by omega), List.getElem?_take, if_pos a]
 ·rw [if_neg a]
  by_cases b : i < o + c'.size
  ·rw [if_pos b, List.append_assoc, List.getElem?_append_right (by omega), h1, List.getElem?_append_left (by rw [Array.length_toList]; omega)]
  ·rw [if_neg b, List.getElem?_append_right (by rw [List.length_append, h1, Array.length_toList]; omega), List.length_append, h1, Array.length_toList, List.getElem?_drop]
   congr 1; omega
theorem splice_sz {c c' : Array Value} {o : Nat} (h : o + c'.size ≤ c.size) : (splice c o c').size = c.size := by
 rw [← Array.length_toList, splice_toListK]; simp; omega
theorem fill_one {f : Nat → Option (Nat × Nat)} {z : Array Value} {i off : Nat} {v : Value} {rest : List (Nat × Value)} (hf : f i = some (off, 1)) (hv : v.cells = #[v]) (h : off + 1 ≤ z.size) :
  Instr.fill f z ((i, v) :: rest) = Instr.fill f (z.setIfInBounds off v) rest := by
 conv => lhs; unfold Instr.fill
 simp only [hf, hv]
 rw [if_neg (by simp; omega)]
 simp
theorem fill_many {f : Nat → Option (Nat × Nat)} {z a : Array Value} {i off n : Nat} {rest : List (Nat × Value)} (hf : f i = some (off, n)) (ha : a.size = n) (h : off + n ≤ z.size) :
  Instr.fill f z ((i, .agg a) :: rest) = Instr.fill f (splice z off a) rest := by
 have hc : (Value.agg a).cells = a := rfl
 have f1 := fill_overK off a z (by omega)
 conv => lhs; unfold Instr.fill
 simp only [hc, hf]
 rw [if_neg (by simp; omega), f1]
end Go.Rw
namespace Go.Proofs.YthjbmggpleliaaaGreatDoor
open Go.RowKit Go.Rw Aes Hdr Vlt Hst
def conZ : Array Value := #[.slice none 0 0, .slice none 0 0, .int .i64 0, .int .i64 0, .int .i64 0, .int .i64 0, .bool false, .bool false, .bool false] ++ bvs (List.replicate 88 0) ++ #[.slice none 0 0] ++ bvs (List.replicate 176 0) ++ #[.slice none 0 0, .slice none 0 0, .int .u64 0, .int .u64 0, .pointer none, .pointer none, .pointer none, .int .i64 0, .map none, .pointer none, .slice none 0 0, .map none, .map none, .map none, .int .i64 0, .map none, .map none, .pointer none, .pointer none, .int .i64 0, .int .i64 0, .int .i64 0]
def conP : List (Nat × Nat) := [(0, 1), (1, 1), (2, 1), (3, 1), (4, 1), (5, 1), (6, 1), (7, 1), (8, 1), (9, 88), (97, 1), (98, 178), (276, 1), (277, 1), (278, 1), (279, 1), (280, 1), (281, 1), (282, 1), (283, 1), (284, 1), (285, 1), (286, 1), (287, 1), (288, 1), (289, 1), (290, 1), (291, 1), (292, 1), (293, 1), (294, 1), (295, 1)]
theorem conZ_size : conZ.size = 296 := by kernel_rfl
theorem built90 (parts : List (Nat × Value)) : Tryz.prog.built 86 parts = Instr.fill (conP.toArray[·]?) conZ parts := by kernel_rfl
def con0 (vd : Value) (addr first born last : Int) (l : List UInt8) : Array Value :=
 splice (((((conZ.setIfInBounds 0 vd).setIfInBounds 2 (.int .i64 addr)).setIfInBounds 3 (.int .i64 first)).setIfInBounds 4 (.int .i64 born)).setIfInBounds 5 (.int .i64 last)) 9 (bvs l)
theorem con0_size {vd : Value} {addr first born last : Int} {l : List UInt8} (hl : l.length = 88) : (con0 vd addr first born last l).size = 296 := by
 unfold con0
 rw [splice_sz (by simp [bvs_size, hl, conZ_size])]
 simp [conZ_size]
theorem build90 (a : Option Addr) (n c : Nat) (addr first born last : Int) (l : List UInt8) (hl : l.length = 88) (w : World) :
  (Instr.build 86 #[(0, .slice a n c), (2, .int .i64 addr), (3, .int .i64 first), (4, .int .i64 born), (5, .int .i64 last), (9, .agg (bvs l))]).run Tryz.prog w = .ok (.agg (con0 (.slice a n c) addr first born last l)) w := by
 refine Go.run_build w _ _ _ ?_
 rw [built90]
 rw [fill_one (off := 0) (by kernel_rfl) rfl (by rw [conZ_size]; omega), fill_one (off := 2) (by kernel_rfl) rfl (by simp [conZ_size]), fill_one (off := 3) (by kernel_rfl) rfl (by simp [conZ_size]), fill_one (off := 4) (by kernel_rfl) rfl (by simp [conZ_size]), fill_one (off := 5) (by kernel_rfl) rfl (by simp [conZ_size]), fill_many (off := 9) (n := 88) (by kernel_rfl) (by rw [bvs_size, hl]) (by simp [conZ_size])]
 rfl
theorem con0_hi {vd : Value} {addr first born last : Int} {l : List UInt8} (hl : l.length = 88) (i : Nat) (h : 97 ≤ i) : (con0 vd addr first born last l)[i]? = conZ[i]? := by
 unfold con0
 rw [splice_get (by simp [bvs_size, hl, conZ_size]), if_neg (by omega), if_neg (by rw [bvs_size, hl]; omega)]
 simp [show ¬ 0 = i by omega, show ¬ 2 = i by omega, show ¬ 3 = i by omega, show ¬ 4 = i by omega, show ¬ 5 = i by omega]
theorem con0_lo {vd : Value} {addr first born last : Int} {l : List UInt8} (hl : l.length = 88) (i : Nat) (h : i < 9) : (con0 vd addr first born last l)[i]? = (((((conZ.setIfInBounds 0 vd).setIfInBounds 2 (.int .i64 addr)).setIfInBounds 3 (.int .i64 first)).setIfInBounds 4 (.int .i64 born)).setIfInBounds 5 (.int .i64 last))[i]? := by
 unfold con0
 rw [splice_get (by simp [bvs_size, hl, conZ_size]), if_pos h]
theorem con0_key {vd : Value} {addr first born last : Int} {l : List UInt8} (hl : l.length = 88) (i : Nat) (h : i < 88) : (con0 vd addr first born last l)[9 + i]? = (bvs l)[i]? := by
 unfold con0
 rw [splice_get (by simp [bvs_size, hl, conZ_size]), if_neg (by omega), if_pos (by rw [bvs_size, hl]; omega)]
 congr 1; omega
structure CI (w : World) (N c F Q g : Nat) (cc : Array Value) (D RN IL key : List UInt8) (last : Int) (bg : Nat) : Prop where
 row : RT w c 86 cc
 size : cc.size = 296
 dst : ∃ v, cc[0]? = some v ∧ OwnB w N v D
 rnd : ∃ v, cc[1]? = some v ∧ OwnB w N v RN
 addr : cc[2]? = some (.int .i64 1)
 last_ : cc[5]? = some (.int .i64 last)
 met : cc[7]? = some (.bool false)
 keys : ∀ i, i < 88 → cc[9 + i]? = (bvs key)[i]?
 begun : cc[276]? = some (.int .u64 (bg : Nat))
 fl : cc[279]? = some (.pointer (some ⟨F, 0, none⟩))
 flr : RT w F 180 flt0
 ck : cc[280]? = some (.pointer (some ⟨Q, 0, none⟩))
 ckr : RT w Q 182 clk0
 times : cc[281]? = some (.int .i64 0)
 own : ∃ cap, cc[284]? = some (.slice (some ⟨g, 0, none⟩) 1 cap)
 ownr : ∃ gr v, RT w g 126 gr ∧ gr[1]? = some v ∧ OwnB w N v IL
 nc : N ≤ c
 nF : N ≤ F
 nQ : N ≤ Q
 ng : N ≤ g
theorem conZ_284 : conZ[284]? = some (.slice none 0 0) := by kernel_rfl
theorem conZ_7 : conZ[7]? = some (.bool false) := by kernel_rfl
theorem conZ_276 : conZ[276]? = some (.int .u64 0) := by kernel_rfl
theorem conZ_281 : conZ[281]? = some (.int .i64 0) := by kernel_rfl
end Go.Proofs.YthjbmggpleliaaaGreatDoor

end
section
namespace Go.Proofs.YthjbmggpleliaaaGreatDoor
open Go.RowKit Go.Rw Aes Hdr Vlt Hst
theorem set_ne' {xs : Array Value} {i j : Nat} {a : Value} (h : i ≠ j) : (xs.setIfInBounds i a)[j]? = xs[j]? := by rw [Array.getElem?_setIfInBounds, if_neg h]
theorem set_eq' {xs : Array Value} {i : Nat} {a : Value} (h : i < xs.size) : (xs.setIfInBounds i a)[i]? = some a := by rw [Array.getElem?_setIfInBounds, if_pos rfl, if_pos h]
theorem LadR.neH {w : World} {L M H : Nat} {host : Int} {n : Nat} {S : Int → Bool} {s : HS} (h : LadR w L M host n S) (hr : HR w H s) : L ≠ H ∧ M ≠ H := by
 constructor
 ·rintro rfl
  have := h.1.symm.trans hr.row
  injection this with this
  have := congrArg Array.size this
  rw [HS.row_size] at this
  simp at this
 ·exact fun e => RT.neSet hr h.2 e.symm
theorem HI.turn {w w' : World} {N H L M n : Nat} {s s' : HS} {K T R : List UInt8} {S : Int → Bool} (h : HI w N H L M s K T R n S) (hr' : HR w' H s') (m : MutS (fun k => k = H) w w') (e1 : s'.secret = s.secret) (e2 : s'.tape = s.tape) (e3 : s'.reset = s.reset) (e4 : s'.asks = s.asks) (e5 : s'.role = s.role) : HI w' N H L M s' K T R n S := by
 have hn := h.lad.neH h.hr
 refine ⟨hr', ?_, ?_, ?_, e4.trans h.as_, ?_, h.nH, h.nL, h.nM⟩
 ·rw [e1]; exact h.hk.keep m fun k e => h.hk.ne h.hr k e
 ·rw [e2]; exact h.ht.keep m fun k e => h.ht.ne h.hr k e
 ·rw [e3]; exact h.hx.keep m fun k e => h.hx.ne h.hr k e
 ·rw [e5]; exact h.lad.keep m hn.1 hn.2
def buildCn (ps : Array (Nat × Value)) : Sem Value := Instr.build 86 ps
theorem bdCn (ps : Array (Nat × Value)) : Instr.build 86 ps = buildCn ps := rfl
attribute [local go_sem ↓] bdCn
attribute [local go_sem] setRow_alloc_at setRow_alloc_past setRow_drew
set_option maxRecDepth 100000 in
set_option maxHeartbeats 4000000 in
theorem newconn_any (H L LM : Nat) (s : HS) (KS T R D : List UInt8) (hKS : KS.length ≤ 64) (hT : T.length ≤ 1000) (hat : s.at_ ≤ 500) (hma : s.made ≤ 500) (hbo : s.born ≤ 500) (hro : s.role ≤ 1) (hR : R.length = 32) (hD : D.length = 8) (t : Int) (N n : Nat) (S : Int → Bool) (vd : Value) (w : World) (hi : HI w N H L LM s KS T R n S) (N2 : Nat) (hd : OwnB w N2 vd D) (hg : Glob w) (hN : 3 ≤ N) :
  Calls Tryz.prog 20 #[.pointer (some ⟨H, 0, none⟩), .int .i64 t, vd, .int .i64 1] w fun e w' => ∃ c F Q g cc RN IL key s', e = .returned (.pointer (some ⟨c, 0, none⟩)) ∧ CI w' N c F Q g cc D RN IL key t 0 ∧ RN.length = 32 ∧ IL.length = 8 ∧ key.length = 88 ∧ HI w' N H L LM s' KS T R n S ∧ s' = { s with born := s.born + 1, at_ := s.at_ + 36, made := s.made + 1 } ∧ w.heap.size ≤ c ∧ w.heap.size ≤ F ∧ w.heap.size ≤ Q ∧ w.heap.size ≤ g ∧ MutS (fun k => k = H) w w' := by
 obtain ⟨da, dc, rfl, -⟩ := id hd.sl
 obtain ⟨b1, hb1⟩ : ∃ b1 : Nat, s.born + 1 = b1 := ⟨_, rfl⟩
 have e1 := wrap_nat (show (s.born : Int) + 1 = (b1 : Nat) by omega) (by omega)
 have c13 : w.cell? ⟨H, 13, none⟩ = some (.int .i64 (s.born : Nat)) := hi.hr.c 13
 have f13 := hi.hr.f 13
 have HI0 := Lib.hid hi
 have HD0 := Lib.hid hd
 have HG := Lib.hid hg
 have HN := Lib.hid (And.intro hKS (And.intro hT (And.intro hat (And.intro hma (And.intro hbo (And.intro hro (And.intro hR (And.intro hD hN))))))))
 have HB1 := Lib.hid hb1
 clear hi hd hg hKS hT hat hma hbo hro hR hD hb1
 go_enter Tryz.func20, Tryz.ntmps20
 go_wp2_with fail
 have hr1 : HR (w.setCell ⟨H, 13, none⟩ (.int .i64 (b1 : Nat))) H { s with born := b1 } := by
  have := HI0.out.hr.set 13 (.int .i64 (b1 : Nat))
  simp only [HS.row, List.setIfInBounds_toArray, List.set_cons_zero, List.set_cons_succ] at this
  exact this
 have m1 : MutS (fun k => k = H) w (w.setCell ⟨H, 13, none⟩ (.int .i64 (b1 : Nat))) := (MutS.refl (fun k => k = H) w).setCell H 13 none _ (.inl rfl)
 generalize (w.setCell ⟨H, 13, none⟩ (.int .i64 (b1 : Nat))) = w1 at *
 have c13' : w1.cell? ⟨H, 13, none⟩ = some (.int .i64 (b1 : Nat)) := hr1.c 13
 have c3 : w1.cell? ⟨H, 3, none⟩ = some s.secret := hr1.c 3
 obtain ⟨ka, kc, hke, -⟩ := id HI0.out.hk.sl
 rw [hke] at c3
 have HKE := Lib.hid hke
 have HR1 := Lib.hid hr1
 have M1 := Lib.hid m1
 clear hr1 m1 c13 f13 hke e1
 refine Rg.wp_region_plan (Rg.row [(0, 3), (2, 3), (3, 3), (4, 3), (5, 3), (6, 3), (7, 0), (8, 3), (9, 3), (10, 3), (11, 3), (12, 0), (13, 3), (1, 1), (14, 1), (15, 3), (16, 1), (17, 3)] []) [] (by kernel_rfl) (by kernel_rfl) ?_
 simp only [Rg.row, Rg.PT.map, List.map_nil, List.getD_cons_zero, List.getD_cons_succ]
 go_wp2_with (first
  |(with_reducible refine Rg.plan_pure ?_ ?_ ?_); kernel_rfl; kernel_rfl; intro _ _|(with_reducible refine Rg.plan_take ?_ ?_ ?_); kernel_rfl; kernel_rfl; intro _ _|(with_reducible refine Rg.plan_keep ?_ ?_); kernel_rfl; intro K hK|refine hK _ _ (Rg.Keep.refl _) ?_; clear hK|refine hK _ _ (Rg.Keep.of_below (by assumption)) ?_; clear hK|(with_reducible refine Rg.plan_skip ?_ ?_); kernel_rfl|(with_reducible refine Rg.plan_done ?_)|(with_reducible refine Rg.calm_normal ?_))
 have G1 := Lib.hid (show Glob w1.drew from (HG.out.keep M1.out (fun k e => by rw [e]; have := HI0.out.nH; have := HN.out; omega)).drew)
 have OD1 := Lib.hid (show OwnB w1.drew N2 (.slice da D.length dc) D from (HD0.out.keep M1.out.drew (fun k e => HD0.out.ne HI0.out.hr k e)))
 have OK1 := Lib.hid (show OwnB w1.drew N (.slice ka KS.length kc) KS by rw [← HKE.out]; exact (HI0.out.hk.keep M1.out.drew (fun k e => HI0.out.hk.ne HI0.out.hr k e)))
 refine (clone_any D (by have := HN.out; omega) _ _ OD1.out.sl).mono ?_
 rintro e w2 ⟨vc, rfl, ov2, b2⟩
 obtain ⟨ca, cc, rfl, -⟩ := id (Own.sl ov2)
 have G2 := Lib.hid (G1.out.below b2)
 have OD2 := Lib.hid (own_below OD1.out b2)
 have OK2 := Lib.hid (own_below OK1.out b2)
 have HR2 := Lib.hid ((show HR w1.drew H _ from HR1.out).below b2)
 have M2 := Lib.hid (MutS.below' (show MutS (fun k => k = H) w w1.drew from M1.out.drew) b2)
 have OV2 := Lib.hid ov2
 refine hK _ _ (Rg.Keep.of_below b2) ?_
 clear hK b2 ov2 OD1 OK1 G1 c13' c3
 go_wp2_with (first
  |(with_reducible refine Rg.plan_pure ?_ ?_ ?_); kernel_rfl; kernel_rfl; intro _ _|(with_reducible refine Rg.plan_take ?_ ?_ ?_); kernel_rfl; kernel_rfl; intro _ _|(with_reducible refine Rg.plan_keep ?_ ?_); kernel_rfl; intro K hK|refine hK _ _ (Rg.Keep.refl _) ?_; clear hK|refine hK _ _ (Rg.Keep.of_below (by assumption)) ?_; clear hK|(with_reducible refine Rg.plan_skip ?_ ?_); kernel_rfl|(with_reducible refine Rg.plan_done ?_)|(with_reducible refine Rg.calm_normal ?_))
 refine (first_any KS D (by have := HN.out; omega) (by have := HN.out; omega) _ _ _ (Own.sl OK2.out) (Own.sl OD2.out) G2.out).mono ?_
 rintro e w3 ⟨⟨l, hl, rfl⟩, b3⟩
 have G3 := Lib.hid (G2.out.below b3)
 have HR3 := Lib.hid (HR2.out.below b3)
 have M3 := Lib.hid (M2.out.below' b3)
 have OV3 := Lib.hid (own_lower (own_below OV2.out b3) M1.out.size)
 refine hK _ _ (Rg.Keep.of_below b3) ?_
 clear hK b3 OD2 OK2 G2 HR2 M2 OV2
 have eb : ∀ W : World, (buildCn #[(0, .slice ca D.length cc), (2, .int .i64 1), (3, .int .i64 1), (4, .int .i64 (b1 : Nat)), (5, .int .i64 t), (9, .agg (bvs l))]).run Tryz.prog W = .ok (.agg (con0 (.slice ca D.length cc) 1 1 (b1 : Nat) t l)) W := fun W => build90 ca D.length cc 1 1 (b1 : Nat) t l hl W
 have HL := Lib.hid hl
 clear hl
 go_wp2_with (first
  |(with_reducible refine Rg.plan_pure ?_ ?_ ?_); kernel_rfl; kernel_rfl; intro _ _|(with_reducible refine Rg.plan_take ?_ ?_ ?_); kernel_rfl; kernel_rfl; intro _ _|(with_reducible refine Rg.plan_keep ?_ ?_); kernel_rfl; intro K hK|refine hK _ _ (Rg.Keep.refl _) ?_; clear hK|refine hK _ _ (Rg.Keep.of_below (by assumption)) ?_; clear hK|(with_reducible refine Rg.plan_skip ?_ ?_); kernel_rfl|(with_reducible refine Rg.plan_done ?_)|(with_reducible refine Rg.calm_normal ?_))
 have al : Below w3.heap.size w3 (w3.alloc (.cells (con0 (.slice ca D.length cc) 1 1 (b1 : Nat) t l) 86)) := (Below.refl _ _).alloc (Nat.le_refl _) _
 have C4 := Lib.hid (show RT (w3.alloc (.cells (con0 (.slice ca D.length cc) 1 1 (b1 : Nat) t l) 86)) w3.heap.size 86 (con0 (.slice ca D.length cc) 1 1 (b1 : Nat) t l) from RT.new w3 _ _ _ rfl)
 have G4 := Lib.hid (G3.out.below al)
 have HR4 := Lib.hid (HR3.out.below al)
 have M4 := Lib.hid (M3.out.below' al)
 have OV4 := Lib.hid (own_below OV3.out al)
 have HCz := Lib.hid (M3.out.size)
 have HC3 := Lib.hid (show 3 ≤ w3.heap.size from G3.out.lt)
 have HSZ := Lib.hid (con0_size (vd := .slice ca D.length cc) (addr := 1) (first := 1) (born := (b1 : Nat)) (last := t) HL.out)
 refine hK _ _ (Rg.Keep.of_below al) ?_
 clear hK al G3 HR3 M3 OV3 eb
 generalize hcc0 : con0 (.slice ca D.length cc) 1 1 (b1 : Nat) t l = cc0 at *
 have HCC := Lib.hid hcc0
 clear hcc0
 generalize (w3.alloc (.cells cc0 86)) = w4 at *
 generalize w3.heap.size = c at *
 go_wp2_with (first
  |(with_reducible refine Rg.plan_pure ?_ ?_ ?_); kernel_rfl; kernel_rfl; intro _ _|(with_reducible refine Rg.plan_take ?_ ?_ ?_); kernel_rfl; kernel_rfl; intro _ _|(with_reducible refine Rg.plan_keep ?_ ?_); kernel_rfl; intro K hK|refine hK _ _ (Rg.Keep.refl _) ?_; clear hK|refine hK _ _ (Rg.Keep.of_below (by assumption)) ?_; clear hK|(with_reducible refine Rg.plan_skip ?_ ?_); kernel_rfl|(with_reducible refine Rg.plan_done ?_)|(with_reducible refine Rg.calm_normal ?_))
 refine (rnew_any w4).mono ?_
 rintro e w5 ⟨rfl, b5, z5⟩
 go_wp2_with fail
 refine (fnew_any w5).mono ?_
 rintro e w6 ⟨rfl, rF, b6⟩
 go_wp2_with fail
 refine (cnew_any w6).mono ?_
 rintro e w7 ⟨rfl, rK, b7⟩
 have b57 : Below w4.heap.size w4 w7 := b5.trans ((b6.mono b5.size).trans (b7.mono (Nat.le_trans b5.size b6.size)))
 have G7 := Lib.hid (G4.out.below b57)
 have HR7 := Lib.hid (HR4.out.below b57)
 have M7 := Lib.hid (M4.out.below' b57)
 have OV7 := Lib.hid (own_below OV4.out b57)
 have F7 := Lib.hid (rF.below b7)
 have K7 := Lib.hid rK
 have C := Lib.hid (C4.out.below b57)
 have C7 := C
 have M := Lib.hid (MutS.refl (fun k => k = c) w7)
 have FZ := Lib.hid (show w.heap.size ≤ w5.heap.size ∧ w.heap.size ≤ w6.heap.size by have h1 := HCz.out; have h2 := C4.out.lt; have h3 := b5.size; have h4 := b6.size; omega)
 clear b5 z5 b6 b7 rF rK b57 G4 HR4 M4 OV4 C4
 generalize w5.heap.size = F at *
 generalize w6.heap.size = K' at *
 generalize w4.heap.size = Q4 at *
 go_upto_region 7 with (first
  |((with_reducible refine hold_store ?_); refine Rw.Held.mk ?_; refine wp_setRT rfl _ _ _ rfl rfl rfl C M (.inl rfl) (by simp only [Array.size_setIfInBounds, HSZ.out]; omega) (by kernel_rfl) rfl rfl ?_; intro wn C M _)
  |((with_reducible refine hold_mk ?_); refine Rw.Held.mk ?_; refine wp_mkRT rfl _ rfl C M ?_; intro wn mn C M Zn)
  |(with_reducible refine Rg.plan_pure ?_ ?_ ?_); kernel_rfl; kernel_rfl; intro _ _|(with_reducible refine Rg.plan_take ?_ ?_ ?_); kernel_rfl; kernel_rfl; intro _ _|(with_reducible refine Rg.plan_keep ?_ ?_); kernel_rfl; intro K hK|refine hK _ _ (Rg.Keep.refl _) ?_; clear hK|refine hK _ _ (Rg.Keep.of_below (by assumption)) ?_; clear hK|(with_reducible refine Rg.plan_skip ?_ ?_); kernel_rfl|(with_reducible refine Rg.plan_done ?_)|(with_reducible refine Rg.calm_normal ?_))
 obtain ⟨cc1, hcc1⟩ : ∃ x, RT wn c 86 x ∧ x.size = 296 ∧ x[279]? = some (.pointer (some ⟨F, 0, none⟩)) ∧ x[280]? = some (.pointer (some ⟨K', 0, none⟩)) ∧ (∀ i, i < 278 → x[i]? = cc0[i]?) ∧ x[281]? = cc0[281]? ∧ x[284]? = cc0[284]? := by
  refine ⟨_, C.out, ?_, ?_, ?_, ?_, ?_, ?_⟩
  ·simp only [Array.size_setIfInBounds, HSZ.out]
  ·repeat rw [set_ne' (by decide)]
   exact (set_eq' (by simp only [Array.size_setIfInBounds, HSZ.out]; omega)).trans rfl
  ·repeat rw [set_ne' (by decide)]
   exact (set_eq' (by simp only [Array.size_setIfInBounds, HSZ.out]; omega)).trans rfl
  ·intro i hi
   repeat rw [set_ne' (by omega)]
  ·repeat rw [set_ne' (by decide)]
  ·repeat rw [set_ne' (by decide)]
 obtain ⟨hC, hsz, h279, h280, hlo, h281, h284⟩ := hcc1
 have hHc : H ≠ c := RT.ne HR7.out C7.out (by decide)
 have HHC := Lib.hid hHc
 have HR8 := Lib.hid (HR7.out.keep M.out hHc)
 have F8 := Lib.hid (RT.keep M.out F7.out (RT.ne F7.out C7.out (by decide)))
 have K8 := Lib.hid (RT.keep M.out K7.out (RT.ne K7.out C7.out (by decide)))
 have G8 := Lib.hid (G7.out.keep M.out (fun k e => by rw [e]; exact HC3.out))
 have OV8 := Lib.hid (OwnB.keep M.out OV7.out (own_ne OV7.out C7.out (by decide)))
 have M8 := Lib.hid ((M7.out.mono fun k e => .inl (.inl e)).trans (M.out.mono fun k e => .inl (.inr e)) : MutS (fun k => k = H ∨ k = c) w wn)
 have HF := Lib.hid (And.intro hsz (And.intro h279 (And.intro h280 (And.intro hlo (And.intro h281 h284)))))
 have C8 := Lib.hid hC
 clear C M hC hsz h279 h280 hlo h281 h284 hHc HR7 F7 K7 G7 OV7 M7 C7
 have c0 : wn.cell? ⟨H, 0, none⟩ = some (.int .i64 (s.role : Nat)) := HR8.out.c 0
 have C := C8
 have M := Lib.hid (MutS.refl (fun k => k = c) wn)
 go_wp2_with (first
  |((with_reducible refine hold_store ?_); refine Rw.Held.mk ?_; refine wp_setRT rfl _ _ _ rfl rfl rfl C M (.inl rfl) (by simp only [Array.size_setIfInBounds, HF.out.1]; omega) (by kernel_rfl) rfl rfl ?_; intro wn C M _)
  |(with_reducible refine Rg.plan_pure ?_ ?_ ?_); kernel_rfl; kernel_rfl; intro _ _|(with_reducible refine Rg.plan_take ?_ ?_ ?_); kernel_rfl; kernel_rfl; intro _ _|(with_reducible refine Rg.plan_keep ?_ ?_); kernel_rfl; intro K hK|refine hK _ _ (Rg.Keep.refl _) ?_; clear hK|refine hK _ _ (Rg.Keep.of_below (by assumption)) ?_; clear hK|(with_reducible refine Rg.plan_skip ?_ ?_); kernel_rfl|(with_reducible refine Rg.plan_done ?_)|(with_reducible refine Rg.calm_normal ?_))
 rename World => w9
 refine (crnew_any w9).mono ?_
 rintro e w10 ⟨rfl, b10⟩
 go_wp2_with fail
 refine (crnew_any w10).mono ?_
 rintro e w11 ⟨rfl, b11⟩
 have b911 : Below w9.heap.size w9 w11 := b10.trans (b11.mono b10.size)
 have M := Lib.hid (M.out.below' b911)
 have C := Lib.hid (C.out.below b911)
 clear b10 b11 b911
 go_wp2_with (first
  |((with_reducible refine hold_store ?_); refine Rw.Held.mk ?_; refine wp_setRT rfl _ _ _ rfl rfl rfl C M (.inl rfl) (by simp only [Array.size_setIfInBounds, HF.out.1]; omega) (by kernel_rfl) rfl rfl ?_; intro wq C M _)
  |(with_reducible refine Rg.plan_pure ?_ ?_ ?_); kernel_rfl; kernel_rfl; intro _ _|(with_reducible refine Rg.plan_take ?_ ?_ ?_); kernel_rfl; kernel_rfl; intro _ _|(with_reducible refine Rg.plan_keep ?_ ?_); kernel_rfl; intro K hK|refine hK _ _ (Rg.Keep.refl _) ?_; clear hK|refine hK _ _ (Rg.Keep.of_below (by assumption)) ?_; clear hK|(with_reducible refine Rg.plan_skip ?_ ?_); kernel_rfl|(with_reducible refine Rg.plan_done ?_)|(with_reducible refine Rg.calm_normal ?_))
 obtain ⟨cc2, hcc2⟩ : ∃ x, RT wq c 86 x ∧ x.size = 296 ∧ (∀ i, i < 288 → x[i]? = cc1[i]?) := by
  refine ⟨_, C.out, ?_, ?_⟩
  ·simp only [Array.size_setIfInBounds, HF.out.1]
  ·intro i hi
   repeat rw [set_ne' (by omega)]
 obtain ⟨hC, hsz, hlo2⟩ := hcc2
 have HHC' := HHC.out
 have HRq := Lib.hid (HR8.out.keep M.out HHC')
 have Fq := Lib.hid (RT.keep M.out F8.out (RT.ne F8.out C8.out (by decide)))
 have Kq := Lib.hid (RT.keep M.out K8.out (RT.ne K8.out C8.out (by decide)))
 have Gq := Lib.hid (G8.out.keep M.out (fun k e => by rw [e]; exact HC3.out))
 have OVq := Lib.hid (OwnB.keep M.out OV8.out (own_ne OV8.out C8.out (by decide)))
 have Mq := Lib.hid (M8.out.trans (M.out.mono fun k e => .inl (.inr e)) : MutS (fun k => k = H ∨ k = c) w wq)
 have HFq := Lib.hid (And.intro hsz hlo2)
 have Cq := Lib.hid hC
 clear C M hC hsz hlo2 HHC' HR8 F8 K8 G8 OV8 M8 C8 c0
 have hTq : OwnB wq N s.tape T := HI0.out.ht.keep Mq.out (fun k e => by
  rintro (h | h)
  ·exact HI0.out.ht.ne HI0.out.hr k e h
  ·have := (HI0.out.ht.lt k e).2; have := HCz.out; omega)
 have hXq : OwnB wq N s.reset R := HI0.out.hx.keep Mq.out (fun k e => by
  rintro (h | h)
  ·exact HI0.out.hx.ne HI0.out.hr k e h
  ·have := (HI0.out.hx.lt k e).2; have := HCz.out; omega)
 have TQ := Lib.hid (And.intro hTq hXq)
 refine (draw_any H { s with born := b1 } 32 (by omega) T (by have := HN.out; omega) (by have := HN.out; show s.at_ ≤ _; omega) HN.out.2.2.2.2.2.1 N wq HRq.out hTq).mono ?_
 rintro e w12 ⟨rl, rfl, hrl, hg12, hr12, m12⟩
 have hcH : c ≠ H := fun e => HHC.out e.symm
 have C := Lib.hid (RT.keep m12 Cq.out hcH)
 have M := Lib.hid (MutS.refl (fun k => k = c) w12)
 have D12 := Lib.hid (And.intro hg12 (And.intro hr12 (And.intro m12 hrl)))
 have HcH := Lib.hid hcH
 clear hg12 hr12 m12 hrl hTq hXq hcH
 have Cz := Lib.hid (show c < wq.heap.size from Cq.out.lt)
 generalize wq.heap.size = rb at *
 go_wp2_with (first
  |((with_reducible refine hold_store ?_); refine Rw.Held.mk ?_; refine wp_setRT (v := .slice (some ⟨rb, 0, none⟩) 32 32) rfl _ _ _ rfl rfl rfl C M (.inl rfl) (by simp only [HFq.out.1]; omega) (by kernel_rfl) rfl rfl ?_; intro w13 C M _)
  |(with_reducible refine Rg.plan_pure ?_ ?_ ?_); kernel_rfl; kernel_rfl; intro _ _|(with_reducible refine Rg.plan_take ?_ ?_ ?_); kernel_rfl; kernel_rfl; intro _ _|(with_reducible refine Rg.plan_keep ?_ ?_); kernel_rfl; intro K hK|refine hK _ _ (Rg.Keep.refl _) ?_; clear hK|refine hK _ _ (Rg.Keep.of_below (by assumption)) ?_; clear hK|(with_reducible refine Rg.plan_skip ?_ ?_); kernel_rfl|(with_reducible refine Rg.plan_done ?_)|(with_reducible refine Rg.calm_normal ?_))
 have mq13 : MutS (fun k => k = H ∨ k = c) wq w13 := (D12.out.2.2.1.mono fun k e => .inl (.inl e)).trans (M.out.mono fun k e => .inl (.inr e))
 have MQ := Lib.hid mq13
 have hr13 : HR w13 H { s with born := b1, at_ := s.at_ + 32 } := D12.out.2.1.keep M.out HHC.out
 have rn13 : RT w13 rb 5 (bvs rl) := RT.keep M.out D12.out.1 (fun e => by have := Cz.out; omega)
 have F13 := Lib.hid (RT.keep mq13 Fq.out (by rintro (h | h); exact RT.ne Fq.out HRq.out (by decide) h; exact RT.ne Fq.out Cq.out (by decide) h))
 have K13 := Lib.hid (RT.keep mq13 Kq.out (by rintro (h | h); exact RT.ne Kq.out HRq.out (by decide) h; exact RT.ne Kq.out Cq.out (by decide) h))
 have T13 : OwnB w13 N s.tape T := OwnB.keep mq13 TQ.out.1 (fun k e => by rintro (h | h); exact own_ne TQ.out.1 HRq.out (by decide) k e h; exact own_ne TQ.out.1 Cq.out (by decide) k e h)
 have X13 : OwnB w13 N s.reset R := OwnB.keep mq13 TQ.out.2 (fun k e => by rintro (h | h); exact own_ne TQ.out.2 HRq.out (by decide) k e h; exact own_ne TQ.out.2 Cq.out (by decide) k e h)
 have OV13 := Lib.hid (OwnB.keep mq13 OVq.out (fun k e => by rintro (h | h); exact own_ne OVq.out HRq.out (by decide) k e h; exact own_ne OVq.out Cq.out (by decide) k e h))
 have G13 : Glob w13 := Gq.out.keep mq13 (fun k e => by rcases e with rfl | rfl; have := HI0.out.nH; have := HN.out; omega; exact HC3.out)
 have RN13 := Lib.hid rn13
 have HR13 := Lib.hid hr13
 have m13 : MutS (fun k => k = H ∨ k = c) w w13 := Mq.out.trans mq13
 have M13 := Lib.hid m13
 have h284 : (cc2.setIfInBounds 1 (.slice (some ⟨rb, 0, none⟩) 32 32))[284]? = some (.slice none 0 0) := by
  rw [set_ne' (by decide), HFq.out.2 284 (by omega), HF.out.2.2.2.2.2, ← HCC.out, con0_hi HL.out 284 (by omega)]
  exact conZ_284
 have GV := Lib.hid (give_any H c { s with born := b1, at_ := s.at_ + 32 } T R (by have := HN.out; omega) (by have := HN.out; show s.at_ + 32 ≤ _; omega) (by have := HN.out; show s.made ≤ _; omega) HN.out.2.2.2.2.2.1 (by have := HN.out; omega) N _ (by rw [Array.size_setIfInBounds, HFq.out.1]) h284 w13 hr13 T13 X13 C.out G13 (by have := HI0.out.nH; have := HN.out; omega))
 have C13 := C
 clear C M mq13 hr13 rn13 T13 X13 G13 m13 h284 Fq Kq Gq OVq TQ Cq
 refine GV.out.mono ?_
 rintro e w14 ⟨g, cap, vid, il, vtok, rfl, hr14, hc14, hgw, ho14, hv14, hil, hm14⟩
 obtain ⟨va, vcp, rfl, -⟩ := id (OwnB.sl hv14)
 obtain ⟨cur, hcur, hcsz, hctk⟩ : ∃ cur, RT w14 g 126 cur ∧ 5 ≤ cur.size ∧ cur.toList.take 5 = [.int .u64 0, .slice va il.length vcp, vtok, .bool false, .bool false] := by
  rcases ho14.2 with h | ⟨g', cap', cur, e, hb, hg, hnc, hcm, hcs, htk⟩
  ·exact absurd h.2 (by omega)
  ·injection e with e1 e2 e3
   injection e1 with e1
   injection e1 with e1
   subst e1
   exact ⟨cur, hg, by omega, htk⟩
 have cg3 : w14.cell? ⟨g, 3, none⟩ = some (.bool false) := (World.ownsRow.cellAt ho14 3 (by omega)).trans rfl
 have fg3 := row?_frozen hcur.row 3
 have c284 : w14.cell? ⟨c, 284, none⟩ = some (.slice (some ⟨g, 0, none⟩) 1 cap) := (row?_cell hc14.row 284).trans (set_eq' (by rw [Array.size_setIfInBounds, HFq.out.1]; omega))
 have E14 := Lib.hid (And.intro hr14 (And.intro hc14 (And.intro hgw (And.intro hv14 (And.intro hil (And.intro hm14 (And.intro hcur (And.intro hcsz hctk))))))))
 clear hr14 hc14 hgw hv14 hil hm14 hcur hcsz hctk ho14 GV
 go_wp2_with (first
  |(with_reducible refine Rg.plan_pure ?_ ?_ ?_); kernel_rfl; kernel_rfl; intro _ _|(with_reducible refine Rg.plan_take ?_ ?_ ?_); kernel_rfl; kernel_rfl; intro _ _|(with_reducible refine Rg.plan_keep ?_ ?_); kernel_rfl; intro K hK|refine hK _ _ (Rg.Keep.refl _) ?_; clear hK|refine hK _ _ (Rg.Keep.of_below (by assumption)) ?_; clear hK|(with_reducible refine Rg.plan_skip ?_ ?_); kernel_rfl|(with_reducible refine Rg.plan_done ?_)|(with_reducible refine Rg.calm_normal ?_))
 go_ret
 obtain ⟨hr14, hc14, hgw, hv14, hil, hm14, hcur, hcsz, hctk⟩ := E14.out
 have hNw : N ≤ w.heap.size := Nat.le_trans HI0.out.nH (Nat.le_of_lt HI0.out.hr.lt)
 have m15 : MutS (fun k => k = g) w14 (w14.setCell ⟨g, 3, none⟩ (.bool true)) := (MutS.refl (fun k => k = g) w14).setCell g 3 none _ (.inl rfl)
 have r15 : RT (w14.setCell ⟨g, 3, none⟩ (.bool true)) g 126 (cur.setIfInBounds 3 (.bool true)) := hcur.set 3 _
 generalize (w14.setCell ⟨g, 3, none⟩ (.bool true)) = w15 at *
 have hgH : H ≠ g := RT.ne hr14 hcur (by decide)
 have hgc : c ≠ g := RT.ne hc14 hcur (by decide)
 have hr15 := hr14.keep m15 hgH
 have hc15 := RT.keep m15 hc14 hgc
 have hcw := HCz.out
 have hgw' : w.heap.size ≤ g := Nat.le_trans M13.out.size hgw
 have m14 : MutS (fun k => k = H ∨ k = c) w w14 := M13.out.trans hm14
 have mH : MutS (fun k => k = H) w w15 := by
  refine MutS.mono (S := fun k => k = H ∨ k = c ∨ k = g) ?_ ?_
  ·exact (m14.mono fun k e => .inl (by rcases e with e | e; exact .inl e; exact .inr (.inl e))).trans (m15.mono fun k e => .inl (.inr (.inr e)))
  ·rintro k (rfl | rfl | rfl)
   ·exact .inl rfl
   ·exact .inr hcw
   ·exact .inr hgw'
 have low : ∀ i, i < 278 → i ≠ 1 → ((cc2.setIfInBounds 1 (.slice (some ⟨rb, 0, none⟩) 32 32)).setIfInBounds 284 (.slice (some ⟨g, 0, none⟩) 1 cap))[i]? = (con0 (.slice ca D.length cc) 1 1 (b1 : Nat) t l)[i]? := fun i hi h1 => by
  rw [set_ne' (by omega), set_ne' (by omega), HFq.out.2 i (by omega), HF.out.2.2.2.1 i hi, HCC.out]
 have mid : ∀ i, i < 288 → i ≠ 1 → i ≠ 284 → ((cc2.setIfInBounds 1 (.slice (some ⟨rb, 0, none⟩) 32 32)).setIfInBounds 284 (.slice (some ⟨g, 0, none⟩) 1 cap))[i]? = cc1[i]? := fun i hi h1 h2 => by
  rw [set_ne' (by omega), set_ne' (by omega), HFq.out.2 i (by omega)]
 have neH14 : ∀ {x : Nat} {T' : TypeId} {d : Array Value}, RT w13 x T' d → 61 ≠ T' → 86 ≠ T' → 126 ≠ T' → RT w15 x T' d := fun {x T' d} h h1 h2 h3 => by
  have h14 : RT w14 x T' d := RT.keep hm14 h (by
   rintro (h' | h')
   ·exact RT.ne h HR13.out (fun e => h1 e.symm) h'
   ·exact RT.ne h C13.out (fun e => h2 e.symm) h')
  exact RT.keep m15 h14 (RT.ne h14 hcur (fun e => h3 e.symm))
 have ownU : ∀ {N' : Nat} {v : Value} {x : List UInt8}, OwnB w13 N' v x → OwnB w15 N' v x := fun {N' v x} h => by
  have h14 : OwnB w14 N' v x := OwnB.keep hm14 h (fun k e => by
   rintro (h' | h')
   ·exact own_ne h HR13.out (by decide) k e h'
   ·exact own_ne h C13.out (by decide) k e h')
  exact OwnB.keep m15 h14 (own_ne h14 hcur (by decide))
 have hRN : OwnB w13 N (.slice (some ⟨rb, 0, none⟩) 32 32) rl := by
  unfold OwnB
  rw [D12.out.2.2.2]
  exact own_of_RT RN13.out D12.out.2.2.2 (by have := Cz.out; omega) (by omega)
 have hil15 : OwnB w15 N (.slice va il.length vcp) il := own_lower (OwnB.keep m15 hv14 (own_ne hv14 hcur (by decide))) (by have := M13.out.size; omega)
 have c1 : cur[1]? = some (.slice va il.length vcp) := by
  have := congrArg (fun x : List Value => x[1]?) hctk
  simpa using this
 have hb1 := HB1.out
 refine ⟨c, F, K', g, _, rl, il, l, { s with born := s.born + 1, at_ := s.at_ + 36, made := s.made + 1 }, rfl, ⟨hc15, by rw [Array.size_setIfInBounds, Array.size_setIfInBounds, HFq.out.1], ⟨_, (low 0 (by omega) (by omega)).trans ((con0_lo HL.out 0 (by omega)).trans (by simp [conZ_size])), own_lower (ownU OV13.out) hNw⟩, ⟨_, (set_ne' (by decide)).trans (set_eq' (by rw [HFq.out.1]; omega)), ownU hRN⟩, (low 2 (by omega) (by omega)).trans ((con0_lo HL.out 2 (by omega)).trans (by simp [conZ_size])), (low 5 (by omega) (by omega)).trans ((con0_lo HL.out 5 (by omega)).trans (by simp [conZ_size])), (low 7 (by omega) (by omega)).trans ((con0_lo HL.out 7 (by omega)).trans (by rw [set_ne' (by decide), set_ne' (by decide), set_ne' (by decide), set_ne' (by decide), set_ne' (by decide)]; exact conZ_7)), fun i hi => (low (9 + i) (by omega) (by omega)).trans (con0_key HL.out i hi), (low 276 (by omega) (by omega)).trans ((con0_hi HL.out 276 (by omega)).trans conZ_276), (mid 279 (by omega) (by omega) (by omega)).trans HF.out.2.1, neH14 F13.out (by decide) (by decide) (by decide), (mid 280 (by omega) (by omega) (by omega)).trans HF.out.2.2.1, neH14 K13.out (by decide) (by decide) (by decide), (mid 281 (by omega) (by omega) (by omega)).trans (HF.out.2.2.2.2.1.trans (by rw [← HCC.out, con0_hi HL.out 281 (by omega)]; exact conZ_281)), ⟨cap, set_eq' (by rw [Array.size_setIfInBounds, HFq.out.1]; omega)⟩, ⟨_, _, r15, (set_ne' (by decide)).trans c1, hil15⟩, by omega, by have := FZ.out; omega, by have := FZ.out; omega, by omega⟩, D12.out.2.2.2, hil, HL.out, HI0.out.turn ?_ mH rfl rfl rfl rfl rfl, rfl, hcw, FZ.out.1, FZ.out.2, hgw', mH⟩
 subst hb1
 exact hr15
end Go.Proofs.YthjbmggpleliaaaGreatDoor

end
section
namespace Go.Proofs.YthjbmggpleliaaaGreatDoor
open Go.RowKit Go.Rw Aes Hdr Vlt Hst
set_option maxRecDepth 100000 in
set_option maxHeartbeats 1000000 in
theorem deleteFunc_nil (f : Value) (w : World) : Calls Tryz.prog 43 #[.slice none 0 0, f] w fun e w' => e = .returned (.slice none 0 0) ∧ w = w' := by
 go_enter Tryz.func43, Tryz.ntmps43
 go_wp2_with fail
 refine (indexFunc_nil _ _).mono ?_
 rintro e w1 ⟨rfl, rfl⟩
 go_wp2_with fail
 go_ret
 exact ⟨rfl, rfl⟩
set_option maxRecDepth 100000 in
set_option maxHeartbeats 2000000 in
theorem install_any (H c : Nat) (s : HS) (w : World) (hr : HR w H s) (hb : s.begun = .slice none 0 0) :
  Calls Tryz.prog 19 #[.pointer (some ⟨H, 0, none⟩), .pointer (some ⟨c, 0, none⟩)] w fun e w' => ∃ m, e = .returned (.tuple #[]) ∧ HR w' H { s with begun := .slice none 0 0, cur := .pointer (some ⟨c, 0, none⟩), inbox := .map (some m) } ∧ w.heap.size ≤ m ∧ w'.heap[m]? = some (.map #[] 0) ∧ MutS (fun k => k = H) w w' := by
 have c18 : w.cell? ⟨H, 18, none⟩ = some (.slice none 0 0) := (hr.c 18).trans (congrArg some hb)
 have hlt := hr.lt
 have b0 : Below w.heap.size w (w.alloc (.cells #[.pointer (some ⟨c, 0, none⟩)] 53)) := (Below.refl _ _).alloc (Nat.le_refl _) _
 have C := Lib.hid (RT.below hr b0)
 have M := Lib.hid (MutS.of_below b0 : MutS (fun k => k = H) w _)
 clear hr hb b0
 go_enter Tryz.func19, Tryz.ntmps19
 go_wp2_with fail
 refine (deleteFunc_nil _ _).mono ?_
 rintro e w1 ⟨rfl, rfl⟩
 have cb : row? (w.alloc (.cells #[.pointer (some ⟨c, 0, none⟩)] 53)) w.heap.size = some #[.pointer (some ⟨c, 0, none⟩)] := row?_alloc_at _ _ _ _ rfl
 have HZ := Lib.hid hlt
 clear c18
 have hne : w.heap.size ≠ H := by omega
 have hz1 : w.heap.size < (w.alloc (.cells #[.pointer (some ⟨c, 0, none⟩)] 53)).heap.size := by simp
 generalize (w.alloc (.cells #[.pointer (some ⟨c, 0, none⟩)] 53)) = w1 at *
 have HW := Lib.hid hz1
 clear hlt hz1
 have CB := Lib.hid cb
 go_upto_region 2 with (first
  |((with_reducible refine hold_store ?_); refine Rw.Held.mk ?_; refine wp_setRT (v := .slice none 0 0) rfl _ _ _ rfl rfl rfl C M (.inl rfl) (by simp only [Array.size_setIfInBounds, HS.row_size]; omega) (by kernel_rfl) rfl rfl ?_; intro w2 C M Z2)
  |(with_reducible refine Rg.plan_pure ?_ ?_ ?_); kernel_rfl; kernel_rfl; intro _ _|(with_reducible refine Rg.plan_take ?_ ?_ ?_); kernel_rfl; kernel_rfl; intro _ _|(with_reducible refine Rg.plan_keep ?_ ?_); kernel_rfl; intro K hK|refine hK _ _ (Rg.Keep.refl _) ?_; clear hK|refine hK _ _ (Rg.Keep.of_below (by assumption)) ?_; clear hK|(with_reducible refine Rg.plan_skip ?_ ?_); kernel_rfl|(with_reducible refine Rg.plan_done ?_)|(with_reducible refine Rg.calm_normal ?_))
 have cb2 : w2.cell? ⟨w.heap.size, 0, none⟩ = some (.pointer (some ⟨c, 0, none⟩)) := row?_cell (Z2.out.1.row CB.out hne) 0
 have M2 := M
 have hW2 := HW.out
 clear cb
 go_wp2_with (first
  |((with_reducible refine hold_store ?_); refine Rw.Held.mk ?_; refine wp_setRT (v := .pointer (some ⟨c, 0, none⟩)) (i := 17) rfl _ _ _ rfl rfl rfl C M (.inl rfl) (by simp only [Array.size_setIfInBounds, HS.row_size]; omega) (by kernel_rfl) rfl rfl ?_; intro w4 C M Z4)
  |((with_reducible refine hold_store ?_); refine Rw.Held.mk ?_; refine wp_setRT (v := .map (some mn)) (i := 20) rfl _ _ _ rfl rfl rfl C M (.inl rfl) (by simp only [Array.size_setIfInBounds, HS.row_size]; omega) (by kernel_rfl) rfl rfl ?_; intro w5 C M Z5)
  |((with_reducible refine hold_mk ?_); refine Rw.Held.mk ?_; refine wp_mkRT rfl _ rfl C M ?_; intro w3 mn C M Zn)
  |(with_reducible refine Rg.plan_pure ?_ ?_ ?_); kernel_rfl; kernel_rfl; intro _ _|(with_reducible refine Rg.plan_take ?_ ?_ ?_); kernel_rfl; kernel_rfl; intro _ _|(with_reducible refine Rg.plan_keep ?_ ?_); kernel_rfl; intro K hK|refine hK _ _ (Rg.Keep.refl _) ?_; clear hK|refine hK _ _ (Rg.Keep.of_below (by assumption)) ?_; clear hK|(with_reducible refine Rg.plan_skip ?_ ?_); kernel_rfl|(with_reducible refine Rg.plan_done ?_)|(with_reducible refine Rg.calm_normal ?_))
 go_end0
 obtain ⟨hb3, rfl, hmn, hlt3⟩ := Zn.out
 refine ⟨rfl, w2.heap.size, ?_, Nat.le_trans M2.out.size (Nat.le_refl _), ?_, M.out⟩
 ·have := C.out
  simp only [HS.row, List.setIfInBounds_toArray, List.set_cons_zero, List.set_cons_succ] at this
  exact this
 ·have h1 := HZ.out
  have h2 := M2.out.size
  have hne' : w2.heap.size ≠ H := by omega
  exact (Z5.out.1.block _ (by rw [Z4.out.2]; exact hlt3) hne').trans ((Z4.out.1.block _ hlt3 hne').trans hmn)
end Go.Proofs.YthjbmggpleliaaaGreatDoor

end
section
namespace Go.Proofs.YthjbmggpleliaaaGreatDoor
open Go.RowKit Go.Rw Aes Hdr Vlt Hst
theorem own_neSet {w : World} {N n k0 b : Nat} {e kt : TypeId} {v : Value} {xs : List Value} {S : Int → Bool} (ho : w.ownsRow N e 1 v n xs) (h : SetI w Tryz.prog kt b k0 S) : ∀ k, v.ownBlock = some k → k ≠ b := by
 intro k hk
 rcases ho.2 with ⟨rfl, _⟩ | ⟨g, cap, cur, rfl, hb, hg, _⟩
 ·cases hk
 ·simp [Value.ownBlock] at hk
  subst hk
  exact RT.neSet (show RT w g e cur from hg) h
theorem HI.asked {w w' : World} {N H L M n n' : Nat} {s : HS} {K T R : List UInt8} {S S' : Int → Bool} (h : HI w N H L M s K T R n S) (hl : LadR w' L M s.role n' S') (m : MutS (fun k => k = M) w w') : HI w' N H L M s K T R n' S' :=
 ⟨h.hr.keep m (fun e => (h.lad.neH h.hr).2 e.symm), h.hk.keep m (own_neSet h.hk h.lad.2), h.ht.keep m (own_neSet h.ht h.lad.2), h.hx.keep m (own_neSet h.hx h.lad.2), h.as_, hl, h.nH, h.nL, h.nM⟩
theorem HI.below {w w' : World} {N H L M n : Nat} {s : HS} {K T R : List UInt8} {S : Int → Bool} (h : HI w N H L M s K T R n S) (hb : Below w.heap.size w w') : HI w' N H L M s K T R n S :=
 ⟨h.hr.below hb, own_below h.hk hb, own_below h.ht hb, own_below h.hx hb, h.as_, h.lad.below hb, h.nH, h.nL, h.nM⟩
set_option maxRecDepth 100000 in
set_option maxHeartbeats 2000000 in
theorem connect_again (H L LM N n : Nat) (s : HS) (K T R : List UInt8) (S : Int → Bool) (t : Int) (ht : 0 ≤ t ∧ t ≤ 1000000) (hn : n ≤ 1000000) (hro : s.role = 0) (hu : s.used = true) (w : World) (hi : HI w N H L LM s K T R n S) :
  Calls Tryz.prog 8 #[.pointer (some ⟨H, 0, none⟩), .int .i64 t] w fun e w' => e = .returned (.int .i64 8) ∧ HI w' N H L LM s K T R (n + 1) (fun y => y == t || S y) ∧ MutS (fun k => k = LM) w w' := by
 have c12 : w.cell? ⟨H, 12, none⟩ = some (.pointer (some ⟨L, 0, none⟩)) := (hi.hr.c 12).trans (congrArg some hi.as_)
 have HI0 := Lib.hid hi
 have HT := Lib.hid (And.intro ht (And.intro hn (And.intro hro hu)))
 clear hi ht hn hro hu
 go_enter Tryz.func8, Tryz.ntmps8
 go_wp2_with fail
 refine (ask_any L LM (s.role : Nat) n HT.out.2.1 S t HT.out.1 w HI0.out.lad).mono ?_
 rintro e w1 ⟨rfl, hl1, m1⟩
 have HI1 := Lib.hid (HI0.out.asked hl1 m1)
 have M1 := Lib.hid m1
 have c0 : w1.cell? ⟨H, 0, none⟩ = some (.int .i64 0) := (HI1.out.hr.c 0).trans (by rw [HS.at0, HT.out.2.2.1]; rfl)
 have c14 : w1.cell? ⟨H, 14, none⟩ = some (.bool true) := (HI1.out.hr.c 14).trans (by rw [HS.at14, HT.out.2.2.2])
 clear hl1 m1 c12
 go_wp2_with fail
 go_ret
 exact ⟨rfl, HI1.out, M1.out⟩
set_option maxRecDepth 100000 in
set_option maxHeartbeats 2000000 in
theorem connect_server (H L LM N n : Nat) (s : HS) (K T R : List UInt8) (S : Int → Bool) (t : Int) (ht : 0 ≤ t ∧ t ≤ 1000000) (hn : n ≤ 1000000) (hro : s.role = 1) (w : World) (hi : HI w N H L LM s K T R n S) :
  Calls Tryz.prog 8 #[.pointer (some ⟨H, 0, none⟩), .int .i64 t] w fun e w' => e = .returned (.int .i64 6) ∧ HI w' N H L LM s K T R (n + 1) (fun y => y == t || S y) ∧ MutS (fun k => k = LM) w w' := by
 have c12 : w.cell? ⟨H, 12, none⟩ = some (.pointer (some ⟨L, 0, none⟩)) := (hi.hr.c 12).trans (congrArg some hi.as_)
 have HI0 := Lib.hid hi
 have HT := Lib.hid (And.intro ht (And.intro hn hro))
 clear hi ht hn hro
 go_enter Tryz.func8, Tryz.ntmps8
 go_wp2_with fail
 refine (ask_any L LM (s.role : Nat) n HT.out.2.1 S t HT.out.1 w HI0.out.lad).mono ?_
 rintro e w1 ⟨rfl, hl1, m1⟩
 have HI1 := Lib.hid (HI0.out.asked hl1 m1)
 have M1 := Lib.hid m1
 have c0 : w1.cell? ⟨H, 0, none⟩ = some (.int .i64 1) := (HI1.out.hr.c 0).trans (by rw [HS.at0, HT.out.2.2]; rfl)
 clear hl1 m1 c12
 go_wp2_with fail
 go_ret
 exact ⟨rfl, HI1.out, M1.out⟩
end Go.Proofs.YthjbmggpleliaaaGreatDoor

end
section
namespace Go.Proofs.YthjbmggpleliaaaGreatDoor
open Go.RowKit Go.Rw Aes Hdr Vlt Hst
theorem CI.keep {w w' : World} {N c F Q g bg : Nat} {cc : Array Value} {D RN IL key : List UInt8} {last : Int} {S : Nat → Prop} (h : CI w N c F Q g cc D RN IL key last bg) (m : MutS S w w') (hR : ∀ {x : Nat} {T : TypeId} {d : Array Value}, (T = 86 ∨ T = 180 ∨ T = 182 ∨ T = 126) → RT w x T d → ¬ S x) (hO : ∀ {v : Value} {l : List UInt8}, OwnB w N v l → ∀ k, v.ownBlock = some k → ¬ S k) : CI w' N c F Q g cc D RN IL key last bg := by
 obtain ⟨v0, d0, o0⟩ := h.dst
 obtain ⟨v1, d1, o1⟩ := h.rnd
 obtain ⟨gr, v2, r2, g2, o2⟩ := h.ownr
 exact ⟨RT.keep m h.row (hR (.inl rfl) h.row), h.size, ⟨v0, d0, o0.keep m (hO o0)⟩, ⟨v1, d1, o1.keep m (hO o1)⟩, h.addr, h.last_, h.met, h.keys, h.begun, h.fl, RT.keep m h.flr (hR (.inr (.inl rfl)) h.flr), h.ck, RT.keep m h.ckr (hR (.inr (.inr (.inl rfl))) h.ckr), h.times, h.own, ⟨gr, v2, RT.keep m r2 (hR (.inr (.inr (.inr rfl))) r2), g2, o2.keep m (hO o2)⟩, h.nc, h.nF, h.nQ, h.ng⟩
theorem CI.keepH {w w' : World} {N c F Q g bg H : Nat} {s : HS} {cc : Array Value} {D RN IL key : List UInt8} {last : Int} (h : CI w N c F Q g cc D RN IL key last bg) (hr : HR w H s) (m : MutS (fun k => k = H) w w') : CI w' N c F Q g cc D RN IL key last bg :=
 h.keep m (fun hT hx e => RT.ne hx hr (by rcases hT with rfl | rfl | rfl | rfl <;> decide) e) (fun ho k e => own_ne ho hr (by decide) k e)
theorem CI.put {w w' : World} {N c F Q g bg : Nat} {cc : Array Value} {D RN IL key : List UInt8} {last : Int} (h : CI w N c F Q g cc D RN IL key last bg) (i : Nat) (v : Value) (hi : i = 3 ∨ i = 6) (hr : RT w' c 86 (cc.setIfInBounds i v)) (m : MutS (fun k => k = c) w w') : CI w' N c F Q g (cc.setIfInBounds i v) D RN IL key last bg := by
 obtain ⟨v0, d0, o0⟩ := h.dst
 obtain ⟨v1, d1, o1⟩ := h.rnd
 obtain ⟨gr, v2, r2, g2, o2⟩ := h.ownr
 obtain ⟨cap, hcap⟩ := h.own
 have ne : ∀ {v : Value} {l : List UInt8}, OwnB w N v l → ∀ k, v.ownBlock = some k → ¬ k = c := fun ho k e => own_ne ho h.row (by decide) k e
 refine ⟨hr, by rw [Array.size_setIfInBounds]; exact h.size, ⟨v0, (set_ne' (by omega)).trans d0, o0.keep m (ne o0)⟩, ⟨v1, (set_ne' (by omega)).trans d1, o1.keep m (ne o1)⟩, (set_ne' (by omega)).trans h.addr, (set_ne' (by omega)).trans h.last_, (set_ne' (by omega)).trans h.met, fun j hj => (set_ne' (by omega)).trans (h.keys j hj), (set_ne' (by omega)).trans h.begun, (set_ne' (by omega)).trans h.fl, RT.keep m h.flr (RT.ne h.flr h.row (by decide)), (set_ne' (by omega)).trans h.ck, RT.keep m h.ckr (RT.ne h.ckr h.row (by decide)), (set_ne' (by omega)).trans h.times, ⟨cap, (set_ne' (by omega)).trans hcap⟩, ⟨gr, v2, RT.keep m r2 (RT.ne r2 h.row (by decide)), g2, o2.keep m (ne o2)⟩, h.nc, h.nF, h.nQ, h.ng⟩
theorem HI.keepC {w w' : World} {N H L M n c : Nat} {s : HS} {K T R : List UInt8} {S : Int → Bool} {cc : Array Value} (h : HI w N H L M s K T R n S) (hc : RT w c 86 cc) (hs : cc.size = 296) (m : MutS (fun k => k = c) w w') : HI w' N H L M s K T R n S := by
 have hL : L ≠ c := by
  rintro rfl
  have := h.lad.1.symm.trans hc.row
  injection this with this
  have := congrArg Array.size this
  rw [hs] at this
  simp at this
 exact ⟨h.hr.keep m (RT.ne h.hr hc (by decide)), h.hk.keep m (own_ne h.hk hc (by decide)), h.ht.keep m (own_ne h.ht hc (by decide)), h.hx.keep m (own_ne h.hx hc (by decide)), h.as_, h.lad.keep m hL (fun e => RT.neSet hc h.lad.2 e.symm), h.nH, h.nL, h.nM⟩
theorem Glob.mut {w w' : World} {S : Nat → Prop} (h : Glob w) (m : MutS S w w') (hS : ∀ k, S k → 3 ≤ k) : Glob w' := h.keep m hS
set_option maxRecDepth 100000 in
set_option maxHeartbeats 4000000 in
theorem connect_first (H L LM N n : Nat) (s : HS) (K T R : List UInt8) (S : Int → Bool) (t : Int) (ht : 0 ≤ t ∧ t ≤ 1000000) (hn : n ≤ 1000000) (hro : s.role = 0) (hu : s.used = false) (hK : K.length ≤ 64) (hT : T.length ≤ 1000) (hat : s.at_ ≤ 100) (hma : s.made ≤ 100) (hbo : s.born ≤ 100) (hR : R.length = 32) (hbg : s.begun = .slice none 0 0) (had : s.addr = 0) (w : World) (hi : HI w N H L LM s K T R n S) (hg : Glob w) (hN : 3 ≤ N) :
  Calls Tryz.prog 8 #[.pointer (some ⟨H, 0, none⟩), .int .i64 t] w fun e w' => ∃ c F Q g cc RN IL D key s', e = .returned (.int .i64 0) ∧ CI w' N c F Q g cc D RN IL key t 0 ∧ D.length = 8 ∧ RN.length = 32 ∧ IL.length = 8 ∧ key.length = 88 ∧ HI w' N H L LM s' K T R (n + 1) (fun y => y == t || S y) ∧ s'.cur = .pointer (some ⟨c, 0, none⟩) ∧ s'.begun = .slice none 0 0 ∧ s'.used = true ∧ s'.closing = s.closing ∧ s'.role = 0 ∧ s'.known = s.known ∧ s'.got = s.got ∧ s'.went = s.went ∧ s'.table = s.table ∧ s'.ideal = s.ideal ∧ s'.ids = s.ids ∧ s'.addr = 0 ∧ s'.at_ = s.at_ + 40 ∧ s'.made = s.made + 2 ∧ (∃ m, s'.inbox = .map (some m) ∧ w.heap.size ≤ m ∧ w'.heap[m]? = some (.map #[] 0)) ∧ w.heap.size ≤ c ∧ w.heap.size ≤ F ∧ w.heap.size ≤ Q ∧ w.heap.size ≤ g ∧ MutS (fun k => k = H ∨ k = LM) w w' := by
 have c12 : w.cell? ⟨H, 12, none⟩ = some (.pointer (some ⟨L, 0, none⟩)) := (hi.hr.c 12).trans (congrArg some hi.as_)
 have HI0 := Lib.hid hi
 have HG := Lib.hid hg
 have HT := Lib.hid (And.intro ht (And.intro hn (And.intro hro (And.intro hu (And.intro hK (And.intro hT (And.intro hat (And.intro hma (And.intro hbo (And.intro hR (And.intro hbg (And.intro had hN))))))))))))
 clear hi hg ht hn hro hu hK hT hat hma hbo hR hbg had hN
 go_enter Tryz.func8, Tryz.ntmps8
 go_wp2_with fail
 refine (ask_any L LM (s.role : Nat) n HT.out.2.1 S t HT.out.1 w HI0.out.lad).mono ?_
 rintro e w1 ⟨rfl, hl1, m1⟩
 have HI1 := Lib.hid (HI0.out.asked hl1 m1)
 have M1 := Lib.hid (m1.mono fun k e => .inl (.inr e) : MutS (fun k => k = H ∨ k = LM) w w1)
 have G1 := Lib.hid (HG.out.keep m1 (fun k e => by rw [e]; have := HI0.out.nM; have := HT.out; omega))
 have c0 : w1.cell? ⟨H, 0, none⟩ = some (.int .i64 0) := (HI1.out.hr.c 0).trans (by rw [HS.at0, HT.out.2.2.1]; rfl)
 have c14 : w1.cell? ⟨H, 14, none⟩ = some (.bool false) := (HI1.out.hr.c 14).trans (by rw [HS.at14, HT.out.2.2.2.1])
 have f14 := HI1.out.hr.f 14
 clear hl1 m1 c12
 go_wp2_with fail
 have h2 : HR (w1.setCell ⟨H, 14, none⟩ (.bool true)) H { s with used := true } := by
  have := HI1.out.hr.set 14 (.bool true)
  simp only [HS.row, List.setIfInBounds_toArray, List.set_cons_zero, List.set_cons_succ] at this
  exact this
 have m2 : MutS (fun k => k = H) w1 (w1.setCell ⟨H, 14, none⟩ (.bool true)) := (MutS.refl (fun k => k = H) w1).setCell H 14 none _ (.inl rfl)
 generalize (w1.setCell ⟨H, 14, none⟩ (.bool true)) = w2 at *
 have HI2 := Lib.hid (HI1.out.turn h2 m2 rfl rfl rfl rfl rfl)
 have M2 := Lib.hid (M1.out.trans (m2.mono fun k e => .inl (.inl e)))
 have G2 := Lib.hid (G1.out.keep m2 (fun k e => by rw [e]; have := HI0.out.nH; have := HT.out; omega))
 clear h2 m2 c0 c14 f14
 refine (name_any H { s with used := true } T (by have := HT.out; omega) (by have := HT.out; show s.at_ ≤ _; omega) (by have := HT.out; show s.made ≤ _; omega) (by have := HT.out; show s.role ≤ _; omega) N w2 HI2.out.hr HI2.out.ht).mono ?_
 rintro e w3 ⟨vd, D, rfl, hD, od, hr3, m3⟩
 have HI3 := Lib.hid (HI2.out.turn hr3 m3 rfl rfl rfl rfl rfl)
 have M3 := Lib.hid (M2.out.trans (m3.mono fun k e => .inl (.inl e)))
 have G3 := Lib.hid (G2.out.keep m3 (fun k e => by rw [e]; have := HI0.out.nH; have := HT.out; omega))
 obtain ⟨da, dc, rfl, -⟩ := id od.sl
 have OD := Lib.hid od
 have HD := Lib.hid hD
 clear hr3 m3 od hD
 go_wp2_with fail
 refine (newconn_any H L LM _ K T R D HT.out.2.2.2.2.1 HT.out.2.2.2.2.2.1 (by have := HT.out; show s.at_ + 4 ≤ _; omega) (by have := HT.out; show s.made + 1 ≤ _; omega) (by have := HT.out; show s.born ≤ _; omega) (by have := HT.out; show s.role ≤ _; omega) (by have := HT.out; omega) HD.out t N (n + 1) _ _ w3 HI3.out _ OD.out G3.out (by have := HT.out; omega)).mono ?_
 rintro e w4 ⟨c, F, Q, g, cc, RN, IL, key, s4, rfl, hci, hrn, hil, hkl, hi4, hs4, hcw, hFw, hQw, hgw, m4⟩
 subst hs4
 have HI4 := Lib.hid hi4
 have CI4 := Lib.hid hci
 have M4 := Lib.hid (M3.out.trans (m4.mono fun k e => .inl (.inl e)))
 have HL4 := Lib.hid (And.intro hrn (And.intro hil (And.intro hkl (And.intro hcw (And.intro hFw (And.intro hQw hgw))))))
 clear hi4 hci m4 hrn hil hkl hcw hFw hQw hgw
 go_wp2_with fail
 refine (install_any H c _ w4 HI4.out.hr HT.out.2.2.2.2.2.2.2.2.2.2.1).mono ?_
 rintro e w5 ⟨m, rfl, hr5, hm5, hh5, mm5⟩
 have HI5 := Lib.hid (HI4.out.turn hr5 mm5 rfl rfl rfl rfl rfl)
 have CI5 := Lib.hid (CI4.out.keepH HI4.out.hr mm5)
 have M5 := Lib.hid (M4.out.trans (mm5.mono fun k e => .inl (.inl e)))
 have HM5 := Lib.hid (And.intro hm5 hh5)
 have c17 : w5.cell? ⟨H, 17, none⟩ = some (.pointer (some ⟨c, 0, none⟩)) := hr5.c 17
 have c1 : w5.cell? ⟨H, 1, none⟩ = some (.int .i64 0) := (hr5.c 1).trans (by rw [HS.at1]; show some (Value.int .i64 s.addr) = _; rw [HT.out.2.2.2.2.2.2.2.2.2.2.2.1])
 clear hr5 hm5 hh5 mm5
 go_wp2_with fail
 refine Rg.wp_region_plan (Rg.row [(0, 3), (1, 3), (2, 3), (3, 0), (4, 3), (5, 3), (6, 3), (7, 0), (8, 3), (9, 3)] [10]) [10] (by kernel_rfl) (by kernel_rfl) ?_
 simp only [Rg.row, Rg.PT.map, List.map_cons, List.map_nil, List.getD_cons_zero, List.getD_cons_succ]
 have C := Lib.hid (show RT w5.drew c 86 cc from CI5.out.row)
 have M := Lib.hid (MutS.refl (fun k => k = c) w5.drew)
 go_wp2_with (first
  |((with_reducible refine hold_store ?_); refine Rw.Held.mk ?_; refine wp_setRT (v := .int .i64 0) (i := 3) rfl _ _ _ rfl rfl rfl C M (.inl rfl) (by rw [CI5.out.size]; omega) (by kernel_rfl) rfl rfl ?_; intro w6 C M _)
  |(with_reducible refine Rg.plan_pure ?_ ?_ ?_); kernel_rfl; kernel_rfl; intro _ _|(with_reducible refine Rg.plan_take ?_ ?_ ?_); kernel_rfl; kernel_rfl; intro _ _|(with_reducible refine Rg.plan_keep ?_ ?_); kernel_rfl; intro K hK|refine hK _ _ (Rg.Keep.refl _) ?_; clear hK|refine hK _ _ (Rg.Keep.of_below (by assumption)) ?_; clear hK|(with_reducible refine Rg.plan_skip ?_ ?_); kernel_rfl|(with_reducible refine Rg.plan_done ?_)|(with_reducible refine Rg.calm_normal ?_))
 go_ret
 have m56 : MutS (fun k => k = c) w5 w6 := (MutS.refl (fun k => k = c) w5).drew.trans M.out
 have hmc : m ≠ c := fun e => by
  have h1 := HM5.out.2
  rw [e] at h1
  have := CI5.out.row.symm.trans h1
  cases this
 have hcw := Nat.le_trans M3.out.size HL4.out.2.2.2.1
 refine ⟨c, F, Q, g, _, RN, IL, D, key, _, rfl, CI5.out.put 3 (.int .i64 0) (.inl rfl) C.out m56, HD.out, HL4.out.1, HL4.out.2.1, HL4.out.2.2.1, HI5.out.keepC CI5.out.row CI5.out.size m56, rfl, rfl, rfl, rfl, HT.out.2.2.1, rfl, rfl, rfl, rfl, rfl, rfl, HT.out.2.2.2.2.2.2.2.2.2.2.2.1, rfl, rfl, ⟨m, rfl, Nat.le_trans M4.out.size HM5.out.1, (m56.block _ (Array.getElem?_eq_some_iff.1 HM5.out.2).1 hmc).trans HM5.out.2⟩, hcw, Nat.le_trans M3.out.size HL4.out.2.2.2.2.1, Nat.le_trans M3.out.size HL4.out.2.2.2.2.2.1, Nat.le_trans M3.out.size HL4.out.2.2.2.2.2.2, (M5.out.trans' m56 (fun k e => by rw [e]; exact .inr hcw))⟩
end Go.Proofs.YthjbmggpleliaaaGreatDoor

end
section
namespace Go.Rw
open Go Go.RowKit
theorem results_row3 {P : Program} {fn : Func} {p a b : Tmp} {t n : Nat} (A : Agg P t n) (hr : fn.results = #[.cell p t, .tmp a, .tmp b]) (tmps : Array Value) (w : World) (blk : Nat) (cells : Array Value)
  (hp : tmps.getD p undef = .pointer (some ⟨blk, 0, none⟩)) (h : row? w blk = some cells) (hn : cells.size = n) : (results fn tmps).run P w = .ok (.tuple #[.agg cells, tmps.getD a undef, tmps.getD b undef]) w := by
 have h1 := results_row (fn := { fn with results := #[.cell p t] }) A rfl tmps w blk cells hp h hn
 simp only [results] at h1 ⊢
 simp [hr, Sem.run_bind, Result.andThen] at h1 ⊢
 cases hq : Sem.run P (asAddr (tmps[p]?.getD undef)) w with
 | ok x w1 =>
  rw [hq] at h1
  simp only [] at h1 ⊢
  rw [h1]
 | halt x w1 => rw [hq] at h1; cases h1
end Go.Rw
namespace Go.Proofs.YthjbmggpleliaaaGreatDoor
open Go.RowKit Go.Rw Aes Hdr Vlt Hst
theorem AgMs : Agg Tryz.prog 37 2 := ⟨⟨_, Tryz.underlying37, rfl⟩, by kernel_rfl⟩
set_option maxRecDepth 100000 in
set_option maxHeartbeats 2000000 in
theorem read_empty (H m : Nat) (s : HS) (w : World) (hr : HR w H s) (hm : s.inbox = .map (some m)) (hb : w.heap[m]? = some (.map #[] 0)) :
  Calls Tryz.prog 17 #[.pointer (some ⟨H, 0, none⟩)] w fun e w' => e = .returned (.tuple #[.agg #[.slice none 0 0, .slice none 0 0], .int .i64 0, .int .i64 10]) ∧ Below w.heap.size w w' := by
 have c20 : w.cell? ⟨H, 20, none⟩ = some (.map (some m)) := (hr.c 20).trans (congrArg some hm)
 have hlt := hr.lt
 have hb1 : (w.alloc (.cells #[.slice none 0 0, .slice none 0 0] 37)).heap[m]? = some (.map #[] 0) := (((Below.refl w.heap.size w).alloc (Nat.le_refl _) _).block m (Array.getElem?_eq_some_iff.1 hb).1).trans hb
 have hl : (Builtin.len_ #[56] 3 #[.map (some m)]).run Tryz.prog (w.alloc (.cells #[.slice none 0 0, .slice none 0 0] 37)) = .ok (.int .i64 0) (w.alloc (.cells #[.slice none 0 0, .slice none 0 0] 37)) := run_len_map _ _ _ _ _ _ (by kernel_rfl) hb1
 clear hr hm hb hb1
 go_enter Tryz.func17, Tryz.ntmps17
 go_wp2_with fail
 exact bodyPost_ret (results_row3 AgMs rfl _ _ w.heap.size #[.slice none 0 0, .slice none 0 0] rfl (row?_alloc_at _ _ _ _ rfl) rfl) rfl ⟨rfl, (Below.refl _ _).alloc (Nat.le_refl _) _⟩
end Go.Proofs.YthjbmggpleliaaaGreatDoor

end
