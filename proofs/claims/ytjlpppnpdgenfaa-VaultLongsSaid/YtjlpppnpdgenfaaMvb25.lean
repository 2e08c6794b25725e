/- VltOr; VltTL. -/
import Derived.Test.YtjlpppnpdgenfaaMvb23
import Derived.Test.YtjlpppnpdgenfaaMvbVltSr
import Derived.Test.YtjlpppnpdgenfaaMvbVltL
import Derived.Test.YtjlpppnpdgenfaaMvb13
import Derived.RegionTactic
import Derived.BigRegion
import Derived.Test.YtjlpppnpdgenfaaMvb24
section
namespace Vlt
open Go.Rw Gcm
theorem opened_code (key nonce s data : List UInt8) (h : 16 ≤ s.length) : (opened key nonce s data).1 = 0 ∨ (opened key nonce s data).1 = 7 := by
 unfold opened
 rw [if_neg (by omega)]
 split
 ·exact .inl rfl
 ·exact .inr rfl
end Vlt
namespace Go.Proofs.Ytjlpppnpdgenfaa
open Go.RowKit Go.Rw Aes Hdr Vlt
attribute [local go_sem ↓] bdH hvA_0 hvA_1 hvA_2 hvA_3 hvA_4 hvA_5 hvA_6 hvA_7 hvA_8 hvA_9
attribute [local go_sem ↓] ldH stH alH ld16 st16 al16 ld12 ldKr shift_shr8 bvs_getElem?
attribute [local go_sem] rldH rstH ralH rld16 rst16 ral16 setRow_alloc_at setRow_alloc_past setRow_drew bvs_setn buildH buildH0
set_option maxRecDepth 100000 in
set_option maxHeartbeats 8000000 in
theorem ropen16_any (key iv msk : List UInt8) (hk : key.length = 16) (hiv : iv.length = 12) (hmk : msk.length = 16) (b : List UInt8) (hb : b.length ≤ 1000000) (largest : Nat) (hlg : largest < 18446744073709551616) (any : Bool) (vb : Value) (w : World) (hsb : Sl w vb b) :
  Calls Try.prog 15 #[.agg (bvs (ksB key iv msk)), vb, .int .u64 (largest : Nat), .bool any] w (OpenPost w (openV key iv msk b largest any)) := by
 obtain ⟨i0, hi, hz0, hz1, hz2⟩ := info_parts info8
 obtain ⟨ao, cap, rfl, hcap, -, -⟩ := id hsb
 have hKl := ksB_length hk hiv hmk
 have hk0 := hk
 have hKk := ksB_key (iv := iv) (msk := msk) hk
 have hKi := ksB_iv (msk := msk) hk hiv
 obtain ⟨R, hR⟩ : ∃ R, openV key iv msk b largest any = R := ⟨_, rfl⟩
 rw [hR]
 have hah := fun W (h : Sl W (.slice ao b.length cap) b) => rleadm_any b hb (.slice ao b.length cap) W h
 unfold openV at hR
 have HSB := Lib.hid hsb
 have HLG := Lib.hid hlg
 clear hsb hlg
 cases hl : lead b true with
 | error x =>
  have hx := lead_err hl
  rw [hl] at hah hR
  have HAH := Lib.hid hah
  have HRR := Lib.hid hR
  have hx' : (x != 0) = true := by simpa using hx
  clear hah hR hl hx
  generalize hKK : ksB key iv msk = KB at *
  go_enter Try.func15, Try.ntmps15
  go_wp2_with fail
  refine (HAH.out _ (HSB.out.below (bel2 w _ _))).mono ?_
  rintro e w1 ⟨lg, kind, ver, a1, n1, c1, a2, n2, c2, a3, n3, c3, sp, ph, nm, nl, rfl, hb1⟩
  have z1 := hb1.size
  simp at z1
  have r1 : row? w1 (w.heap.size + 1) = some (hvA false 0 0 (.slice none 0 0) (.slice none 0 0) (.slice none 0 0) false false 0 0) := by rw [row?_below hb1 (by simp)]; simp [go_sem]
  have hbw : Below w.heap.size w w1 := (bel2 w _ _).trans (hb1.mono (by simp; omega))
  have hlt1 : w.heap.size + 1 < w1.heap.size := by omega
  clear hb1
  go_wp2_with fail
  refine bodyPost_ret (results_row3 AgH rfl _ _ (w.heap.size + 1) (hvA false 0 0 (.slice none 0 0) (.slice none 0 0) (.slice none 0 0) false false 0 0) rfl (by rw [row?_alloc_past _ _ _ (by simpa using hlt1)]; exact row?_setRow_eq r1) (hvA_size ..)) rfl ?_
  rw [← HRR.out]
  exact OpenPost.none ((below_setRow hbw (by omega) _).alloc (by simp; omega) _)
 | ok q =>
  obtain ⟨⟨lg, kind, ver, dst, src, tok, sp, ph, nm, nl⟩, at_, told⟩ := q
  have hl0 := hl
  rw [hl] at hah hR
  simp only [] at hR
  obtain ⟨h5, -⟩ := lead_facts hl
  have h30 : at_ + told ≤ 2147483648 := lead_bd hb hl
  clear hl
  have hah' : ∀ W, Sl W (.slice ao b.length cap) b → Calls Try.prog 41 #[.slice ao b.length cap, .bool true] W fun e w' => ∃ vd vs vt, e = .returned (.tuple #[.agg (hvA lg kind ver vd vs vt sp ph nm nl), .int .i64 (at_ : Nat), .int .i64 (told : Nat), .int .i64 0]) ∧ w'.ownsRow W.heap.size 5 1 vd dst.length (dst.map bv) ∧ w'.ownsRow W.heap.size 5 1 vs src.length (src.map bv) ∧ w'.ownsRow W.heap.size 5 1 vt tok.length (tok.map bv) ∧ Below W.heap.size W w' := hah
  clear hah
  have HAH := Lib.hid hah'
  clear hah'
  by_cases hs : told < 20 ∨ b.length < at_ + told
  ·rw [if_pos hs] at hR
   have HRR := Lib.hid hR
   clear hR hl0
   by_cases h20 : told < 20
   ·have h20i : ((told : Nat) : Int) < 20 := by omega
    clear hs
    generalize ksB key iv msk = KB at *
    go_enter Try.func15, Try.ntmps15
    go_wp2_with fail
    refine (HAH.out _ (HSB.out.below (bel2 w _ _))).mono ?_
    rintro e w1 ⟨vd, vs, vt, rfl, od, os, ot, hb1⟩
    have z1 := hb1.size
    simp at z1
    have r1 : row? w1 (w.heap.size + 1) = some (hvA false 0 0 (.slice none 0 0) (.slice none 0 0) (.slice none 0 0) false false 0 0) := by rw [row?_below hb1 (by simp)]; simp [go_sem]
    have r0 : row? w1 w.heap.size = some (bvs KB) := by rw [row?_below hb1 (by simp; omega)]; simp [go_sem]
    have hbw : Below w.heap.size w w1 := (bel2 w _ _).trans (hb1.mono (by simp; omega))
    have hlt1 : w.heap.size + 1 < w1.heap.size := by omega
    obtain ⟨av, cv, rfl, -, -, -⟩ := id (Own.sl od)
    obtain ⟨as_, cs, rfl, -, -, -⟩ := id (Own.sl os)
    obtain ⟨at_', ct, rfl, -, -, -⟩ := id (Own.sl ot)
    simp at od os ot
    have OD := Lib.hid od
    have OS := Lib.hid os
    have OT := Lib.hid ot
    clear hb1 od os ot
    go_wp2_with fail
    refine bodyPost_ret (results_row3 AgH rfl _ _ (w.heap.size + 1) (hvA false 0 0 (.slice none 0 0) (.slice none 0 0) (.slice none 0 0) false false 0 0) rfl (by rw [row?_alloc_past _ _ _ (by simpa using hlt1)]; exact row?_setRow_eq r1) (hvA_size ..)) rfl ?_
    rw [← HRR.out]
    exact OpenPost.none ((below_setRow hbw (by omega) _).alloc (by simp; omega) _)
   ·have h20i : ¬ ((told : Nat) : Int) < 20 := by omega
    have hsi : ((b.length : Nat) : Int) < (at_ : Int) + (told : Int) := by omega
    clear hs
    generalize ksB key iv msk = KB at *
    go_enter Try.func15, Try.ntmps15
    go_wp2_with fail
    refine (HAH.out _ (HSB.out.below (bel2 w _ _))).mono ?_
    rintro e w1 ⟨vd, vs, vt, rfl, od, os, ot, hb1⟩
    have z1 := hb1.size
    simp at z1
    have r1 : row? w1 (w.heap.size + 1) = some (hvA false 0 0 (.slice none 0 0) (.slice none 0 0) (.slice none 0 0) false false 0 0) := by rw [row?_below hb1 (by simp)]; simp [go_sem]
    have r0 : row? w1 w.heap.size = some (bvs KB) := by rw [row?_below hb1 (by simp; omega)]; simp [go_sem]
    have hbw : Below w.heap.size w w1 := (bel2 w _ _).trans (hb1.mono (by simp; omega))
    have hlt1 : w.heap.size + 1 < w1.heap.size := by omega
    obtain ⟨av, cv, rfl, -, -, -⟩ := id (Own.sl od)
    obtain ⟨as_, cs, rfl, -, -, -⟩ := id (Own.sl os)
    obtain ⟨at_', ct, rfl, -, -, -⟩ := id (Own.sl ot)
    simp at od os ot
    have OD := Lib.hid od
    have OS := Lib.hid os
    have OT := Lib.hid ot
    clear hb1 od os ot
    go_wp2_with fail
    refine bodyPost_ret (results_row3 AgH rfl _ _ (w.heap.size + 1) (hvA false 0 0 (.slice none 0 0) (.slice none 0 0) (.slice none 0 0) false false 0 0) rfl (by rw [row?_alloc_past _ _ _ (by simpa using hlt1)]; exact row?_setRow_eq r1) (hvA_size ..)) rfl ?_
    rw [← HRR.out]
    exact OpenPost.none ((below_setRow hbw (by omega) _).alloc (by simp; omega) _)
  rw [if_neg hs] at hR
  have h20 : 20 ≤ told := by omega
  have hle : at_ + told ≤ b.length := by omega
  have hlt : (b.take (at_ + told)).length = at_ + told := by rw [List.length_take]; omega
  have hcut := fun W (h : Sl W (.slice ao b.length cap) b) => Sl.first h (at_ + told) (by omega)
  obtain ⟨en, hen⟩ : ∃ en, at_ + told = en := ⟨_, rfl⟩
  have heni : (at_ : Int) + (told : Int) = (en : Nat) := by omega
  rw [hen] at hR hlt hcut
  generalize b.take en = p at *
  have HRR := Lib.hid hR
  have HCT := Lib.hid hcut
  have HEN := Lib.hid hen
  have hen1 : at_ + 20 ≤ en := by omega
  have hen2 : en ≤ b.length := by omega
  have hen3 : en ≤ cap := by omega
  have h20i : ¬ ((told : Nat) : Int) < 20 := by omega
  have hsi : ¬ ((b.length : Nat) : Int) < (en : Nat) := by omega
  have HLT := Lib.hid hlt
  clear hR hl0 hs hcut hlt hen hle h20
  generalize hKK : ksB key iv msk = KB at *
  go_enter Try.func15, Try.ntmps15
  go_wp2_with fail
  refine (HAH.out _ (HSB.out.below (bel2 w _ _))).mono ?_
  rintro e w1 ⟨vd, vs, vt, rfl, od, os, ot, hb1⟩
  have z1 := hb1.size
  simp at z1
  have r1 : row? w1 (w.heap.size + 1) = some (hvA false 0 0 (.slice none 0 0) (.slice none 0 0) (.slice none 0 0) false false 0 0) := by rw [row?_below hb1 (by simp)]; simp [go_sem]
  have r0 : row? w1 w.heap.size = some (bvs KB) := by rw [row?_below hb1 (by simp; omega)]; simp [go_sem]
  have hbw : Below w.heap.size w w1 := (bel2 w _ _).trans (hb1.mono (by simp; omega))
  have hlt1 : w.heap.size + 1 < w1.heap.size := by omega
  obtain ⟨av, cv, rfl, -, -, -⟩ := id (Own.sl od)
  obtain ⟨as_, cs, rfl, -, -, -⟩ := id (Own.sl os)
  obtain ⟨at_', ct, rfl, -, -, -⟩ := id (Own.sl ot)
  simp at od os ot
  have OD := Lib.hid od
  have OS := Lib.hid os
  have OT := Lib.hid ot
  clear hb1 od os ot
  have R1 := Lib.hid r1
  have R0 := Lib.hid r0
  clear r0 r1
  go_wp2_with (at_builtin; refine Classical.byContradiction ?_)
  intro hh; apply hh; clear hh
  have a1 : row? (w1.alloc (.cells (hvA lg kind ver (.slice av dst.length cv) (.slice as_ src.length cs) (.slice at_' tok.length ct) sp ph nm nl) 30)) w1.heap.size = some (hvA lg kind ver (.slice av dst.length cv) (.slice as_ src.length cs) (.slice at_' tok.length ct) sp ph nm nl) := row?_alloc_at _ _ _ _ rfl
  have a2 : row? (w1.alloc (.cells (hvA lg kind ver (.slice av dst.length cv) (.slice as_ src.length cs) (.slice at_' tok.length ct) sp ph nm nl) 30)) (w.heap.size + 1) = some (hvA false 0 0 (.slice none 0 0) (.slice none 0 0) (.slice none 0 0) false false 0 0) := by rw [row?_alloc_past _ _ _ hlt1]; exact R1.out
  have a3 : row? (w1.alloc (.cells (hvA lg kind ver (.slice av dst.length cv) (.slice as_ src.length cs) (.slice at_' tok.length ct) sp ph nm nl) 30)) w.heap.size = some (bvs KB) := by rw [row?_alloc_past _ _ _ (by omega)]; exact R0.out
  have a4 : Below w1.heap.size w1 (w1.alloc (.cells (hvA lg kind ver (.slice av dst.length cv) (.slice as_ src.length cs) (.slice at_' tok.length ct) sp ph nm nl) 30)) := (Below.refl _ _).alloc (Nat.le_refl _) _
  have hl8 := HLT.out
  refine app_sl rfl _ _ 27 rfl (w1.heap.size + 1) 5 i0 Try.underlying27 hi hz0 hz1 hz2 (.slice none 0 0) [] rfl (World.ownsRow_nil _ _ _ _) (.slice ao en cap) p rfl (HCT.out _ ((HSB.out.below hbw).below a4)) (by simp; omega) (by simp) ?_
  intro v2 w2 o2 g2
  simp only [List.nil_append] at o2
  have b12 : Below w1.heap.size w1 w2 := a4.grown g2 (by simp) (fun q hq => by simp [Value.ownBlock] at hq)
  have z2 : w1.heap.size < w2.heap.size := by have := g2.size; simp at this; omega
  have R1h := Lib.hid (show row? w2 w1.heap.size = some (hvA lg kind ver (.slice av dst.length cv) (.slice as_ src.length cs) (.slice at_' tok.length ct) sp ph nm nl) from row_grown g2 a1 (by simp [Value.ownBlock]))
  have R1 := Lib.hid (show row? w2 (w.heap.size + 1) = some (hvA false 0 0 (.slice none 0 0) (.slice none 0 0) (.slice none 0 0) false false 0 0) from row_grown g2 a2 (by simp [Value.ownBlock]))
  have R0 := Lib.hid (show row? w2 w.heap.size = some (bvs KB) from row_grown g2 a3 (by simp [Value.ownBlock]))
  rw [hl8] at o2
  obtain ⟨g, c2, hv2, hgB, hc2⟩ : ∃ g c2, v2 = .slice (some ⟨g, 0, none⟩) en c2 ∧ w1.heap.size + 1 ≤ g ∧ en ≤ c2 := by
   rcases o2.2 with ⟨_, h0⟩ | ⟨g, cap, cur, e, hb, _, hle, _⟩
   ·omega
   ·exact ⟨g, cap, e, hb, hle⟩
  rw [hv2] at o2 ⊢
  have O2 := Lib.hid o2
  have hbw2 : Below w.heap.size w w2 := hbw.trans (b12.mono hbw.size)
  have l2 : (loadAgg 36 (.pointer (some ⟨w.heap.size, 0, none⟩))).run Try.prog w2.drew = .ok (.agg (bvs KB)) w2.drew := rldKr w2.drew _ _ R0.out hKl
  obtain ⟨M, hM⟩ : ∃ M, block msk (smp p at_) = M := ⟨_, rfl⟩
  have hMl : M.length = 16 := by rw [← hM]; exact block_length _ _
  have HMM := Lib.hid hM
  have hgw := (Own.lt o2 _ _ _ _ rfl).2
  clear a1 a2 a3 a4 o2 g2 hM hv2 hl8
  go_wp2_with fail
  refine Rg.wp_region_flo [(0, 0), (1, 3), (2, 3), (3, 3), (4, 3), (5, 3), (6, 3)] [
    ⟨7, 57, [], false, fun v _ => v = .agg (bvs M)⟩,
    ⟨8, 16, [], true, fun v w' => ∃ B, v = .pointer (some ⟨B, 0, none⟩) ∧ row? w' B = some (bvs (zeros 16))⟩] [(7, 57, []), (8, 16, [])] [9] (by kernel_rfl) (by kernel_rfl) rfl ?_
  simp only [Rg.row, Rg.PT.map, List.getD_cons_zero, List.getD_cons_succ]
  go_wp2_with (first
   |(with_reducible refine Rg.plan_pure ?_ ?_ ?_); kernel_rfl; kernel_rfl; intro _ _|(with_reducible refine Rg.plan_take ?_ ?_ ?_); kernel_rfl; kernel_rfl; intro _ _|(with_reducible refine Rg.plan_keep ?_ ?_); kernel_rfl; intro K hK|refine hK _ _ (Rg.Keep.refl _) ?_; clear hK|refine hK _ _ (Rg.Keep.of_below (by assumption)) ?_; clear hK|(with_reducible refine Rg.plan_skip ?_ ?_); kernel_rfl|(with_reducible refine Rg.plan_done ?_)|(with_reducible refine Rg.calm_normal ?_))
  refine Rg.phase_done (Rg.Phase.mk ?_ ?_ ?_)
  ·refine List.forall_mem_cons.2 ⟨?_, List.forall_mem_cons.2 ⟨?_, fun r hr => (by cases hr)⟩⟩
   ·exact fun v w1 w2 _ h => h
   ·rintro v w1 w2 hb ⟨B, e, h⟩; exact ⟨B, e, Rg.stable_row hb h⟩
  ·refine List.forall_mem_cons.2 ⟨?_, List.forall_mem_cons.2 ⟨?_, fun r hr => (by cases hr)⟩⟩
   ·intro us wx hbx hdep K hK
    have hsm : Sl wx (.slice (some ⟨g, at_ + 4, none⟩) (at_ + 20 - (at_ + 4)) (c2 - (at_ + 4))) (smp p at_) := by
     have hx := ((Own.sl (l := p) (by rw [HLT.out]; exact O2.out)).below ((Below.refl _ _).drew)).below hbx
     have := hx.cut (at_ + 4) (at_ + 20) (by omega) (by omega)
     unfold cutA at this
     rw [if_neg (by omega)] at this
     simpa [Addr.add_lit, smp, Nat.add_assoc] using this
    refine Rg.exec_call (f := 35) (args := #[.agg (bvs KB), .slice (some ⟨g, at_ + 4, none⟩) (at_ + 20 - (at_ + 4)) (c2 - (at_ + 4))]) (by simp [go_sem, execOp, Rg.puts]) (by rw [← hKK]; exact rmask_any key iv msk (smp p at_) hk hiv hmk (smp_length p at_ (by rw [HLT.out]; exact hen1)) _ wx hsm) ?_
    rintro e wy ⟨rfl, hy⟩
    exact ⟨_, rfl, hK _ _ _ rfl (by rw [HMM.out]) hy (fun h => (by cases h))⟩
   ·intro us wx hbx hdep K hK
    exact Rg.exec_value (by simp [go_sem, execOp, Rg.puts]; rfl) (hK _ _ _ rfl ⟨_, rfl, row?_alloc_at _ _ _ _ rfl⟩ ((Below.refl _ _).alloc (Nat.le_refl _) _) (fun _ => ⟨Nat.le_refl _, by simp [Rg.vblk]⟩))
  ·intro us wZ hbZ hJ hfr hne
   have hfr0 : w2.drew.heap.size ≤ Rg.vblk (us 8) := (hfr _ (List.getElem_mem (n := 1) (by simp)) rfl).1
   simp only [List.forall_mem_cons] at hJ
   obtain ⟨e7, ⟨BM, e8, rM⟩, -⟩ := hJ
   rw [e8] at hfr0
   have hBM : w2.heap.size ≤ BM := hfr0
   have zZ := hbZ.size
   have b2Z : Below w2.heap.size w2 wZ := (Below.refl _ _).drew.trans hbZ
   have bZ : Below w.heap.size w wZ := hbw2.trans (b2Z.mono hbw2.size)
   have OZ := Lib.hid (Go.Rw.own_below O2.out b2Z)
   simp only [Rg.puts, List.map_cons, List.map_nil, List.getD_cons_zero, List.getD_cons_succ]
   simp only [e7, e8]
   have hpl := HLT.out
   have o1 : (wZ.setRow BM (bvs M)).ownsRow (w1.heap.size + 1) 5 1 (.slice (some ⟨g, 0, none⟩) en c2) en (p.map bv) := own_same OZ.out (setRow_other wZ BM g _ (by omega))
   have b1 : Below w.heap.size w (wZ.setRow BM (bvs M)) := below_setRow bZ (by omega) _
   have b11 : Below (w1.heap.size + 1) w2 (wZ.setRow BM (bvs M)) := below_setRow (b2Z.mono (by omega)) (by omega) _
   have rm1 : row? (wZ.setRow BM (bvs M)) BM = some (bvs M) := row?_setRow_eq rM
   have c0 : (wZ.setRow BM (bvs M)).cell? ⟨g, 0, none⟩ = some (.int .u8 (n8 (nth p 0) : Nat)) := by
    rw [o1.cellAt 0 (by omega)]
    simp [nth, bv, n8, show 0 < p.length by omega]
   have m0 : (wZ.setRow BM (bvs M)).cell? ⟨BM, 0, none⟩ = some (.int .u8 (n8 (nth M 0) : Nat)) := by rw [row?_cell rm1, bvs_getElem?, if_pos (by omega)]
   have fO := o1.frozenAt 0
   have hlow := fun W => rlow_any (nth p 0) W
   obtain ⟨lo, hlo⟩ : ∃ lo, lowB (nth p 0) = lo := ⟨_, rfl⟩
   rw [hlo] at hlow
   obtain ⟨F, hF⟩ : ∃ F, nth p 0 ^^^ (nth M 0 &&& lo) = F := ⟨_, rfl⟩
   have hL1 : mfirst M p = p.set 0 F := by unfold mfirst; rw [hlo, hF]
   have O3 := Lib.hid (own_stored o1 0 F)
   have B3 := Lib.hid (show Below w.heap.size w ((wZ.setRow BM (bvs M)).setCell ⟨g, 0, none⟩ (.int .u8 (n8 F : Nat))) from b1.setCell (by show w.heap.size ≤ g; omega) _)
   have B13 := Lib.hid (show Below (w1.heap.size + 1) w2 ((wZ.setRow BM (bvs M)).setCell ⟨g, 0, none⟩ (.int .u8 (n8 F : Nat))) from b11.setCell (by show w1.heap.size + 1 ≤ g; omega) _)
   have RM3 := Lib.hid (show row? ((wZ.setRow BM (bvs M)).setCell ⟨g, 0, none⟩ (.int .u8 (n8 F : Nat))) BM = some (bvs M) by rw [row?_setCell_ne _ _ _ _ (by show BM ≠ g; omega)]; exact rm1)
   have c3 : ((wZ.setRow BM (bvs M)).setCell ⟨g, 0, none⟩ (.int .u8 (n8 F : Nat))).cell? ⟨g, 0, none⟩ = some (.int .u8 (n8 F : Nat)) := by
    rw [O3.out.cellAt 0 (by omega), List.getElem?_map, List.getElem?_set, if_pos rfl, if_pos (by omega)]; rfl
   have HL1 := Lib.hid hL1
   clear hlo hL1 o1 b1 b11 rm1 e7 e8 hfr hne
   go_wp2_with (first
    |(with_reducible refine Rg.plan_pure ?_ ?_ ?_); kernel_rfl; kernel_rfl; intro _ _|(with_reducible refine Rg.plan_take ?_ ?_ ?_); kernel_rfl; kernel_rfl; intro _ _|(with_reducible refine Rg.plan_keep ?_ ?_); kernel_rfl; intro K hK|refine hK _ _ (Rg.Keep.refl _) ?_; clear hK|refine hK _ _ (Rg.Keep.of_below (by assumption)) ?_; clear hK|(with_reducible refine Rg.plan_skip ?_ ?_); kernel_rfl|(with_reducible refine Rg.plan_done ?_)|(with_reducible refine Rg.calm_normal ?_))
   refine Rg.wp_region_plan (Rg.row [(0, 3), (1, 3), (2, 3), (3, 0), (4, 3), (5, 0), (6, 3), (7, 3), (8, 0), (9, 1), (10, 3), (11, 3), (12, 3)] [13]) [13] (by kernel_rfl) (by kernel_rfl) ?_
   simp only [Rg.row, Rg.PT.map, List.map_cons, List.map_nil, List.getD_cons_zero, List.getD_cons_succ]
   go_wp2_with (first
    |(with_reducible refine Rg.plan_pure ?_ ?_ ?_); kernel_rfl; kernel_rfl; intro _ _|(with_reducible refine Rg.plan_take ?_ ?_ ?_); kernel_rfl; kernel_rfl; intro _ _|(with_reducible refine Rg.plan_keep ?_ ?_); kernel_rfl; intro K hK|refine hK _ _ (Rg.Keep.refl _) ?_; clear hK|refine hK _ _ (Rg.Keep.of_below (by assumption)) ?_; clear hK|(with_reducible refine Rg.plan_skip ?_ ?_); kernel_rfl|(with_reducible refine Rg.plan_done ?_)|(with_reducible refine Rg.calm_normal ?_))
   refine (hlow _).mono ?_
   rintro e wq ⟨rfl, rfl⟩
   refine hK _ _ (Rg.Keep.refl _) ?_
   clear hK
   obtain ⟨n, hnl⟩ : ∃ n, n8 (F &&& 3) + 1 = n := ⟨_, rfl⟩
   have hq3 := Vlt.and3_lt F
   have hn4 : n ≤ 4 := by omega
   have hn1 : 1 ≤ n := by omega
   have q3a : wrap64 ((n8 (F &&& 3) : Nat) : Int) = (n8 (F &&& 3) : Nat) := IntWalk.wrap64_in _ (by omega)
   have q3b : wrap64 (((n8 (F &&& 3) : Nat) : Int) + 1) = (n : Nat) := (IntWalk.wrap64_in _ (by clear q3a; omega)).trans (by clear q3a; omega)
   have HNL := Lib.hid hnl
   clear hnl hq3
   go_wp2_with (first
    |(with_reducible refine Rg.plan_pure ?_ ?_ ?_); kernel_rfl; kernel_rfl; intro _ _|(with_reducible refine Rg.plan_take ?_ ?_ ?_); kernel_rfl; kernel_rfl; intro _ _|(with_reducible refine Rg.plan_keep ?_ ?_); kernel_rfl; intro K hK|refine hK _ _ (Rg.Keep.refl _) ?_; clear hK|refine hK _ _ (Rg.Keep.of_below (by assumption)) ?_; clear hK|(with_reducible refine Rg.plan_skip ?_ ?_); kernel_rfl|(with_reducible refine Rg.plan_done ?_)|(with_reducible refine Rg.calm_normal ?_))
   simp only [q3b]
   clear c0 m0 fO c3 q3a q3b
   go_loopw [18] (fun v wr => ∃ k : Nat, k ≤ n ∧ v = .int .i64 (k : Nat) ∧ wr.ownsRow (w1.heap.size + 1) 5 1 (.slice (some ⟨g, 0, none⟩) en c2) en ((mset M at_ (p.set 0 F) k).map bv) ∧ row? wr BM = some (bvs M) ∧ Below w.heap.size w wr ∧ Below (w1.heap.size + 1) w2 wr) (fun v _ => n - (intOf v).toNat)
   case atStart => exact ⟨0, by omega, rfl, O3.out, RM3.out, B3.out.drew, B13.out.drew⟩
   case round =>
    obtain ⟨k, hk, rfl, ho, hr, hg, hg2⟩ := hrel
    have hlen : (mset M at_ (p.set 0 F) k).length = en := by rw [mset_length, List.length_set]; exact hpl
    have HO := Lib.hid ho
    have HR := Lib.hid hr
    have HG := Lib.hid hg
    have HG2 := Lib.hid hg2
    by_cases hlt : k < n
    ·have pd : decide (k < n) = true := decide_eq_true hlt
     have e1 : wr.cell? ⟨g, at_ + k, none⟩ = some (.int .u8 (n8 (nth (mset M at_ (p.set 0 F) k) (at_ + k)) : Nat)) := by
      rw [ho.cellAt (at_ + k) (by omega)]
      simp [nth, bv, n8, show at_ + k < (mset M at_ (p.set 0 F) k).length by omega]
     have e2 : wr.cell? ⟨BM, 1 + k, none⟩ = some (.int .u8 (n8 (nth M (1 + k)) : Nat)) := by rw [row?_cell hr, bvs_getElem?, if_pos (by omega)]
     have e3 := ho.frozenAt (at_ + k)
     have HN := Lib.hid (own_stored ho (at_ + k) (nth (mset M at_ (p.set 0 F) k) (at_ + k) ^^^ nth M (1 + k)))
     have HGN := Lib.hid (show Below w.heap.size w (wr.setCell ⟨g, at_ + k, none⟩ (.int .u8 (n8 (nth (mset M at_ (p.set 0 F) k) (at_ + k) ^^^ nth M (1 + k)) : Nat))) from hg.setCell (by show w.heap.size ≤ g; omega) _)
     have HGN2 := Lib.hid (show Below (w1.heap.size + 1) w2 (wr.setCell ⟨g, at_ + k, none⟩ (.int .u8 (n8 (nth (mset M at_ (p.set 0 F) k) (at_ + k) ^^^ nth M (1 + k)) : Nat))) from hg2.setCell (by show w1.heap.size + 1 ≤ g; omega) _)
     have HLT' := Lib.hid hlt
     have hik : at_ + k < en := by omega
     have hik2 : 1 + k < 16 := by omega
     clear ho hr hg hg2
     go_wp2_with fail
     refine Rg.wp_region_plan (Rg.row [(0, 3), (1, 3), (2, 3), (3, 3), (4, 3), (5, 3), (6, 3), (7, 3), (8, 3), (9, 0), (10, 3), (11, 3), (12, 3), (13, 0), (14, 3), (15, 3)] [16]) [16] (by kernel_rfl) (by kernel_rfl) ?_
     simp only [Rg.row, Rg.PT.map, List.map_cons, List.map_nil, List.getD_cons_zero, List.getD_cons_succ]
     go_wp2_with (first
      |(with_reducible refine Rg.plan_pure ?_ ?_ ?_); kernel_rfl; kernel_rfl; intro _ _|(with_reducible refine Rg.plan_take ?_ ?_ ?_); kernel_rfl; kernel_rfl; intro _ _|(with_reducible refine Rg.plan_keep ?_ ?_); kernel_rfl; intro K hK|refine hK _ _ (Rg.Keep.refl _) ?_; clear hK|refine hK _ _ (Rg.Keep.of_below (by assumption)) ?_; clear hK|(with_reducible refine Rg.plan_skip ?_ ?_); kernel_rfl|(with_reducible refine Rg.plan_done ?_)|(with_reducible refine Rg.calm_normal ?_))
     go_roundw
     case rel => exact ⟨k + 1, HLT'.out, by go_num, HN.out, (row?_setCell_ne _ _ _ _ (by show BM ≠ g; omega)).trans HR.out, HGN.out.drew, HGN2.out.drew⟩
     case measure => have := HLT'.out; simp [intOf]; omega
    ·obtain rfl : k = n := by omega
     have hmm : mmany (p.set 0 F) 0 = k := by unfold mmany; rw [if_pos rfl, nth_set _ _ _ _ (by omega), if_pos rfl, HNL.out]
     have hW : maskW msk p at_ 0 = mset M at_ (p.set 0 F) k := by rw [maskW, HMM.out, HL1.out, hmm]
     have hn0 : nth (mset M at_ (p.set 0 F) k) 0 = F := by rw [mset_nth _ _ _ _ (by rw [List.length_set]; omega), if_neg (by omega), nth_set _ _ _ _ (by omega), if_pos rfl]
     have hnU : nlU (mset M at_ (p.set 0 F) k) = k := by unfold nlU; rw [hn0, HNL.out]
     have hR := HRR.out
     rw [hW] at hR
     unfold openC at hR
     rw [hnU] at hR
     have hod : oddU ⟨lg, kind, ver, dst, src, tok, sp, ph, nm, nl⟩ (mset M at_ (p.set 0 F) k) = F &&& (if lg = true then 12 else 24) := by unfold oddU; rw [hn0]
     have hhd : hdU ⟨lg, kind, ver, dst, src, tok, sp, ph, nm, nl⟩ (mset M at_ (p.set 0 F) k) = ⟨lg, kind, ver, dst, src, tok, if lg = true then sp else (F &&& 32 != 0), if lg = true then ph else (F &&& 4 != 0), nm, (k : Nat)⟩ := by
      unfold hdU; rw [hn0, HNL.out]
     rw [hod, hhd] at hR
     clear HRR hod hhd hnU hW hmm
     generalize mset M at_ (p.set 0 F) k = c at *
     have hc0 : wr.cell? ⟨g, 0, none⟩ = some (.int .u8 (n8 F : Nat)) := by
      rw [ho.cellAt 0 (by omega), List.getElem?_map, nth_get (by omega), hn0]; rfl
     have h1 : row? wr w1.heap.size = some (hvA lg kind ver (.slice av dst.length cv) (.slice as_ src.length cs) (.slice at_' tok.length ct) sp ph nm nl) := by rw [row?_below hg2 (by omega)]; exact R1h.out
     have h2 : row? wr (w.heap.size + 1) = some (hvA false 0 0 (.slice none 0 0) (.slice none 0 0) (.slice none 0 0) false false 0 0) := by rw [row?_below hg2 (by omega)]; exact R1.out
     have h3 : row? wr w.heap.size = some (bvs KB) := by rw [row?_below hg2 (by omega)]; exact R0.out
     have SC := Lib.hid (Own.sl (l := c) (by rw [hlen]; exact ho))
     have b1r : Below w1.heap.size w1 wr := b12.trans (hg2.mono (by omega))
     have hdB : ∀ q, (Value.slice av dst.length cv).ownBlock = some q → q < w1.heap.size := fun q hq => (OD.out.lt q hq).2
     have hsB : ∀ q, (Value.slice as_ src.length cs).ownBlock = some q → q < w1.heap.size := fun q hq => (OS.out.lt q hq).2
     have htB : ∀ q, (Value.slice at_' tok.length ct).ownBlock = some q → q < w1.heap.size := fun q hq => (OT.out.lt q hq).2
     have OD2 := Lib.hid (Go.Rw.own_below OD.out b1r)
     have OS2 := Lib.hid (Go.Rw.own_below OS.out b1r)
     have OT2 := Lib.hid (Go.Rw.own_below OT.out b1r)
     have hzr : w1.heap.size < wr.heap.size := row?_lt h1
     clear ho hr hg hg2 R1h R1 R0 HO HR HG2 O3 B3 B13 RM3 OD OS OT b1r
     have H2 := Lib.hid h2
     have H3 := Lib.hid h3
     have hflt := full_lt (num ((c.drop at_).take k)) (k : Nat) largest any
     have hnum : num ((c.drop at_).take k) < 18446744073709551616 := by
      have h := num_lt ((c.drop at_).take k)
      have h2 : 256 ^ ((c.drop at_).take k).length ≤ 256 ^ 4 := Nat.pow_le_pow_right (by decide) (by simp; omega)
      exact Nat.lt_of_lt_of_le h (Nat.le_trans h2 (by decide))
     have hfull := fun W => rfull_any (num ((c.drop at_).take k)) (k : Nat) largest any hnum (by omega) (by omega) HLG.out W
     have hnumb := fun W (h : Sl W (.slice (some ⟨g, at_, none⟩) k (c2 - at_)) ((c.drop at_).take k)) => rnumb_any _ (by simp; omega) _ W h
     have hscut : Sl wr (.slice (some ⟨g, at_, none⟩) k (c2 - at_)) ((c.drop at_).take k) := by
      have hx := SC.out
      have := hx.cut at_ (at_ + k) (by omega) (by omega)
      unfold cutA at this
      rw [if_neg (by omega), List.drop_take, Nat.add_sub_cancel_left] at this
      simpa [Addr.add_lit] using this
     generalize full (num ((c.drop at_).take k)) (k : Nat) largest any = fu at hR hfull hflt
     obtain ⟨u, rfl⟩ : ∃ u : UInt64, fu = n64 u := ⟨UInt64.ofNat fu, (n64_ofNat fu (by omega)).symm⟩
     generalize num ((c.drop at_).take k) = nu at *
     have HFU := Lib.hid hfull
     have HNB := Lib.hid hnumb
     have HSC := Lib.hid hscut
     clear h2 h3 hfull hnumb hscut hflt hnum
     have mown : ∀ (W : World) (v : Value) (nn : Nat) (xs : List Value), Mut w1.heap.size wr W → (∀ q, v.ownBlock = some q → q < w1.heap.size) → wr.ownsRow (w.heap.size + 2) 5 1 v nn xs → W.ownsRow (w.heap.size + 2) 5 1 v nn xs := fun W v nn xs m hq ho => own_grown (r := some w1.heap.size) ho ⟨m.os, m.tape, m.output, m.size, fun k hk hne => m.block k hk (fun e => hne (by rw [e]))⟩ (fun k hk he => by have := hq k hk; injection he; omega)
     have MOW := Lib.hid mown
     clear mown
     cases lg
     ·have cL : wr.cell? ⟨w1.heap.size, 0, none⟩ = some (.bool false) := row?_cell h1 0
      have hR2 : (if F &&& 24 ≠ 0 then (hd0, [], 5) else openN key iv c ⟨false, kind, ver, dst, src, tok, (F &&& 32 != 0), (F &&& 4 != 0), n64 u, (k : Nat)⟩ (at_ + k)) = R := hR
      have H1 := Lib.hid h1
      clear hR h1
      by_cases ho : F &&& 24 ≠ 0
      ·rw [if_pos ho] at hR2
       have HR2 := Lib.hid hR2
       have ho' : (F &&& 24 != 0) = true := by simpa using ho
       have h2 := H2.out
       clear hR2 ho
       go_wp2_with fail
       refine bodyPost_ret (results_row3 AgH rfl _ _ (w.heap.size + 1) (hvA false 0 0 (.slice none 0 0) (.slice none 0 0) (.slice none 0 0) false false 0 0) rfl (row?_setRow_eq h2) (hvA_size ..)) rfl ?_
       rw [← HR2.out]
       exact OpenPost.none (below_setRow HG.out (by omega) _)
      ·rw [if_neg ho] at hR2
       have HR2 := Lib.hid hR2
       have ho' : (F &&& 24 != 0) = false := by simpa using ho
       clear hR2 ho
       have c9 := row?_cell H1.out 9
       have f9 := row?_frozen H1.out 9
       have x : row? (wr.setCell ⟨w1.heap.size, 9, none⟩ (.int .i64 (k : Nat))) w1.heap.size = some (hvA false kind ver (.slice av dst.length cv) (.slice as_ src.length cs) (.slice at_' tok.length ct) sp ph nm k) := by rw [row?_setCell_eq H1.out]; rfl
       have m : Mut w1.heap.size wr (wr.setCell ⟨w1.heap.size, 9, none⟩ (.int .i64 (k : Nat))) := (Mut.refl _ _).setCell _ _ _
       have cL' : (wr.setCell ⟨w1.heap.size, 9, none⟩ (.int .i64 (k : Nat))).cell? ⟨w1.heap.size, 0, none⟩ = some (.bool false) := row?_cell x 0
       have HX := Lib.hid x
       have HM := Lib.hid m
       clear x m
       go_wp2_with fail
       have hgr : g < wr.heap.size := cell_lt hc0
       have x := HX.out
       have m := HM.out
       generalize (wr.setCell ⟨w1.heap.size, 9, none⟩ (.int .i64 (k : Nat))) = W3 at x m ⊢
       have mcell : ∀ W, Mut w1.heap.size wr W → W.cell? ⟨g, 0, none⟩ = some (.int .u8 (n8 F : Nat)) := fun W h => (World.cell?_of_block (h.block g hgr (by omega))).trans hc0
       have c0b := mcell W3 m
       have c0a : ∀ v, (W3.setCell ⟨w1.heap.size, 6, none⟩ v).cell? ⟨g, 0, none⟩ = some (.int .u8 (n8 F : Nat)) := fun v => mcell _ (m.setCell _ _ _)
       have c86 := row?_cell x 6
       have f86 := row?_frozen x 6
       have c87 := row?_cell x 7
       have f87 := row?_frozen x 7
       have HX3 := Lib.hid x
       have HM3 := Lib.hid m
       clear x m mcell HX HM cL cL' c9 f9
       go_region
       all_goals (go_wp2_with (with_reducible refine Rw.hold_ops 124 ?_))
       refine Rw.Held.mk ?_
       clear c0a c0b c86 f86 c87 f87
       have x : row? ((W3.setCell ⟨w1.heap.size, 6, none⟩ (.bool (F &&& 32 != 0))).setCell ⟨w1.heap.size, 7, none⟩ (.bool (F &&& 4 != 0))).drew w1.heap.size = some (hvA false kind ver (.slice av dst.length cv) (.slice as_ src.length cs) (.slice at_' tok.length ct) (F &&& 32 != 0) (F &&& 4 != 0) nm k) := by
        rw [row?_drew, row?_setCell_eq (row?_setCell_eq HX3.out _)]; rfl
       have m : Mut w1.heap.size wr ((W3.setCell ⟨w1.heap.size, 6, none⟩ (.bool (F &&& 32 != 0))).setCell ⟨w1.heap.size, 7, none⟩ (.bool (F &&& 4 != 0))).drew := ((HM3.out.setCell _ _ _).setCell _ _ _).drew
       generalize ((W3.setCell ⟨w1.heap.size, 6, none⟩ (.bool (F &&& 32 != 0))).setCell ⟨w1.heap.size, 7, none⟩ (.bool (F &&& 4 != 0))).drew = W4 at x m ⊢
       clear HX3 HM3
       have HX := Lib.hid x
       have HM := Lib.hid m
       clear x m
       go_wp2_with fail
       refine (HNB.out _ (HM.out.sl HSC.out (fun b off n cap e h0 => by simp at e; omega))).mono ?_
       rintro e wq ⟨rfl, rfl⟩
       go_wp2_with fail
       refine (HFU.out _).mono ?_
       rintro e wq ⟨rfl, rfl⟩
       have c8 := row?_frozen HX.out 8
       have c8' := row?_cell HX.out 8
       have x := (row?_setCell_eq HX.out (i := 8) (.int .u64 (n64 u : Nat)))
       have m := HM.out.setCell 8 none (.int .u64 (n64 u : Nat))
       have x : row? (W4.setCell ⟨w1.heap.size, 8, none⟩ (.int .u64 (n64 u : Nat))) w1.heap.size = some (hvA false kind ver (.slice av dst.length cv) (.slice as_ src.length cs) (.slice at_' tok.length ct) (F &&& 32 != 0) (F &&& 4 != 0) (n64 u) k) := x
       have X2 := Lib.hid (And.intro x m)
       clear x m HX HM
       go_wp2_with fail
       clear c8 c8'
       obtain ⟨x5, m5⟩ := X2.out
       generalize (W4.setCell ⟨w1.heap.size, 8, none⟩ (.int .u64 (n64 u : Nat))) = W6 at x5 m5 ⊢
       have y5 := m5.row H2.out (by omega)
       have q5 := m5.row H3.out (by omega)
       have l1 : (loadAgg 22 (.pointer (some ⟨w.heap.size, 0, none⟩))).run Try.prog W6.drew = .ok (.agg (bvs key)) W6.drew := part16 W6.drew _ _ _ _ q5 (by simp only [bvs_size]; omega) hKk
       have l2 : (loadAgg 23 (.pointer (some ⟨w.heap.size, 16, none⟩))).run Try.prog W6.drew = .ok (.agg (bvs iv)) W6.drew := part12 W6.drew _ _ _ _ q5 (by simp only [bvs_size]; omega) hKi
       have c8 : W6.cell? ⟨w1.heap.size, 8, none⟩ = some (.int .u64 (n64 u : Nat)) := row?_cell x5 8
       have X5 := Lib.hid (And.intro x5 (And.intro y5 (And.intro q5 m5)))
       clear x5 y5 q5 m5 X2
       refine Rg.wp_region_plan (Rg.row [(0, 3), (1, 0), (2, 3), (3, 0), (4, 3), (5, 0), (7, 3), (8, 3), (9, 3), (10, 3), (11, 3), (12, 3), (13, 3), (14, 3), (15, 3), (16, 3), (6, 1), (17, 1), (18, 3), (19, 3), (20, 3), (21, 3), (22, 3)] []) [] (by kernel_rfl) (by kernel_rfl) ?_
       simp only [Rg.row, Rg.PT.map, List.map_nil, List.getD_cons_zero, List.getD_cons_succ]
       go_wp2_with (first
        |(with_reducible refine Rg.plan_pure ?_ ?_ ?_); kernel_rfl; kernel_rfl; intro _ _|(with_reducible refine Rg.plan_take ?_ ?_ ?_); kernel_rfl; kernel_rfl; intro _ _|(with_reducible refine Rg.plan_keep ?_ ?_); kernel_rfl; intro K hK|refine hK _ _ (Rg.Keep.refl _) ?_; clear hK|refine hK _ _ (Rg.Keep.of_below (by assumption)) ?_; clear hK|(with_reducible refine Rg.plan_skip ?_ ?_); kernel_rfl|(with_reducible refine Rg.plan_done ?_)|(with_reducible refine Rg.calm_normal ?_))
       refine (rnonce_any iv hiv u _).mono ?_
       rintro e w7 ⟨rfl, hb7⟩
       refine hK _ _ (Rg.Keep.of_below hb7) ?_
       clear hK
       obtain ⟨N, hN⟩ : ∃ N, nonce iv u = N := ⟨_, rfl⟩
       have hNl : N.length = 12 := by rw [← hN]; exact (nv_length iv u 8).trans hiv
       rw [hN]
       have hR := HR2.out
       unfold openN at hR
       simp only [] at hR
       have hu : UInt64.ofNat (n64 u) = u := UInt64.ofNat_toNat
       rw [hu, hN] at hR
       have HR3 := Lib.hid hR
       have HB7 := Lib.hid hb7
       clear hR HR2 hb7 hN hu
       go_wp2_with (first
        |(with_reducible refine Rg.plan_pure ?_ ?_ ?_); kernel_rfl; kernel_rfl; intro _ _|(with_reducible refine Rg.plan_take ?_ ?_ ?_); kernel_rfl; kernel_rfl; intro _ _|(with_reducible refine Rg.plan_keep ?_ ?_); kernel_rfl; intro K hK|refine hK _ _ (Rg.Keep.refl _) ?_; clear hK|refine hK _ _ (Rg.Keep.of_below (by assumption)) ?_; clear hK|(with_reducible refine Rg.plan_skip ?_ ?_); kernel_rfl|(with_reducible refine Rg.plan_done ?_)|(with_reducible refine Rg.calm_normal ?_))
       have hst := (X5.out.2.2.2.sl SC.out (fun b off n cap e h0 => by simp at e; omega)).below ((Below.refl _ _).drew.trans HB7.out)
       have hs1 : Sl w7 (.slice (some ⟨g, at_ + k, none⟩) (en - (at_ + k)) (c2 - (at_ + k))) (c.drop (at_ + k)) := by
        have := hst.cut (at_ + k) en (by omega) (by omega)
        unfold cutA at this
        rw [if_neg (by omega), List.take_of_length_le (by omega)] at this
        simpa [Addr.add_lit] using this
       have hs2 : Sl w7 (.slice (some ⟨g, 0, none⟩) (at_ + k) c2) (c.take (at_ + k)) := hst.first (at_ + k) (by omega)
       have hco := opened_code key N (c.drop (at_ + k)) (c.take (at_ + k)) (by simp; omega)
       refine (ropen_any key N (c.drop (at_ + k)) (c.take (at_ + k)) hk0 hNl (by simp; omega) (by simp; omega) _ _ _ hs1 hs2).mono ?_
       have hR := HR3.out
       obtain ⟨oo, hoo⟩ : ∃ oo, Gcm.opened key N (c.drop (at_ + k)) (c.take (at_ + k)) = oo := ⟨_, rfl⟩
       rw [hoo] at hR hco ⊢
       obtain ⟨x, T⟩ := oo
       simp only [] at hR hco ⊢
       clear hoo HR3 hs1 hs2 hst
       rintro e w8 ⟨vx, rfl, ox, hb8⟩
       refine hK _ _ (Rg.Keep.of_below hb8) ?_
       clear hK
       obtain ⟨ax, cx, rfl, -, -, -⟩ := id (Own.sl ox)
       have hz6 := X5.out.2.2.2.size
       have hz7 := HB7.out.size
       have hz7' : W6.heap.size ≤ w7.heap.size := hz7
       have h68 : Below W6.heap.size W6 w8 := (Below.refl _ _).drew.trans (HB7.out.trans (hb8.mono hz7'))
       have x8 : row? w8 w1.heap.size = some (hvA false kind ver (.slice av dst.length cv) (.slice as_ src.length cs) (.slice at_' tok.length ct) (F &&& 32 != 0) (F &&& 4 != 0) (n64 u) k) := Rg.stable_row h68 X5.out.1
       have y8 : row? w8 (w.heap.size + 1) = some (hvA false 0 0 (.slice none 0 0) (.slice none 0 0) (.slice none 0 0) false false 0 0) := Rg.stable_row h68 X5.out.2.1
       have hmw : Mut w1.heap.size wr w8 := X5.out.2.2.2.trans (Mut.of_below h68)
       have hbw8 : Below w.heap.size w w8 := HG.out.trans (hmw.below (by omega) HG.out.size)
       have OX := Lib.hid (own_lower ox (show w.heap.size + 2 ≤ w7.heap.size by omega))
       have OD8 := Lib.hid (MOW.out w8 _ _ _ hmw hdB OD2.out)
       have OS8 := Lib.hid (MOW.out w8 _ _ _ hmw hsB OS2.out)
       have OT8 := Lib.hid (MOW.out w8 _ _ _ hmw htB OT2.out)
       clear ox hb8 l1 l2 c8 h68 hmw hz7
       by_cases hx : x = 0
       ·subst hx
        rw [if_neg (by simp)] at hR
        have HR4 := Lib.hid hR
        clear hR hco
        go_wp2_with (first
         |(with_reducible refine Rg.plan_pure ?_ ?_ ?_); kernel_rfl; kernel_rfl; intro _ _|(with_reducible refine Rg.plan_take ?_ ?_ ?_); kernel_rfl; kernel_rfl; intro _ _|(with_reducible refine Rg.plan_keep ?_ ?_); kernel_rfl; intro K hK|refine hK _ _ (Rg.Keep.refl _) ?_; clear hK|refine hK _ _ (Rg.Keep.of_below (by assumption)) ?_; clear hK|(with_reducible refine Rg.plan_skip ?_ ?_); kernel_rfl|(with_reducible refine Rg.plan_done ?_)|(with_reducible refine Rg.calm_normal ?_))
        refine bodyPost_ret (results_row3 AgH rfl _ _ (w.heap.size + 1) (hvA false kind ver (.slice av dst.length cv) (.slice as_ src.length cs) (.slice at_' tok.length ct) (F &&& 32 != 0) (F &&& 4 != 0) (n64 u) k) rfl (row?_setRow_eq y8) (hvA_size ..)) rfl ?_
        rw [← HR4.out]
        have mm : Mut (w.heap.size + 1) w8 (w8.setRow (w.heap.size + 1) (hvA false kind ver (.slice av dst.length cv) (.slice as_ src.length cs) (.slice at_' tok.length ct) (F &&& 32 != 0) (F &&& 4 != 0) (n64 u) k)) := (Mut.refl _ _).setRow _
        exact ⟨_, _, _, _, rfl, own_lower (mm.own OD8.out (by omega)) (by omega), own_lower (mm.own OS8.out (by omega)) (by omega), own_lower (mm.own OT8.out (by omega)) (by omega), own_lower (mm.own OX.out (by omega)) (by omega), below_setRow hbw8 (by omega) _⟩
       ·obtain rfl : x = 7 := by omega
        rw [if_pos (by simp)] at hR
        have HR4 := Lib.hid hR
        clear hR hx hco
        go_wp2_with (first
         |(with_reducible refine Rg.plan_pure ?_ ?_ ?_); kernel_rfl; kernel_rfl; intro _ _|(with_reducible refine Rg.plan_take ?_ ?_ ?_); kernel_rfl; kernel_rfl; intro _ _|(with_reducible refine Rg.plan_keep ?_ ?_); kernel_rfl; intro K hK|refine hK _ _ (Rg.Keep.refl _) ?_; clear hK|refine hK _ _ (Rg.Keep.of_below (by assumption)) ?_; clear hK|(with_reducible refine Rg.plan_skip ?_ ?_); kernel_rfl|(with_reducible refine Rg.plan_done ?_)|(with_reducible refine Rg.calm_normal ?_))
        refine bodyPost_ret (results_row3 AgH rfl _ _ (w.heap.size + 1) (hvA false 0 0 (.slice none 0 0) (.slice none 0 0) (.slice none 0 0) false false 0 0) rfl (row?_setRow_eq y8) (hvA_size ..)) rfl ?_
        rw [← HR4.out]
        exact OpenPost.none (below_setRow hbw8 (by omega) _)
     ·have cL : wr.cell? ⟨w1.heap.size, 0, none⟩ = some (.bool true) := row?_cell h1 0
      have hR2 : (if F &&& 12 ≠ 0 then (hd0, [], 5) else openN key iv c ⟨true, kind, ver, dst, src, tok, sp, ph, n64 u, (k : Nat)⟩ (at_ + k)) = R := hR
      have H1 := Lib.hid h1
      clear hR h1
      by_cases ho : F &&& 12 ≠ 0
      ·rw [if_pos ho] at hR2
       have HR2 := Lib.hid hR2
       have ho' : (F &&& 12 != 0) = true := by simpa using ho
       have h2 := H2.out
       clear hR2 ho
       go_wp2_with fail
       refine bodyPost_ret (results_row3 AgH rfl _ _ (w.heap.size + 1) (hvA false 0 0 (.slice none 0 0) (.slice none 0 0) (.slice none 0 0) false false 0 0) rfl (row?_setRow_eq h2) (hvA_size ..)) rfl ?_
       rw [← HR2.out]
       exact OpenPost.none (below_setRow HG.out (by omega) _)
      ·rw [if_neg ho] at hR2
       have HR2 := Lib.hid hR2
       have ho' : (F &&& 12 != 0) = false := by simpa using ho
       clear hR2 ho
       have c9 := row?_cell H1.out 9
       have f9 := row?_frozen H1.out 9
       have x : row? (wr.setCell ⟨w1.heap.size, 9, none⟩ (.int .i64 (k : Nat))) w1.heap.size = some (hvA true kind ver (.slice av dst.length cv) (.slice as_ src.length cs) (.slice at_' tok.length ct) sp ph nm k) := by rw [row?_setCell_eq H1.out]; rfl
       have m : Mut w1.heap.size wr (wr.setCell ⟨w1.heap.size, 9, none⟩ (.int .i64 (k : Nat))) := (Mut.refl _ _).setCell _ _ _
       have cL' : (wr.setCell ⟨w1.heap.size, 9, none⟩ (.int .i64 (k : Nat))).cell? ⟨w1.heap.size, 0, none⟩ = some (.bool true) := row?_cell x 0
       have HX := Lib.hid x
       have HM := Lib.hid m
       clear x m
       go_wp2_with fail
       refine (HNB.out _ (HM.out.sl HSC.out (fun b off n cap e h0 => by simp at e; omega))).mono ?_
       rintro e wq ⟨rfl, rfl⟩
       go_wp2_with fail
       refine (HFU.out _).mono ?_
       rintro e wq ⟨rfl, rfl⟩
       have c8 := row?_frozen HX.out 8
       have c8' := row?_cell HX.out 8
       have x := (row?_setCell_eq HX.out (i := 8) (.int .u64 (n64 u : Nat)))
       have m := HM.out.setCell 8 none (.int .u64 (n64 u : Nat))
       have x : row? ((wr.setCell ⟨w1.heap.size, 9, none⟩ (.int .i64 (k : Nat))).setCell ⟨w1.heap.size, 8, none⟩ (.int .u64 (n64 u : Nat))) w1.heap.size = some (hvA true kind ver (.slice av dst.length cv) (.slice as_ src.length cs) (.slice at_' tok.length ct) sp ph (n64 u) k) := x
       have X2 := Lib.hid (And.intro x m)
       clear x m HX HM
       go_wp2_with fail
       clear c8 c8'
       obtain ⟨x5, m5⟩ := X2.out
       generalize ((wr.setCell ⟨w1.heap.size, 9, none⟩ (.int .i64 (k : Nat))).setCell ⟨w1.heap.size, 8, none⟩ (.int .u64 (n64 u : Nat))) = W6 at x5 m5 ⊢
       have y5 := m5.row H2.out (by omega)
       have q5 := m5.row H3.out (by omega)
       have l1 : (loadAgg 22 (.pointer (some ⟨w.heap.size, 0, none⟩))).run Try.prog W6.drew = .ok (.agg (bvs key)) W6.drew := part16 W6.drew _ _ _ _ q5 (by simp only [bvs_size]; omega) hKk
       have l2 : (loadAgg 23 (.pointer (some ⟨w.heap.size, 16, none⟩))).run Try.prog W6.drew = .ok (.agg (bvs iv)) W6.drew := part12 W6.drew _ _ _ _ q5 (by simp only [bvs_size]; omega) hKi
       have c8 : W6.cell? ⟨w1.heap.size, 8, none⟩ = some (.int .u64 (n64 u : Nat)) := row?_cell x5 8
       have X5 := Lib.hid (And.intro x5 (And.intro y5 (And.intro q5 m5)))
       clear x5 y5 q5 m5 X2
       refine Rg.wp_region_plan (Rg.row [(0, 3), (1, 0), (2, 3), (3, 0), (4, 3), (5, 0), (7, 3), (8, 3), (9, 3), (10, 3), (11, 3), (12, 3), (13, 3), (14, 3), (15, 3), (16, 3), (6, 1), (17, 1), (18, 3), (19, 3), (20, 3), (21, 3), (22, 3)] []) [] (by kernel_rfl) (by kernel_rfl) ?_
       simp only [Rg.row, Rg.PT.map, List.map_nil, List.getD_cons_zero, List.getD_cons_succ]
       go_wp2_with (first
        |(with_reducible refine Rg.plan_pure ?_ ?_ ?_); kernel_rfl; kernel_rfl; intro _ _|(with_reducible refine Rg.plan_take ?_ ?_ ?_); kernel_rfl; kernel_rfl; intro _ _|(with_reducible refine Rg.plan_keep ?_ ?_); kernel_rfl; intro K hK|refine hK _ _ (Rg.Keep.refl _) ?_; clear hK|refine hK _ _ (Rg.Keep.of_below (by assumption)) ?_; clear hK|(with_reducible refine Rg.plan_skip ?_ ?_); kernel_rfl|(with_reducible refine Rg.plan_done ?_)|(with_reducible refine Rg.calm_normal ?_))
       refine (rnonce_any iv hiv u _).mono ?_
       rintro e w7 ⟨rfl, hb7⟩
       refine hK _ _ (Rg.Keep.of_below hb7) ?_
       clear hK
       obtain ⟨N, hN⟩ : ∃ N, nonce iv u = N := ⟨_, rfl⟩
       have hNl : N.length = 12 := by rw [← hN]; exact (nv_length iv u 8).trans hiv
       rw [hN]
       have hR := HR2.out
       unfold openN at hR
       simp only [] at hR
       have hu : UInt64.ofNat (n64 u) = u := UInt64.ofNat_toNat
       rw [hu, hN] at hR
       have HR3 := Lib.hid hR
       have HB7 := Lib.hid hb7
       clear hR HR2 hb7 hN hu
       go_wp2_with (first
        |(with_reducible refine Rg.plan_pure ?_ ?_ ?_); kernel_rfl; kernel_rfl; intro _ _|(with_reducible refine Rg.plan_take ?_ ?_ ?_); kernel_rfl; kernel_rfl; intro _ _|(with_reducible refine Rg.plan_keep ?_ ?_); kernel_rfl; intro K hK|refine hK _ _ (Rg.Keep.refl _) ?_; clear hK|refine hK _ _ (Rg.Keep.of_below (by assumption)) ?_; clear hK|(with_reducible refine Rg.plan_skip ?_ ?_); kernel_rfl|(with_reducible refine Rg.plan_done ?_)|(with_reducible refine Rg.calm_normal ?_))
       have hst := (X5.out.2.2.2.sl SC.out (fun b off n cap e h0 => by simp at e; omega)).below ((Below.refl _ _).drew.trans HB7.out)
       have hs1 : Sl w7 (.slice (some ⟨g, at_ + k, none⟩) (en - (at_ + k)) (c2 - (at_ + k))) (c.drop (at_ + k)) := by
        have := hst.cut (at_ + k) en (by omega) (by omega)
        unfold cutA at this
        rw [if_neg (by omega), List.take_of_length_le (by omega)] at this
        simpa [Addr.add_lit] using this
       have hs2 : Sl w7 (.slice (some ⟨g, 0, none⟩) (at_ + k) c2) (c.take (at_ + k)) := hst.first (at_ + k) (by omega)
       have hco := opened_code key N (c.drop (at_ + k)) (c.take (at_ + k)) (by simp; omega)
       refine (ropen_any key N (c.drop (at_ + k)) (c.take (at_ + k)) hk0 hNl (by simp; omega) (by simp; omega) _ _ _ hs1 hs2).mono ?_
       have hR := HR3.out
       obtain ⟨oo, hoo⟩ : ∃ oo, Gcm.opened key N (c.drop (at_ + k)) (c.take (at_ + k)) = oo := ⟨_, rfl⟩
       rw [hoo] at hR hco ⊢
       obtain ⟨x, T⟩ := oo
       simp only [] at hR hco ⊢
       clear hoo HR3 hs1 hs2 hst
       rintro e w8 ⟨vx, rfl, ox, hb8⟩
       refine hK _ _ (Rg.Keep.of_below hb8) ?_
       clear hK
       obtain ⟨ax, cx, rfl, -, -, -⟩ := id (Own.sl ox)
       have hz6 := X5.out.2.2.2.size
       have hz7 := HB7.out.size
       have hz7' : W6.heap.size ≤ w7.heap.size := hz7
       have h68 : Below W6.heap.size W6 w8 := (Below.refl _ _).drew.trans (HB7.out.trans (hb8.mono hz7'))
       have x8 : row? w8 w1.heap.size = some (hvA true kind ver (.slice av dst.length cv) (.slice as_ src.length cs) (.slice at_' tok.length ct) sp ph (n64 u) k) := Rg.stable_row h68 X5.out.1
       have y8 : row? w8 (w.heap.size + 1) = some (hvA false 0 0 (.slice none 0 0) (.slice none 0 0) (.slice none 0 0) false false 0 0) := Rg.stable_row h68 X5.out.2.1
       have hmw : Mut w1.heap.size wr w8 := X5.out.2.2.2.trans (Mut.of_below h68)
       have hbw8 : Below w.heap.size w w8 := HG.out.trans (hmw.below (by omega) HG.out.size)
       have OX := Lib.hid (own_lower ox (show w.heap.size + 2 ≤ w7.heap.size by omega))
       have OD8 := Lib.hid (MOW.out w8 _ _ _ hmw hdB OD2.out)
       have OS8 := Lib.hid (MOW.out w8 _ _ _ hmw hsB OS2.out)
       have OT8 := Lib.hid (MOW.out w8 _ _ _ hmw htB OT2.out)
       clear ox hb8 l1 l2 c8 h68 hmw hz7
       by_cases hx : x = 0
       ·subst hx
        rw [if_neg (by simp)] at hR
        have HR4 := Lib.hid hR
        clear hR hco
        go_wp2_with (first
         |(with_reducible refine Rg.plan_pure ?_ ?_ ?_); kernel_rfl; kernel_rfl; intro _ _|(with_reducible refine Rg.plan_take ?_ ?_ ?_); kernel_rfl; kernel_rfl; intro _ _|(with_reducible refine Rg.plan_keep ?_ ?_); kernel_rfl; intro K hK|refine hK _ _ (Rg.Keep.refl _) ?_; clear hK|refine hK _ _ (Rg.Keep.of_below (by assumption)) ?_; clear hK|(with_reducible refine Rg.plan_skip ?_ ?_); kernel_rfl|(with_reducible refine Rg.plan_done ?_)|(with_reducible refine Rg.calm_normal ?_))
        refine bodyPost_ret (results_row3 AgH rfl _ _ (w.heap.size + 1) (hvA true kind ver (.slice av dst.length cv) (.slice as_ src.length cs) (.slice at_' tok.length ct) sp ph (n64 u) k) rfl (row?_setRow_eq y8) (hvA_size ..)) rfl ?_
        rw [← HR4.out]
        have mm : Mut (w.heap.size + 1) w8 (w8.setRow (w.heap.size + 1) (hvA true kind ver (.slice av dst.length cv) (.slice as_ src.length cs) (.slice at_' tok.length ct) sp ph (n64 u) k)) := (Mut.refl _ _).setRow _
        exact ⟨_, _, _, _, rfl, own_lower (mm.own OD8.out (by omega)) (by omega), own_lower (mm.own OS8.out (by omega)) (by omega), own_lower (mm.own OT8.out (by omega)) (by omega), own_lower (mm.own OX.out (by omega)) (by omega), below_setRow hbw8 (by omega) _⟩
       ·obtain rfl : x = 7 := by omega
        rw [if_pos (by simp)] at hR
        have HR4 := Lib.hid hR
        clear hR hx hco
        go_wp2_with (first
         |(with_reducible refine Rg.plan_pure ?_ ?_ ?_); kernel_rfl; kernel_rfl; intro _ _|(with_reducible refine Rg.plan_take ?_ ?_ ?_); kernel_rfl; kernel_rfl; intro _ _|(with_reducible refine Rg.plan_keep ?_ ?_); kernel_rfl; intro K hK|refine hK _ _ (Rg.Keep.refl _) ?_; clear hK|refine hK _ _ (Rg.Keep.of_below (by assumption)) ?_; clear hK|(with_reducible refine Rg.plan_skip ?_ ?_); kernel_rfl|(with_reducible refine Rg.plan_done ?_)|(with_reducible refine Rg.calm_normal ?_))
        refine bodyPost_ret (results_row3 AgH rfl _ _ (w.heap.size + 1) (hvA false 0 0 (.slice none 0 0) (.slice none 0 0) (.slice none 0 0) false false 0 0) rfl (row?_setRow_eq y8) (hvA_size ..)) rfl ?_
        rw [← HR4.out]
        exact OpenPost.none (below_setRow hbw8 (by omega) _)
end Go.Proofs.Ytjlpppnpdgenfaa

end
section
namespace Vlt
open Go.Rw Aes Hdr Gcm
theorem lead_len {b : List UInt8} {m : Bool} {h : Hd} {at_ told : Nat} (hl : lead b m = .ok (h, at_, told)) : h.dst.length ≤ b.length ∧ h.src.length ≤ b.length ∧ h.tok.length ≤ b.length := by
 unfold lead at hl
 split at hl
 ·cases hl
 split at hl
 ·cases hl
 split at hl
 ·split at hl
  ·cases hl
  split at hl
  ·cases hl
  injection hl with hl
  injection hl with e1 e2
  subst e1
  refine ⟨by simp; omega, by simp, by simp⟩
 ·split at hl
  ·cases hl
  split at hl
  ·cases hl
  split at hl
  ·cases hl
  rename_i d1 at1 hl1
  split at hl
  ·cases hl
  rename_i d2 at2 hl2
  split at hl
  ·cases hl
  rename_i d3 at3 hl3
  unfold lTail at hl
  split at hl
  ·cases hl
  injection hl with hl
  injection hl with e1 e2
  subst e1
  have p1 : ∀ {i j : Nat} {e : Bool} {d : List UInt8}, lPart b i e = .ok (d, j) → d.length ≤ b.length := fun {i j e d} h => by
   unfold lPart at h
   split at h
   ·cases h
   split at h
   ·cases h
   split at h
   ·cases h
   injection h with h
   injection h with e1 e2
   subst e1
   simp; omega
  have p3 : d3.length ≤ b.length := by
   unfold lTok at hl3
   split at hl3
   ·injection hl3 with h; injection h with e1 e2; subst e1; simp
   split at hl3
   ·cases hl3
   split at hl3
   ·cases hl3
   split at hl3
   ·cases hl3
   injection hl3 with h; injection h with e1 e2; subst e1
   simp; omega
  exact ⟨p1 hl1, p1 hl2, p3⟩
theorem opened_len (key nonce s data : List UInt8) : (opened key nonce s data).2.length ≤ s.length := by
 unfold opened
 split
 ·simp
 ·split
  ·rw [enc_length, List.length_take]; omega
  ·simp
theorem openV_len (key iv msk b : List UInt8) (largest : Nat) (any : Bool) : (openV key iv msk b largest any).1.dst.length ≤ b.length ∧ (openV key iv msk b largest any).1.src.length ≤ b.length ∧ (openV key iv msk b largest any).1.tok.length ≤ b.length ∧ (openV key iv msk b largest any).2.1.length ≤ b.length := by
 have h0 : ∀ e : Int, ((hd0, ([] : List UInt8), e) : Hd × List UInt8 × Int).1.dst.length ≤ b.length ∧ ((hd0, ([] : List UInt8), e) : Hd × List UInt8 × Int).1.src.length ≤ b.length ∧ ((hd0, ([] : List UInt8), e) : Hd × List UInt8 × Int).1.tok.length ≤ b.length ∧ ((hd0, ([] : List UInt8), e) : Hd × List UInt8 × Int).2.1.length ≤ b.length := fun e => by simp [hd0]
 unfold openV
 cases hl : lead b true with
 | error x => exact h0 x
 | ok q =>
  obtain ⟨h, at_, told⟩ := q
  obtain ⟨l1, l2, l3⟩ := lead_len hl
  simp only []
  split
  ·exact h0 3
  ·rename_i hn
   have hlt : (b.take (at_ + told)).length ≤ b.length := by rw [List.length_take]; omega
   unfold openC
   split
   ·exact h0 5
   ·unfold openN
    split
    ·exact h0 7
    ·refine ⟨l1, l2, l3, ?_⟩
     refine Nat.le_trans (opened_len _ _ _ _) ?_
     rw [List.length_drop, maskW_length]
     omega
theorem sealR_len (key iv msk : List UInt8) (lg : Bool) (kind : Int) (ver : Nat) (dst src tok : List UInt8) (sp ph : Bool) (u : UInt64) (nl : Int) (text : List UInt8) : (sealR key iv msk lg kind ver dst src tok sp ph u nl text).1.length ≤ 3000 := by
 cases hm : mayN lg kind ver dst.length src.length tok.length sp ph (n64 u) nl with
 | false => rw [sealR_no hm]; simp
 | true =>
  obtain ⟨f1, f2, f3, f4, f5, f6, -, -⟩ := may_facts hm
  obtain ⟨n, rfl⟩ : ∃ n : Nat, nl = (n : Int) := ⟨nl.toNat, by omega⟩
  by_cases h4 : (n : Int) + (text.length : Int) < 4
  ·rw [sealR_low h4]; simp
  by_cases h2 : 2000 < text.length
  ·rw [sealR_long hm h4 h2]; simp
  rw [sealR_ok hm h4 h2]
  have := (headB_length (lg := lg) (kind := kind) (ver := ver) (dst := dst) (src := src) (tok := tok) (sp := sp) (ph := ph) (num := n64 u) (nl := n) (rest := text.length + 16) f4 f5 f6 (by omega)).2
  simp only [packB_length]; omega
end Vlt
namespace Go.Proofs.Ytjlpppnpdgenfaa
open Go.RowKit Go.Rw Aes Hdr Vlt
theorem stK (x y : Value) : Instr.storeAt 25 x y = storeAgg 25 x y := rfl
theorem alK : Instr.alloc 25 true (.tuple #[]) = allocAgg 25 := rfl
theorem ralK (w : World) : (allocAgg 25).run Try.prog w = .ok (.pointer (some ⟨w.heap.size, 0, none⟩)) (w.alloc (.cells (bvs (zeros 44)) 25)) := alloc_rule (n := 44) (by kernel_rfl) w
theorem rstK (w : World) (b : Nat) (c' : Array Value) (h : (row? w b).map (·.size) = some 44) (hn : c'.size = 44) (h1 : allOne c' = true) : (storeAgg 25 (.pointer (some ⟨b, 0, none⟩)) (.agg c')).run Try.prog w = .ok () (w.setRow b c') := store_rule AgK w b c' h hn h1
theorem bdKr (ps : Array (Nat × Value)) : Instr.build 36 ps = buildP 36 ps := rfl
theorem stKr (x y : Value) : Instr.storeAt 36 x y = storeAgg 36 x y := rfl
theorem alKr : Instr.alloc 36 true (.tuple #[]) = allocAgg 36 := rfl
theorem ralKr (w : World) : (allocAgg 36).run Try.prog w = .ok (.pointer (some ⟨w.heap.size, 0, none⟩)) (w.alloc (.cells (bvs (zeros 44)) 36)) := alloc_rule (n := 44) (by kernel_rfl) w
theorem rstKr (w : World) (b : Nat) (c' : Array Value) (h : (row? w b).map (·.size) = some 44) (hn : c'.size = 44) (h1 : allOne c' = true) : (storeAgg 36 (.pointer (some ⟨b, 0, none⟩)) (.agg c')).run Try.prog w = .ok () (w.setRow b c') := store_rule AgKr w b c' h hn h1
set_option maxRecDepth 100000 in
theorem buildKr (key iv msk : List UInt8) (hk : key.length = 16) (hi : iv.length = 12) (hm : msk.length = 16) (w : World) : (buildP 36 #[(0, .agg (bvs key)), (1, .agg (bvs iv)), (2, .agg (bvs msk))]).run Try.prog w = .ok (.agg (bvs (ksB key iv msk))) w := by
 match key, hk, iv, hi, msk, hm with
 | [a0, a1, a2, a3, a4, a5, a6, a7, a8, a9, a10, a11, a12, a13, a14, a15], _, [b0, b1, b2, b3, b4, b5, b6, b7, b8, b9, b10, b11], _, [c0, c1, c2, c3, c4, c5, c6, c7, c8, c9, c10, c11, c12, c13, c14, c15], _ =>
  exact Go.run_build w _ _ _ (by kernel_rfl)
attribute [local go_sem ↓] ld16 st16 al16 ld12 st12 al12 bdKr stKr alKr
attribute [local go_sem] rld16 rst16 ral16 rld12 rst12 ral12 ralKr rstKr setRow_alloc_at setRow_alloc_past setRow_drew
set_option maxRecDepth 100000 in
set_option maxHeartbeats 1000000 in
theorem vkeys_any (key iv msk : List UInt8) (hk : key.length = 16) (hi : iv.length = 12) (hm : msk.length = 16) (w : World) :
  Calls Try.prog 13 #[.agg (bvs (ksB key iv msk))] w fun e w' => e = .returned (.agg (bvs (ksB key iv msk))) ∧ Below w.heap.size w w' := by
 have hKl := ksB_length hk hi hm
 have hKk := ksB_key (iv := iv) (msk := msk) hk
 have hKi := ksB_iv (msk := msk) hk hi
 have hKm := ksB_msk hk hi hm
 have hbd := buildKr key iv msk hk hi hm
 generalize ksB key iv msk = K at *
 have l1 : ∀ W, row? W w.heap.size = some (bvs K) → (loadAgg 22 (.pointer (some ⟨w.heap.size, 0, none⟩))).run Try.prog W = .ok (.agg (bvs key)) W := fun W h => part16 W _ _ _ _ h (by simp only [bvs_size]; omega) hKk
 have l2 : ∀ W, row? W w.heap.size = some (bvs K) → (loadAgg 23 (.pointer (some ⟨w.heap.size, 16, none⟩))).run Try.prog W = .ok (.agg (bvs iv)) W := fun W h => part12 W _ _ _ _ h (by simp only [bvs_size]; omega) hKi
 have l3 : ∀ W, row? W w.heap.size = some (bvs K) → (loadAgg 22 (.pointer (some ⟨w.heap.size, 28, none⟩))).run Try.prog W = .ok (.agg (bvs msk)) W := fun W h => part16 W _ _ _ _ h (by simp only [bvs_size]; omega) hKm
 have HKm := Lib.hid (And.intro hKk (And.intro hKi hKm))
 clear hKk hKi hKm
 go_enter Try.func13, Try.ntmps13
 go_wp2_with fail
 refine bodyPost_ret (results_row AgKr rfl _ _ (w.heap.size + 1) (bvs K) rfl (row?_alloc_at _ _ _ _ (by simp)) (by rw [bvs_size, hKl])) rfl ⟨rfl, bel2 w _ _⟩
end Go.Proofs.Ytjlpppnpdgenfaa

end
