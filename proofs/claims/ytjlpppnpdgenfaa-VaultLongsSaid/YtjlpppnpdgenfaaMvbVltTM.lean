/- The walk of VaultTells. -/
import Derived.Test.YtjlpppnpdgenfaaMvb25
import Derived.Test.YtjlpppnpdgenfaaMvb16
namespace Go.Proofs.Ytjlpppnpdgenfaa
open Go.RowKit Go.Rw Aes Hdr Vlt
attribute [local go_sem high] gEq12
attribute [local go_sem ↓] hvA_0 hvA_1 hvA_2 hvA_3 hvA_4 hvA_5 hvA_6 hvA_7 hvA_8 hvA_9
attribute [local go_sem ↓] ldH stH alH ldK ld16 st16 al16 ld12 st12 al12
attribute [local go_sem] rldH rstH ralH rld16 rst16 ral16 rld12 rst12 ral12 setRow_alloc_at setRow_alloc_past setRow_drew
set_option maxRecDepth 100000 in
set_option maxHeartbeats 8000000 in
theorem vtells_any (key iv msk : List UInt8) (hk : key.length = 16) (hiv : iv.length = 12) (hmk : msk.length = 16) (lg : Bool) (kind : Int) (ver : Nat) (dst src tok : List UInt8) (sp ph : Bool) (u : UInt64) (nl : Int) (text bl : List UInt8) (largest : Nat) (any : Bool) (hver : ver < 4294967296) (hlg : largest < 18446744073709551616) (vd vs vt vx vb : Value) (w : World) (hsd : Sl w vd dst) (hss : Sl w vs src) (hst : Sl w vt tok) (hsx : Sl w vx text) (hsb : Sl w vb bl) :
  Calls Try.prog 3 #[.agg (bvs (ksB key iv msk)), .agg (hvA lg kind ver vd vs vt sp ph (n64 u) nl), vx, vb, .int .u64 (largest : Nat), .bool any] w fun e w' => e = .returned (.bool true) ∧ Below w.heap.size w w' := by
 obtain ⟨ad, cd, rfl, -, -, -⟩ := id hsd
 obtain ⟨as_, cs, rfl, -, -, -⟩ := id hss
 obtain ⟨at_, ct, rfl, -, -, -⟩ := id hst
 obtain ⟨ax, cx, rfl, -, -, -⟩ := id hsx
 obtain ⟨ab, cb, rfl, -, -, -⟩ := id hsb
 have hKl := ksB_length hk hiv hmk
 have hKi := ksB_iv (msk := msk) hk hiv
 have hseal := fun (hx : text.length ≤ 1000000) W (h1 : Sl W (.slice ad dst.length cd) dst) (h2 : Sl W (.slice as_ src.length cs) src) (h3 : Sl W (.slice at_ tok.length ct) tok) (h4 : Sl W (.slice ax text.length cx) text) => vseal_any key iv msk hk hiv hmk lg kind ver dst src tok sp ph u nl text hver hx _ _ _ _ W h1 h2 h3 h4
 have hrseal := fun (hx : text.length ≤ 1000000) W (h1 : Sl W (.slice ad dst.length cd) dst) (h2 : Sl W (.slice as_ src.length cs) src) (h3 : Sl W (.slice at_ tok.length ct) tok) (h4 : Sl W (.slice ax text.length cx) text) => rseal16_any key iv msk hk hiv hmk lg kind ver dst src tok sp ph u nl text hver hx _ _ _ _ W h1 h2 h3 h4
 have hsl := sealR_len key iv msk lg kind ver dst src tok sp ph u nl text
 have hop := fun (hx : bl.length ≤ 1000000) W (h : Sl W (.slice ab bl.length cb) bl) => vopen_any key iv msk hk hiv hmk bl hx largest hlg any _ W h
 have hrop := fun (hx : bl.length ≤ 1000000) W (h : Sl W (.slice ab bl.length cb) bl) => ropen16_any key iv msk hk hiv hmk bl hx largest hlg any _ W h
 have hol := openV_len key iv msk bl largest any
 have hkeys := fun W => vkeys_any key iv msk hk hiv hmk W
 generalize sealR key iv msk lg kind ver dst src tok sp ph u nl text = SR at *
 generalize openV key iv msk bl largest any = OV at *
 obtain ⟨S, se⟩ := SR
 obtain ⟨⟨l1, k1, ver1, d1, s1, t1, p1, f1, m1, n1⟩, T, oe⟩ := OV
 simp only [] at hseal hrseal hsl hol
 have HSE := Lib.hid hseal
 have HRS := Lib.hid hrseal
 have HSL := Lib.hid hsl
 have HOP := Lib.hid hop
 have HRO := Lib.hid hrop
 have HOL := Lib.hid hol
 have HKY := Lib.hid hkeys
 have SD := Lib.hid hsd
 have SS := Lib.hid hss
 have ST := Lib.hid hst
 have SX := Lib.hid hsx
 have SB := Lib.hid hsb
 have HLG := Lib.hid hlg
 have HVV := Lib.hid hver
 clear hseal hrseal hsl hop hrop hol hkeys hsd hss hst hsx hsb hlg hver
 have hKKi := hKi
 generalize ksB key iv msk = KB at *
 have HW1 := bel2 w (.cells (bvs KB) 25) (.cells (hvA lg kind ver (.slice ad dst.length cd) (.slice as_ src.length cs) (.slice at_ tok.length ct) sp ph (n64 u) nl) 30)
 have HR1 : row? ((w.alloc (.cells (bvs KB) 25)).alloc (.cells (hvA lg kind ver (.slice ad dst.length cd) (.slice as_ src.length cs) (.slice at_ tok.length ct) sp ph (n64 u) nl) 30)) (w.heap.size + 1) = some (hvA lg kind ver (.slice ad dst.length cd) (.slice as_ src.length cs) (.slice at_ tok.length ct) sp ph (n64 u) nl) := row?_alloc_at _ _ _ _ (by simp)
 have HR0 : row? ((w.alloc (.cells (bvs KB) 25)).alloc (.cells (hvA lg kind ver (.slice ad dst.length cd) (.slice as_ src.length cs) (.slice at_ tok.length ct) sp ph (n64 u) nl) 30)) w.heap.size = some (bvs KB) := by rw [row?_alloc_past _ _ _ (by simp)]; exact row?_alloc_at _ _ _ _ rfl
 have BB := Lib.hid HW1
 have RH := Lib.hid HR1
 have RK := Lib.hid HR0
 clear HW1 HR1 HR0
 go_enter Try.func3, Try.ntmps3
 go_wp2_with (with_reducible refine Rw.hold_ops 23 ?_)
 refine Rw.Held.mk ?_
 generalize ((w.alloc (.cells (bvs KB) 25)).alloc (.cells (hvA lg kind ver (.slice ad dst.length cd) (.slice as_ src.length cs) (.slice at_ tok.length ct) sp ph (n64 u) nl) 30)) = WA at BB RH RK ⊢
 have c3 : WA.cell? ⟨w.heap.size + 1, 3, none⟩ = some (.slice ad dst.length cd) := row?_cell RH.out 3
 have c4 : WA.cell? ⟨w.heap.size + 1, 4, none⟩ = some (.slice as_ src.length cs) := row?_cell RH.out 4
 have c5 : WA.cell? ⟨w.heap.size + 1, 5, none⟩ = some (.slice at_ tok.length ct) := row?_cell RH.out 5
 by_cases hbig : 150 < wrap64 (wrap64 ((dst.length : Int) + src.length) + tok.length)
 ·go_wp2_with fail
  refine (awake_any _).mono ?_
  rintro e w5 ⟨rfl, b5⟩
  have hW5 : Below w.heap.size w w5 := BB.out.trans (b5.mono BB.out.size)
  go_wp2_with fail
  go_ret
  exact ⟨rfl, hW5⟩
 ·by_cases htx : (150 : Int) < (text.length : Nat)
  ·go_wp2_with fail
   refine (awake_any _).mono ?_
   rintro e w5 ⟨rfl, b5⟩
   have hW5 : Below w.heap.size w w5 := BB.out.trans (b5.mono BB.out.size)
   go_wp2_with fail
   go_ret
   exact ⟨rfl, hW5⟩
  by_cases hbx : (150 : Int) < (bl.length : Nat)
  ·go_wp2_with fail
   refine (awake_any _).mono ?_
   rintro e w5 ⟨rfl, b5⟩
   have hW5 : Below w.heap.size w w5 := BB.out.trans (b5.mono BB.out.size)
   go_wp2_with fail
   go_ret
   exact ⟨rfl, hW5⟩
  have HTL := Lib.hid (show text.length ≤ 150 by omega)
  have HBL := Lib.hid (show bl.length ≤ 150 by omega)
  have rh := RH.out
  have lk : (loadAgg 25 (.pointer (some ⟨w.heap.size, 0, none⟩))).run Try.prog WA = .ok (.agg (bvs KB)) WA := rldK WA _ _ RK.out hKl
  go_wp2_with fail
  refine (HSE.out (by have := HTL.out; omega) WA (SD.out.below BB.out) (SS.out.below BB.out) (ST.out.below BB.out) (SX.out.below BB.out)).mono ?_
  rintro e w2 ⟨v2, rfl, o2, h2⟩
  obtain ⟨a2, c2, rfl, -, -, -⟩ := id (Own.sl o2)
  have S2 := Lib.hid (Own.sl o2)
  clear rh lk c3 c4 c5 hbig htx hbx HSE o2
  have xk := Rg.stable_row h2 RK.out
  have xr := Rg.stable_row h2 RH.out
  have xb := BB.out.trans (h2.mono BB.out.size)
  clear RK RH BB
  have RK := Lib.hid xk
  have RH := Lib.hid xr
  have BB := Lib.hid xb
  clear xk xr xb
  clear h2
  have rh : row? w2.drew (w.heap.size + 1) = some (hvA lg kind ver (.slice ad dst.length cd) (.slice as_ src.length cs) (.slice at_ tok.length ct) sp ph (n64 u) nl) := RH.out
  have lk : (loadAgg 25 (.pointer (some ⟨w.heap.size, 0, none⟩))).run Try.prog w2.drew = .ok (.agg (bvs KB)) w2.drew := rldK w2.drew _ _ RK.out hKl
  go_wp2_with fail
  refine Rg.wp_region_plan (Rg.row [(0, 0), (2, 0), (3, 3), (1, 1), (4, 1), (5, 3), (6, 3), (7, 3), (8, 3), (9, 3)] []) [] (by kernel_rfl) (by kernel_rfl) ?_
  simp only [Rg.row, Rg.PT.map, List.map_nil, List.getD_cons_zero, List.getD_cons_succ]
  go_wp2_with (first
   |(with_reducible refine Rg.plan_pure ?_ ?_ ?_); kernel_rfl; kernel_rfl; intro _ _|(with_reducible refine Rg.plan_take ?_ ?_ ?_); kernel_rfl; kernel_rfl; intro _ _|(with_reducible refine Rg.plan_keep ?_ ?_); kernel_rfl; intro K hK|refine hK _ _ (Rg.Keep.refl _) ?_; clear hK|refine hK _ _ (Rg.Keep.of_below (by assumption)) ?_; clear hK|(with_reducible refine Rg.plan_skip ?_ ?_); kernel_rfl|(with_reducible refine Rg.plan_done ?_)|(with_reducible refine Rg.calm_normal ?_))
  refine (HKY.out _).mono ?_
  rintro e w3 ⟨rfl, h3⟩
  refine hK _ _ (Rg.Keep.of_below h3) ?_
  clear hK lk rh
  have h23 : Below w2.heap.size w2 w3 := (Below.refl _ _).drew.trans h3
  have S2' := Lib.hid (S2.out.below h23)
  clear S2 h3
  have xk := Rg.stable_row h23 RK.out
  have xr := Rg.stable_row h23 RH.out
  have xb := BB.out.trans (h23.mono BB.out.size)
  clear RK RH BB
  have RK := Lib.hid xk
  have RH := Lib.hid xr
  have BB := Lib.hid xb
  clear xk xr xb
  clear h23
  have rh : row? w3 (w.heap.size + 1) = some (hvA lg kind ver (.slice ad dst.length cd) (.slice as_ src.length cs) (.slice at_ tok.length ct) sp ph (n64 u) nl) := RH.out
  go_wp2_with (first
   |(with_reducible refine Rg.plan_pure ?_ ?_ ?_); kernel_rfl; kernel_rfl; intro _ _|(with_reducible refine Rg.plan_take ?_ ?_ ?_); kernel_rfl; kernel_rfl; intro _ _|(with_reducible refine Rg.plan_keep ?_ ?_); kernel_rfl; intro K hK|refine hK _ _ (Rg.Keep.refl _) ?_; clear hK|refine hK _ _ (Rg.Keep.of_below (by assumption)) ?_; clear hK|(with_reducible refine Rg.plan_skip ?_ ?_); kernel_rfl|(with_reducible refine Rg.plan_done ?_)|(with_reducible refine Rg.calm_normal ?_))
  refine (HRS.out (by have := HTL.out; omega) w3 (SD.out.below BB.out) (SS.out.below BB.out) (ST.out.below BB.out) (SX.out.below BB.out)).mono ?_
  rintro e w4 ⟨v4, rfl, o4, h4⟩
  refine hK _ _ (Rg.Keep.of_below h4) ?_
  clear hK rh
  obtain ⟨a4, c4, rfl, -, -, -⟩ := id (Own.sl o4)
  have S2 := Lib.hid (S2'.out.below h4)
  have S4 := Lib.hid (Own.sl o4)
  have xk := Rg.stable_row h4 RK.out
  have xr := Rg.stable_row h4 RH.out
  have xb := BB.out.trans (h4.mono BB.out.size)
  clear RK RH BB
  have RK := Lib.hid xk
  have RH := Lib.hid xr
  have BB := Lib.hid xb
  clear xk xr xb
  clear o4 h4 S2' HRS
  have lk : (loadAgg 25 (.pointer (some ⟨w.heap.size, 0, none⟩))).run Try.prog w4 = .ok (.agg (bvs KB)) w4 := rldK w4 _ _ RK.out hKl
  go_wp2_with (first
   |(with_reducible refine Rg.plan_pure ?_ ?_ ?_); kernel_rfl; kernel_rfl; intro _ _|(with_reducible refine Rg.plan_take ?_ ?_ ?_); kernel_rfl; kernel_rfl; intro _ _|(with_reducible refine Rg.plan_keep ?_ ?_); kernel_rfl; intro K hK|refine hK _ _ (Rg.Keep.refl _) ?_; clear hK|refine hK _ _ (Rg.Keep.of_below (by assumption)) ?_; clear hK|(with_reducible refine Rg.plan_skip ?_ ?_); kernel_rfl|(with_reducible refine Rg.plan_done ?_)|(with_reducible refine Rg.calm_normal ?_))
  refine (HOP.out (by have := HBL.out; omega) w4 (SB.out.below BB.out)).mono ?_
  rintro e w5 ⟨vg1, vg2, vg3, vg4, he, og1, og2, og3, og4, h5⟩
  simp only [] at he og1 og2 og3 og4
  subst he
  obtain ⟨ga, gb, rfl, -, -, -⟩ := id (Own.sl og1)
  obtain ⟨gc, gd, rfl, -, -, -⟩ := id (Own.sl og2)
  obtain ⟨ge, gf, rfl, -, -, -⟩ := id (Own.sl og3)
  obtain ⟨gg, gh, rfl, -, -, -⟩ := id (Own.sl og4)
  have x5 : row? (w5.alloc (.cells (hvA l1 k1 ver1 (.slice ga d1.length gb) (.slice gc s1.length gd) (.slice ge t1.length gf) p1 f1 m1 n1) 30)) w5.heap.size = some (hvA l1 k1 ver1 (.slice ga d1.length gb) (.slice gc s1.length gd) (.slice ge t1.length gf) p1 f1 m1 n1) := row?_alloc_at _ _ _ _ rfl
  have k5 : Below w5.heap.size w5 (w5.alloc (.cells (hvA l1 k1 ver1 (.slice ga d1.length gb) (.slice gc s1.length gd) (.slice ge t1.length gf) p1 f1 m1 n1) 30)) := (Below.refl _ _).alloc (Nat.le_refl _) _
  have h45 : Below w4.heap.size w4 (w5.alloc (.cells (hvA l1 k1 ver1 (.slice ga d1.length gb) (.slice gc s1.length gd) (.slice ge t1.length gf) p1 f1 m1 n1) 30)) := h5.trans (k5.mono h5.size)
  have G1 := Lib.hid ((Own.sl og1).below k5)
  have G2 := Lib.hid ((Own.sl og2).below k5)
  have G3 := Lib.hid ((Own.sl og3).below k5)
  have G4 := Lib.hid ((Own.sl og4).below k5)
  have S2' := Lib.hid (S2.out.below h45)
  have S4' := Lib.hid (S4.out.below h45)
  clear S2 S4 lk
  go_wp2_with (first
   | (with_reducible refine Rw.hold_ops 71 ?_)
   |(with_reducible refine Rg.plan_pure ?_ ?_ ?_); kernel_rfl; kernel_rfl; intro _ _|(with_reducible refine Rg.plan_take ?_ ?_ ?_); kernel_rfl; kernel_rfl; intro _ _|(with_reducible refine Rg.plan_keep ?_ ?_); kernel_rfl; intro K hK|refine hK _ _ (Rg.Keep.refl _) ?_; clear hK|refine hK _ _ (Rg.Keep.of_below (by assumption)) ?_; clear hK|(with_reducible refine Rg.plan_skip ?_ ?_); kernel_rfl|(with_reducible refine Rg.plan_done ?_)|(with_reducible refine Rg.calm_normal ?_))
  refine Rw.Held.mk ?_
  generalize (w5.alloc (.cells (hvA l1 k1 ver1 (.slice ga d1.length gb) (.slice gc s1.length gd) (.slice ge t1.length gf) p1 f1 m1 n1) 30)) = W5 at x5 k5 h45 G1 G2 G3 G4 S2' S4' ⊢
  have xk := Rg.stable_row h45 RK.out
  have xr := Rg.stable_row h45 RH.out
  have xb := BB.out.trans (h45.mono BB.out.size)
  clear RK RH BB
  have RK := Lib.hid xk
  have RH := Lib.hid xr
  have BB := Lib.hid xb
  clear xk xr xb
  have RG := Lib.hid x5
  clear x5 k5 h45 h5 og1 og2 og3 og4 HOP
  have lk : (loadAgg 25 (.pointer (some ⟨w.heap.size, 0, none⟩))).run Try.prog W5 = .ok (.agg (bvs KB)) W5 := rldK W5 _ _ RK.out hKl
  go_wp2_with (first
   |(with_reducible refine Rg.plan_pure ?_ ?_ ?_); kernel_rfl; kernel_rfl; intro _ _|(with_reducible refine Rg.plan_take ?_ ?_ ?_); kernel_rfl; kernel_rfl; intro _ _|(with_reducible refine Rg.plan_keep ?_ ?_); kernel_rfl; intro K hK|refine hK _ _ (Rg.Keep.refl _) ?_; clear hK|refine hK _ _ (Rg.Keep.of_below (by assumption)) ?_; clear hK|(with_reducible refine Rg.plan_skip ?_ ?_); kernel_rfl|(with_reducible refine Rg.plan_done ?_)|(with_reducible refine Rg.calm_normal ?_))
  refine (HKY.out _).mono ?_
  rintro e w6 ⟨rfl, h6⟩
  go_wp2_with (first
   |(with_reducible refine Rg.plan_pure ?_ ?_ ?_); kernel_rfl; kernel_rfl; intro _ _|(with_reducible refine Rg.plan_take ?_ ?_ ?_); kernel_rfl; kernel_rfl; intro _ _|(with_reducible refine Rg.plan_keep ?_ ?_); kernel_rfl; intro K hK|refine hK _ _ (Rg.Keep.refl _) ?_; clear hK|refine hK _ _ (Rg.Keep.of_below (by assumption)) ?_; clear hK|(with_reducible refine Rg.plan_skip ?_ ?_); kernel_rfl|(with_reducible refine Rg.plan_done ?_)|(with_reducible refine Rg.calm_normal ?_))
  have xx := BB.out.trans (h6.mono BB.out.size)
  refine (HRO.out (by have := HBL.out; omega) w6 (SB.out.below xx)).mono ?_
  rintro e w7 ⟨vr1, vr2, vr3, vr4, he, or1, or2, or3, or4, h7⟩
  simp only [] at he or1 or2 or3 or4
  subst he
  obtain ⟨ra, rb, rfl, -, -, -⟩ := id (Own.sl or1)
  obtain ⟨rc, rd_, rfl, -, -, -⟩ := id (Own.sl or2)
  obtain ⟨re, rf, rfl, -, -, -⟩ := id (Own.sl or3)
  obtain ⟨rg, rh, rfl, -, -, -⟩ := id (Own.sl or4)
  have x7 : row? (w7.alloc (.cells (hvA l1 k1 ver1 (.slice ra d1.length rb) (.slice rc s1.length rd_) (.slice re t1.length rf) p1 f1 m1 n1) 30)) w7.heap.size = some (hvA l1 k1 ver1 (.slice ra d1.length rb) (.slice rc s1.length rd_) (.slice re t1.length rf) p1 f1 m1 n1) := row?_alloc_at _ _ _ _ rfl
  have k7 : Below w7.heap.size w7 (w7.alloc (.cells (hvA l1 k1 ver1 (.slice ra d1.length rb) (.slice rc s1.length rd_) (.slice re t1.length rf) p1 f1 m1 n1) 30)) := (Below.refl _ _).alloc (Nat.le_refl _) _
  have h57 : Below W5.heap.size W5 (w7.alloc (.cells (hvA l1 k1 ver1 (.slice ra d1.length rb) (.slice rc s1.length rd_) (.slice re t1.length rf) p1 f1 m1 n1) 30)) := h6.trans ((h7.trans (k7.mono h7.size)).mono h6.size)
  have M1 := Lib.hid ((Own.sl or1).below k7)
  have M2 := Lib.hid ((Own.sl or2).below k7)
  have M3 := Lib.hid ((Own.sl or3).below k7)
  have M4 := Lib.hid ((Own.sl or4).below k7)
  have G1' := Lib.hid (G1.out.below h57)
  have G2' := Lib.hid (G2.out.below h57)
  have G3' := Lib.hid (G3.out.below h57)
  have G4' := Lib.hid (G4.out.below h57)
  have S2 := Lib.hid (S2'.out.below h57)
  have S4 := Lib.hid (S4'.out.below h57)
  have RG' := Lib.hid (Rg.stable_row h57 RG.out)
  clear S2' S4' lk G1 G2 G3 G4 RG xx
  go_wp2_with (first
   | (with_reducible refine Rw.hold_ops 80 ?_)
   |(with_reducible refine Rg.plan_pure ?_ ?_ ?_); kernel_rfl; kernel_rfl; intro _ _|(with_reducible refine Rg.plan_take ?_ ?_ ?_); kernel_rfl; kernel_rfl; intro _ _|(with_reducible refine Rg.plan_keep ?_ ?_); kernel_rfl; intro K hK|refine hK _ _ (Rg.Keep.refl _) ?_; clear hK|refine hK _ _ (Rg.Keep.of_below (by assumption)) ?_; clear hK|(with_reducible refine Rg.plan_skip ?_ ?_); kernel_rfl|(with_reducible refine Rg.plan_done ?_)|(with_reducible refine Rg.calm_normal ?_))
  generalize (w7.alloc (.cells (hvA l1 k1 ver1 (.slice ra d1.length rb) (.slice rc s1.length rd_) (.slice re t1.length rf) p1 f1 m1 n1) 30)) = W7 at x7 k7 h57 M1 M2 M3 M4 G1' G2' G3' G4' S2 S4 RG' ⊢
  have xk := Rg.stable_row h57 RK.out
  have xr := Rg.stable_row h57 RH.out
  have xb := BB.out.trans (h57.mono BB.out.size)
  clear RK RH BB
  have RK := Lib.hid xk
  have RH := Lib.hid xr
  have BB := Lib.hid xb
  clear xk xr xb
  have RM := Lib.hid x7
  clear k7 h57 h6 h7 or1 or2 or3 or4 HRO x7 HKY
  have hLT1 : w5.heap.size < W7.heap.size := row?_lt RG'.out
  have hLT2 : w7.heap.size < W7.heap.size := row?_lt RM.out
  have hq1 : row? W7.drew w5.heap.size = some (hvA l1 k1 ver1 (.slice ga d1.length gb) (.slice gc s1.length gd) (.slice ge t1.length gf) p1 f1 m1 n1) := RG'.out
  have hq2 : row? W7.drew w7.heap.size = some (hvA l1 k1 ver1 (.slice ra d1.length rb) (.slice rc s1.length rd_) (.slice re t1.length rf) p1 f1 m1 n1) := RM.out
  refine Rg.wp_region_plan (Rg.row [(0, 3), (1, 3), (2, 1), (3, 3), (4, 3), (5, 3), (6, 3), (7, 3), (8, 3), (9, 0), (10, 0), (11, 1), (12, 3), (13, 3), (14, 3), (15, 3), (16, 1), (17, 3), (18, 3), (19, 3), (20, 3), (21, 3), (22, 3), (23, 3), (24, 3), (25, 0), (26, 3), (27, 0), (29, 3), (30, 0), (31, 3), (32, 0), (28, 1), (33, 1), (34, 1), (35, 3), (36, 3), (37, 1), (38, 3), (39, 3)] []) [] (by kernel_rfl) (by kernel_rfl) ?_
  simp only [Rg.row, Rg.PT.map, List.map_nil, List.getD_cons_zero, List.getD_cons_succ]
  go_wp2_with (first
   |(with_reducible refine Rg.plan_pure ?_ ?_ ?_); kernel_rfl; kernel_rfl; intro _ _|(with_reducible refine Rg.plan_take ?_ ?_ ?_); kernel_rfl; kernel_rfl; intro _ _|(with_reducible refine Rg.plan_keep ?_ ?_); kernel_rfl; intro K hK|refine hK _ _ (Rg.Keep.refl _) ?_; clear hK|refine hK _ _ (Rg.Keep.of_below (by assumption)) ?_; clear hK|(with_reducible refine Rg.plan_skip ?_ ?_); kernel_rfl|(with_reducible refine Rg.plan_done ?_)|(with_reducible refine Rg.calm_normal ?_))
  have hd0 : Below W7.heap.size W7 W7.drew := (Below.refl _ _).drew
  have hsb := same_any S S (by have := HSL.out; omega) _ _ W7.drew (S2.out.below hd0) (S4.out.below hd0)
  rw [decide_eq_true rfl] at hsb
  refine hsb.mono ?_
  rintro e w8 ⟨rfl, h8⟩
  refine hK _ _ (Rg.Keep.of_below h8) ?_
  clear hK hsb hq1 hq2
  have h78 : Below W7.heap.size W7 w8 := hd0.trans h8
  clear h8 hd0
  have xk := Rg.stable_row h78 RK.out
  have xr := Rg.stable_row h78 RH.out
  have xb := BB.out.trans (h78.mono BB.out.size)
  clear RK RH BB
  have RK := Lib.hid xk
  have RH := Lib.hid xr
  have BB := Lib.hid xb
  clear xk xr xb
  have G1 := Lib.hid (G1'.out.below h78)
  have G2 := Lib.hid (G2'.out.below h78)
  have G3 := Lib.hid (G3'.out.below h78)
  have G4 := Lib.hid (G4'.out.below h78)
  have N1 := Lib.hid (M1.out.below h78)
  have N2 := Lib.hid (M2.out.below h78)
  have N3 := Lib.hid (M3.out.below h78)
  have N4 := Lib.hid (M4.out.below h78)
  have hq1 := Rg.stable_row h78 RG'.out
  have hq2 := Rg.stable_row h78 RM.out
  clear G1' G2' G3' G4' M1 M2 M3 M4 S2 S4 RG' RM h78
  go_wp2_with (first
   |(with_reducible refine Rg.plan_pure ?_ ?_ ?_); kernel_rfl; kernel_rfl; intro _ _|(with_reducible refine Rg.plan_take ?_ ?_ ?_); kernel_rfl; kernel_rfl; intro _ _|(with_reducible refine Rg.plan_keep ?_ ?_); kernel_rfl; intro K hK|refine hK _ _ (Rg.Keep.refl _) ?_; clear hK|refine hK _ _ (Rg.Keep.of_below (by assumption)) ?_; clear hK|(with_reducible refine Rg.plan_skip ?_ ?_); kernel_rfl|(with_reducible refine Rg.plan_done ?_)|(with_reducible refine Rg.calm_normal ?_))
  refine (sameHeader_eq l1 k1 ver1 p1 f1 m1 n1 d1 s1 t1 (by have := HOL.out; have := HBL.out; omega) (by have := HOL.out; have := HBL.out; omega) (by have := HOL.out; have := HBL.out; omega) _ _ _ _ _ _ w8 G1.out N1.out G2.out N2.out G3.out N3.out).mono ?_
  rintro e w9 ⟨rfl, h9⟩
  refine hK _ _ (Rg.Keep.of_below h9) ?_
  clear hK hq1 hq2
  have xk := Rg.stable_row h9 RK.out
  have xr := Rg.stable_row h9 RH.out
  have xb := BB.out.trans (h9.mono BB.out.size)
  clear RK RH BB
  have RK := Lib.hid xk
  have RH := Lib.hid xr
  have BB := Lib.hid xb
  clear xk xr xb
  have G4' := Lib.hid (G4.out.below h9)
  have N4' := Lib.hid (N4.out.below h9)
  clear G1 G2 G3 N1 N2 N3 G4 N4 h9
  go_wp2_with (first
   |(with_reducible refine Rg.plan_pure ?_ ?_ ?_); kernel_rfl; kernel_rfl; intro _ _|(with_reducible refine Rg.plan_take ?_ ?_ ?_); kernel_rfl; kernel_rfl; intro _ _|(with_reducible refine Rg.plan_keep ?_ ?_); kernel_rfl; intro K hK|refine hK _ _ (Rg.Keep.refl _) ?_; clear hK|refine hK _ _ (Rg.Keep.of_below (by assumption)) ?_; clear hK|(with_reducible refine Rg.plan_skip ?_ ?_); kernel_rfl|(with_reducible refine Rg.plan_done ?_)|(with_reducible refine Rg.calm_normal ?_))
  have hsb := same_any T T (by have := HOL.out; have := HBL.out; omega) _ _ w9 G4'.out N4'.out
  rw [decide_eq_true rfl] at hsb
  refine hsb.mono ?_
  rintro e w10 ⟨rfl, h10⟩
  refine hK _ _ (Rg.Keep.of_below h10) ?_
  clear hK hsb G4' N4'
  have xk := Rg.stable_row h10 RK.out
  have xr := Rg.stable_row h10 RH.out
  have xb := BB.out.trans (h10.mono BB.out.size)
  clear RK RH BB
  have RK := Lib.hid xk
  have RH := Lib.hid xr
  have BB := Lib.hid xb
  clear xk xr xb
  clear h10
  have l2 : (loadAgg 23 (.pointer (some ⟨w.heap.size, 16, none⟩))).run Try.prog w10 = .ok (.agg (bvs iv)) w10 := part12 w10 _ _ _ _ RK.out (by simp only [bvs_size]; omega) hKKi
  have c8 : w10.cell? ⟨w.heap.size + 1, 8, none⟩ = some (.int .u64 (n64 u : Nat)) := row?_cell RH.out 8
  go_wp2_with (first
   |(with_reducible refine Rg.plan_pure ?_ ?_ ?_); kernel_rfl; kernel_rfl; intro _ _|(with_reducible refine Rg.plan_take ?_ ?_ ?_); kernel_rfl; kernel_rfl; intro _ _|(with_reducible refine Rg.plan_keep ?_ ?_); kernel_rfl; intro K hK|refine hK _ _ (Rg.Keep.refl _) ?_; clear hK|refine hK _ _ (Rg.Keep.of_below (by assumption)) ?_; clear hK|(with_reducible refine Rg.plan_skip ?_ ?_); kernel_rfl|(with_reducible refine Rg.plan_done ?_)|(with_reducible refine Rg.calm_normal ?_))
  refine (nonce_any iv hiv u _).mono ?_
  rintro e w11 ⟨rfl, h11⟩
  refine hK _ _ (Rg.Keep.of_below h11) ?_
  clear hK l2 c8
  have xk := Rg.stable_row h11 RK.out
  have xr := Rg.stable_row h11 RH.out
  have xb := BB.out.trans (h11.mono BB.out.size)
  clear RK RH BB
  have RK := Lib.hid xk
  have RH := Lib.hid xr
  have BB := Lib.hid xb
  clear xk xr xb
  clear h11
  have l2 : (loadAgg 23 (.pointer (some ⟨w.heap.size, 16, none⟩))).run Try.prog w11 = .ok (.agg (bvs iv)) w11 := part12 w11 _ _ _ _ RK.out (by simp only [bvs_size]; omega) hKKi
  have c8 : w11.cell? ⟨w.heap.size + 1, 8, none⟩ = some (.int .u64 (n64 u : Nat)) := row?_cell RH.out 8
  go_wp2_with (first
   |(with_reducible refine Rg.plan_pure ?_ ?_ ?_); kernel_rfl; kernel_rfl; intro _ _|(with_reducible refine Rg.plan_take ?_ ?_ ?_); kernel_rfl; kernel_rfl; intro _ _|(with_reducible refine Rg.plan_keep ?_ ?_); kernel_rfl; intro K hK|refine hK _ _ (Rg.Keep.refl _) ?_; clear hK|refine hK _ _ (Rg.Keep.of_below (by assumption)) ?_; clear hK|(with_reducible refine Rg.plan_skip ?_ ?_); kernel_rfl|(with_reducible refine Rg.plan_done ?_)|(with_reducible refine Rg.calm_normal ?_))
  refine (rnonce_any iv hiv u _).mono ?_
  rintro e w12 ⟨rfl, h12⟩
  refine hK _ _ (Rg.Keep.of_below h12) ?_
  clear hK l2 c8
  have xk := Rg.stable_row h12 RK.out
  have xr := Rg.stable_row h12 RH.out
  have xb := BB.out.trans (h12.mono BB.out.size)
  clear RK RH BB
  have RK := Lib.hid xk
  have RH := Lib.hid xr
  have BB := Lib.hid xb
  clear xk xr xb
  clear h12
  have hNl : (nonce iv u).length = 12 := (nonce_len iv u).trans hiv
  generalize nonce iv u = N at hNl ⊢
  go_wp2_with (first
   |(with_reducible refine Rg.plan_pure ?_ ?_ ?_); kernel_rfl; kernel_rfl; intro _ _|(with_reducible refine Rg.plan_take ?_ ?_ ?_); kernel_rfl; kernel_rfl; intro _ _|(with_reducible refine Rg.plan_keep ?_ ?_); kernel_rfl; intro K hK|refine hK _ _ (Rg.Keep.refl _) ?_; clear hK|refine hK _ _ (Rg.Keep.of_below (by assumption)) ?_; clear hK|(with_reducible refine Rg.plan_skip ?_ ?_); kernel_rfl|(with_reducible refine Rg.plan_done ?_)|(with_reducible refine Rg.calm_normal ?_))
  refine hK _ _ (Rg.Keep.refl _) ?_
  clear hK
  go_wp2_with (first
   |(with_reducible refine Rg.plan_pure ?_ ?_ ?_); kernel_rfl; kernel_rfl; intro _ _|(with_reducible refine Rg.plan_take ?_ ?_ ?_); kernel_rfl; kernel_rfl; intro _ _|(with_reducible refine Rg.plan_keep ?_ ?_); kernel_rfl; intro K hK|refine hK _ _ (Rg.Keep.refl _) ?_; clear hK|refine hK _ _ (Rg.Keep.of_below (by assumption)) ?_; clear hK|(with_reducible refine Rg.plan_skip ?_ ?_); kernel_rfl|(with_reducible refine Rg.plan_done ?_)|(with_reducible refine Rg.calm_normal ?_))
  refine (awake_any _).mono ?_
  rintro e w13 ⟨rfl, h13⟩
  refine hK _ _ (Rg.Keep.of_below h13) ?_
  clear hK
  have hbf := BB.out.trans (h13.mono BB.out.size)
  go_wp2_with (first
   |(with_reducible refine Rg.plan_pure ?_ ?_ ?_); kernel_rfl; kernel_rfl; intro _ _|(with_reducible refine Rg.plan_take ?_ ?_ ?_); kernel_rfl; kernel_rfl; intro _ _|(with_reducible refine Rg.plan_keep ?_ ?_); kernel_rfl; intro K hK|refine hK _ _ (Rg.Keep.refl _) ?_; clear hK|refine hK _ _ (Rg.Keep.of_below (by assumption)) ?_; clear hK|(with_reducible refine Rg.plan_skip ?_ ?_); kernel_rfl|(with_reducible refine Rg.plan_done ?_)|(with_reducible refine Rg.calm_normal ?_))
  go_ret
  exact ⟨rfl, hbf⟩
end Go.Proofs.Ytjlpppnpdgenfaa
