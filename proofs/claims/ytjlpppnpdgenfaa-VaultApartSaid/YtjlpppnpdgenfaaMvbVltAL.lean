/- The walk of VaultApart. -/
import Derived.Test.YtjlpppnpdgenfaaMvbVltTM
import Derived.Test.YtjlpppnpdgenfaaMvbLawK
import Derived.Test.YtjlpppnpdgenfaaMvb19
import Derived.Test.YtjlpppnpdgenfaaMvbLibO
namespace Go.Proofs.Ytjlpppnpdgenfaa
open Go.RowKit Go.Rw Aes Hdr Vlt
attribute [local go_sem high] gEq12
attribute [local go_sem ↓] hvA_0 hvA_1 hvA_2 hvA_3 hvA_4 hvA_5 hvA_6 hvA_7 hvA_8 hvA_9
attribute [local go_sem ↓] ldH stH alH ldK stK alK ld16 st16 al16 ld12 st12 al12 shift_shl8 bvs_getElem?
attribute [local go_sem] rldH rstH ralH rstK ralK rld16 rst16 ral16 rld12 rst12 ral12 setRow_alloc_at setRow_alloc_past setRow_drew bvs_setn
set_option maxRecDepth 100000 in
set_option maxHeartbeats 8000000 in
theorem vapart_any (key iv msk : List UInt8) (hk : key.length = 16) (hiv : iv.length = 12) (hmk : msk.length = 16) (lg : Bool) (kind : Int) (ver : Nat) (dst src tok : List UInt8) (sp ph : Bool) (u : UInt64) (nl : Int) (text : List UInt8) (bit : Int) (other : UInt64) (hver : ver < 4294967296) (vd vs vt vx : Value) (w : World) (hsd : Sl w vd dst) (hss : Sl w vs src) (hst : Sl w vt tok) (hsx : Sl w vx text) :
  Calls Try.prog 6 #[.agg (bvs (ksB key iv msk)), .agg (hvA lg kind ver vd vs vt sp ph (n64 u) nl), vx, .int .i64 bit, .int .u64 (n64 other : Nat)] w fun e w' => e = .returned (.bool true) ∧ Below w.heap.size w w' := by
 obtain ⟨ad, cd, rfl, -, -, -⟩ := id hsd
 obtain ⟨as_, cs, rfl, -, -, -⟩ := id hss
 obtain ⟨at_, ct, rfl, -, -, -⟩ := id hst
 obtain ⟨ax, cx, rfl, -, -, -⟩ := id hsx
 have hKl := ksB_length hk hiv hmk
 have hKi := ksB_iv (msk := msk) hk hiv
 have hseal := fun (hx : text.length ≤ 1000000) W (h1 : Sl W (.slice ad dst.length cd) dst) (h2 : Sl W (.slice as_ src.length cs) src) (h3 : Sl W (.slice at_ tok.length ct) tok) (h4 : Sl W (.slice ax text.length cx) text) => vseal_any key iv msk hk hiv hmk lg kind ver dst src tok sp ph u nl text hver hx _ _ _ _ W h1 h2 h3 h4
 have hsl := sealR_len key iv msk lg kind ver dst src tok sp ph u nl text
 generalize sealR key iv msk lg kind ver dst src tok sp ph u nl text = SR at *
 obtain ⟨S, se⟩ := SR
 simp only [] at hseal hsl
 have hin := nonce_inj iv hiv u other
 have HSE := Lib.hid hseal
 have HSL := Lib.hid hsl
 have HIN := Lib.hid hin
 have SD := Lib.hid hsd
 have SS := Lib.hid hss
 have ST := Lib.hid hst
 have SX := Lib.hid hsx
 clear hseal hsl hsd hss hst hsx hver hin
 generalize ksB key iv msk = KB at *
 have HW1 := bel2 w (.cells (bvs KB) 25) (.cells (hvA lg kind ver (.slice ad dst.length cd) (.slice as_ src.length cs) (.slice at_ tok.length ct) sp ph (n64 u) nl) 30)
 have HR1 : row? ((w.alloc (.cells (bvs KB) 25)).alloc (.cells (hvA lg kind ver (.slice ad dst.length cd) (.slice as_ src.length cs) (.slice at_ tok.length ct) sp ph (n64 u) nl) 30)) (w.heap.size + 1) = some (hvA lg kind ver (.slice ad dst.length cd) (.slice as_ src.length cs) (.slice at_ tok.length ct) sp ph (n64 u) nl) := row?_alloc_at _ _ _ _ (by simp)
 have HR0 : row? ((w.alloc (.cells (bvs KB) 25)).alloc (.cells (hvA lg kind ver (.slice ad dst.length cd) (.slice as_ src.length cs) (.slice at_ tok.length ct) sp ph (n64 u) nl) 30)) w.heap.size = some (bvs KB) := by rw [row?_alloc_past _ _ _ (by simp)]; exact row?_alloc_at _ _ _ _ rfl
 have BB := Lib.hid HW1
 have RH := Lib.hid HR1
 have RK := Lib.hid HR0
 clear HW1 HR1 HR0
 go_enter Try.func6, Try.ntmps6
 go_wp2_with (with_reducible refine Rw.hold_ops 20 ?_)
 refine Rw.Held.mk ?_
 generalize ((w.alloc (.cells (bvs KB) 25)).alloc (.cells (hvA lg kind ver (.slice ad dst.length cd) (.slice as_ src.length cs) (.slice at_ tok.length ct) sp ph (n64 u) nl) 30)) = WA at BB RH RK ⊢
 have c3 : WA.cell? ⟨w.heap.size + 1, 3, none⟩ = some (.slice ad dst.length cd) := row?_cell RH.out 3
 have c4 : WA.cell? ⟨w.heap.size + 1, 4, none⟩ = some (.slice as_ src.length cs) := row?_cell RH.out 4
 have c5 : WA.cell? ⟨w.heap.size + 1, 5, none⟩ = some (.slice at_ tok.length ct) := row?_cell RH.out 5
 by_cases hbig : 150 < wrap64 (wrap64 ((dst.length : Int) + src.length) + tok.length)
 ·go_wp2_with fail
  refine (awake_any _).mono ?_
  rintro e w5 ⟨rfl, b5⟩
  have hW5 : Below w.heap.size w w5 := BB.out.trans (b5.mono BB.out.size)
  go_wp2_with fail
  go_ret
  exact ⟨rfl, hW5⟩
 ·by_cases htx : (60 : Int) < (text.length : Nat)
  ·go_wp2_with fail
   refine (awake_any _).mono ?_
   rintro e w5 ⟨rfl, b5⟩
   have hW5 : Below w.heap.size w w5 := BB.out.trans (b5.mono BB.out.size)
   go_wp2_with fail
   go_ret
   exact ⟨rfl, hW5⟩
  have HTL := Lib.hid (show text.length ≤ 60 by omega)
  go_wp2_with fail
  clear c3 c4 c5 hbig htx
  have l2 : (loadAgg 23 (.pointer (some ⟨w.heap.size, 16, none⟩))).run Try.prog WA.drew = .ok (.agg (bvs iv)) WA.drew := part12 WA.drew _ _ _ _ RK.out (by simp only [bvs_size]; omega) hKi
  have c8 : (WA.drew).cell? ⟨w.heap.size + 1, 8, none⟩ = some (.int .u64 (n64 u : Nat)) := row?_cell RH.out 8
  have c8' : WA.cell? ⟨w.heap.size + 1, 8, none⟩ = some (.int .u64 (n64 u : Nat)) := row?_cell RH.out 8
  refine Rg.wp_region_plan (Rg.row [(0, 3), (1, 0), (2, 3), (3, 0), (5, 3), (6, 0), (7, 3), (10, 3), (11, 0), (12, 3), (13, 3), (4, 1), (8, 1), (9, 1), (14, 3)] []) [] (by kernel_rfl) (by kernel_rfl) ?_
  simp only [Rg.row, Rg.PT.map, List.map_nil, List.getD_cons_zero, List.getD_cons_succ]
  go_wp2_with (first
   |(with_reducible refine Rg.plan_pure ?_ ?_ ?_); kernel_rfl; kernel_rfl; intro _ _|(with_reducible refine Rg.plan_take ?_ ?_ ?_); kernel_rfl; kernel_rfl; intro _ _|(with_reducible refine Rg.plan_keep ?_ ?_); kernel_rfl; intro K hK|refine hK _ _ (Rg.Keep.refl _) ?_; clear hK|refine hK _ _ (Rg.Keep.of_below (by assumption)) ?_; clear hK|(with_reducible refine Rg.plan_skip ?_ ?_); kernel_rfl|(with_reducible refine Rg.plan_done ?_)|(with_reducible refine Rg.calm_normal ?_))
  refine (nonce_any iv hiv u _).mono ?_
  rintro e w2 ⟨rfl, h2⟩
  refine hK _ _ (Rg.Keep.of_below h2) ?_
  clear hK l2 c8 c8'
  have h2' : Below WA.heap.size WA w2 := (Below.refl _ _).drew.trans h2
  clear h2
  have xk := Rg.stable_row h2' RK.out
  have xr := Rg.stable_row h2' RH.out
  have xb := BB.out.trans (h2'.mono BB.out.size)
  clear RK RH BB
  have RK := Lib.hid xk
  have RH := Lib.hid xr
  have BB := Lib.hid xb
  clear xk xr xb
  clear h2'
  have l2 : (loadAgg 23 (.pointer (some ⟨w.heap.size, 16, none⟩))).run Try.prog w2 = .ok (.agg (bvs iv)) w2 := part12 w2 _ _ _ _ RK.out (by simp only [bvs_size]; omega) hKi
  have c8 : (w2).cell? ⟨w.heap.size + 1, 8, none⟩ = some (.int .u64 (n64 u : Nat)) := row?_cell RH.out 8
  go_wp2_with (first
   |(with_reducible refine Rg.plan_pure ?_ ?_ ?_); kernel_rfl; kernel_rfl; intro _ _|(with_reducible refine Rg.plan_take ?_ ?_ ?_); kernel_rfl; kernel_rfl; intro _ _|(with_reducible refine Rg.plan_keep ?_ ?_); kernel_rfl; intro K hK|refine hK _ _ (Rg.Keep.refl _) ?_; clear hK|refine hK _ _ (Rg.Keep.of_below (by assumption)) ?_; clear hK|(with_reducible refine Rg.plan_skip ?_ ?_); kernel_rfl|(with_reducible refine Rg.plan_done ?_)|(with_reducible refine Rg.calm_normal ?_))
  refine (nonce_any iv hiv other _).mono ?_
  rintro e w3 ⟨rfl, h3⟩
  refine hK _ _ (Rg.Keep.of_below h3) ?_
  clear hK l2 c8
  have xk := Rg.stable_row h3 RK.out
  have xr := Rg.stable_row h3 RH.out
  have xb := BB.out.trans (h3.mono BB.out.size)
  clear RK RH BB
  have RK := Lib.hid xk
  have RH := Lib.hid xr
  have BB := Lib.hid xb
  clear xk xr xb
  clear h3
  have hXl : (nonce iv u).length = 12 := (nonce_len iv u).trans hiv
  have hYl : (nonce iv other).length = 12 := (nonce_len iv other).trans hiv
  have hin := HIN.out
  generalize nonce iv u = X at hXl hin ⊢
  generalize nonce iv other = Y at hYl hin ⊢
  have c8 : w3.cell? ⟨w.heap.size + 1, 8, none⟩ = some (.int .u64 (n64 u : Nat)) := row?_cell RH.out 8
  clear HIN
  go_wp2_with (first
   |(with_reducible refine Rg.plan_pure ?_ ?_ ?_); kernel_rfl; kernel_rfl; intro _ _|(with_reducible refine Rg.plan_take ?_ ?_ ?_); kernel_rfl; kernel_rfl; intro _ _|(with_reducible refine Rg.plan_keep ?_ ?_); kernel_rfl; intro K hK|refine hK _ _ (Rg.Keep.refl _) ?_; clear hK|refine hK _ _ (Rg.Keep.of_below (by assumption)) ?_; clear hK|(with_reducible refine Rg.plan_skip ?_ ?_); kernel_rfl|(with_reducible refine Rg.plan_done ?_)|(with_reducible refine Rg.calm_normal ?_))
  have hcI : (((n64 u : Nat) : Int) == (n64 other : Nat)) = (u == other) := by
   rw [Bool.eq_iff_iff]; simp only [beq_iff_eq]
   exact ⟨fun h => UInt64.toNat_inj.1 (show n64 u = n64 other by omega), fun h => by rw [h]⟩
  have hcN : (n64 u == n64 other) = (u == other) := by
   rw [Bool.eq_iff_iff]; simp only [beq_iff_eq]
   exact ⟨fun h => UInt64.toNat_inj.1 h, fun h => by rw [h]⟩
  have hcB : ((u == other) != (u == other)) = false := by simp
  refine hK _ _ (Rg.Keep.refl _) ?_
  clear hK
  have rh := RH.out
  have lk : (loadAgg 25 (.pointer (some ⟨w.heap.size, 0, none⟩))).run Try.prog w3 = .ok (.agg (bvs KB)) w3 := rldK w3 _ _ RK.out hKl
  go_wp2_with (first
   |(with_reducible refine Rg.plan_pure ?_ ?_ ?_); kernel_rfl; kernel_rfl; intro _ _|(with_reducible refine Rg.plan_take ?_ ?_ ?_); kernel_rfl; kernel_rfl; intro _ _|(with_reducible refine Rg.plan_keep ?_ ?_); kernel_rfl; intro K hK|refine hK _ _ (Rg.Keep.refl _) ?_; clear hK|refine hK _ _ (Rg.Keep.of_below (by assumption)) ?_; clear hK|(with_reducible refine Rg.plan_skip ?_ ?_); kernel_rfl|(with_reducible refine Rg.plan_done ?_)|(with_reducible refine Rg.calm_normal ?_))
  refine (HSE.out (by have := HTL.out; omega) w3 (SD.out.below BB.out) (SS.out.below BB.out) (ST.out.below BB.out) (SX.out.below BB.out)).mono ?_
  rintro e w4 ⟨v4, rfl, o4, h4⟩
  obtain ⟨a4, c4, rfl, -, -, -⟩ := id (Own.sl o4)
  have S4 := Lib.hid (Own.sl o4)
  have hob := fun b off n cap (e : Value.slice a4 S.length c4 = .slice (some ⟨b, off, none⟩) n cap) => (Own.lt o4 b off n cap e).2
  have HOB := Lib.hid hob
  clear hob
  clear rh lk hcI hcN hcB hin HSE o4 c8
  have xk := Rg.stable_row h4 RK.out
  have xr := Rg.stable_row h4 RH.out
  have xb := BB.out.trans (h4.mono BB.out.size)
  clear RK RH BB
  have RK := Lib.hid xk
  have RH := Lib.hid xr
  have BB := Lib.hid xb
  clear xk xr xb
  clear h4
  by_cases hse : se = 0
  ·subst hse
   have lk : (loadAgg 25 (.pointer (some ⟨w.heap.size, 0, none⟩))).run Try.prog w4 = .ok (.agg (bvs KB)) w4 := rldK w4 _ _ RK.out hKl
   go_wp2_with fail
   have xj : row? (w4.alloc (.cells (bvs KB) 25)) w4.heap.size = some (bvs KB) := row?_alloc_at _ _ _ _ rfl
   have k5 : Below w4.heap.size w4 (w4.alloc (.cells (bvs KB) 25)) := (Below.refl _ _).alloc (Nat.le_refl _) _
   clear lk
   generalize (w4.alloc (.cells (bvs KB) 25)) = W5 at xj k5 ⊢
   have S5 := Lib.hid (S4.out.below k5)
   have hlt4 : w.heap.size + 1 < w4.heap.size := row?_lt RH.out
   have h4B := Lib.hid BB.out.size
   have xk := Rg.stable_row k5 RK.out
   have xr := Rg.stable_row k5 RH.out
   have xb := BB.out.trans (k5.mono BB.out.size)
   clear RK RH BB
   have RK := Lib.hid xk
   have RH := Lib.hid xr
   have BB := Lib.hid xb
   clear xk xr xb
   clear k5 S4
   obtain ⟨x1, hx1⟩ : ∃ x1, low bit 16 = x1 := ⟨_, rfl⟩
   have hx16 : x1 < 16 := by rw [← hx1]; exact low_lt bit 16 (by decide)
   have hlo := fun W => low_any bit 16 (by decide) (by decide) W
   rw [hx1] at hlo
   have cj : W5.cell? ⟨w4.heap.size, x1, none⟩ = some (.int .u8 (n8 (nth KB x1) : Nat)) := by rw [row?_cell xj, bvs_getElem?, if_pos (by omega)]
   have fj := row?_frozen xj x1
   have XJ := Lib.hid xj
   clear hx1 xj
   refine Rg.wp_region_plan (Rg.row [(0, 3), (2, 3), (5, 3), (6, 3), (10, 3), (1, 1), (3, 3), (4, 0), (7, 1), (8, 3), (9, 3), (11, 3)] [12]) [12] (by kernel_rfl) (by kernel_rfl) ?_
   simp only [Rg.row, Rg.PT.map, List.map_cons, List.map_nil, List.getD_cons_zero, List.getD_cons_succ]
   go_wp2_with (first
    |(with_reducible refine Rg.plan_pure ?_ ?_ ?_); kernel_rfl; kernel_rfl; intro _ _|(with_reducible refine Rg.plan_take ?_ ?_ ?_); kernel_rfl; kernel_rfl; intro _ _|(with_reducible refine Rg.plan_keep ?_ ?_); kernel_rfl; intro K hK|refine hK _ _ (Rg.Keep.refl _) ?_; clear hK|refine hK _ _ (Rg.Keep.of_below (by assumption)) ?_; clear hK|(with_reducible refine Rg.plan_skip ?_ ?_); kernel_rfl|(with_reducible refine Rg.plan_done ?_)|(with_reducible refine Rg.calm_normal ?_))
   refine (hlo _).mono ?_
   rintro e wq ⟨rfl, rfl⟩
   refine hK _ _ (Rg.Keep.refl _) ?_
   clear hK
   go_wp2_with (first
    |(with_reducible refine Rg.plan_pure ?_ ?_ ?_); kernel_rfl; kernel_rfl; intro _ _|(with_reducible refine Rg.plan_take ?_ ?_ ?_); kernel_rfl; kernel_rfl; intro _ _|(with_reducible refine Rg.plan_keep ?_ ?_); kernel_rfl; intro K hK|refine hK _ _ (Rg.Keep.refl _) ?_; clear hK|refine hK _ _ (Rg.Keep.of_below (by assumption)) ?_; clear hK|(with_reducible refine Rg.plan_skip ?_ ?_); kernel_rfl|(with_reducible refine Rg.plan_done ?_)|(with_reducible refine Rg.calm_normal ?_))
   refine (low_any _ 8 (by decide) (by decide) _).mono ?_
   rintro e wq ⟨rfl, rfl⟩
   refine hK _ _ (Rg.Keep.refl _) ?_
   clear hK
   go_wp2_with (first
    | (with_reducible refine Rw.hold_ops 77 ?_)
    |(with_reducible refine Rg.plan_pure ?_ ?_ ?_); kernel_rfl; kernel_rfl; intro _ _|(with_reducible refine Rg.plan_take ?_ ?_ ?_); kernel_rfl; kernel_rfl; intro _ _|(with_reducible refine Rg.plan_keep ?_ ?_); kernel_rfl; intro K hK|refine hK _ _ (Rg.Keep.refl _) ?_; clear hK|refine hK _ _ (Rg.Keep.of_below (by assumption)) ?_; clear hK|(with_reducible refine Rg.plan_skip ?_ ?_); kernel_rfl|(with_reducible refine Rg.plan_done ?_)|(with_reducible refine Rg.calm_normal ?_))
   refine Rw.Held.mk ?_
   generalize nth KB x1 ^^^ UInt8.ofInt (2 ^ min (low (wrap64 (bit.tdiv 16)) 8) 8 % 256) = q
   have yj : row? (W5.setCell ⟨w4.heap.size, x1, none⟩ (.int .u8 (n8 q : Nat))).drew w4.heap.size = some (bvs (KB.set x1 q)) := by rw [row?_drew, row?_setCell_eq XJ.out, bvs_setn]
   have m6 : Mut w4.heap.size W5 (W5.setCell ⟨w4.heap.size, x1, none⟩ (.int .u8 (n8 q : Nat))).drew := ((Mut.refl _ _).setCell _ _ _).drew
   generalize (W5.setCell ⟨w4.heap.size, x1, none⟩ (.int .u8 (n8 q : Nat))).drew = W6 at yj m6 ⊢
   clear cj fj XJ hlo
   obtain ⟨key2, iv2, msk2, hk2, hiv2, hmk2, e2⟩ := keys_split (KB.set x1 q) (by rw [List.length_set]; exact hKl)
   rw [e2] at yj
   have hKl2 := ksB_length hk2 hiv2 hmk2
   have hop := fun W (h : Sl W (.slice a4 S.length c4) S) => vopen_any key2 iv2 msk2 hk2 hiv2 hmk2 S (by have := HSL.out; omega) (n64 u) u.toNat_lt true _ W h
   have hrop := fun W (h : Sl W (.slice a4 S.length c4) S) => ropen16_any key2 iv2 msk2 hk2 hiv2 hmk2 S (by have := HSL.out; omega) (n64 u) u.toNat_lt true _ W h
   have hol := openV_len key2 iv2 msk2 S (n64 u) true
   have hkeys := fun W => vkeys_any key2 iv2 msk2 hk2 hiv2 hmk2 W
   generalize ksB key2 iv2 msk2 = K2 at *
   generalize openV key2 iv2 msk2 S (n64 u) true = OV at *
   obtain ⟨⟨l1, k1, ver1, d1, s1, t1, p1, f1, m1, n1⟩, T, oe⟩ := OV
   simp only [] at hol
   have HOP := Lib.hid hop
   have HRO := Lib.hid hrop
   have HOL := Lib.hid hol
   have HKY := Lib.hid hkeys
   have xk := m6.row RK.out (by omega)
   have xr := m6.row RH.out (by omega)
   have xb := BB.out.trans (m6.below (by omega) BB.out.size)
   have xs := m6.sl S5.out (fun b off n cap e h0 => by have := HOB.out b off n cap e; omega)
   clear RK RH BB hop hrop hol hkeys e2
   have RK := Lib.hid xk
   have RH := Lib.hid xr
   have BB := Lib.hid xb
   have RJ := Lib.hid yj
   have S6 := Lib.hid xs
   clear xk xr xb xs yj S5 m6 HOB
   have lk : (loadAgg 25 (.pointer (some ⟨w4.heap.size, 0, none⟩))).run Try.prog W6 = .ok (.agg (bvs K2)) W6 := rldK W6 _ _ RJ.out hKl2
   have c8 : W6.cell? ⟨w.heap.size + 1, 8, none⟩ = some (.int .u64 (n64 u : Nat)) := row?_cell RH.out 8
   go_wp2_with fail
   refine (HOP.out W6 S6.out).mono ?_
   rintro e w5 ⟨vg1, vg2, vg3, vg4, he, og1, og2, og3, og4, h5⟩
   simp only [] at he og1 og2 og3 og4
   subst he
   obtain ⟨ga, gb, rfl, -, -, -⟩ := id (Own.sl og1)
   obtain ⟨gc, gd, rfl, -, -, -⟩ := id (Own.sl og2)
   obtain ⟨ge, gf, rfl, -, -, -⟩ := id (Own.sl og3)
   obtain ⟨gg, gh, rfl, -, -, -⟩ := id (Own.sl og4)
   have x5 : row? (w5.alloc (.cells (hvA l1 k1 ver1 (.slice ga d1.length gb) (.slice gc s1.length gd) (.slice ge t1.length gf) p1 f1 m1 n1) 30)) w5.heap.size = some (hvA l1 k1 ver1 (.slice ga d1.length gb) (.slice gc s1.length gd) (.slice ge t1.length gf) p1 f1 m1 n1) := row?_alloc_at _ _ _ _ rfl
   have k5 : Below w5.heap.size w5 (w5.alloc (.cells (hvA l1 k1 ver1 (.slice ga d1.length gb) (.slice gc s1.length gd) (.slice ge t1.length gf) p1 f1 m1 n1) 30)) := (Below.refl _ _).alloc (Nat.le_refl _) _
   have h65 : Below W6.heap.size W6 (w5.alloc (.cells (hvA l1 k1 ver1 (.slice ga d1.length gb) (.slice gc s1.length gd) (.slice ge t1.length gf) p1 f1 m1 n1) 30)) := h5.trans (k5.mono h5.size)
   have HGB := Lib.hid (And.intro (fun b off n cap (e : Value.slice ga d1.length gb = .slice (some ⟨b, off, none⟩) n cap) => (Own.lt og1 b off n cap e).2) (And.intro (fun b off n cap (e : Value.slice gc s1.length gd = .slice (some ⟨b, off, none⟩) n cap) => (Own.lt og2 b off n cap e).2) (And.intro (fun b off n cap (e : Value.slice ge t1.length gf = .slice (some ⟨b, off, none⟩) n cap) => (Own.lt og3 b off n cap e).2) (fun b off n cap (e : Value.slice gg T.length gh = .slice (some ⟨b, off, none⟩) n cap) => (Own.lt og4 b off n cap e).2))))
   have G1 := Lib.hid ((Own.sl og1).below k5)
   have G2 := Lib.hid ((Own.sl og2).below k5)
   have G3 := Lib.hid ((Own.sl og3).below k5)
   have G4 := Lib.hid ((Own.sl og4).below k5)
   have S6' := Lib.hid (S6.out.below h65)
   have RJ' := Lib.hid (Rg.stable_row h65 RJ.out)
   clear S6 RJ lk c8
   go_wp2_with fail
   generalize (w5.alloc (.cells (hvA l1 k1 ver1 (.slice ga d1.length gb) (.slice gc s1.length gd) (.slice ge t1.length gf) p1 f1 m1 n1) 30)) = W7 at x5 k5 h65 G1 G2 G3 G4 S6' RJ' ⊢
   have xk := Rg.stable_row h65 RK.out
   have xr := Rg.stable_row h65 RH.out
   have xb := BB.out.trans (h65.mono BB.out.size)
   clear RK RH BB
   have RK := Lib.hid xk
   have RH := Lib.hid xr
   have BB := Lib.hid xb
   clear xk xr xb
   have RG := Lib.hid x5
   clear x5 k5 h65 h5 og1 og2 og3 og4 HOP
   have lk : (loadAgg 25 (.pointer (some ⟨w4.heap.size, 0, none⟩))).run Try.prog W7.drew = .ok (.agg (bvs K2)) W7.drew := rldK W7.drew _ _ RJ'.out hKl2
   have c8 : W7.cell? ⟨w.heap.size + 1, 8, none⟩ = some (.int .u64 (n64 u : Nat)) := row?_cell RH.out 8
   refine Rg.wp_region_plan ((.op 0 0 (.op 2 3 (.op 3 3 (.op 4 0 (.fork 1 (.fork 5 (.op 6 3 (.op 7 3 (.op 8 3 (.op 9 3 (.op 10 1 (.done [11, 12, 13])))))) 10 (.op 5 1 (.op 6 3 (.op 7 3 (.op 8 3 (.op 9 3 (.done [11, 12, 13]))))))) 10 (.op 1 1 (.op 5 1 (.op 6 3 (.op 7 3 (.op 8 3 (.op 9 3 (.done [11, 12, 13])))))))))))) : Rg.PT Nat) [11, 12, 13] (by kernel_rfl) (by kernel_rfl) ?_
   simp only [Rg.PT.map, List.map_cons, List.map_nil, List.getD_cons_zero, List.getD_cons_succ]
   go_wp2_with (first
    |(with_reducible refine Rg.plan_pure ?_ ?_ ?_); kernel_rfl; kernel_rfl; intro _ _|(with_reducible refine Rg.plan_take ?_ ?_ ?_); kernel_rfl; kernel_rfl; intro _ _|(with_reducible refine Rg.plan_keep ?_ ?_); kernel_rfl; intro K hK|refine hK _ _ (Rg.Keep.refl _) ?_; clear hK|refine hK _ _ (Rg.Keep.of_below (by assumption)) ?_; clear hK|(with_reducible refine Rg.plan_skip ?_ ?_); kernel_rfl|(with_reducible refine Rg.plan_done ?_)|(with_reducible refine Rg.calm_normal ?_))
   have S6W := Lib.hid (S6'.out.below (Below.refl _ _).drew)
   have hd7 : W7.drew.heap.size = W7.heap.size := rfl
   have hb7s := BB.out.size
   have h77 : Below W7.heap.size W7 W7.drew := (Below.refl _ _).drew
   have xk := Rg.stable_row h77 RK.out
   have xr := Rg.stable_row h77 RH.out
   have xb := BB.out.trans (h77.mono BB.out.size)
   clear RK RH BB
   have RK := Lib.hid xk
   have RH := Lib.hid xr
   have BB := Lib.hid xb
   clear xk xr xb
   have zz := G1.out.below h77
   clear G1
   have G1 := Lib.hid zz
   clear zz
   have zz := G2.out.below h77
   clear G2
   have G2 := Lib.hid zz
   clear zz
   have zz := G3.out.below h77
   clear G3
   have G3 := Lib.hid zz
   clear zz
   have zz := G4.out.below h77
   clear G4
   have G4 := Lib.hid zz
   clear zz
   have zz := S6'.out.below h77
   clear S6'
   have S6' := Lib.hid zz
   clear zz
   have zz := Rg.stable_row h77 RG.out
   clear RG
   have RG := Lib.hid zz
   clear zz
   have zz := Rg.stable_row h77 RJ'.out
   clear RJ'
   have RJ' := Lib.hid zz
   clear zz
   have hlt5 : w5.heap.size < W7.heap.size := row?_lt RG.out
   clear S6W h77 lk
   refine Rg.plan_fork (by kernel_rfl) (by kernel_rfl) ?_ ?_
   ·intro K hK
    go_wp2_with (first
     |(with_reducible refine Rg.plan_pure ?_ ?_ ?_); kernel_rfl; kernel_rfl; intro _ _|(with_reducible refine Rg.plan_take ?_ ?_ ?_); kernel_rfl; kernel_rfl; intro _ _|(with_reducible refine Rg.plan_keep ?_ ?_); kernel_rfl; intro K hK|refine hK _ _ (Rg.Keep.refl _) ?_; clear hK|refine hK _ _ (Rg.Keep.of_below (by assumption)) ?_; clear hK|(with_reducible refine Rg.plan_skip ?_ ?_); kernel_rfl|(with_reducible refine Rg.plan_done ?_)|(with_reducible refine Rg.calm_normal ?_))
    refine (HKY.out _).mono ?_
    rintro e wk ⟨rfl, hX⟩
    refine hK _ _ (Rg.Keep.of_below hX) ?_
    clear hK
    have xk := Rg.stable_row hX RK.out
    have xr := Rg.stable_row hX RH.out
    have xb := BB.out.trans (hX.mono BB.out.size)
    clear RK RH BB
    have RK := Lib.hid xk
    have RH := Lib.hid xr
    have BB := Lib.hid xb
    clear xk xr xb
    have zz := G1.out.below hX
    clear G1
    have G1 := Lib.hid zz
    clear zz
    have zz := G2.out.below hX
    clear G2
    have G2 := Lib.hid zz
    clear zz
    have zz := G3.out.below hX
    clear G3
    have G3 := Lib.hid zz
    clear zz
    have zz := G4.out.below hX
    clear G4
    have G4 := Lib.hid zz
    clear zz
    have zz := S6'.out.below hX
    clear S6'
    have S6' := Lib.hid zz
    clear zz
    have zz := Rg.stable_row hX RG.out
    clear RG
    have RG := Lib.hid zz
    clear zz
    have zz := Rg.stable_row hX RJ'.out
    clear RJ'
    have RJ' := Lib.hid zz
    clear zz
    have hXs := hX.size
    clear hX
    refine Rg.plan_fork (by kernel_rfl) (by kernel_rfl) ?_ ?_
    ·intro K hK
     go_wp2_with (first
      |(with_reducible refine Rg.plan_pure ?_ ?_ ?_); kernel_rfl; kernel_rfl; intro _ _|(with_reducible refine Rg.plan_take ?_ ?_ ?_); kernel_rfl; kernel_rfl; intro _ _|(with_reducible refine Rg.plan_keep ?_ ?_); kernel_rfl; intro K hK|refine hK _ _ (Rg.Keep.refl _) ?_; clear hK|refine hK _ _ (Rg.Keep.of_below (by assumption)) ?_; clear hK|(with_reducible refine Rg.plan_skip ?_ ?_); kernel_rfl|(with_reducible refine Rg.plan_done ?_)|(with_reducible refine Rg.calm_normal ?_))
     refine (HRO.out wk S6'.out).mono ?_
     rintro e wo ⟨vr1, vr2, vr3, vr4, he, or1, or2, or3, or4, hX⟩
     simp only [] at he or1 or2 or3 or4
     subst he
     obtain ⟨ra, rb, rfl, -, -, -⟩ := id (Own.sl or1)
     obtain ⟨rc, rd_, rfl, -, -, -⟩ := id (Own.sl or2)
     obtain ⟨re, rf, rfl, -, -, -⟩ := id (Own.sl or3)
     obtain ⟨rg, rh, rfl, -, -, -⟩ := id (Own.sl or4)
     have T1 := Lib.hid (Own.sl or1)
     have T2 := Lib.hid (Own.sl or2)
     have T3 := Lib.hid (Own.sl or3)
     have T4 := Lib.hid (Own.sl or4)
     have HRB := Lib.hid (And.intro (fun b off n cap (e : Value.slice ra d1.length rb = .slice (some ⟨b, off, none⟩) n cap) => (Own.lt or1 b off n cap e).2) (And.intro (fun b off n cap (e : Value.slice rc s1.length rd_ = .slice (some ⟨b, off, none⟩) n cap) => (Own.lt or2 b off n cap e).2) (And.intro (fun b off n cap (e : Value.slice re t1.length rf = .slice (some ⟨b, off, none⟩) n cap) => (Own.lt or3 b off n cap e).2) (fun b off n cap (e : Value.slice rg T.length rh = .slice (some ⟨b, off, none⟩) n cap) => (Own.lt or4 b off n cap e).2))))
     refine hK _ _ (Rg.Keep.of_below hX) ?_
     clear hK or1 or2 or3 or4
     have xk := Rg.stable_row hX RK.out
     have xr := Rg.stable_row hX RH.out
     have xb := BB.out.trans (hX.mono BB.out.size)
     clear RK RH BB
     have RK := Lib.hid xk
     have RH := Lib.hid xr
     have BB := Lib.hid xb
     clear xk xr xb
     have zz := G1.out.below hX
     clear G1
     have G1 := Lib.hid zz
     clear zz
     have zz := G2.out.below hX
     clear G2
     have G2 := Lib.hid zz
     clear zz
     have zz := G3.out.below hX
     clear G3
     have G3 := Lib.hid zz
     clear zz
     have zz := G4.out.below hX
     clear G4
     have G4 := Lib.hid zz
     clear zz
     have zz := S6'.out.below hX
     clear S6'
     have S6' := Lib.hid zz
     clear zz
     have zz := Rg.stable_row hX RG.out
     clear RG
     have RG := Lib.hid zz
     clear zz
     have zz := Rg.stable_row hX RJ'.out
     clear RJ'
     have RJ' := Lib.hid zz
     clear zz
     have hXo := hX.size
     clear hX
     go_wp2_with (first
      |(with_reducible refine Rg.plan_pure ?_ ?_ ?_); kernel_rfl; kernel_rfl; intro _ _|(with_reducible refine Rg.plan_take ?_ ?_ ?_); kernel_rfl; kernel_rfl; intro _ _|(with_reducible refine Rg.plan_keep ?_ ?_); kernel_rfl; intro K hK|refine hK _ _ (Rg.Keep.refl _) ?_; clear hK|refine hK _ _ (Rg.Keep.of_below (by assumption)) ?_; clear hK|(with_reducible refine Rg.plan_skip ?_ ?_); kernel_rfl|(with_reducible refine Rg.plan_done ?_)|(with_reducible refine Rg.calm_normal ?_))
     refine hK _ _ (Rg.Keep.of_below ((Below.refl _ _).alloc (Nat.le_refl _) _)) ?_
     clear hK
     have hX : Below (wo).heap.size (wo) ((wo).alloc (.cells (hvA false 0 0 (.slice none 0 0) (.slice none 0 0) (.slice none 0 0) false false 0 0) 30)) := (Below.refl _ _).alloc (Nat.le_refl _) _
     have rM : row? ((wo).alloc (.cells (hvA false 0 0 (.slice none 0 0) (.slice none 0 0) (.slice none 0 0) false false 0 0) 30)) (wo).heap.size = some (hvA false 0 0 (.slice none 0 0) (.slice none 0 0) (.slice none 0 0) false false 0 0) := row?_alloc_at _ _ _ _ rfl
     have hXa : ((wo).alloc (.cells (hvA false 0 0 (.slice none 0 0) (.slice none 0 0) (.slice none 0 0) false false 0 0) 30)).heap.size = (wo).heap.size + 1 := by simp
     generalize ((wo).alloc (.cells (hvA false 0 0 (.slice none 0 0) (.slice none 0 0) (.slice none 0 0) false false 0 0) 30)) = wa at hX rM hXa ⊢
     have RM := Lib.hid rM
     clear rM
     have xk := Rg.stable_row hX RK.out
     have xr := Rg.stable_row hX RH.out
     have xb := BB.out.trans (hX.mono BB.out.size)
     clear RK RH BB
     have RK := Lib.hid xk
     have RH := Lib.hid xr
     have BB := Lib.hid xb
     clear xk xr xb
     have zz := G1.out.below hX
     clear G1
     have G1 := Lib.hid zz
     clear zz
     have zz := G2.out.below hX
     clear G2
     have G2 := Lib.hid zz
     clear zz
     have zz := G3.out.below hX
     clear G3
     have G3 := Lib.hid zz
     clear zz
     have zz := G4.out.below hX
     clear G4
     have G4 := Lib.hid zz
     clear zz
     have zz := T1.out.below hX
     clear T1
     have T1 := Lib.hid zz
     clear zz
     have zz := T2.out.below hX
     clear T2
     have T2 := Lib.hid zz
     clear zz
     have zz := T3.out.below hX
     clear T3
     have T3 := Lib.hid zz
     clear zz
     have zz := T4.out.below hX
     clear T4
     have T4 := Lib.hid zz
     clear zz
     have zz := Rg.stable_row hX RG.out
     clear RG
     have RG := Lib.hid zz
     clear zz
     clear hX
     have hBMw : w.heap.size ≤ wo.heap.size := by omega
     have rg5 : row? wa w5.heap.size = some (hvA l1 k1 ver1 (.slice ga d1.length gb) (.slice gc s1.length gd) (.slice ge t1.length gf) p1 f1 m1 n1) := RG.out
     have rm : row? wa wo.heap.size = some (hvA false 0 0 (.slice none 0 0) (.slice none 0 0) (.slice none 0 0) false false 0 0) := RM.out
     have mq : Mut (wo.heap.size) wa (wa.setRow (wo.heap.size) (hvA l1 k1 ver1 (.slice ra d1.length rb) (.slice rc s1.length rd_) (.slice re t1.length rf) p1 f1 m1 n1)) := (Mut.refl _ _).setRow _
     have hq1 := mq.row RG.out (by omega)
     have hq2 : row? (wa.setRow (wo.heap.size) (hvA l1 k1 ver1 (.slice ra d1.length rb) (.slice rc s1.length rd_) (.slice re t1.length rf) p1 f1 m1 n1)) (wo.heap.size) = some (hvA l1 k1 ver1 (.slice ra d1.length rb) (.slice rc s1.length rd_) (.slice re t1.length rf) p1 f1 m1 n1) := row?_setRow_eq rm
     have xb := BB.out.trans (mq.below hBMw BB.out.size)
     have U1 := Lib.hid (mq.sl G1.out (fun b off n cap e h0 => by have := HGB.out.1 b off n cap e; omega))
     have U2 := Lib.hid (mq.sl G2.out (fun b off n cap e h0 => by have := HGB.out.2.1 b off n cap e; omega))
     have U3 := Lib.hid (mq.sl G3.out (fun b off n cap e h0 => by have := HGB.out.2.2.1 b off n cap e; omega))
     have U4 := Lib.hid (mq.sl G4.out (fun b off n cap e h0 => by have := HGB.out.2.2.2 b off n cap e; omega))
     have V1 := Lib.hid (mq.sl T1.out (fun b off n cap e h0 => by have := HRB.out.1 b off n cap e; omega))
     have V2 := Lib.hid (mq.sl T2.out (fun b off n cap e h0 => by have := HRB.out.2.1 b off n cap e; omega))
     have V3 := Lib.hid (mq.sl T3.out (fun b off n cap e h0 => by have := HRB.out.2.2.1 b off n cap e; omega))
     have V4 := Lib.hid (mq.sl T4.out (fun b off n cap e h0 => by have := HRB.out.2.2.2 b off n cap e; omega))
     clear mq G1 G2 G3 G4 T1 T2 T3 T4 HGB HRB RG RM rg5
     have HQ1 := Lib.hid hq1
     have HQ2 := Lib.hid hq2
     have XB := Lib.hid xb
     clear hq1 hq2 xb
     go_wp2_with (first
      | (with_reducible refine Rw.hold_ops 95 ?_)
      |(with_reducible refine Rg.plan_pure ?_ ?_ ?_); kernel_rfl; kernel_rfl; intro _ _|(with_reducible refine Rg.plan_take ?_ ?_ ?_); kernel_rfl; kernel_rfl; intro _ _|(with_reducible refine Rg.plan_keep ?_ ?_); kernel_rfl; intro K hK|refine hK _ _ (Rg.Keep.refl _) ?_; clear hK|refine hK _ _ (Rg.Keep.of_below (by assumption)) ?_; clear hK|(with_reducible refine Rg.plan_skip ?_ ?_); kernel_rfl|(with_reducible refine Rg.plan_done ?_)|(with_reducible refine Rg.calm_normal ?_))
     refine Rw.Held.mk ?_
     clear rm
     generalize (wa.setRow (wo.heap.size) (hvA l1 k1 ver1 (.slice ra d1.length rb) (.slice rc s1.length rd_) (.slice re t1.length rf) p1 f1 m1 n1)) = WF at HQ1 HQ2 XB U1 U2 U3 U4 V1 V2 V3 V4 ⊢
     have hq1 := HQ1.out
     have hq2 := HQ2.out
     go_wp2_with fail
     refine (sameHeader_eq l1 k1 ver1 p1 f1 m1 n1 d1 s1 t1 (by have := HOL.out; have := HSL.out; omega) (by have := HOL.out; have := HSL.out; omega) (by have := HOL.out; have := HSL.out; omega) _ _ _ _ _ _ WF U1.out V1.out U2.out V2.out U3.out V3.out).mono ?_
     rintro e wG ⟨rfl, hg⟩
     have xb := XB.out.trans (hg.mono XB.out.size)
     clear hq1 hq2
     go_wp2_with fail
     have hsb := same_any T T (by have := HOL.out; have := HSL.out; omega) _ _ wG (U4.out.below hg) (V4.out.below hg)
     rw [decide_eq_true rfl] at hsb
     refine hsb.mono ?_
     rintro e wH ⟨rfl, hh⟩
     have xb2 := xb.trans (hh.mono xb.size)
     clear hsb
     go_wp2_with fail
     refine (awake_any _).mono ?_
     rintro e wI ⟨rfl, hi⟩
     go_wp2_with fail
     go_ret
     exact ⟨rfl, xb2.trans (hi.mono xb2.size)⟩
    ·intro K hK
     go_wp2_with (first
      |(with_reducible refine Rg.plan_pure ?_ ?_ ?_); kernel_rfl; kernel_rfl; intro _ _|(with_reducible refine Rg.plan_take ?_ ?_ ?_); kernel_rfl; kernel_rfl; intro _ _|(with_reducible refine Rg.plan_keep ?_ ?_); kernel_rfl; intro K hK|refine hK _ _ (Rg.Keep.refl _) ?_; clear hK|refine hK _ _ (Rg.Keep.of_below (by assumption)) ?_; clear hK|(with_reducible refine Rg.plan_skip ?_ ?_); kernel_rfl|(with_reducible refine Rg.plan_done ?_)|(with_reducible refine Rg.calm_normal ?_))
     refine hK _ _ (Rg.Keep.of_below ((Below.refl _ _).alloc (Nat.le_refl _) _)) ?_
     clear hK
     have hX : Below (wk).heap.size (wk) ((wk).alloc (.cells (hvA false 0 0 (.slice none 0 0) (.slice none 0 0) (.slice none 0 0) false false 0 0) 30)) := (Below.refl _ _).alloc (Nat.le_refl _) _
     have rM : row? ((wk).alloc (.cells (hvA false 0 0 (.slice none 0 0) (.slice none 0 0) (.slice none 0 0) false false 0 0) 30)) (wk).heap.size = some (hvA false 0 0 (.slice none 0 0) (.slice none 0 0) (.slice none 0 0) false false 0 0) := row?_alloc_at _ _ _ _ rfl
     have hXa : ((wk).alloc (.cells (hvA false 0 0 (.slice none 0 0) (.slice none 0 0) (.slice none 0 0) false false 0 0) 30)).heap.size = (wk).heap.size + 1 := by simp
     generalize ((wk).alloc (.cells (hvA false 0 0 (.slice none 0 0) (.slice none 0 0) (.slice none 0 0) false false 0 0) 30)) = wa at hX rM hXa ⊢
     have RM := Lib.hid rM
     clear rM
     have xk := Rg.stable_row hX RK.out
     have xr := Rg.stable_row hX RH.out
     have xb := BB.out.trans (hX.mono BB.out.size)
     clear RK RH BB
     have RK := Lib.hid xk
     have RH := Lib.hid xr
     have BB := Lib.hid xb
     clear xk xr xb
     have zz := G1.out.below hX
     clear G1
     have G1 := Lib.hid zz
     clear zz
     have zz := G2.out.below hX
     clear G2
     have G2 := Lib.hid zz
     clear zz
     have zz := G3.out.below hX
     clear G3
     have G3 := Lib.hid zz
     clear zz
     have zz := G4.out.below hX
     clear G4
     have G4 := Lib.hid zz
     clear zz
     have zz := S6'.out.below hX
     clear S6'
     have S6' := Lib.hid zz
     clear zz
     have zz := Rg.stable_row hX RG.out
     clear RG
     have RG := Lib.hid zz
     clear zz
     have zz := Rg.stable_row hX RJ'.out
     clear RJ'
     have RJ' := Lib.hid zz
     clear zz
     clear hX
     go_wp2_with (first
      |(with_reducible refine Rg.plan_pure ?_ ?_ ?_); kernel_rfl; kernel_rfl; intro _ _|(with_reducible refine Rg.plan_take ?_ ?_ ?_); kernel_rfl; kernel_rfl; intro _ _|(with_reducible refine Rg.plan_keep ?_ ?_); kernel_rfl; intro K hK|refine hK _ _ (Rg.Keep.refl _) ?_; clear hK|refine hK _ _ (Rg.Keep.of_below (by assumption)) ?_; clear hK|(with_reducible refine Rg.plan_skip ?_ ?_); kernel_rfl|(with_reducible refine Rg.plan_done ?_)|(with_reducible refine Rg.calm_normal ?_))
     refine (HRO.out wa S6'.out).mono ?_
     rintro e wo ⟨vr1, vr2, vr3, vr4, he, or1, or2, or3, or4, hX⟩
     simp only [] at he or1 or2 or3 or4
     subst he
     obtain ⟨ra, rb, rfl, -, -, -⟩ := id (Own.sl or1)
     obtain ⟨rc, rd_, rfl, -, -, -⟩ := id (Own.sl or2)
     obtain ⟨re, rf, rfl, -, -, -⟩ := id (Own.sl or3)
     obtain ⟨rg, rh, rfl, -, -, -⟩ := id (Own.sl or4)
     have T1 := Lib.hid (Own.sl or1)
     have T2 := Lib.hid (Own.sl or2)
     have T3 := Lib.hid (Own.sl or3)
     have T4 := Lib.hid (Own.sl or4)
     have HRB := Lib.hid (And.intro (fun b off n cap (e : Value.slice ra d1.length rb = .slice (some ⟨b, off, none⟩) n cap) => (Own.lt or1 b off n cap e).1) (And.intro (fun b off n cap (e : Value.slice rc s1.length rd_ = .slice (some ⟨b, off, none⟩) n cap) => (Own.lt or2 b off n cap e).1) (And.intro (fun b off n cap (e : Value.slice re t1.length rf = .slice (some ⟨b, off, none⟩) n cap) => (Own.lt or3 b off n cap e).1) (fun b off n cap (e : Value.slice rg T.length rh = .slice (some ⟨b, off, none⟩) n cap) => (Own.lt or4 b off n cap e).1))))
     refine hK _ _ (Rg.Keep.of_below hX) ?_
     clear hK or1 or2 or3 or4
     have xk := Rg.stable_row hX RK.out
     have xr := Rg.stable_row hX RH.out
     have xb := BB.out.trans (hX.mono BB.out.size)
     clear RK RH BB
     have RK := Lib.hid xk
     have RH := Lib.hid xr
     have BB := Lib.hid xb
     clear xk xr xb
     have zz := G1.out.below hX
     clear G1
     have G1 := Lib.hid zz
     clear zz
     have zz := G2.out.below hX
     clear G2
     have G2 := Lib.hid zz
     clear zz
     have zz := G3.out.below hX
     clear G3
     have G3 := Lib.hid zz
     clear zz
     have zz := G4.out.below hX
     clear G4
     have G4 := Lib.hid zz
     clear zz
     have zz := S6'.out.below hX
     clear S6'
     have S6' := Lib.hid zz
     clear zz
     have zz := Rg.stable_row hX RG.out
     clear RG
     have RG := Lib.hid zz
     clear zz
     have zz := Rg.stable_row hX RJ'.out
     clear RJ'
     have RJ' := Lib.hid zz
     clear zz
     have zz := Rg.stable_row hX RM.out
     clear RM
     have RM := Lib.hid zz
     clear zz
     have hXo := hX.size
     clear hX
     have hBMw : w.heap.size ≤ wk.heap.size := by omega
     have rg5 : row? wo w5.heap.size = some (hvA l1 k1 ver1 (.slice ga d1.length gb) (.slice gc s1.length gd) (.slice ge t1.length gf) p1 f1 m1 n1) := RG.out
     have rm : row? wo wk.heap.size = some (hvA false 0 0 (.slice none 0 0) (.slice none 0 0) (.slice none 0 0) false false 0 0) := RM.out
     have mq : Mut (wk.heap.size) wo (wo.setRow (wk.heap.size) (hvA l1 k1 ver1 (.slice ra d1.length rb) (.slice rc s1.length rd_) (.slice re t1.length rf) p1 f1 m1 n1)) := (Mut.refl _ _).setRow _
     have hq1 := mq.row RG.out (by omega)
     have hq2 : row? (wo.setRow (wk.heap.size) (hvA l1 k1 ver1 (.slice ra d1.length rb) (.slice rc s1.length rd_) (.slice re t1.length rf) p1 f1 m1 n1)) (wk.heap.size) = some (hvA l1 k1 ver1 (.slice ra d1.length rb) (.slice rc s1.length rd_) (.slice re t1.length rf) p1 f1 m1 n1) := row?_setRow_eq rm
     have xb := BB.out.trans (mq.below hBMw BB.out.size)
     have U1 := Lib.hid (mq.sl G1.out (fun b off n cap e h0 => by have := HGB.out.1 b off n cap e; omega))
     have U2 := Lib.hid (mq.sl G2.out (fun b off n cap e h0 => by have := HGB.out.2.1 b off n cap e; omega))
     have U3 := Lib.hid (mq.sl G3.out (fun b off n cap e h0 => by have := HGB.out.2.2.1 b off n cap e; omega))
     have U4 := Lib.hid (mq.sl G4.out (fun b off n cap e h0 => by have := HGB.out.2.2.2 b off n cap e; omega))
     have V1 := Lib.hid (mq.sl T1.out (fun b off n cap e h0 => by have := HRB.out.1 b off n cap e; omega))
     have V2 := Lib.hid (mq.sl T2.out (fun b off n cap e h0 => by have := HRB.out.2.1 b off n cap e; omega))
     have V3 := Lib.hid (mq.sl T3.out (fun b off n cap e h0 => by have := HRB.out.2.2.1 b off n cap e; omega))
     have V4 := Lib.hid (mq.sl T4.out (fun b off n cap e h0 => by have := HRB.out.2.2.2 b off n cap e; omega))
     clear mq G1 G2 G3 G4 T1 T2 T3 T4 HGB HRB RG RM rg5
     have HQ1 := Lib.hid hq1
     have HQ2 := Lib.hid hq2
     have XB := Lib.hid xb
     clear hq1 hq2 xb
     go_wp2_with (first
      | (with_reducible refine Rw.hold_ops 95 ?_)
      |(with_reducible refine Rg.plan_pure ?_ ?_ ?_); kernel_rfl; kernel_rfl; intro _ _|(with_reducible refine Rg.plan_take ?_ ?_ ?_); kernel_rfl; kernel_rfl; intro _ _|(with_reducible refine Rg.plan_keep ?_ ?_); kernel_rfl; intro K hK|refine hK _ _ (Rg.Keep.refl _) ?_; clear hK|refine hK _ _ (Rg.Keep.of_below (by assumption)) ?_; clear hK|(with_reducible refine Rg.plan_skip ?_ ?_); kernel_rfl|(with_reducible refine Rg.plan_done ?_)|(with_reducible refine Rg.calm_normal ?_))
     refine Rw.Held.mk ?_
     clear rm
     generalize (wo.setRow (wk.heap.size) (hvA l1 k1 ver1 (.slice ra d1.length rb) (.slice rc s1.length rd_) (.slice re t1.length rf) p1 f1 m1 n1)) = WF at HQ1 HQ2 XB U1 U2 U3 U4 V1 V2 V3 V4 ⊢
     have hq1 := HQ1.out
     have hq2 := HQ2.out
     go_wp2_with fail
     refine (sameHeader_eq l1 k1 ver1 p1 f1 m1 n1 d1 s1 t1 (by have := HOL.out; have := HSL.out; omega) (by have := HOL.out; have := HSL.out; omega) (by have := HOL.out; have := HSL.out; omega) _ _ _ _ _ _ WF U1.out V1.out U2.out V2.out U3.out V3.out).mono ?_
     rintro e wG ⟨rfl, hg⟩
     have xb := XB.out.trans (hg.mono XB.out.size)
     clear hq1 hq2
     go_wp2_with fail
     have hsb := same_any T T (by have := HOL.out; have := HSL.out; omega) _ _ wG (U4.out.below hg) (V4.out.below hg)
     rw [decide_eq_true rfl] at hsb
     refine hsb.mono ?_
     rintro e wH ⟨rfl, hh⟩
     have xb2 := xb.trans (hh.mono xb.size)
     clear hsb
     go_wp2_with fail
     refine (awake_any _).mono ?_
     rintro e wI ⟨rfl, hi⟩
     go_wp2_with fail
     go_ret
     exact ⟨rfl, xb2.trans (hi.mono xb2.size)⟩
   ·intro K hK
    go_wp2_with (first
     |(with_reducible refine Rg.plan_pure ?_ ?_ ?_); kernel_rfl; kernel_rfl; intro _ _|(with_reducible refine Rg.plan_take ?_ ?_ ?_); kernel_rfl; kernel_rfl; intro _ _|(with_reducible refine Rg.plan_keep ?_ ?_); kernel_rfl; intro K hK|refine hK _ _ (Rg.Keep.refl _) ?_; clear hK|refine hK _ _ (Rg.Keep.of_below (by assumption)) ?_; clear hK|(with_reducible refine Rg.plan_skip ?_ ?_); kernel_rfl|(with_reducible refine Rg.plan_done ?_)|(with_reducible refine Rg.calm_normal ?_))
    refine hK _ _ (Rg.Keep.of_below ((Below.refl _ _).alloc (Nat.le_refl _) _)) ?_
    clear hK
    have hX0 : Below W7.heap.size W7 (W7.alloc (.cells (hvA false 0 0 (.slice none 0 0) (.slice none 0 0) (.slice none 0 0) false false 0 0) 30)).drew := ((Below.refl _ _).alloc (Nat.le_refl _) _).drew
    have hX : Below W7.drew.heap.size W7.drew (W7.alloc (.cells (hvA false 0 0 (.slice none 0 0) (.slice none 0 0) (.slice none 0 0) false false 0 0) 30)).drew := ⟨hX0.os, hX0.tape, hX0.output, hX0.size, hX0.block⟩
    have rM : row? (W7.alloc (.cells (hvA false 0 0 (.slice none 0 0) (.slice none 0 0) (.slice none 0 0) false false 0 0) 30)).drew W7.heap.size = some (hvA false 0 0 (.slice none 0 0) (.slice none 0 0) (.slice none 0 0) false false 0 0) := (row?_drew _ _).trans (row?_alloc_at _ _ _ _ rfl)
    have hXa : (W7.alloc (.cells (hvA false 0 0 (.slice none 0 0) (.slice none 0 0) (.slice none 0 0) false false 0 0) 30)).drew.heap.size = W7.heap.size + 1 := by simp
    generalize (W7.alloc (.cells (hvA false 0 0 (.slice none 0 0) (.slice none 0 0) (.slice none 0 0) false false 0 0) 30)).drew = wa at hX0 hX rM hXa ⊢
    have RM := Lib.hid rM
    clear rM hX0
    have xk := Rg.stable_row hX RK.out
    have xr := Rg.stable_row hX RH.out
    have xb := BB.out.trans (hX.mono BB.out.size)
    clear RK RH BB
    have RK := Lib.hid xk
    have RH := Lib.hid xr
    have BB := Lib.hid xb
    clear xk xr xb
    have zz := G1.out.below hX
    clear G1
    have G1 := Lib.hid zz
    clear zz
    have zz := G2.out.below hX
    clear G2
    have G2 := Lib.hid zz
    clear zz
    have zz := G3.out.below hX
    clear G3
    have G3 := Lib.hid zz
    clear zz
    have zz := G4.out.below hX
    clear G4
    have G4 := Lib.hid zz
    clear zz
    have zz := S6'.out.below hX
    clear S6'
    have S6' := Lib.hid zz
    clear zz
    have zz := Rg.stable_row hX RG.out
    clear RG
    have RG := Lib.hid zz
    clear zz
    have zz := Rg.stable_row hX RJ'.out
    clear RJ'
    have RJ' := Lib.hid zz
    clear zz
    clear hX
    go_wp2_with (first
     |(with_reducible refine Rg.plan_pure ?_ ?_ ?_); kernel_rfl; kernel_rfl; intro _ _|(with_reducible refine Rg.plan_take ?_ ?_ ?_); kernel_rfl; kernel_rfl; intro _ _|(with_reducible refine Rg.plan_keep ?_ ?_); kernel_rfl; intro K hK|refine hK _ _ (Rg.Keep.refl _) ?_; clear hK|refine hK _ _ (Rg.Keep.of_below (by assumption)) ?_; clear hK|(with_reducible refine Rg.plan_skip ?_ ?_); kernel_rfl|(with_reducible refine Rg.plan_done ?_)|(with_reducible refine Rg.calm_normal ?_))
    refine (HKY.out _).mono ?_
    rintro e wk ⟨rfl, hX⟩
    refine hK _ _ (Rg.Keep.of_below hX) ?_
    clear hK
    have xk := Rg.stable_row hX RK.out
    have xr := Rg.stable_row hX RH.out
    have xb := BB.out.trans (hX.mono BB.out.size)
    clear RK RH BB
    have RK := Lib.hid xk
    have RH := Lib.hid xr
    have BB := Lib.hid xb
    clear xk xr xb
    have zz := G1.out.below hX
    clear G1
    have G1 := Lib.hid zz
    clear zz
    have zz := G2.out.below hX
    clear G2
    have G2 := Lib.hid zz
    clear zz
    have zz := G3.out.below hX
    clear G3
    have G3 := Lib.hid zz
    clear zz
    have zz := G4.out.below hX
    clear G4
    have G4 := Lib.hid zz
    clear zz
    have zz := S6'.out.below hX
    clear S6'
    have S6' := Lib.hid zz
    clear zz
    have zz := Rg.stable_row hX RG.out
    clear RG
    have RG := Lib.hid zz
    clear zz
    have zz := Rg.stable_row hX RJ'.out
    clear RJ'
    have RJ' := Lib.hid zz
    clear zz
    have zz := Rg.stable_row hX RM.out
    clear RM
    have RM := Lib.hid zz
    clear zz
    have hXs := hX.size
    clear hX
    go_wp2_with (first
     |(with_reducible refine Rg.plan_pure ?_ ?_ ?_); kernel_rfl; kernel_rfl; intro _ _|(with_reducible refine Rg.plan_take ?_ ?_ ?_); kernel_rfl; kernel_rfl; intro _ _|(with_reducible refine Rg.plan_keep ?_ ?_); kernel_rfl; intro K hK|refine hK _ _ (Rg.Keep.refl _) ?_; clear hK|refine hK _ _ (Rg.Keep.of_below (by assumption)) ?_; clear hK|(with_reducible refine Rg.plan_skip ?_ ?_); kernel_rfl|(with_reducible refine Rg.plan_done ?_)|(with_reducible refine Rg.calm_normal ?_))
    refine (HRO.out wk S6'.out).mono ?_
    rintro e wo ⟨vr1, vr2, vr3, vr4, he, or1, or2, or3, or4, hX⟩
    simp only [] at he or1 or2 or3 or4
    subst he
    obtain ⟨ra, rb, rfl, -, -, -⟩ := id (Own.sl or1)
    obtain ⟨rc, rd_, rfl, -, -, -⟩ := id (Own.sl or2)
    obtain ⟨re, rf, rfl, -, -, -⟩ := id (Own.sl or3)
    obtain ⟨rg, rh, rfl, -, -, -⟩ := id (Own.sl or4)
    have T1 := Lib.hid (Own.sl or1)
    have T2 := Lib.hid (Own.sl or2)
    have T3 := Lib.hid (Own.sl or3)
    have T4 := Lib.hid (Own.sl or4)
    have HRB := Lib.hid (And.intro (fun b off n cap (e : Value.slice ra d1.length rb = .slice (some ⟨b, off, none⟩) n cap) => (Own.lt or1 b off n cap e).1) (And.intro (fun b off n cap (e : Value.slice rc s1.length rd_ = .slice (some ⟨b, off, none⟩) n cap) => (Own.lt or2 b off n cap e).1) (And.intro (fun b off n cap (e : Value.slice re t1.length rf = .slice (some ⟨b, off, none⟩) n cap) => (Own.lt or3 b off n cap e).1) (fun b off n cap (e : Value.slice rg T.length rh = .slice (some ⟨b, off, none⟩) n cap) => (Own.lt or4 b off n cap e).1))))
    refine hK _ _ (Rg.Keep.of_below hX) ?_
    clear hK or1 or2 or3 or4
    have xk := Rg.stable_row hX RK.out
    have xr := Rg.stable_row hX RH.out
    have xb := BB.out.trans (hX.mono BB.out.size)
    clear RK RH BB
    have RK := Lib.hid xk
    have RH := Lib.hid xr
    have BB := Lib.hid xb
    clear xk xr xb
    have zz := G1.out.below hX
    clear G1
    have G1 := Lib.hid zz
    clear zz
    have zz := G2.out.below hX
    clear G2
    have G2 := Lib.hid zz
    clear zz
    have zz := G3.out.below hX
    clear G3
    have G3 := Lib.hid zz
    clear zz
    have zz := G4.out.below hX
    clear G4
    have G4 := Lib.hid zz
    clear zz
    have zz := S6'.out.below hX
    clear S6'
    have S6' := Lib.hid zz
    clear zz
    have zz := Rg.stable_row hX RG.out
    clear RG
    have RG := Lib.hid zz
    clear zz
    have zz := Rg.stable_row hX RJ'.out
    clear RJ'
    have RJ' := Lib.hid zz
    clear zz
    have zz := Rg.stable_row hX RM.out
    clear RM
    have RM := Lib.hid zz
    clear zz
    have hXo := hX.size
    clear hX
    have hBMw : w.heap.size ≤ W7.heap.size := by omega
    have rg5 : row? wo w5.heap.size = some (hvA l1 k1 ver1 (.slice ga d1.length gb) (.slice gc s1.length gd) (.slice ge t1.length gf) p1 f1 m1 n1) := RG.out
    have rm : row? wo W7.heap.size = some (hvA false 0 0 (.slice none 0 0) (.slice none 0 0) (.slice none 0 0) false false 0 0) := RM.out
    have mq : Mut (W7.heap.size) wo (wo.setRow (W7.heap.size) (hvA l1 k1 ver1 (.slice ra d1.length rb) (.slice rc s1.length rd_) (.slice re t1.length rf) p1 f1 m1 n1)) := (Mut.refl _ _).setRow _
    have hq1 := mq.row RG.out (by omega)
    have hq2 : row? (wo.setRow (W7.heap.size) (hvA l1 k1 ver1 (.slice ra d1.length rb) (.slice rc s1.length rd_) (.slice re t1.length rf) p1 f1 m1 n1)) (W7.heap.size) = some (hvA l1 k1 ver1 (.slice ra d1.length rb) (.slice rc s1.length rd_) (.slice re t1.length rf) p1 f1 m1 n1) := row?_setRow_eq rm
    have xb := BB.out.trans (mq.below hBMw BB.out.size)
    have U1 := Lib.hid (mq.sl G1.out (fun b off n cap e h0 => by have := HGB.out.1 b off n cap e; omega))
    have U2 := Lib.hid (mq.sl G2.out (fun b off n cap e h0 => by have := HGB.out.2.1 b off n cap e; omega))
    have U3 := Lib.hid (mq.sl G3.out (fun b off n cap e h0 => by have := HGB.out.2.2.1 b off n cap e; omega))
    have U4 := Lib.hid (mq.sl G4.out (fun b off n cap e h0 => by have := HGB.out.2.2.2 b off n cap e; omega))
    have V1 := Lib.hid (mq.sl T1.out (fun b off n cap e h0 => by have := HRB.out.1 b off n cap e; omega))
    have V2 := Lib.hid (mq.sl T2.out (fun b off n cap e h0 => by have := HRB.out.2.1 b off n cap e; omega))
    have V3 := Lib.hid (mq.sl T3.out (fun b off n cap e h0 => by have := HRB.out.2.2.1 b off n cap e; omega))
    have V4 := Lib.hid (mq.sl T4.out (fun b off n cap e h0 => by have := HRB.out.2.2.2 b off n cap e; omega))
    clear mq G1 G2 G3 G4 T1 T2 T3 T4 HGB HRB RG RM rg5
    have HQ1 := Lib.hid hq1
    have HQ2 := Lib.hid hq2
    have XB := Lib.hid xb
    clear hq1 hq2 xb
    go_wp2_with (first
     | (with_reducible refine Rw.hold_ops 95 ?_)
     |(with_reducible refine Rg.plan_pure ?_ ?_ ?_); kernel_rfl; kernel_rfl; intro _ _|(with_reducible refine Rg.plan_take ?_ ?_ ?_); kernel_rfl; kernel_rfl; intro _ _|(with_reducible refine Rg.plan_keep ?_ ?_); kernel_rfl; intro K hK|refine hK _ _ (Rg.Keep.refl _) ?_; clear hK|refine hK _ _ (Rg.Keep.of_below (by assumption)) ?_; clear hK|(with_reducible refine Rg.plan_skip ?_ ?_); kernel_rfl|(with_reducible refine Rg.plan_done ?_)|(with_reducible refine Rg.calm_normal ?_))
    refine Rw.Held.mk ?_
    clear rm
    generalize (wo.setRow (W7.heap.size) (hvA l1 k1 ver1 (.slice ra d1.length rb) (.slice rc s1.length rd_) (.slice re t1.length rf) p1 f1 m1 n1)) = WF at HQ1 HQ2 XB U1 U2 U3 U4 V1 V2 V3 V4 ⊢
    have hq1 := HQ1.out
    have hq2 := HQ2.out
    go_wp2_with fail
    refine (sameHeader_eq l1 k1 ver1 p1 f1 m1 n1 d1 s1 t1 (by have := HOL.out; have := HSL.out; omega) (by have := HOL.out; have := HSL.out; omega) (by have := HOL.out; have := HSL.out; omega) _ _ _ _ _ _ WF U1.out V1.out U2.out V2.out U3.out V3.out).mono ?_
    rintro e wG ⟨rfl, hg⟩
    have xb := XB.out.trans (hg.mono XB.out.size)
    clear hq1 hq2
    go_wp2_with fail
    have hsb := same_any T T (by have := HOL.out; have := HSL.out; omega) _ _ wG (U4.out.below hg) (V4.out.below hg)
    rw [decide_eq_true rfl] at hsb
    refine hsb.mono ?_
    rintro e wH ⟨rfl, hh⟩
    have xb2 := xb.trans (hh.mono xb.size)
    clear hsb
    go_wp2_with fail
    refine (awake_any _).mono ?_
    rintro e wI ⟨rfl, hi⟩
    go_wp2_with fail
    go_ret
    exact ⟨rfl, xb2.trans (hi.mono xb2.size)⟩
  ·have hse' : (se != 0) = true := by simpa using hse
   go_wp2_with fail
   refine (awake_any _).mono ?_
   rintro e w5 ⟨rfl, b5⟩
   have hW5 : Below w.heap.size w w5 := BB.out.trans (b5.mono BB.out.size)
   go_wp2_with fail
   go_ret
   exact ⟨rfl, hW5⟩
end Go.Proofs.Ytjlpppnpdgenfaa
