/- The walk of VaultRounds. -/
import Derived.Test.YtjlpppnpdgenfaaMvbVltR
import Derived.Test.YtjlpppnpdgenfaaMvbVltTM
import Derived.Test.YtjlpppnpdgenfaaMvbLawK
import Derived.Test.YtjlpppnpdgenfaaMvb19
import Derived.Test.YtjlpppnpdgenfaaMvbLibO
import Derived.Deep.DeepCutAuto
import Derived.Deep.CutBlock
namespace Go.Proofs.Ytjlpppnpdgenfaa
open Go.RowKit Go.Rw Aes Hdr Vlt
attribute [local go_sem ↓] hvA_0 hvA_1 hvA_2 hvA_3 hvA_4 hvA_5 hvA_6 hvA_7 hvA_8 hvA_9
attribute [local go_sem ↓] ldH stH alH ldK stK alK ld16 st16 al16 ld12 st12 al12 shift_shl8 bvs_getElem?
attribute [local go_sem] rldH rstH ralH rstK ralK rld16 rst16 ral16 rld12 rst12 ral12 setRow_alloc_at setRow_alloc_past setRow_drew bvs_setn
theorem own_cellV {w : World} {B : Nat} {e : TypeId} {g n cap : Nat} {l : List UInt8} (h : w.ownsRow B e 1 (.slice (some ⟨g, 0, none⟩) n cap) n (l.map bv)) (hl : l.length = n) (k : Nat) (hk : k < n) : w.cell? ⟨g, k, none⟩ = some (.int .u8 (n8 (nth l k) : Nat)) := by
 rw [h.cellAt k (by omega)]
 simp [nth, bv, n8, show k < l.length by omega]
theorem own_litV {w : World} {B : Nat} {e : TypeId} {v : Value} {n : Nat} {xs : List Value} (h : w.ownsRow B e 1 v n xs) (h0 : 0 < n) : ∃ g cap, v = .slice (some ⟨g, 0, none⟩) n cap := by
 rcases h.2 with ⟨_, h'⟩ | ⟨g, cap, cur, rfl, _⟩
 ·omega
 ·exact ⟨g, cap, rfl⟩
set_option maxRecDepth 100000 in
set_option maxHeartbeats 8000000 in
theorem vrounds_any (key iv msk : List UInt8) (hk : key.length = 16) (hiv : iv.length = 12) (hmk : msk.length = 16) (lg : Bool) (kind : Int) (ver : Nat) (dst src tok : List UInt8) (sp ph : Bool) (u : UInt64) (nl : Int) (text : List UInt8) (at0 : Int) (by0 : UInt8) (hver : ver < 4294967296) (vd vs vt vx : Value) (w : World) (hsd : Sl w vd dst) (hss : Sl w vs src) (hst : Sl w vt tok) (hsx : Sl w vx text) :
  Calls Try.prog 4 #[.agg (bvs (ksB key iv msk)), .agg (hvA lg kind ver vd vs vt sp ph (n64 u) nl), vx, .int .i64 at0, .int .u8 (n8 by0 : Nat)] w fun e w' => e = .returned (.bool true) ∧ Below w.heap.size w w' := by
 obtain ⟨ad, cd, rfl, -, -, -⟩ := id hsd
 obtain ⟨as_, cs, rfl, -, -, -⟩ := id hss
 obtain ⟨at_, ct, rfl, -, -, -⟩ := id hst
 obtain ⟨ax, cx, rfl, -, -, -⟩ := id hsx
 have hKl := ksB_length hk hiv hmk
 have hseal := fun (hx : text.length ≤ 1000000) W (h1 : Sl W (.slice ad dst.length cd) dst) (h2 : Sl W (.slice as_ src.length cs) src) (h3 : Sl W (.slice at_ tok.length ct) tok) (h4 : Sl W (.slice ax text.length cx) text) => vseal_any key iv msk hk hiv hmk lg kind ver dst src tok sp ph u nl text hver hx _ _ _ _ W h1 h2 h3 h4
 have hsl := sealR_len key iv msk lg kind ver dst src tok sp ph u nl text
 have hbad := fun (B : List UInt8) (e : Int) => sealR_bad (key := key) (iv := iv) (msk := msk) (lg := lg) (kind := kind) (ver := ver) (dst := dst) (src := src) (tok := tok) (sp := sp) (ph := ph) (u := u) (nl := nl) (text := text) (B := B) (e := e)
 obtain ⟨L, hL⟩ : ∃ L : Nat, L = n64 u - 1 := ⟨_, rfl⟩
 obtain ⟨an, han⟩ : ∃ an : Bool, an = decide (0 < n64 u) := ⟨_, rfl⟩
 have hgood : ∀ B, sealR key iv msk lg kind ver dst src tok sp ph u nl text = (B, 0) → 4 ≤ B.length ∧ dst.length ≤ 100 ∧ src.length ≤ 100 ∧ tok.length ≤ 100 ∧ openV key iv msk B L an = (⟨lg, kind, ver, dst, src, tok, sp, ph, n64 u, nl⟩, text, 0) := by
  intro B h
  obtain ⟨n, rfl, hm, h4, h2, hB⟩ := sealR_yes h
  obtain ⟨f1, f2, f3, f4, f5, f6, -, -⟩ := may_facts hm
  have hl := (headB_length (lg := lg) (kind := kind) (ver := ver) (dst := dst) (src := src) (tok := tok) (sp := sp) (ph := ph) (num := n64 u) (nl := n) (rest := text.length + 16) f4 f5 f6 (by omega)).2
  have hf : full (n64 u % 256 ^ n) (n : Nat) L an = n64 u := by
   subst hL han
   by_cases h0 : n64 u = 0
   ·rw [h0]; exact full_first (by omega) (by omega)
   ·rw [decide_eq_true (by omega)]
    have hp : 2 ≤ 256 ^ n := Nat.le_trans (by decide) (Nat.pow_le_pow_right (n := 256) (by decide) (show 1 ≤ n by omega))
    exact full_near (by omega) (by omega) (by omega) (by omega) (by omega)
  have ho := open_sealR (z := []) h hver (fun _ => rfl) (by simp) hf
  rw [List.append_nil] at ho
  exact ⟨by rw [hB, packB_length]; omega, by omega, by omega, by omega, ho⟩
 have hop := fun (B : List UInt8) (hb : B.length ≤ 1000000) W (vb : Value) (h : Sl W vb B) => vopen_any key iv msk hk hiv hmk B hb L (by have := u.toNat_lt; have : n64 u = u.toNat := rfl; omega) an vb W h
 have hrop := fun (B : List UInt8) (hb : B.length ≤ 1000000) W (vb : Value) (h : Sl W vb B) => ropen16_any key iv msk hk hiv hmk B hb L (by have := u.toNat_lt; have : n64 u = u.toNat := rfl; omega) an vb W h
 have hol := fun (B : List UInt8) => openV_len key iv msk B L an
 have hkeys := fun W => vkeys_any key iv msk hk hiv hmk W
 generalize sealR key iv msk lg kind ver dst src tok sp ph u nl text = SR at *
 obtain ⟨S, se⟩ := SR
 simp only [] at hseal hsl hbad hgood
 have hbad' := fun h => hbad S se rfl h
 have hgood' := fun (h : se = 0) => hgood S (by rw [h])
 clear hbad hgood
 generalize openV key iv msk = OV at *
 have HSE := Lib.hid hseal
 have HSL := Lib.hid hsl
 have HBD := Lib.hid hbad'
 have HGD := Lib.hid hgood'
 have HOP := Lib.hid hop
 have HRO := Lib.hid hrop
 have HOL := Lib.hid hol
 have HKY := Lib.hid hkeys
 have HL := Lib.hid hL
 have HAN := Lib.hid han
 have SD := Lib.hid hsd
 have SS := Lib.hid hss
 have ST := Lib.hid hst
 have SX := Lib.hid hsx
 clear hseal hsl hbad' hgood' hop hrop hol hkeys hL han hsd hss hst hsx hver
 generalize ksB key iv msk = KB at *
 have HW1 := bel2 w (.cells (bvs KB) 25) (.cells (hvA lg kind ver (.slice ad dst.length cd) (.slice as_ src.length cs) (.slice at_ tok.length ct) sp ph (n64 u) nl) 30)
 have HR1 : row? ((w.alloc (.cells (bvs KB) 25)).alloc (.cells (hvA lg kind ver (.slice ad dst.length cd) (.slice as_ src.length cs) (.slice at_ tok.length ct) sp ph (n64 u) nl) 30)) (w.heap.size + 1) = some (hvA lg kind ver (.slice ad dst.length cd) (.slice as_ src.length cs) (.slice at_ tok.length ct) sp ph (n64 u) nl) := row?_alloc_at _ _ _ _ (by simp)
 have HR0 : row? ((w.alloc (.cells (bvs KB) 25)).alloc (.cells (hvA lg kind ver (.slice ad dst.length cd) (.slice as_ src.length cs) (.slice at_ tok.length ct) sp ph (n64 u) nl) 30)) w.heap.size = some (bvs KB) := by rw [row?_alloc_past _ _ _ (by simp)]; exact row?_alloc_at _ _ _ _ rfl
 have BB := Lib.hid HW1
 have RH := Lib.hid HR1
 have RK := Lib.hid HR0
 clear HW1 HR1 HR0
 go_enter Try.func4, Try.ntmps4
 go_wp2_with (with_reducible refine Rw.hold_ops 30 ?_)
 refine Rw.Held.mk ?_
 generalize ((w.alloc (.cells (bvs KB) 25)).alloc (.cells (hvA lg kind ver (.slice ad dst.length cd) (.slice as_ src.length cs) (.slice at_ tok.length ct) sp ph (n64 u) nl) 30)) = WA at BB RH RK ⊢
 have c3 : WA.cell? ⟨w.heap.size + 1, 3, none⟩ = some (.slice ad dst.length cd) := row?_cell RH.out 3
 have c4 : WA.cell? ⟨w.heap.size + 1, 4, none⟩ = some (.slice as_ src.length cs) := row?_cell RH.out 4
 have c5 : WA.cell? ⟨w.heap.size + 1, 5, none⟩ = some (.slice at_ tok.length ct) := row?_cell RH.out 5
 by_cases hbig : 150 < wrap64 (wrap64 ((dst.length : Int) + src.length) + tok.length)
 ·go_wp2_with fail
  refine (awake_any _).mono ?_
  rintro e w5 ⟨rfl, b5⟩
  have hW5 : Below w.heap.size w w5 := BB.out.trans (b5.mono BB.out.size)
  go_wp2_with fail
  go_ret
  exact ⟨rfl, hW5⟩
 ·by_cases htx : (150 : Int) < (text.length : Nat)
  ·go_wp2_with fail
   refine (awake_any _).mono ?_
   rintro e w5 ⟨rfl, b5⟩
   have hW5 : Below w.heap.size w w5 := BB.out.trans (b5.mono BB.out.size)
   go_wp2_with fail
   go_ret
   exact ⟨rfl, hW5⟩
  have HTL := Lib.hid (show text.length ≤ 150 by omega)
  go_wp2_with (with_reducible refine Rw.hold_ops 49 ?_)
  refine Rw.Held.mk ?_
  clear c3 c4 c5 hbig htx
  have rh := RH.out
  have lk : (loadAgg 25 (.pointer (some ⟨w.heap.size, 0, none⟩))).run Try.prog WA = .ok (.agg (bvs KB)) WA := rldK WA _ _ RK.out hKl
  go_wp2_with fail
  refine (HSE.out (by have := HTL.out; omega) WA (SD.out.below BB.out) (SS.out.below BB.out) (ST.out.below BB.out) (SX.out.below BB.out)).mono ?_
  rintro e w4 ⟨v4, rfl, o4, h4⟩
  obtain ⟨a4, c4, rfl, -, -, -⟩ := id (Own.sl o4)
  have S4 := Lib.hid (Own.sl o4)
  clear rh lk HSE o4
  have xk := Rg.stable_row h4 RK.out
  have xr := Rg.stable_row h4 RH.out
  have xb := BB.out.trans (h4.mono BB.out.size)
  clear RK RH BB
  have RK := Lib.hid xk
  have RH := Lib.hid xr
  have BB := Lib.hid xb
  clear xk xr xb
  clear h4
  by_cases hse : se = 0
  ·subst hse
   have HG0 := Lib.hid (HGD.out rfl)
   clear HGD HBD
   have c8 : w4.cell? ⟨w.heap.size + 1, 8, none⟩ = some (.int .u64 (n64 u : Nat)) := row?_cell RH.out 8
   have lk : (loadAgg 25 (.pointer (some ⟨w.heap.size, 0, none⟩))).run Try.prog w4 = .ok (.agg (bvs KB)) w4 := rldK w4 _ _ RK.out hKl
   have hLA : L = n64 u - 1 := HL.out
   have hAN : an = decide (0 < n64 u) := HAN.out
   by_cases h0 : n64 u = 0
   ·have hL0 : L = 0 := by omega
    have hA0 : an = false := by rw [hAN]; simp [h0]
    rw [h0] at c8
    clear hLA hAN
    go_wp2_with fail
    subst hL0 hA0
    clear h0
    clear lk c8 HL HAN
    obtain ⟨hS4, hdl, hsl_, htl, hov⟩ := id HG0.out
    have hop := HOP.out S (by have := HSL.out; omega) w4 _ S4.out
    rw [hov] at hop
    clear hov
    refine hop.mono ?_
    clear hop
    rintro e w5 ⟨vg1, vg2, vg3, vg4, he, og1, og2, og3, og4, h5⟩
    simp only [] at he og1 og2 og3 og4
    subst he
    obtain ⟨ga, gb, rfl, -, -, -⟩ := id (Own.sl og1)
    obtain ⟨gc, gd, rfl, -, -, -⟩ := id (Own.sl og2)
    obtain ⟨ge, gf, rfl, -, -, -⟩ := id (Own.sl og3)
    obtain ⟨gg, gh, rfl, -, -, -⟩ := id (Own.sl og4)
    have x5 : row? (w5.alloc (.cells (hvA lg kind ver (.slice ga dst.length gb) (.slice gc src.length gd) (.slice ge tok.length gf) sp ph (n64 u) nl) 30)) w5.heap.size = some (hvA lg kind ver (.slice ga dst.length gb) (.slice gc src.length gd) (.slice ge tok.length gf) sp ph (n64 u) nl) := row?_alloc_at _ _ _ _ rfl
    have k5 : Below w5.heap.size w5 (w5.alloc (.cells (hvA lg kind ver (.slice ga dst.length gb) (.slice gc src.length gd) (.slice ge tok.length gf) sp ph (n64 u) nl) 30)) := (Below.refl _ _).alloc (Nat.le_refl _) _
    have h65 : Below w4.heap.size w4 (w5.alloc (.cells (hvA lg kind ver (.slice ga dst.length gb) (.slice gc src.length gd) (.slice ge tok.length gf) sp ph (n64 u) nl) 30)) := h5.trans (k5.mono h5.size)
    have G1 := Lib.hid ((Own.sl og1).below k5)
    have G2 := Lib.hid ((Own.sl og2).below k5)
    have G3 := Lib.hid ((Own.sl og3).below k5)
    have G4 := Lib.hid ((Own.sl og4).below k5)
    have S7 := Lib.hid (S4.out.below h65)
    clear S4
    go_wp2_with (with_reducible refine Rw.hold_ops 78 ?_)
    refine Rw.Held.mk ?_
    generalize (w5.alloc (.cells (hvA lg kind ver (.slice ga dst.length gb) (.slice gc src.length gd) (.slice ge tok.length gf) sp ph (n64 u) nl) 30)) = W7 at x5 k5 h65 G1 G2 G3 G4 S7 ⊢
    have xk := Rg.stable_row h65 RK.out
    have xr := Rg.stable_row h65 RH.out
    have xb := BB.out.trans (h65.mono BB.out.size)
    clear RK RH BB
    have RK := Lib.hid xk
    have RH := Lib.hid xr
    have BB := Lib.hid xb
    clear xk xr xb
    clear k5 h65 h5 og1 og2 og3 og4
    have rh : (loadAgg 30 (.pointer (some ⟨w.heap.size + 1, 0, none⟩))).run Try.prog W7 = .ok (.agg (hvA lg kind ver (.slice ad dst.length cd) (.slice as_ src.length cs) (.slice at_ tok.length ct) sp ph (n64 u) nl)) W7 := by rw [rldH W7 _ (by rw [RH.out]; rfl), RH.out]; rfl
    have rg : (loadAgg 30 (.pointer (some ⟨w5.heap.size, 0, none⟩))).run Try.prog W7 = .ok (.agg (hvA lg kind ver (.slice ga dst.length gb) (.slice gc src.length gd) (.slice ge tok.length gf) sp ph (n64 u) nl)) W7 := by rw [rldH W7 _ (by rw [x5]; rfl), x5]; rfl
    go_wp2_with fail
    refine (sameHeader_eq lg kind ver sp ph (n64 u) nl dst src tok (by omega) (by omega) (by omega) _ _ _ _ _ _ W7 G1.out (SD.out.below BB.out) G2.out (SS.out.below BB.out) G3.out (ST.out.below BB.out)).mono ?_
    rintro e w8 ⟨rfl, h8⟩
    clear rh rg x5 G1 G2 G3 hdl hsl_ htl
    have xk := Rg.stable_row h8 RK.out
    have xr := Rg.stable_row h8 RH.out
    have xb := BB.out.trans (h8.mono BB.out.size)
    clear RK RH BB
    have RK := Lib.hid xk
    have RH := Lib.hid xr
    have BB := Lib.hid xb
    clear xk xr xb
    have S8 := Lib.hid (S7.out.below h8)
    have G8 := Lib.hid (G4.out.below h8)
    clear h8 S7 G4
    go_wp2_with fail
    have hsb := same_any text text (by have := HTL.out; omega) _ _ w8 G8.out (SX.out.below BB.out)
    rw [decide_eq_true rfl] at hsb
    refine hsb.mono ?_
    rintro e w9 ⟨rfl, h9⟩
    clear hsb
    have xk := Rg.stable_row h9 RK.out
    have xr := Rg.stable_row h9 RH.out
    have xb := BB.out.trans (h9.mono BB.out.size)
    clear RK RH BB
    have RK := Lib.hid xk
    have RH := Lib.hid xr
    have BB := Lib.hid xb
    clear xk xr xb
    have S9 := Lib.hid (S8.out.below h9)
    clear h9 S8 G8
    have hne : ((S.length : Nat) : Int) ≠ 0 := by omega
    go_wp2_with fail
    have hlt9 : w.heap.size + 1 < w9.heap.size := row?_lt RH.out
    refine (copied_any S (by have := HSL.out; omega) _ w9 S9.out).mono ?_
    rintro e wd ⟨vc, rfl, oc, hc⟩
    have hls := oc.lt
    obtain ⟨gc_, cc, rfl⟩ := own_litV oc (by omega)
    have hgc := hls gc_ rfl
    clear hls
    go_wp2_with fail
    have hlo := low_any at0 S.length (by omega) (by have := HSL.out; omega)
    have hll := low_lt at0 S.length (by omega)
    generalize low at0 S.length = j at hlo hll
    refine (hlo _).mono ?_
    rintro e wq ⟨rfl, rfl⟩
    clear hlo
    have xk := Rg.stable_row hc RK.out
    have xr := Rg.stable_row hc RH.out
    have xb := BB.out.trans (hc.mono BB.out.size)
    clear RK RH BB
    have RK := Lib.hid xk
    have RH := Lib.hid xr
    have BB := Lib.hid xb
    clear xk xr xb
    have OC := Lib.hid oc
    have HGC := Lib.hid hgc
    clear hc oc hgc S9
    have HL9 := Lib.hid hlt9
    clear hlt9
    go_upto_region 15 with (fail)
    obtain ⟨a0, c0, hee, hcap, -, -⟩ := id (Own.sl OC.out)
    cases hee
    have T0 := Sl.first (Own.sl OC.out) j (by omega)
    obtain ⟨⟨R1, X1, e1⟩, hR1⟩ : ∃ R, OV (S.take j) 0 false = R := ⟨_, rfl⟩
    go_cut [18, 19, 20] (fun a b c wx => c = .int .i64 e1 ∧ Below wd.heap.size wd wx)
    case first =>
     have TT0 := Lib.hid T0
     have h77 : Below wd.heap.size wd wd.drew := (Below.refl _ _).drew
     have xk := Rg.stable_row h77 RK.out
     have xr := Rg.stable_row h77 RH.out
     have xb := BB.out.trans (h77.mono BB.out.size)
     clear RK RH BB
     have RK := Lib.hid xk
     have RH := Lib.hid xr
     have BB := Lib.hid xb
     clear xk xr xb
     have zz := TT0.out.below h77
     clear TT0
     have TT0 := Lib.hid zz
     clear zz
     clear h77
     have lk : (loadAgg 25 (.pointer (some ⟨w.heap.size, 0, none⟩))).run Try.prog wd.drew = .ok (.agg (bvs KB)) wd.drew := rldK wd.drew _ _ RK.out hKl
     refine Rg.wp_region_plan (Rg.rowFork [(0, 0), (1, 3), (2, 3), (3, 3), (4, 3), (5, 3)] 6 [(7, 3), (8, 3), (9, 3), (10, 3), (11, 1)] 11 [(6, 1), (7, 3), (8, 3), (9, 3), (10, 3)] [12, 13, 14]) [12, 13, 14] (by kernel_rfl) (by kernel_rfl) ?_
     simp only [Rg.row, Rg.rowFork, Rg.PT.map, List.map_cons, List.map_nil, List.getD_cons_zero, List.getD_cons_succ]
     go_wp2_with (first
      |(with_reducible refine Rg.plan_pure ?_ ?_ ?_); kernel_rfl; kernel_rfl; intro _ _|(with_reducible refine Rg.plan_take ?_ ?_ ?_); kernel_rfl; kernel_rfl; intro _ _|(with_reducible refine Rg.plan_keep ?_ ?_); kernel_rfl; intro K hK|refine hK _ _ (Rg.Keep.refl _) ?_; clear hK|refine hK _ _ (Rg.Keep.of_below (by assumption)) ?_; clear hK|(with_reducible refine Rg.plan_skip ?_ ?_); kernel_rfl|(with_reducible refine Rg.plan_done ?_)|(with_reducible refine Rg.calm_normal ?_))
     refine Rg.plan_fork (by kernel_rfl) (by kernel_rfl) ?_ ?_
     ·intro K hK
      go_wp2_with (first
       |(with_reducible refine Rg.plan_pure ?_ ?_ ?_); kernel_rfl; kernel_rfl; intro _ _|(with_reducible refine Rg.plan_take ?_ ?_ ?_); kernel_rfl; kernel_rfl; intro _ _|(with_reducible refine Rg.plan_keep ?_ ?_); kernel_rfl; intro K hK|refine hK _ _ (Rg.Keep.refl _) ?_; clear hK|refine hK _ _ (Rg.Keep.of_below (by assumption)) ?_; clear hK|(with_reducible refine Rg.plan_skip ?_ ?_); kernel_rfl|(with_reducible refine Rg.plan_done ?_)|(with_reducible refine Rg.calm_normal ?_))
      have hop := HOP.out (S.take j) (by have := HSL.out; simp; omega) wd.drew _ TT0.out
      rw [hR1] at hop
      refine hop.mono ?_
      clear hop
      rintro e wo ⟨vr1, vr2, vr3, vr4, he, or1, or2, or3, or4, hX⟩
      simp only [] at he or1 or2 or3
      subst he
      obtain ⟨ra, rb, rfl, -, -, -⟩ := id (Own.sl or1)
      obtain ⟨rc, rd_, rfl, -, -, -⟩ := id (Own.sl or2)
      obtain ⟨re, rf, rfl, -, -, -⟩ := id (Own.sl or3)
      clear or1 or2 or3 or4
      refine hK _ _ (Rg.Keep.of_below hX) ?_
      clear hK
      have HX1 := Lib.hid hX
      have xk := Rg.stable_row hX RK.out
      have xr := Rg.stable_row hX RH.out
      have xb := BB.out.trans (hX.mono BB.out.size)
      clear RK RH BB
      have RK := Lib.hid xk
      have RH := Lib.hid xr
      have BB := Lib.hid xb
      clear xk xr xb
      clear hX
      go_wp2_with (first
       |(with_reducible refine Rg.plan_pure ?_ ?_ ?_); kernel_rfl; kernel_rfl; intro _ _|(with_reducible refine Rg.plan_take ?_ ?_ ?_); kernel_rfl; kernel_rfl; intro _ _|(with_reducible refine Rg.plan_keep ?_ ?_); kernel_rfl; intro K hK|refine hK _ _ (Rg.Keep.refl _) ?_; clear hK|refine hK _ _ (Rg.Keep.of_below (by assumption)) ?_; clear hK|(with_reducible refine Rg.plan_skip ?_ ?_); kernel_rfl|(with_reducible refine Rg.plan_done ?_)|(with_reducible refine Rg.calm_normal ?_))
      refine hK _ _ (Rg.Keep.of_below ((Below.refl _ _).alloc (Nat.le_refl _) _)) ?_
      clear hK
      have hX : Below (wo).heap.size (wo) ((wo).alloc (.cells (hvA false 0 0 (.slice none 0 0) (.slice none 0 0) (.slice none 0 0) false false 0 0) 30)) := (Below.refl _ _).alloc (Nat.le_refl _) _
      have rM : row? ((wo).alloc (.cells (hvA false 0 0 (.slice none 0 0) (.slice none 0 0) (.slice none 0 0) false false 0 0) 30)) (wo).heap.size = some (hvA false 0 0 (.slice none 0 0) (.slice none 0 0) (.slice none 0 0) false false 0 0) := row?_alloc_at _ _ _ _ rfl
      have hXa : ((wo).alloc (.cells (hvA false 0 0 (.slice none 0 0) (.slice none 0 0) (.slice none 0 0) false false 0 0) 30)).heap.size = (wo).heap.size + 1 := by simp
      generalize ((wo).alloc (.cells (hvA false 0 0 (.slice none 0 0) (.slice none 0 0) (.slice none 0 0) false false 0 0) 30)) = wa at hX rM hXa ⊢
      have RM := Lib.hid rM
      clear rM
      have xk := Rg.stable_row hX RK.out
      have xr := Rg.stable_row hX RH.out
      have xb := BB.out.trans (hX.mono BB.out.size)
      clear RK RH BB
      have RK := Lib.hid xk
      have RH := Lib.hid xr
      have BB := Lib.hid xb
      clear xk xr xb
      have HX2 := Lib.hid hX
      clear hX
      have rM := RM.out
      go_wp2_with (first
       |(with_reducible refine Rg.plan_pure ?_ ?_ ?_); kernel_rfl; kernel_rfl; intro _ _|(with_reducible refine Rg.plan_take ?_ ?_ ?_); kernel_rfl; kernel_rfl; intro _ _|(with_reducible refine Rg.plan_keep ?_ ?_); kernel_rfl; intro K hK|refine hK _ _ (Rg.Keep.refl _) ?_; clear hK|refine hK _ _ (Rg.Keep.of_below (by assumption)) ?_; clear hK|(with_reducible refine Rg.plan_skip ?_ ?_); kernel_rfl|(with_reducible refine Rg.plan_done ?_)|(with_reducible refine Rg.calm_normal ?_))
      go_meet
      have hz : Below wd.heap.size wd wa := (Below.refl _ _).drew.trans (HX1.out.trans (HX2.out.mono HX1.out.size))
      exact ⟨rfl, hz.trans (((Mut.refl _ _).setRow _).below (N := wd.heap.size) (HX1.out.size) hz.size)⟩
     ·intro K hK
      go_wp2_with (first
       |(with_reducible refine Rg.plan_pure ?_ ?_ ?_); kernel_rfl; kernel_rfl; intro _ _|(with_reducible refine Rg.plan_take ?_ ?_ ?_); kernel_rfl; kernel_rfl; intro _ _|(with_reducible refine Rg.plan_keep ?_ ?_); kernel_rfl; intro K hK|refine hK _ _ (Rg.Keep.refl _) ?_; clear hK|refine hK _ _ (Rg.Keep.of_below (by assumption)) ?_; clear hK|(with_reducible refine Rg.plan_skip ?_ ?_); kernel_rfl|(with_reducible refine Rg.plan_done ?_)|(with_reducible refine Rg.calm_normal ?_))
      refine hK _ _ (Rg.Keep.of_below ((Below.refl _ _).alloc (Nat.le_refl _) _)) ?_
      clear hK
      have hX0 : Below wd.heap.size wd (wd.alloc (.cells (hvA false 0 0 (.slice none 0 0) (.slice none 0 0) (.slice none 0 0) false false 0 0) 30)).drew := ((Below.refl _ _).alloc (Nat.le_refl _) _).drew
      have hX : Below wd.drew.heap.size wd.drew (wd.alloc (.cells (hvA false 0 0 (.slice none 0 0) (.slice none 0 0) (.slice none 0 0) false false 0 0) 30)).drew := ⟨hX0.os, hX0.tape, hX0.output, hX0.size, hX0.block⟩
      have rM : row? (wd.alloc (.cells (hvA false 0 0 (.slice none 0 0) (.slice none 0 0) (.slice none 0 0) false false 0 0) 30)).drew wd.heap.size = some (hvA false 0 0 (.slice none 0 0) (.slice none 0 0) (.slice none 0 0) false false 0 0) := (row?_drew _ _).trans (row?_alloc_at _ _ _ _ rfl)
      have hXa : (wd.alloc (.cells (hvA false 0 0 (.slice none 0 0) (.slice none 0 0) (.slice none 0 0) false false 0 0) 30)).drew.heap.size = wd.heap.size + 1 := by simp
      generalize (wd.alloc (.cells (hvA false 0 0 (.slice none 0 0) (.slice none 0 0) (.slice none 0 0) false false 0 0) 30)).drew = wa at hX0 hX rM hXa ⊢
      have RM := Lib.hid rM
      clear rM hX0
      have xk := Rg.stable_row hX RK.out
      have xr := Rg.stable_row hX RH.out
      have xb := BB.out.trans (hX.mono BB.out.size)
      clear RK RH BB
      have RK := Lib.hid xk
      have RH := Lib.hid xr
      have BB := Lib.hid xb
      clear xk xr xb
      have zz := TT0.out.below hX
      clear TT0
      have TT0 := Lib.hid zz
      clear zz
      have HX2 := Lib.hid hX
      clear hX
      go_wp2_with (first
       |(with_reducible refine Rg.plan_pure ?_ ?_ ?_); kernel_rfl; kernel_rfl; intro _ _|(with_reducible refine Rg.plan_take ?_ ?_ ?_); kernel_rfl; kernel_rfl; intro _ _|(with_reducible refine Rg.plan_keep ?_ ?_); kernel_rfl; intro K hK|refine hK _ _ (Rg.Keep.refl _) ?_; clear hK|refine hK _ _ (Rg.Keep.of_below (by assumption)) ?_; clear hK|(with_reducible refine Rg.plan_skip ?_ ?_); kernel_rfl|(with_reducible refine Rg.plan_done ?_)|(with_reducible refine Rg.calm_normal ?_))
      have hop := HOP.out (S.take j) (by have := HSL.out; simp; omega) wa _ TT0.out
      rw [hR1] at hop
      refine hop.mono ?_
      clear hop
      rintro e wo ⟨vr1, vr2, vr3, vr4, he, or1, or2, or3, or4, hX⟩
      simp only [] at he or1 or2 or3
      subst he
      obtain ⟨ra, rb, rfl, -, -, -⟩ := id (Own.sl or1)
      obtain ⟨rc, rd_, rfl, -, -, -⟩ := id (Own.sl or2)
      obtain ⟨re, rf, rfl, -, -, -⟩ := id (Own.sl or3)
      clear or1 or2 or3 or4
      refine hK _ _ (Rg.Keep.of_below hX) ?_
      clear hK
      have HX1 := Lib.hid hX
      have xk := Rg.stable_row hX RK.out
      have xr := Rg.stable_row hX RH.out
      have xb := BB.out.trans (hX.mono BB.out.size)
      clear RK RH BB
      have RK := Lib.hid xk
      have RH := Lib.hid xr
      have BB := Lib.hid xb
      clear xk xr xb
      clear hX
      have zz := Rg.stable_row HX1.out RM.out
      clear RM
      have RM := Lib.hid zz
      clear zz
      have rM := RM.out
      go_wp2_with (first
       |(with_reducible refine Rg.plan_pure ?_ ?_ ?_); kernel_rfl; kernel_rfl; intro _ _|(with_reducible refine Rg.plan_take ?_ ?_ ?_); kernel_rfl; kernel_rfl; intro _ _|(with_reducible refine Rg.plan_keep ?_ ?_); kernel_rfl; intro K hK|refine hK _ _ (Rg.Keep.refl _) ?_; clear hK|refine hK _ _ (Rg.Keep.of_below (by assumption)) ?_; clear hK|(with_reducible refine Rg.plan_skip ?_ ?_); kernel_rfl|(with_reducible refine Rg.plan_done ?_)|(with_reducible refine Rg.calm_normal ?_))
      go_meet
      have hz : Below wd.heap.size wd wo := (Below.refl _ _).drew.trans (HX2.out.trans (HX1.out.mono HX2.out.size))
      exact ⟨rfl, hz.trans (((Mut.refl _ _).setRow _).below (N := wd.heap.size) (Nat.le_refl _) hz.size)⟩
    obtain ⟨rfl, hcX⟩ := hcut
    rename World => we
    have xk := Rg.stable_row hcX RK.out
    have xr := Rg.stable_row hcX RH.out
    have xb := BB.out.trans (hcX.mono BB.out.size)
    clear RK RH BB
    have RK := Lib.hid xk
    have RH := Lib.hid xr
    have BB := Lib.hid xb
    clear xk xr xb
    have zz := own_below hcX OC.out
    clear OC T0
    have OC := Lib.hid zz
    have HZ1 := Lib.hid hcX.size
    clear zz hcX
    go_upto_region 16 with (fail)
    have T0 := Sl.first (Own.sl OC.out) j (by omega)
    go_cut [21, 22, 23] (fun a b c wx => c = .int .i64 e1 ∧ Below we.heap.size we wx)
    case first =>
     have TT0 := Lib.hid T0
     have h77 : Below we.heap.size we we.drew := (Below.refl _ _).drew
     have xk := Rg.stable_row h77 RK.out
     have xr := Rg.stable_row h77 RH.out
     have xb := BB.out.trans (h77.mono BB.out.size)
     clear RK RH BB
     have RK := Lib.hid xk
     have RH := Lib.hid xr
     have BB := Lib.hid xb
     clear xk xr xb
     have zz := TT0.out.below h77
     clear TT0
     have TT0 := Lib.hid zz
     clear zz
     clear h77
     have lk : (loadAgg 25 (.pointer (some ⟨w.heap.size, 0, none⟩))).run Try.prog we.drew = .ok (.agg (bvs KB)) we.drew := rldK we.drew _ _ RK.out hKl
     refine Rg.wp_region_plan ((.op 0 0 (.op 2 3 (.op 3 3 (.op 4 3 (.op 5 3 (.op 6 3 (.fork 1 (.fork 7 (.op 8 3 (.op 9 3 (.op 10 3 (.op 11 3 (.op 12 1 (.done [13, 14, 15])))))) 12 (.op 7 1 (.op 8 3 (.op 9 3 (.op 10 3 (.op 11 3 (.done [13, 14, 15]))))))) 12 (.op 1 1 (.op 7 1 (.op 8 3 (.op 9 3 (.op 10 3 (.op 11 3 (.done [13, 14, 15])))))))))))))) : Rg.PT Nat) [13, 14, 15] (by kernel_rfl) (by kernel_rfl) ?_
     simp only [Rg.PT.map, List.map_cons, List.map_nil, List.getD_cons_zero, List.getD_cons_succ]
     go_wp2_with (first
      |(with_reducible refine Rg.plan_pure ?_ ?_ ?_); kernel_rfl; kernel_rfl; intro _ _|(with_reducible refine Rg.plan_take ?_ ?_ ?_); kernel_rfl; kernel_rfl; intro _ _|(with_reducible refine Rg.plan_keep ?_ ?_); kernel_rfl; intro K hK|refine hK _ _ (Rg.Keep.refl _) ?_; clear hK|refine hK _ _ (Rg.Keep.of_below (by assumption)) ?_; clear hK|(with_reducible refine Rg.plan_skip ?_ ?_); kernel_rfl|(with_reducible refine Rg.plan_done ?_)|(with_reducible refine Rg.calm_normal ?_))
     refine Rg.plan_fork (by kernel_rfl) (by kernel_rfl) ?_ ?_
     ·intro K hK
      go_wp2_with (first
       |(with_reducible refine Rg.plan_pure ?_ ?_ ?_); kernel_rfl; kernel_rfl; intro _ _|(with_reducible refine Rg.plan_take ?_ ?_ ?_); kernel_rfl; kernel_rfl; intro _ _|(with_reducible refine Rg.plan_keep ?_ ?_); kernel_rfl; intro K hK|refine hK _ _ (Rg.Keep.refl _) ?_; clear hK|refine hK _ _ (Rg.Keep.of_below (by assumption)) ?_; clear hK|(with_reducible refine Rg.plan_skip ?_ ?_); kernel_rfl|(with_reducible refine Rg.plan_done ?_)|(with_reducible refine Rg.calm_normal ?_))
      refine (HKY.out _).mono ?_
      rintro e wk ⟨rfl, hX⟩
      refine hK _ _ (Rg.Keep.of_below hX) ?_
      clear hK
      have HXK := Lib.hid hX
      have xk := Rg.stable_row hX RK.out
      have xr := Rg.stable_row hX RH.out
      have xb := BB.out.trans (hX.mono BB.out.size)
      clear RK RH BB
      have RK := Lib.hid xk
      have RH := Lib.hid xr
      have BB := Lib.hid xb
      clear xk xr xb
      have zz := TT0.out.below hX
      clear TT0
      have TT0 := Lib.hid zz
      clear zz
      clear hX
      go_wp2_with (first
       |(with_reducible refine Rg.plan_pure ?_ ?_ ?_); kernel_rfl; kernel_rfl; intro _ _|(with_reducible refine Rg.plan_take ?_ ?_ ?_); kernel_rfl; kernel_rfl; intro _ _|(with_reducible refine Rg.plan_keep ?_ ?_); kernel_rfl; intro K hK|refine hK _ _ (Rg.Keep.refl _) ?_; clear hK|refine hK _ _ (Rg.Keep.of_below (by assumption)) ?_; clear hK|(with_reducible refine Rg.plan_skip ?_ ?_); kernel_rfl|(with_reducible refine Rg.plan_done ?_)|(with_reducible refine Rg.calm_normal ?_))
      refine Rg.plan_fork (by kernel_rfl) (by kernel_rfl) ?_ ?_
      ·intro K hK
       go_wp2_with (first
        |(with_reducible refine Rg.plan_pure ?_ ?_ ?_); kernel_rfl; kernel_rfl; intro _ _|(with_reducible refine Rg.plan_take ?_ ?_ ?_); kernel_rfl; kernel_rfl; intro _ _|(with_reducible refine Rg.plan_keep ?_ ?_); kernel_rfl; intro K hK|refine hK _ _ (Rg.Keep.refl _) ?_; clear hK|refine hK _ _ (Rg.Keep.of_below (by assumption)) ?_; clear hK|(with_reducible refine Rg.plan_skip ?_ ?_); kernel_rfl|(with_reducible refine Rg.plan_done ?_)|(with_reducible refine Rg.calm_normal ?_))
       have hop := HRO.out (S.take j) (by have := HSL.out; simp; omega) wk _ TT0.out
       rw [hR1] at hop
       refine hop.mono ?_
       clear hop
       rintro e wo ⟨vr1, vr2, vr3, vr4, he, or1, or2, or3, or4, hX⟩
       simp only [] at he or1 or2 or3
       subst he
       obtain ⟨ra, rb, rfl, -, -, -⟩ := id (Own.sl or1)
       obtain ⟨rc, rd_, rfl, -, -, -⟩ := id (Own.sl or2)
       obtain ⟨re, rf, rfl, -, -, -⟩ := id (Own.sl or3)
       clear or1 or2 or3 or4
       refine hK _ _ (Rg.Keep.of_below hX) ?_
       clear hK
       have HX1 := Lib.hid hX
       have xk := Rg.stable_row hX RK.out
       have xr := Rg.stable_row hX RH.out
       have xb := BB.out.trans (hX.mono BB.out.size)
       clear RK RH BB
       have RK := Lib.hid xk
       have RH := Lib.hid xr
       have BB := Lib.hid xb
       clear xk xr xb
       clear hX
       go_wp2_with (first
        |(with_reducible refine Rg.plan_pure ?_ ?_ ?_); kernel_rfl; kernel_rfl; intro _ _|(with_reducible refine Rg.plan_take ?_ ?_ ?_); kernel_rfl; kernel_rfl; intro _ _|(with_reducible refine Rg.plan_keep ?_ ?_); kernel_rfl; intro K hK|refine hK _ _ (Rg.Keep.refl _) ?_; clear hK|refine hK _ _ (Rg.Keep.of_below (by assumption)) ?_; clear hK|(with_reducible refine Rg.plan_skip ?_ ?_); kernel_rfl|(with_reducible refine Rg.plan_done ?_)|(with_reducible refine Rg.calm_normal ?_))
       refine hK _ _ (Rg.Keep.of_below ((Below.refl _ _).alloc (Nat.le_refl _) _)) ?_
       clear hK
       have hX : Below (wo).heap.size (wo) ((wo).alloc (.cells (hvA false 0 0 (.slice none 0 0) (.slice none 0 0) (.slice none 0 0) false false 0 0) 30)) := (Below.refl _ _).alloc (Nat.le_refl _) _
       have rM : row? ((wo).alloc (.cells (hvA false 0 0 (.slice none 0 0) (.slice none 0 0) (.slice none 0 0) false false 0 0) 30)) (wo).heap.size = some (hvA false 0 0 (.slice none 0 0) (.slice none 0 0) (.slice none 0 0) false false 0 0) := row?_alloc_at _ _ _ _ rfl
       have hXa : ((wo).alloc (.cells (hvA false 0 0 (.slice none 0 0) (.slice none 0 0) (.slice none 0 0) false false 0 0) 30)).heap.size = (wo).heap.size + 1 := by simp
       generalize ((wo).alloc (.cells (hvA false 0 0 (.slice none 0 0) (.slice none 0 0) (.slice none 0 0) false false 0 0) 30)) = wa at hX rM hXa ⊢
       have RM := Lib.hid rM
       clear rM
       have xk := Rg.stable_row hX RK.out
       have xr := Rg.stable_row hX RH.out
       have xb := BB.out.trans (hX.mono BB.out.size)
       clear RK RH BB
       have RK := Lib.hid xk
       have RH := Lib.hid xr
       have BB := Lib.hid xb
       clear xk xr xb
       have HX2 := Lib.hid hX
       clear hX
       have rM := RM.out
       go_wp2_with (first
        |(with_reducible refine Rg.plan_pure ?_ ?_ ?_); kernel_rfl; kernel_rfl; intro _ _|(with_reducible refine Rg.plan_take ?_ ?_ ?_); kernel_rfl; kernel_rfl; intro _ _|(with_reducible refine Rg.plan_keep ?_ ?_); kernel_rfl; intro K hK|refine hK _ _ (Rg.Keep.refl _) ?_; clear hK|refine hK _ _ (Rg.Keep.of_below (by assumption)) ?_; clear hK|(with_reducible refine Rg.plan_skip ?_ ?_); kernel_rfl|(with_reducible refine Rg.plan_done ?_)|(with_reducible refine Rg.calm_normal ?_))
       go_meet
       have hz : Below we.heap.size we wa := (Below.refl _ _).drew.trans (HXK.out.trans ((HX1.out.mono HXK.out.size).trans (HX2.out.mono (Nat.le_trans HXK.out.size HX1.out.size))))
       exact ⟨rfl, hz.trans (((Mut.refl _ _).setRow _).below (N := we.heap.size) (Nat.le_trans HXK.out.size HX1.out.size) hz.size)⟩
      ·intro K hK
       go_wp2_with (first
        |(with_reducible refine Rg.plan_pure ?_ ?_ ?_); kernel_rfl; kernel_rfl; intro _ _|(with_reducible refine Rg.plan_take ?_ ?_ ?_); kernel_rfl; kernel_rfl; intro _ _|(with_reducible refine Rg.plan_keep ?_ ?_); kernel_rfl; intro K hK|refine hK _ _ (Rg.Keep.refl _) ?_; clear hK|refine hK _ _ (Rg.Keep.of_below (by assumption)) ?_; clear hK|(with_reducible refine Rg.plan_skip ?_ ?_); kernel_rfl|(with_reducible refine Rg.plan_done ?_)|(with_reducible refine Rg.calm_normal ?_))
       refine hK _ _ (Rg.Keep.of_below ((Below.refl _ _).alloc (Nat.le_refl _) _)) ?_
       clear hK
       have hX : Below (wk).heap.size (wk) ((wk).alloc (.cells (hvA false 0 0 (.slice none 0 0) (.slice none 0 0) (.slice none 0 0) false false 0 0) 30)) := (Below.refl _ _).alloc (Nat.le_refl _) _
       have rM : row? ((wk).alloc (.cells (hvA false 0 0 (.slice none 0 0) (.slice none 0 0) (.slice none 0 0) false false 0 0) 30)) (wk).heap.size = some (hvA false 0 0 (.slice none 0 0) (.slice none 0 0) (.slice none 0 0) false false 0 0) := row?_alloc_at _ _ _ _ rfl
       have hXa : ((wk).alloc (.cells (hvA false 0 0 (.slice none 0 0) (.slice none 0 0) (.slice none 0 0) false false 0 0) 30)).heap.size = (wk).heap.size + 1 := by simp
       generalize ((wk).alloc (.cells (hvA false 0 0 (.slice none 0 0) (.slice none 0 0) (.slice none 0 0) false false 0 0) 30)) = wa at hX rM hXa ⊢
       have RM := Lib.hid rM
       clear rM
       have xk := Rg.stable_row hX RK.out
       have xr := Rg.stable_row hX RH.out
       have xb := BB.out.trans (hX.mono BB.out.size)
       clear RK RH BB
       have RK := Lib.hid xk
       have RH := Lib.hid xr
       have BB := Lib.hid xb
       clear xk xr xb
       have zz := TT0.out.below hX
       clear TT0
       have TT0 := Lib.hid zz
       clear zz
       have HX2 := Lib.hid hX
       clear hX
       go_wp2_with (first
        |(with_reducible refine Rg.plan_pure ?_ ?_ ?_); kernel_rfl; kernel_rfl; intro _ _|(with_reducible refine Rg.plan_take ?_ ?_ ?_); kernel_rfl; kernel_rfl; intro _ _|(with_reducible refine Rg.plan_keep ?_ ?_); kernel_rfl; intro K hK|refine hK _ _ (Rg.Keep.refl _) ?_; clear hK|refine hK _ _ (Rg.Keep.of_below (by assumption)) ?_; clear hK|(with_reducible refine Rg.plan_skip ?_ ?_); kernel_rfl|(with_reducible refine Rg.plan_done ?_)|(with_reducible refine Rg.calm_normal ?_))
       have hop := HRO.out (S.take j) (by have := HSL.out; simp; omega) wa _ TT0.out
       rw [hR1] at hop
       refine hop.mono ?_
       clear hop
       rintro e wo ⟨vr1, vr2, vr3, vr4, he, or1, or2, or3, or4, hX⟩
       simp only [] at he or1 or2 or3
       subst he
       obtain ⟨ra, rb, rfl, -, -, -⟩ := id (Own.sl or1)
       obtain ⟨rc, rd_, rfl, -, -, -⟩ := id (Own.sl or2)
       obtain ⟨re, rf, rfl, -, -, -⟩ := id (Own.sl or3)
       clear or1 or2 or3 or4
       refine hK _ _ (Rg.Keep.of_below hX) ?_
       clear hK
       have HX1 := Lib.hid hX
       have xk := Rg.stable_row hX RK.out
       have xr := Rg.stable_row hX RH.out
       have xb := BB.out.trans (hX.mono BB.out.size)
       clear RK RH BB
       have RK := Lib.hid xk
       have RH := Lib.hid xr
       have BB := Lib.hid xb
       clear xk xr xb
       clear hX
       have zz := Rg.stable_row HX1.out RM.out
       clear RM
       have RM := Lib.hid zz
       clear zz
       have rM := RM.out
       go_wp2_with (first
        |(with_reducible refine Rg.plan_pure ?_ ?_ ?_); kernel_rfl; kernel_rfl; intro _ _|(with_reducible refine Rg.plan_take ?_ ?_ ?_); kernel_rfl; kernel_rfl; intro _ _|(with_reducible refine Rg.plan_keep ?_ ?_); kernel_rfl; intro K hK|refine hK _ _ (Rg.Keep.refl _) ?_; clear hK|refine hK _ _ (Rg.Keep.of_below (by assumption)) ?_; clear hK|(with_reducible refine Rg.plan_skip ?_ ?_); kernel_rfl|(with_reducible refine Rg.plan_done ?_)|(with_reducible refine Rg.calm_normal ?_))
       go_meet
       have hz : Below we.heap.size we wo := (Below.refl _ _).drew.trans (HXK.out.trans ((HX2.out.mono HXK.out.size).trans (HX1.out.mono (Nat.le_trans HXK.out.size HX2.out.size))))
       exact ⟨rfl, hz.trans (((Mut.refl _ _).setRow _).below (N := we.heap.size) (HXK.out.size) hz.size)⟩
     ·intro K hK
      go_wp2_with (first
       |(with_reducible refine Rg.plan_pure ?_ ?_ ?_); kernel_rfl; kernel_rfl; intro _ _|(with_reducible refine Rg.plan_take ?_ ?_ ?_); kernel_rfl; kernel_rfl; intro _ _|(with_reducible refine Rg.plan_keep ?_ ?_); kernel_rfl; intro K hK|refine hK _ _ (Rg.Keep.refl _) ?_; clear hK|refine hK _ _ (Rg.Keep.of_below (by assumption)) ?_; clear hK|(with_reducible refine Rg.plan_skip ?_ ?_); kernel_rfl|(with_reducible refine Rg.plan_done ?_)|(with_reducible refine Rg.calm_normal ?_))
      refine hK _ _ (Rg.Keep.of_below ((Below.refl _ _).alloc (Nat.le_refl _) _)) ?_
      clear hK
      have hX0 : Below we.heap.size we (we.alloc (.cells (hvA false 0 0 (.slice none 0 0) (.slice none 0 0) (.slice none 0 0) false false 0 0) 30)).drew := ((Below.refl _ _).alloc (Nat.le_refl _) _).drew
      have hX : Below we.drew.heap.size we.drew (we.alloc (.cells (hvA false 0 0 (.slice none 0 0) (.slice none 0 0) (.slice none 0 0) false false 0 0) 30)).drew := ⟨hX0.os, hX0.tape, hX0.output, hX0.size, hX0.block⟩
      have rM : row? (we.alloc (.cells (hvA false 0 0 (.slice none 0 0) (.slice none 0 0) (.slice none 0 0) false false 0 0) 30)).drew we.heap.size = some (hvA false 0 0 (.slice none 0 0) (.slice none 0 0) (.slice none 0 0) false false 0 0) := (row?_drew _ _).trans (row?_alloc_at _ _ _ _ rfl)
      have hXa : (we.alloc (.cells (hvA false 0 0 (.slice none 0 0) (.slice none 0 0) (.slice none 0 0) false false 0 0) 30)).drew.heap.size = we.heap.size + 1 := by simp
      generalize (we.alloc (.cells (hvA false 0 0 (.slice none 0 0) (.slice none 0 0) (.slice none 0 0) false false 0 0) 30)).drew = wa at hX0 hX rM hXa ⊢
      have RM := Lib.hid rM
      clear rM hX0
      have xk := Rg.stable_row hX RK.out
      have xr := Rg.stable_row hX RH.out
      have xb := BB.out.trans (hX.mono BB.out.size)
      clear RK RH BB
      have RK := Lib.hid xk
      have RH := Lib.hid xr
      have BB := Lib.hid xb
      clear xk xr xb
      have zz := TT0.out.below hX
      clear TT0
      have TT0 := Lib.hid zz
      clear zz
      have HX2 := Lib.hid hX
      clear hX
      go_wp2_with (first
       |(with_reducible refine Rg.plan_pure ?_ ?_ ?_); kernel_rfl; kernel_rfl; intro _ _|(with_reducible refine Rg.plan_take ?_ ?_ ?_); kernel_rfl; kernel_rfl; intro _ _|(with_reducible refine Rg.plan_keep ?_ ?_); kernel_rfl; intro K hK|refine hK _ _ (Rg.Keep.refl _) ?_; clear hK|refine hK _ _ (Rg.Keep.of_below (by assumption)) ?_; clear hK|(with_reducible refine Rg.plan_skip ?_ ?_); kernel_rfl|(with_reducible refine Rg.plan_done ?_)|(with_reducible refine Rg.calm_normal ?_))
      refine (HKY.out _).mono ?_
      rintro e wk ⟨rfl, hX⟩
      refine hK _ _ (Rg.Keep.of_below hX) ?_
      clear hK
      have HXK := Lib.hid hX
      have xk := Rg.stable_row hX RK.out
      have xr := Rg.stable_row hX RH.out
      have xb := BB.out.trans (hX.mono BB.out.size)
      clear RK RH BB
      have RK := Lib.hid xk
      have RH := Lib.hid xr
      have BB := Lib.hid xb
      clear xk xr xb
      have zz := TT0.out.below hX
      clear TT0
      have TT0 := Lib.hid zz
      clear zz
      have zz := Rg.stable_row hX RM.out
      clear RM
      have RM := Lib.hid zz
      clear zz
      clear hX
      go_wp2_with (first
       |(with_reducible refine Rg.plan_pure ?_ ?_ ?_); kernel_rfl; kernel_rfl; intro _ _|(with_reducible refine Rg.plan_take ?_ ?_ ?_); kernel_rfl; kernel_rfl; intro _ _|(with_reducible refine Rg.plan_keep ?_ ?_); kernel_rfl; intro K hK|refine hK _ _ (Rg.Keep.refl _) ?_; clear hK|refine hK _ _ (Rg.Keep.of_below (by assumption)) ?_; clear hK|(with_reducible refine Rg.plan_skip ?_ ?_); kernel_rfl|(with_reducible refine Rg.plan_done ?_)|(with_reducible refine Rg.calm_normal ?_))
      have hop := HRO.out (S.take j) (by have := HSL.out; simp; omega) wk _ TT0.out
      rw [hR1] at hop
      refine hop.mono ?_
      clear hop
      rintro e wo ⟨vr1, vr2, vr3, vr4, he, or1, or2, or3, or4, hX⟩
      simp only [] at he or1 or2 or3
      subst he
      obtain ⟨ra, rb, rfl, -, -, -⟩ := id (Own.sl or1)
      obtain ⟨rc, rd_, rfl, -, -, -⟩ := id (Own.sl or2)
      obtain ⟨re, rf, rfl, -, -, -⟩ := id (Own.sl or3)
      clear or1 or2 or3 or4
      refine hK _ _ (Rg.Keep.of_below hX) ?_
      clear hK
      have HX1 := Lib.hid hX
      have xk := Rg.stable_row hX RK.out
      have xr := Rg.stable_row hX RH.out
      have xb := BB.out.trans (hX.mono BB.out.size)
      clear RK RH BB
      have RK := Lib.hid xk
      have RH := Lib.hid xr
      have BB := Lib.hid xb
      clear xk xr xb
      clear hX
      have zz := Rg.stable_row HX1.out RM.out
      clear RM
      have RM := Lib.hid zz
      clear zz
      have rM := RM.out
      go_wp2_with (first
       |(with_reducible refine Rg.plan_pure ?_ ?_ ?_); kernel_rfl; kernel_rfl; intro _ _|(with_reducible refine Rg.plan_take ?_ ?_ ?_); kernel_rfl; kernel_rfl; intro _ _|(with_reducible refine Rg.plan_keep ?_ ?_); kernel_rfl; intro K hK|refine hK _ _ (Rg.Keep.refl _) ?_; clear hK|refine hK _ _ (Rg.Keep.of_below (by assumption)) ?_; clear hK|(with_reducible refine Rg.plan_skip ?_ ?_); kernel_rfl|(with_reducible refine Rg.plan_done ?_)|(with_reducible refine Rg.calm_normal ?_))
      go_meet
      have hz : Below we.heap.size we wo := (Below.refl _ _).drew.trans (HX2.out.trans ((HXK.out.mono HX2.out.size).trans (HX1.out.mono (Nat.le_trans HX2.out.size HXK.out.size))))
      exact ⟨rfl, hz.trans (((Mut.refl _ _).setRow _).below (N := we.heap.size) (Nat.le_refl _) hz.size)⟩
    obtain ⟨rfl, hcX⟩ := hcut
    rename World => wf
    have xk := Rg.stable_row hcX RK.out
    have xr := Rg.stable_row hcX RH.out
    have xb := BB.out.trans (hcX.mono BB.out.size)
    clear RK RH BB
    have RK := Lib.hid xk
    have RH := Lib.hid xr
    have BB := Lib.hid xb
    clear xk xr xb
    have zz := own_below hcX OC.out
    clear OC T0
    have OC := Lib.hid zz
    have HZ2 := Lib.hid hcX.size
    clear zz hcX hR1
    have cj := own_cellV OC.out rfl j hll
    have fj := OC.out.frozenAt j
    have oS := own_stored OC.out j by0
    have m6 : Mut gc_ wf (wf.setCell ⟨gc_, j, none⟩ (.int .u8 (n8 by0 : Nat))) := (Mut.refl _ _).setCell _ _ _
    go_wp2_with (with_reducible refine Rw.hold_ops 131 ?_)
    refine Rw.Held.mk ?_
    generalize (wf.setCell ⟨gc_, j, none⟩ (.int .u8 (n8 by0 : Nat))) = W6 at oS m6 ⊢
    clear cj fj
    have hgl : w.heap.size + 1 < gc_ := by have := HL9.out; have := HGC.out; omega
    have xk := m6.row RK.out (by omega)
    have xr := m6.row RH.out (by omega)
    have xb := BB.out.trans (m6.below (by omega) BB.out.size)
    clear RK RH BB m6 hgl OC HGC HL9 HZ1 HZ2
    have RK := Lib.hid xk
    have RH := Lib.hid xr
    have BB := Lib.hid xb
    have S6 := Lib.hid (show Sl W6 (.slice (some ⟨gc_, 0, none⟩) S.length cc) (S.set j by0) from Own.sl (B := _) (e := 5) (by rw [List.length_set]; exact oS))
    clear xk xr xb oS
    have hol := HOL.out (S.set j by0)
    have hop := HOP.out (S.set j by0) (by rw [List.length_set]; have := HSL.out; omega) W6 _ S6.out
    have hrop := HRO.out (S.set j by0) (by rw [List.length_set]; have := HSL.out; omega)
    clear HOL HOP HRO
    generalize OV (S.set j by0) 0 false = R2 at hol hop hrop
    obtain ⟨⟨l1, k1, ver1, d1, s1, t1, p1, f1, m1, n1⟩, T, oe⟩ := R2
    simp only [List.length_set] at hol
    have HRO := Lib.hid hrop
    have HOL := Lib.hid hol
    clear hrop hol
    have lk : (loadAgg 25 (.pointer (some ⟨w.heap.size, 0, none⟩))).run Try.prog W6 = .ok (.agg (bvs KB)) W6 := rldK W6 _ _ RK.out hKl
    go_wp2_with fail
    refine hop.mono ?_
    clear hop lk
    rintro e w10 ⟨vg1, vg2, vg3, vg4, he, og1, og2, og3, og4, h5⟩
    simp only [] at he og1 og2 og3 og4
    subst he
    obtain ⟨ha, hb_, rfl, -, -, -⟩ := id (Own.sl og1)
    obtain ⟨hc, hd_, rfl, -, -, -⟩ := id (Own.sl og2)
    obtain ⟨he_, hf, rfl, -, -, -⟩ := id (Own.sl og3)
    obtain ⟨hg, hh_, rfl, -, -, -⟩ := id (Own.sl og4)
    have x5 : row? (w10.alloc (.cells (hvA l1 k1 ver1 (.slice ha d1.length hb_) (.slice hc s1.length hd_) (.slice he_ t1.length hf) p1 f1 m1 n1) 30)) w10.heap.size = some (hvA l1 k1 ver1 (.slice ha d1.length hb_) (.slice hc s1.length hd_) (.slice he_ t1.length hf) p1 f1 m1 n1) := row?_alloc_at _ _ _ _ rfl
    have k5 : Below w10.heap.size w10 (w10.alloc (.cells (hvA l1 k1 ver1 (.slice ha d1.length hb_) (.slice hc s1.length hd_) (.slice he_ t1.length hf) p1 f1 m1 n1) 30)) := (Below.refl _ _).alloc (Nat.le_refl _) _
    have h65 : Below W6.heap.size W6 (w10.alloc (.cells (hvA l1 k1 ver1 (.slice ha d1.length hb_) (.slice hc s1.length hd_) (.slice he_ t1.length hf) p1 f1 m1 n1) 30)) := h5.trans (k5.mono h5.size)
    have HGB := Lib.hid (And.intro (fun b off n cap (e : Value.slice ha d1.length hb_ = .slice (some ⟨b, off, none⟩) n cap) => (Own.lt og1 b off n cap e).2) (And.intro (fun b off n cap (e : Value.slice hc s1.length hd_ = .slice (some ⟨b, off, none⟩) n cap) => (Own.lt og2 b off n cap e).2) (And.intro (fun b off n cap (e : Value.slice he_ t1.length hf = .slice (some ⟨b, off, none⟩) n cap) => (Own.lt og3 b off n cap e).2) (fun b off n cap (e : Value.slice hg T.length hh_ = .slice (some ⟨b, off, none⟩) n cap) => (Own.lt og4 b off n cap e).2))))
    have G1 := Lib.hid ((Own.sl og1).below k5)
    have G2 := Lib.hid ((Own.sl og2).below k5)
    have G3 := Lib.hid ((Own.sl og3).below k5)
    have G4 := Lib.hid ((Own.sl og4).below k5)
    have S6' := Lib.hid (S6.out.below h65)
    clear S6
    go_upto_region 19 with (fail)
    generalize (w10.alloc (.cells (hvA l1 k1 ver1 (.slice ha d1.length hb_) (.slice hc s1.length hd_) (.slice he_ t1.length hf) p1 f1 m1 n1) 30)) = W7 at x5 k5 h65 G1 G2 G3 G4 S6' ⊢
    have xk := Rg.stable_row h65 RK.out
    have xr := Rg.stable_row h65 RH.out
    have xb := BB.out.trans (h65.mono BB.out.size)
    clear RK RH BB
    have RK := Lib.hid xk
    have RH := Lib.hid xr
    have BB := Lib.hid xb
    clear xk xr xb
    have RG := Lib.hid x5
    clear x5 k5 h65 h5 og1 og2 og3 og4
    have lk : (loadAgg 25 (.pointer (some ⟨w.heap.size, 0, none⟩))).run Try.prog W7 = .ok (.agg (bvs KB)) W7 := rldK W7 _ _ RK.out hKl
    go_wp2_with fail
    refine (HKY.out _).mono ?_
    rintro e wk ⟨rfl, hX⟩
    have xk := Rg.stable_row hX RK.out
    have xr := Rg.stable_row hX RH.out
    have xb := BB.out.trans (hX.mono BB.out.size)
    clear RK RH BB
    have RK := Lib.hid xk
    have RH := Lib.hid xr
    have BB := Lib.hid xb
    clear xk xr xb
    have zz := G1.out.below hX
    clear G1
    have G1 := Lib.hid zz
    clear zz
    have zz := G2.out.below hX
    clear G2
    have G2 := Lib.hid zz
    clear zz
    have zz := G3.out.below hX
    clear G3
    have G3 := Lib.hid zz
    clear zz
    have zz := G4.out.below hX
    clear G4
    have G4 := Lib.hid zz
    clear zz
    have zz := S6'.out.below hX
    clear S6'
    have S6' := Lib.hid zz
    clear zz
    have zz := Rg.stable_row hX RG.out
    clear RG
    have RG := Lib.hid zz
    clear zz
    clear hX lk
    go_wp2_with fail
    refine (HRO.out wk _ S6'.out).mono ?_
    rintro e wo ⟨vr1, vr2, vr3, vr4, he, or1, or2, or3, or4, hX⟩
    simp only [] at he or1 or2 or3 or4
    subst he
    obtain ⟨ra, rb, rfl, -, -, -⟩ := id (Own.sl or1)
    obtain ⟨rc, rd_, rfl, -, -, -⟩ := id (Own.sl or2)
    obtain ⟨re, rf, rfl, -, -, -⟩ := id (Own.sl or3)
    obtain ⟨rg, rh, rfl, -, -, -⟩ := id (Own.sl or4)
    have T1 := Lib.hid (Own.sl or1)
    have T2 := Lib.hid (Own.sl or2)
    have T3 := Lib.hid (Own.sl or3)
    have T4 := Lib.hid (Own.sl or4)
    have HRB := Lib.hid (And.intro (fun b off n cap (e : Value.slice ra d1.length rb = .slice (some ⟨b, off, none⟩) n cap) => (Own.lt or1 b off n cap e).2) (And.intro (fun b off n cap (e : Value.slice rc s1.length rd_ = .slice (some ⟨b, off, none⟩) n cap) => (Own.lt or2 b off n cap e).2) (And.intro (fun b off n cap (e : Value.slice re t1.length rf = .slice (some ⟨b, off, none⟩) n cap) => (Own.lt or3 b off n cap e).2) (fun b off n cap (e : Value.slice rg T.length rh = .slice (some ⟨b, off, none⟩) n cap) => (Own.lt or4 b off n cap e).2))))
    clear or1 or2 or3 or4
    have xk := Rg.stable_row hX RK.out
    have xr := Rg.stable_row hX RH.out
    have xb := BB.out.trans (hX.mono BB.out.size)
    clear RK RH BB
    have RK := Lib.hid xk
    have RH := Lib.hid xr
    have BB := Lib.hid xb
    clear xk xr xb
    have zz := G1.out.below hX
    clear G1
    have G1 := Lib.hid zz
    clear zz
    have zz := G2.out.below hX
    clear G2
    have G2 := Lib.hid zz
    clear zz
    have zz := G3.out.below hX
    clear G3
    have G3 := Lib.hid zz
    clear zz
    have zz := G4.out.below hX
    clear G4
    have G4 := Lib.hid zz
    clear zz
    have zz := S6'.out.below hX
    clear S6'
    have S6' := Lib.hid zz
    clear zz
    have zz := Rg.stable_row hX RG.out
    clear RG
    have RG := Lib.hid zz
    clear zz
    have hXo := hX.size
    clear hX
    have x6 : row? (wo.alloc (.cells (hvA l1 k1 ver1 (.slice ra d1.length rb) (.slice rc s1.length rd_) (.slice re t1.length rf) p1 f1 m1 n1) 30)) wo.heap.size = some (hvA l1 k1 ver1 (.slice ra d1.length rb) (.slice rc s1.length rd_) (.slice re t1.length rf) p1 f1 m1 n1) := row?_alloc_at _ _ _ _ rfl
    have k6 : Below wo.heap.size wo (wo.alloc (.cells (hvA l1 k1 ver1 (.slice ra d1.length rb) (.slice rc s1.length rd_) (.slice re t1.length rf) p1 f1 m1 n1) 30)) := (Below.refl _ _).alloc (Nat.le_refl _) _
    go_wp2_with (with_reducible refine Rw.hold_ops 149 ?_)
    refine Rw.Held.mk ?_
    generalize (wo.alloc (.cells (hvA l1 k1 ver1 (.slice ra d1.length rb) (.slice rc s1.length rd_) (.slice re t1.length rf) p1 f1 m1 n1) 30)) = WF at x6 k6 ⊢
    have xk := Rg.stable_row k6 RK.out
    have xr := Rg.stable_row k6 RH.out
    have xb := BB.out.trans (k6.mono BB.out.size)
    clear RK RH BB
    have RK := Lib.hid xk
    have RH := Lib.hid xr
    have BB := Lib.hid xb
    clear xk xr xb
    have zz := G1.out.below k6
    clear G1
    have G1 := Lib.hid zz
    clear zz
    have zz := G2.out.below k6
    clear G2
    have G2 := Lib.hid zz
    clear zz
    have zz := G3.out.below k6
    clear G3
    have G3 := Lib.hid zz
    clear zz
    have zz := G4.out.below k6
    clear G4
    have G4 := Lib.hid zz
    clear zz
    have zz := T1.out.below k6
    clear T1
    have T1 := Lib.hid zz
    clear zz
    have zz := T2.out.below k6
    clear T2
    have T2 := Lib.hid zz
    clear zz
    have zz := T3.out.below k6
    clear T3
    have T3 := Lib.hid zz
    clear zz
    have zz := T4.out.below k6
    clear T4
    have T4 := Lib.hid zz
    clear zz
    have zz := Rg.stable_row k6 RG.out
    clear RG
    have RG := Lib.hid zz
    clear zz
    have rg : (loadAgg 30 (.pointer (some ⟨w10.heap.size, 0, none⟩))).run Try.prog WF = .ok (.agg (hvA l1 k1 ver1 (.slice ha d1.length hb_) (.slice hc s1.length hd_) (.slice he_ t1.length hf) p1 f1 m1 n1)) WF := by rw [rldH WF _ (by rw [RG.out]; rfl), RG.out]; rfl
    have rm : (loadAgg 30 (.pointer (some ⟨wo.heap.size, 0, none⟩))).run Try.prog WF = .ok (.agg (hvA l1 k1 ver1 (.slice ra d1.length rb) (.slice rc s1.length rd_) (.slice re t1.length rf) p1 f1 m1 n1)) WF := by rw [rldH WF _ (by rw [x6]; rfl), x6]; rfl
    clear k6 x6
    go_wp2_with fail
    refine (sameHeader_eq l1 k1 ver1 p1 f1 m1 n1 d1 s1 t1 (by have := HOL.out; have := HSL.out; omega) (by have := HOL.out; have := HSL.out; omega) (by have := HOL.out; have := HSL.out; omega) _ _ _ _ _ _ WF G1.out T1.out G2.out T2.out G3.out T3.out).mono ?_
    rintro e wG ⟨rfl, hg⟩
    have xb := BB.out.trans (hg.mono BB.out.size)
    clear rg rm
    go_wp2_with fail
    have hsb := same_any T T (by have := HOL.out; have := HSL.out; omega) _ _ wG (G4.out.below hg) (T4.out.below hg)
    rw [decide_eq_true rfl] at hsb
    refine hsb.mono ?_
    rintro e wH ⟨rfl, hh⟩
    have xb2 := xb.trans (hh.mono xb.size)
    clear hsb
    go_wp2_with fail
    refine (awake_any _).mono ?_
    rintro e wI ⟨rfl, hi⟩
    go_wp2_with fail
    go_ret
    exact ⟨rfl, xb2.trans (hi.mono xb2.size)⟩
   ·have hcg : (0 : Int) < (n64 u : Nat) := by omega
    have hA0 : an = true := by rw [hAN]; simp; omega
    have hLZ : ((n64 u : Nat) : Int) - 1 = (L : Nat) := by omega
    have hu64 : n64 u < 18446744073709551616 := u.toNat_lt
    clear hLA hAN
    go_wp2_with fail
    subst hA0
    clear hcg hu64 hLZ h0
    clear lk c8 HL HAN
    obtain ⟨hS4, hdl, hsl_, htl, hov⟩ := id HG0.out
    have hop := HOP.out S (by have := HSL.out; omega) w4 _ S4.out
    rw [hov] at hop
    clear hov
    refine hop.mono ?_
    clear hop
    rintro e w5 ⟨vg1, vg2, vg3, vg4, he, og1, og2, og3, og4, h5⟩
    simp only [] at he og1 og2 og3 og4
    subst he
    obtain ⟨ga, gb, rfl, -, -, -⟩ := id (Own.sl og1)
    obtain ⟨gc, gd, rfl, -, -, -⟩ := id (Own.sl og2)
    obtain ⟨ge, gf, rfl, -, -, -⟩ := id (Own.sl og3)
    obtain ⟨gg, gh, rfl, -, -, -⟩ := id (Own.sl og4)
    have x5 : row? (w5.alloc (.cells (hvA lg kind ver (.slice ga dst.length gb) (.slice gc src.length gd) (.slice ge tok.length gf) sp ph (n64 u) nl) 30)) w5.heap.size = some (hvA lg kind ver (.slice ga dst.length gb) (.slice gc src.length gd) (.slice ge tok.length gf) sp ph (n64 u) nl) := row?_alloc_at _ _ _ _ rfl
    have k5 : Below w5.heap.size w5 (w5.alloc (.cells (hvA lg kind ver (.slice ga dst.length gb) (.slice gc src.length gd) (.slice ge tok.length gf) sp ph (n64 u) nl) 30)) := (Below.refl _ _).alloc (Nat.le_refl _) _
    have h65 : Below w4.heap.size w4 (w5.alloc (.cells (hvA lg kind ver (.slice ga dst.length gb) (.slice gc src.length gd) (.slice ge tok.length gf) sp ph (n64 u) nl) 30)) := h5.trans (k5.mono h5.size)
    have G1 := Lib.hid ((Own.sl og1).below k5)
    have G2 := Lib.hid ((Own.sl og2).below k5)
    have G3 := Lib.hid ((Own.sl og3).below k5)
    have G4 := Lib.hid ((Own.sl og4).below k5)
    have S7 := Lib.hid (S4.out.below h65)
    clear S4
    go_wp2_with (with_reducible refine Rw.hold_ops 78 ?_)
    refine Rw.Held.mk ?_
    generalize (w5.alloc (.cells (hvA lg kind ver (.slice ga dst.length gb) (.slice gc src.length gd) (.slice ge tok.length gf) sp ph (n64 u) nl) 30)) = W7 at x5 k5 h65 G1 G2 G3 G4 S7 ⊢
    have xk := Rg.stable_row h65 RK.out
    have xr := Rg.stable_row h65 RH.out
    have xb := BB.out.trans (h65.mono BB.out.size)
    clear RK RH BB
    have RK := Lib.hid xk
    have RH := Lib.hid xr
    have BB := Lib.hid xb
    clear xk xr xb
    clear k5 h65 h5 og1 og2 og3 og4
    have rh : (loadAgg 30 (.pointer (some ⟨w.heap.size + 1, 0, none⟩))).run Try.prog W7 = .ok (.agg (hvA lg kind ver (.slice ad dst.length cd) (.slice as_ src.length cs) (.slice at_ tok.length ct) sp ph (n64 u) nl)) W7 := by rw [rldH W7 _ (by rw [RH.out]; rfl), RH.out]; rfl
    have rg : (loadAgg 30 (.pointer (some ⟨w5.heap.size, 0, none⟩))).run Try.prog W7 = .ok (.agg (hvA lg kind ver (.slice ga dst.length gb) (.slice gc src.length gd) (.slice ge tok.length gf) sp ph (n64 u) nl)) W7 := by rw [rldH W7 _ (by rw [x5]; rfl), x5]; rfl
    go_wp2_with fail
    refine (sameHeader_eq lg kind ver sp ph (n64 u) nl dst src tok (by omega) (by omega) (by omega) _ _ _ _ _ _ W7 G1.out (SD.out.below BB.out) G2.out (SS.out.below BB.out) G3.out (ST.out.below BB.out)).mono ?_
    rintro e w8 ⟨rfl, h8⟩
    clear rh rg x5 G1 G2 G3 hdl hsl_ htl
    have xk := Rg.stable_row h8 RK.out
    have xr := Rg.stable_row h8 RH.out
    have xb := BB.out.trans (h8.mono BB.out.size)
    clear RK RH BB
    have RK := Lib.hid xk
    have RH := Lib.hid xr
    have BB := Lib.hid xb
    clear xk xr xb
    have S8 := Lib.hid (S7.out.below h8)
    have G8 := Lib.hid (G4.out.below h8)
    clear h8 S7 G4
    go_wp2_with fail
    have hsb := same_any text text (by have := HTL.out; omega) _ _ w8 G8.out (SX.out.below BB.out)
    rw [decide_eq_true rfl] at hsb
    refine hsb.mono ?_
    rintro e w9 ⟨rfl, h9⟩
    clear hsb
    have xk := Rg.stable_row h9 RK.out
    have xr := Rg.stable_row h9 RH.out
    have xb := BB.out.trans (h9.mono BB.out.size)
    clear RK RH BB
    have RK := Lib.hid xk
    have RH := Lib.hid xr
    have BB := Lib.hid xb
    clear xk xr xb
    have S9 := Lib.hid (S8.out.below h9)
    clear h9 S8 G8
    have hne : ((S.length : Nat) : Int) ≠ 0 := by omega
    go_wp2_with fail
    have hlt9 : w.heap.size + 1 < w9.heap.size := row?_lt RH.out
    refine (copied_any S (by have := HSL.out; omega) _ w9 S9.out).mono ?_
    rintro e wd ⟨vc, rfl, oc, hc⟩
    have hls := oc.lt
    obtain ⟨gc_, cc, rfl⟩ := own_litV oc (by omega)
    have hgc := hls gc_ rfl
    clear hls
    go_wp2_with fail
    have hlo := low_any at0 S.length (by omega) (by have := HSL.out; omega)
    have hll := low_lt at0 S.length (by omega)
    generalize low at0 S.length = j at hlo hll
    refine (hlo _).mono ?_
    rintro e wq ⟨rfl, rfl⟩
    clear hlo
    have xk := Rg.stable_row hc RK.out
    have xr := Rg.stable_row hc RH.out
    have xb := BB.out.trans (hc.mono BB.out.size)
    clear RK RH BB
    have RK := Lib.hid xk
    have RH := Lib.hid xr
    have BB := Lib.hid xb
    clear xk xr xb
    have OC := Lib.hid oc
    have HGC := Lib.hid hgc
    clear hc oc hgc S9
    have HL9 := Lib.hid hlt9
    clear hlt9
    go_upto_region 15 with (fail)
    obtain ⟨a0, c0, hee, hcap, -, -⟩ := id (Own.sl OC.out)
    cases hee
    have T0 := Sl.first (Own.sl OC.out) j (by omega)
    obtain ⟨⟨R1, X1, e1⟩, hR1⟩ : ∃ R, OV (S.take j) L true = R := ⟨_, rfl⟩
    go_cut [18, 19, 20] (fun a b c wx => c = .int .i64 e1 ∧ Below wd.heap.size wd wx)
    case first =>
     have TT0 := Lib.hid T0
     have h77 : Below wd.heap.size wd wd.drew := (Below.refl _ _).drew
     have xk := Rg.stable_row h77 RK.out
     have xr := Rg.stable_row h77 RH.out
     have xb := BB.out.trans (h77.mono BB.out.size)
     clear RK RH BB
     have RK := Lib.hid xk
     have RH := Lib.hid xr
     have BB := Lib.hid xb
     clear xk xr xb
     have zz := TT0.out.below h77
     clear TT0
     have TT0 := Lib.hid zz
     clear zz
     clear h77
     have lk : (loadAgg 25 (.pointer (some ⟨w.heap.size, 0, none⟩))).run Try.prog wd.drew = .ok (.agg (bvs KB)) wd.drew := rldK wd.drew _ _ RK.out hKl
     refine Rg.wp_region_plan (Rg.rowFork [(0, 0), (1, 3), (2, 3), (3, 3), (4, 3), (5, 3)] 6 [(7, 3), (8, 3), (9, 3), (10, 3), (11, 1)] 11 [(6, 1), (7, 3), (8, 3), (9, 3), (10, 3)] [12, 13, 14]) [12, 13, 14] (by kernel_rfl) (by kernel_rfl) ?_
     simp only [Rg.row, Rg.rowFork, Rg.PT.map, List.map_cons, List.map_nil, List.getD_cons_zero, List.getD_cons_succ]
     go_wp2_with (first
      |(with_reducible refine Rg.plan_pure ?_ ?_ ?_); kernel_rfl; kernel_rfl; intro _ _|(with_reducible refine Rg.plan_take ?_ ?_ ?_); kernel_rfl; kernel_rfl; intro _ _|(with_reducible refine Rg.plan_keep ?_ ?_); kernel_rfl; intro K hK|refine hK _ _ (Rg.Keep.refl _) ?_; clear hK|refine hK _ _ (Rg.Keep.of_below (by assumption)) ?_; clear hK|(with_reducible refine Rg.plan_skip ?_ ?_); kernel_rfl|(with_reducible refine Rg.plan_done ?_)|(with_reducible refine Rg.calm_normal ?_))
     refine Rg.plan_fork (by kernel_rfl) (by kernel_rfl) ?_ ?_
     ·intro K hK
      go_wp2_with (first
       |(with_reducible refine Rg.plan_pure ?_ ?_ ?_); kernel_rfl; kernel_rfl; intro _ _|(with_reducible refine Rg.plan_take ?_ ?_ ?_); kernel_rfl; kernel_rfl; intro _ _|(with_reducible refine Rg.plan_keep ?_ ?_); kernel_rfl; intro K hK|refine hK _ _ (Rg.Keep.refl _) ?_; clear hK|refine hK _ _ (Rg.Keep.of_below (by assumption)) ?_; clear hK|(with_reducible refine Rg.plan_skip ?_ ?_); kernel_rfl|(with_reducible refine Rg.plan_done ?_)|(with_reducible refine Rg.calm_normal ?_))
      have hop := HOP.out (S.take j) (by have := HSL.out; simp; omega) wd.drew _ TT0.out
      rw [hR1] at hop
      refine hop.mono ?_
      clear hop
      rintro e wo ⟨vr1, vr2, vr3, vr4, he, or1, or2, or3, or4, hX⟩
      simp only [] at he or1 or2 or3
      subst he
      obtain ⟨ra, rb, rfl, -, -, -⟩ := id (Own.sl or1)
      obtain ⟨rc, rd_, rfl, -, -, -⟩ := id (Own.sl or2)
      obtain ⟨re, rf, rfl, -, -, -⟩ := id (Own.sl or3)
      clear or1 or2 or3 or4
      refine hK _ _ (Rg.Keep.of_below hX) ?_
      clear hK
      have HX1 := Lib.hid hX
      have xk := Rg.stable_row hX RK.out
      have xr := Rg.stable_row hX RH.out
      have xb := BB.out.trans (hX.mono BB.out.size)
      clear RK RH BB
      have RK := Lib.hid xk
      have RH := Lib.hid xr
      have BB := Lib.hid xb
      clear xk xr xb
      clear hX
      go_wp2_with (first
       |(with_reducible refine Rg.plan_pure ?_ ?_ ?_); kernel_rfl; kernel_rfl; intro _ _|(with_reducible refine Rg.plan_take ?_ ?_ ?_); kernel_rfl; kernel_rfl; intro _ _|(with_reducible refine Rg.plan_keep ?_ ?_); kernel_rfl; intro K hK|refine hK _ _ (Rg.Keep.refl _) ?_; clear hK|refine hK _ _ (Rg.Keep.of_below (by assumption)) ?_; clear hK|(with_reducible refine Rg.plan_skip ?_ ?_); kernel_rfl|(with_reducible refine Rg.plan_done ?_)|(with_reducible refine Rg.calm_normal ?_))
      refine hK _ _ (Rg.Keep.of_below ((Below.refl _ _).alloc (Nat.le_refl _) _)) ?_
      clear hK
      have hX : Below (wo).heap.size (wo) ((wo).alloc (.cells (hvA false 0 0 (.slice none 0 0) (.slice none 0 0) (.slice none 0 0) false false 0 0) 30)) := (Below.refl _ _).alloc (Nat.le_refl _) _
      have rM : row? ((wo).alloc (.cells (hvA false 0 0 (.slice none 0 0) (.slice none 0 0) (.slice none 0 0) false false 0 0) 30)) (wo).heap.size = some (hvA false 0 0 (.slice none 0 0) (.slice none 0 0) (.slice none 0 0) false false 0 0) := row?_alloc_at _ _ _ _ rfl
      have hXa : ((wo).alloc (.cells (hvA false 0 0 (.slice none 0 0) (.slice none 0 0) (.slice none 0 0) false false 0 0) 30)).heap.size = (wo).heap.size + 1 := by simp
      generalize ((wo).alloc (.cells (hvA false 0 0 (.slice none 0 0) (.slice none 0 0) (.slice none 0 0) false false 0 0) 30)) = wa at hX rM hXa ⊢
      have RM := Lib.hid rM
      clear rM
      have xk := Rg.stable_row hX RK.out
      have xr := Rg.stable_row hX RH.out
      have xb := BB.out.trans (hX.mono BB.out.size)
      clear RK RH BB
      have RK := Lib.hid xk
      have RH := Lib.hid xr
      have BB := Lib.hid xb
      clear xk xr xb
      have HX2 := Lib.hid hX
      clear hX
      have rM := RM.out
      go_wp2_with (first
       |(with_reducible refine Rg.plan_pure ?_ ?_ ?_); kernel_rfl; kernel_rfl; intro _ _|(with_reducible refine Rg.plan_take ?_ ?_ ?_); kernel_rfl; kernel_rfl; intro _ _|(with_reducible refine Rg.plan_keep ?_ ?_); kernel_rfl; intro K hK|refine hK _ _ (Rg.Keep.refl _) ?_; clear hK|refine hK _ _ (Rg.Keep.of_below (by assumption)) ?_; clear hK|(with_reducible refine Rg.plan_skip ?_ ?_); kernel_rfl|(with_reducible refine Rg.plan_done ?_)|(with_reducible refine Rg.calm_normal ?_))
      go_meet
      have hz : Below wd.heap.size wd wa := (Below.refl _ _).drew.trans (HX1.out.trans (HX2.out.mono HX1.out.size))
      exact ⟨rfl, hz.trans (((Mut.refl _ _).setRow _).below (N := wd.heap.size) (HX1.out.size) hz.size)⟩
     ·intro K hK
      go_wp2_with (first
       |(with_reducible refine Rg.plan_pure ?_ ?_ ?_); kernel_rfl; kernel_rfl; intro _ _|(with_reducible refine Rg.plan_take ?_ ?_ ?_); kernel_rfl; kernel_rfl; intro _ _|(with_reducible refine Rg.plan_keep ?_ ?_); kernel_rfl; intro K hK|refine hK _ _ (Rg.Keep.refl _) ?_; clear hK|refine hK _ _ (Rg.Keep.of_below (by assumption)) ?_; clear hK|(with_reducible refine Rg.plan_skip ?_ ?_); kernel_rfl|(with_reducible refine Rg.plan_done ?_)|(with_reducible refine Rg.calm_normal ?_))
      refine hK _ _ (Rg.Keep.of_below ((Below.refl _ _).alloc (Nat.le_refl _) _)) ?_
      clear hK
      have hX0 : Below wd.heap.size wd (wd.alloc (.cells (hvA false 0 0 (.slice none 0 0) (.slice none 0 0) (.slice none 0 0) false false 0 0) 30)).drew := ((Below.refl _ _).alloc (Nat.le_refl _) _).drew
      have hX : Below wd.drew.heap.size wd.drew (wd.alloc (.cells (hvA false 0 0 (.slice none 0 0) (.slice none 0 0) (.slice none 0 0) false false 0 0) 30)).drew := ⟨hX0.os, hX0.tape, hX0.output, hX0.size, hX0.block⟩
      have rM : row? (wd.alloc (.cells (hvA false 0 0 (.slice none 0 0) (.slice none 0 0) (.slice none 0 0) false false 0 0) 30)).drew wd.heap.size = some (hvA false 0 0 (.slice none 0 0) (.slice none 0 0) (.slice none 0 0) false false 0 0) := (row?_drew _ _).trans (row?_alloc_at _ _ _ _ rfl)
      have hXa : (wd.alloc (.cells (hvA false 0 0 (.slice none 0 0) (.slice none 0 0) (.slice none 0 0) false false 0 0) 30)).drew.heap.size = wd.heap.size + 1 := by simp
      generalize (wd.alloc (.cells (hvA false 0 0 (.slice none 0 0) (.slice none 0 0) (.slice none 0 0) false false 0 0) 30)).drew = wa at hX0 hX rM hXa ⊢
      have RM := Lib.hid rM
      clear rM hX0
      have xk := Rg.stable_row hX RK.out
      have xr := Rg.stable_row hX RH.out
      have xb := BB.out.trans (hX.mono BB.out.size)
      clear RK RH BB
      have RK := Lib.hid xk
      have RH := Lib.hid xr
      have BB := Lib.hid xb
      clear xk xr xb
      have zz := TT0.out.below hX
      clear TT0
      have TT0 := Lib.hid zz
      clear zz
      have HX2 := Lib.hid hX
      clear hX
      go_wp2_with (first
       |(with_reducible refine Rg.plan_pure ?_ ?_ ?_); kernel_rfl; kernel_rfl; intro _ _|(with_reducible refine Rg.plan_take ?_ ?_ ?_); kernel_rfl; kernel_rfl; intro _ _|(with_reducible refine Rg.plan_keep ?_ ?_); kernel_rfl; intro K hK|refine hK _ _ (Rg.Keep.refl _) ?_; clear hK|refine hK _ _ (Rg.Keep.of_below (by assumption)) ?_; clear hK|(with_reducible refine Rg.plan_skip ?_ ?_); kernel_rfl|(with_reducible refine Rg.plan_done ?_)|(with_reducible refine Rg.calm_normal ?_))
      have hop := HOP.out (S.take j) (by have := HSL.out; simp; omega) wa _ TT0.out
      rw [hR1] at hop
      refine hop.mono ?_
      clear hop
      rintro e wo ⟨vr1, vr2, vr3, vr4, he, or1, or2, or3, or4, hX⟩
      simp only [] at he or1 or2 or3
      subst he
      obtain ⟨ra, rb, rfl, -, -, -⟩ := id (Own.sl or1)
      obtain ⟨rc, rd_, rfl, -, -, -⟩ := id (Own.sl or2)
      obtain ⟨re, rf, rfl, -, -, -⟩ := id (Own.sl or3)
      clear or1 or2 or3 or4
      refine hK _ _ (Rg.Keep.of_below hX) ?_
      clear hK
      have HX1 := Lib.hid hX
      have xk := Rg.stable_row hX RK.out
      have xr := Rg.stable_row hX RH.out
      have xb := BB.out.trans (hX.mono BB.out.size)
      clear RK RH BB
      have RK := Lib.hid xk
      have RH := Lib.hid xr
      have BB := Lib.hid xb
      clear xk xr xb
      clear hX
      have zz := Rg.stable_row HX1.out RM.out
      clear RM
      have RM := Lib.hid zz
      clear zz
      have rM := RM.out
      go_wp2_with (first
       |(with_reducible refine Rg.plan_pure ?_ ?_ ?_); kernel_rfl; kernel_rfl; intro _ _|(with_reducible refine Rg.plan_take ?_ ?_ ?_); kernel_rfl; kernel_rfl; intro _ _|(with_reducible refine Rg.plan_keep ?_ ?_); kernel_rfl; intro K hK|refine hK _ _ (Rg.Keep.refl _) ?_; clear hK|refine hK _ _ (Rg.Keep.of_below (by assumption)) ?_; clear hK|(with_reducible refine Rg.plan_skip ?_ ?_); kernel_rfl|(with_reducible refine Rg.plan_done ?_)|(with_reducible refine Rg.calm_normal ?_))
      go_meet
      have hz : Below wd.heap.size wd wo := (Below.refl _ _).drew.trans (HX2.out.trans (HX1.out.mono HX2.out.size))
      exact ⟨rfl, hz.trans (((Mut.refl _ _).setRow _).below (N := wd.heap.size) (Nat.le_refl _) hz.size)⟩
    obtain ⟨rfl, hcX⟩ := hcut
    rename World => we
    have xk := Rg.stable_row hcX RK.out
    have xr := Rg.stable_row hcX RH.out
    have xb := BB.out.trans (hcX.mono BB.out.size)
    clear RK RH BB
    have RK := Lib.hid xk
    have RH := Lib.hid xr
    have BB := Lib.hid xb
    clear xk xr xb
    have zz := own_below hcX OC.out
    clear OC T0
    have OC := Lib.hid zz
    have HZ1 := Lib.hid hcX.size
    clear zz hcX
    go_upto_region 16 with (fail)
    have T0 := Sl.first (Own.sl OC.out) j (by omega)
    go_cut [21, 22, 23] (fun a b c wx => c = .int .i64 e1 ∧ Below we.heap.size we wx)
    case first =>
     have TT0 := Lib.hid T0
     have h77 : Below we.heap.size we we.drew := (Below.refl _ _).drew
     have xk := Rg.stable_row h77 RK.out
     have xr := Rg.stable_row h77 RH.out
     have xb := BB.out.trans (h77.mono BB.out.size)
     clear RK RH BB
     have RK := Lib.hid xk
     have RH := Lib.hid xr
     have BB := Lib.hid xb
     clear xk xr xb
     have zz := TT0.out.below h77
     clear TT0
     have TT0 := Lib.hid zz
     clear zz
     clear h77
     have lk : (loadAgg 25 (.pointer (some ⟨w.heap.size, 0, none⟩))).run Try.prog we.drew = .ok (.agg (bvs KB)) we.drew := rldK we.drew _ _ RK.out hKl
     refine Rg.wp_region_plan ((.op 0 0 (.op 2 3 (.op 3 3 (.op 4 3 (.op 5 3 (.op 6 3 (.fork 1 (.fork 7 (.op 8 3 (.op 9 3 (.op 10 3 (.op 11 3 (.op 12 1 (.done [13, 14, 15])))))) 12 (.op 7 1 (.op 8 3 (.op 9 3 (.op 10 3 (.op 11 3 (.done [13, 14, 15]))))))) 12 (.op 1 1 (.op 7 1 (.op 8 3 (.op 9 3 (.op 10 3 (.op 11 3 (.done [13, 14, 15])))))))))))))) : Rg.PT Nat) [13, 14, 15] (by kernel_rfl) (by kernel_rfl) ?_
     simp only [Rg.PT.map, List.map_cons, List.map_nil, List.getD_cons_zero, List.getD_cons_succ]
     go_wp2_with (first
      |(with_reducible refine Rg.plan_pure ?_ ?_ ?_); kernel_rfl; kernel_rfl; intro _ _|(with_reducible refine Rg.plan_take ?_ ?_ ?_); kernel_rfl; kernel_rfl; intro _ _|(with_reducible refine Rg.plan_keep ?_ ?_); kernel_rfl; intro K hK|refine hK _ _ (Rg.Keep.refl _) ?_; clear hK|refine hK _ _ (Rg.Keep.of_below (by assumption)) ?_; clear hK|(with_reducible refine Rg.plan_skip ?_ ?_); kernel_rfl|(with_reducible refine Rg.plan_done ?_)|(with_reducible refine Rg.calm_normal ?_))
     refine Rg.plan_fork (by kernel_rfl) (by kernel_rfl) ?_ ?_
     ·intro K hK
      go_wp2_with (first
       |(with_reducible refine Rg.plan_pure ?_ ?_ ?_); kernel_rfl; kernel_rfl; intro _ _|(with_reducible refine Rg.plan_take ?_ ?_ ?_); kernel_rfl; kernel_rfl; intro _ _|(with_reducible refine Rg.plan_keep ?_ ?_); kernel_rfl; intro K hK|refine hK _ _ (Rg.Keep.refl _) ?_; clear hK|refine hK _ _ (Rg.Keep.of_below (by assumption)) ?_; clear hK|(with_reducible refine Rg.plan_skip ?_ ?_); kernel_rfl|(with_reducible refine Rg.plan_done ?_)|(with_reducible refine Rg.calm_normal ?_))
      refine (HKY.out _).mono ?_
      rintro e wk ⟨rfl, hX⟩
      refine hK _ _ (Rg.Keep.of_below hX) ?_
      clear hK
      have HXK := Lib.hid hX
      have xk := Rg.stable_row hX RK.out
      have xr := Rg.stable_row hX RH.out
      have xb := BB.out.trans (hX.mono BB.out.size)
      clear RK RH BB
      have RK := Lib.hid xk
      have RH := Lib.hid xr
      have BB := Lib.hid xb
      clear xk xr xb
      have zz := TT0.out.below hX
      clear TT0
      have TT0 := Lib.hid zz
      clear zz
      clear hX
      go_wp2_with (first
       |(with_reducible refine Rg.plan_pure ?_ ?_ ?_); kernel_rfl; kernel_rfl; intro _ _|(with_reducible refine Rg.plan_take ?_ ?_ ?_); kernel_rfl; kernel_rfl; intro _ _|(with_reducible refine Rg.plan_keep ?_ ?_); kernel_rfl; intro K hK|refine hK _ _ (Rg.Keep.refl _) ?_; clear hK|refine hK _ _ (Rg.Keep.of_below (by assumption)) ?_; clear hK|(with_reducible refine Rg.plan_skip ?_ ?_); kernel_rfl|(with_reducible refine Rg.plan_done ?_)|(with_reducible refine Rg.calm_normal ?_))
      refine Rg.plan_fork (by kernel_rfl) (by kernel_rfl) ?_ ?_
      ·intro K hK
       go_wp2_with (first
        |(with_reducible refine Rg.plan_pure ?_ ?_ ?_); kernel_rfl; kernel_rfl; intro _ _|(with_reducible refine Rg.plan_take ?_ ?_ ?_); kernel_rfl; kernel_rfl; intro _ _|(with_reducible refine Rg.plan_keep ?_ ?_); kernel_rfl; intro K hK|refine hK _ _ (Rg.Keep.refl _) ?_; clear hK|refine hK _ _ (Rg.Keep.of_below (by assumption)) ?_; clear hK|(with_reducible refine Rg.plan_skip ?_ ?_); kernel_rfl|(with_reducible refine Rg.plan_done ?_)|(with_reducible refine Rg.calm_normal ?_))
       have hop := HRO.out (S.take j) (by have := HSL.out; simp; omega) wk _ TT0.out
       rw [hR1] at hop
       refine hop.mono ?_
       clear hop
       rintro e wo ⟨vr1, vr2, vr3, vr4, he, or1, or2, or3, or4, hX⟩
       simp only [] at he or1 or2 or3
       subst he
       obtain ⟨ra, rb, rfl, -, -, -⟩ := id (Own.sl or1)
       obtain ⟨rc, rd_, rfl, -, -, -⟩ := id (Own.sl or2)
       obtain ⟨re, rf, rfl, -, -, -⟩ := id (Own.sl or3)
       clear or1 or2 or3 or4
       refine hK _ _ (Rg.Keep.of_below hX) ?_
       clear hK
       have HX1 := Lib.hid hX
       have xk := Rg.stable_row hX RK.out
       have xr := Rg.stable_row hX RH.out
       have xb := BB.out.trans (hX.mono BB.out.size)
       clear RK RH BB
       have RK := Lib.hid xk
       have RH := Lib.hid xr
       have BB := Lib.hid xb
       clear xk xr xb
       clear hX
       go_wp2_with (first
        |(with_reducible refine Rg.plan_pure ?_ ?_ ?_); kernel_rfl; kernel_rfl; intro _ _|(with_reducible refine Rg.plan_take ?_ ?_ ?_); kernel_rfl; kernel_rfl; intro _ _|(with_reducible refine Rg.plan_keep ?_ ?_); kernel_rfl; intro K hK|refine hK _ _ (Rg.Keep.refl _) ?_; clear hK|refine hK _ _ (Rg.Keep.of_below (by assumption)) ?_; clear hK|(with_reducible refine Rg.plan_skip ?_ ?_); kernel_rfl|(with_reducible refine Rg.plan_done ?_)|(with_reducible refine Rg.calm_normal ?_))
       refine hK _ _ (Rg.Keep.of_below ((Below.refl _ _).alloc (Nat.le_refl _) _)) ?_
       clear hK
       have hX : Below (wo).heap.size (wo) ((wo).alloc (.cells (hvA false 0 0 (.slice none 0 0) (.slice none 0 0) (.slice none 0 0) false false 0 0) 30)) := (Below.refl _ _).alloc (Nat.le_refl _) _
       have rM : row? ((wo).alloc (.cells (hvA false 0 0 (.slice none 0 0) (.slice none 0 0) (.slice none 0 0) false false 0 0) 30)) (wo).heap.size = some (hvA false 0 0 (.slice none 0 0) (.slice none 0 0) (.slice none 0 0) false false 0 0) := row?_alloc_at _ _ _ _ rfl
       have hXa : ((wo).alloc (.cells (hvA false 0 0 (.slice none 0 0) (.slice none 0 0) (.slice none 0 0) false false 0 0) 30)).heap.size = (wo).heap.size + 1 := by simp
       generalize ((wo).alloc (.cells (hvA false 0 0 (.slice none 0 0) (.slice none 0 0) (.slice none 0 0) false false 0 0) 30)) = wa at hX rM hXa ⊢
       have RM := Lib.hid rM
       clear rM
       have xk := Rg.stable_row hX RK.out
       have xr := Rg.stable_row hX RH.out
       have xb := BB.out.trans (hX.mono BB.out.size)
       clear RK RH BB
       have RK := Lib.hid xk
       have RH := Lib.hid xr
       have BB := Lib.hid xb
       clear xk xr xb
       have HX2 := Lib.hid hX
       clear hX
       have rM := RM.out
       go_wp2_with (first
        |(with_reducible refine Rg.plan_pure ?_ ?_ ?_); kernel_rfl; kernel_rfl; intro _ _|(with_reducible refine Rg.plan_take ?_ ?_ ?_); kernel_rfl; kernel_rfl; intro _ _|(with_reducible refine Rg.plan_keep ?_ ?_); kernel_rfl; intro K hK|refine hK _ _ (Rg.Keep.refl _) ?_; clear hK|refine hK _ _ (Rg.Keep.of_below (by assumption)) ?_; clear hK|(with_reducible refine Rg.plan_skip ?_ ?_); kernel_rfl|(with_reducible refine Rg.plan_done ?_)|(with_reducible refine Rg.calm_normal ?_))
       go_meet
       have hz : Below we.heap.size we wa := (Below.refl _ _).drew.trans (HXK.out.trans ((HX1.out.mono HXK.out.size).trans (HX2.out.mono (Nat.le_trans HXK.out.size HX1.out.size))))
       exact ⟨rfl, hz.trans (((Mut.refl _ _).setRow _).below (N := we.heap.size) (Nat.le_trans HXK.out.size HX1.out.size) hz.size)⟩
      ·intro K hK
       go_wp2_with (first
        |(with_reducible refine Rg.plan_pure ?_ ?_ ?_); kernel_rfl; kernel_rfl; intro _ _|(with_reducible refine Rg.plan_take ?_ ?_ ?_); kernel_rfl; kernel_rfl; intro _ _|(with_reducible refine Rg.plan_keep ?_ ?_); kernel_rfl; intro K hK|refine hK _ _ (Rg.Keep.refl _) ?_; clear hK|refine hK _ _ (Rg.Keep.of_below (by assumption)) ?_; clear hK|(with_reducible refine Rg.plan_skip ?_ ?_); kernel_rfl|(with_reducible refine Rg.plan_done ?_)|(with_reducible refine Rg.calm_normal ?_))
       refine hK _ _ (Rg.Keep.of_below ((Below.refl _ _).alloc (Nat.le_refl _) _)) ?_
       clear hK
       have hX : Below (wk).heap.size (wk) ((wk).alloc (.cells (hvA false 0 0 (.slice none 0 0) (.slice none 0 0) (.slice none 0 0) false false 0 0) 30)) := (Below.refl _ _).alloc (Nat.le_refl _) _
       have rM : row? ((wk).alloc (.cells (hvA false 0 0 (.slice none 0 0) (.slice none 0 0) (.slice none 0 0) false false 0 0) 30)) (wk).heap.size = some (hvA false 0 0 (.slice none 0 0) (.slice none 0 0) (.slice none 0 0) false false 0 0) := row?_alloc_at _ _ _ _ rfl
       have hXa : ((wk).alloc (.cells (hvA false 0 0 (.slice none 0 0) (.slice none 0 0) (.slice none 0 0) false false 0 0) 30)).heap.size = (wk).heap.size + 1 := by simp
       generalize ((wk).alloc (.cells (hvA false 0 0 (.slice none 0 0) (.slice none 0 0) (.slice none 0 0) false false 0 0) 30)) = wa at hX rM hXa ⊢
       have RM := Lib.hid rM
       clear rM
       have xk := Rg.stable_row hX RK.out
       have xr := Rg.stable_row hX RH.out
       have xb := BB.out.trans (hX.mono BB.out.size)
       clear RK RH BB
       have RK := Lib.hid xk
       have RH := Lib.hid xr
       have BB := Lib.hid xb
       clear xk xr xb
       have zz := TT0.out.below hX
       clear TT0
       have TT0 := Lib.hid zz
       clear zz
       have HX2 := Lib.hid hX
       clear hX
       go_wp2_with (first
        |(with_reducible refine Rg.plan_pure ?_ ?_ ?_); kernel_rfl; kernel_rfl; intro _ _|(with_reducible refine Rg.plan_take ?_ ?_ ?_); kernel_rfl; kernel_rfl; intro _ _|(with_reducible refine Rg.plan_keep ?_ ?_); kernel_rfl; intro K hK|refine hK _ _ (Rg.Keep.refl _) ?_; clear hK|refine hK _ _ (Rg.Keep.of_below (by assumption)) ?_; clear hK|(with_reducible refine Rg.plan_skip ?_ ?_); kernel_rfl|(with_reducible refine Rg.plan_done ?_)|(with_reducible refine Rg.calm_normal ?_))
       have hop := HRO.out (S.take j) (by have := HSL.out; simp; omega) wa _ TT0.out
       rw [hR1] at hop
       refine hop.mono ?_
       clear hop
       rintro e wo ⟨vr1, vr2, vr3, vr4, he, or1, or2, or3, or4, hX⟩
       simp only [] at he or1 or2 or3
       subst he
       obtain ⟨ra, rb, rfl, -, -, -⟩ := id (Own.sl or1)
       obtain ⟨rc, rd_, rfl, -, -, -⟩ := id (Own.sl or2)
       obtain ⟨re, rf, rfl, -, -, -⟩ := id (Own.sl or3)
       clear or1 or2 or3 or4
       refine hK _ _ (Rg.Keep.of_below hX) ?_
       clear hK
       have HX1 := Lib.hid hX
       have xk := Rg.stable_row hX RK.out
       have xr := Rg.stable_row hX RH.out
       have xb := BB.out.trans (hX.mono BB.out.size)
       clear RK RH BB
       have RK := Lib.hid xk
       have RH := Lib.hid xr
       have BB := Lib.hid xb
       clear xk xr xb
       clear hX
       have zz := Rg.stable_row HX1.out RM.out
       clear RM
       have RM := Lib.hid zz
       clear zz
       have rM := RM.out
       go_wp2_with (first
        |(with_reducible refine Rg.plan_pure ?_ ?_ ?_); kernel_rfl; kernel_rfl; intro _ _|(with_reducible refine Rg.plan_take ?_ ?_ ?_); kernel_rfl; kernel_rfl; intro _ _|(with_reducible refine Rg.plan_keep ?_ ?_); kernel_rfl; intro K hK|refine hK _ _ (Rg.Keep.refl _) ?_; clear hK|refine hK _ _ (Rg.Keep.of_below (by assumption)) ?_; clear hK|(with_reducible refine Rg.plan_skip ?_ ?_); kernel_rfl|(with_reducible refine Rg.plan_done ?_)|(with_reducible refine Rg.calm_normal ?_))
       go_meet
       have hz : Below we.heap.size we wo := (Below.refl _ _).drew.trans (HXK.out.trans ((HX2.out.mono HXK.out.size).trans (HX1.out.mono (Nat.le_trans HXK.out.size HX2.out.size))))
       exact ⟨rfl, hz.trans (((Mut.refl _ _).setRow _).below (N := we.heap.size) (HXK.out.size) hz.size)⟩
     ·intro K hK
      go_wp2_with (first
       |(with_reducible refine Rg.plan_pure ?_ ?_ ?_); kernel_rfl; kernel_rfl; intro _ _|(with_reducible refine Rg.plan_take ?_ ?_ ?_); kernel_rfl; kernel_rfl; intro _ _|(with_reducible refine Rg.plan_keep ?_ ?_); kernel_rfl; intro K hK|refine hK _ _ (Rg.Keep.refl _) ?_; clear hK|refine hK _ _ (Rg.Keep.of_below (by assumption)) ?_; clear hK|(with_reducible refine Rg.plan_skip ?_ ?_); kernel_rfl|(with_reducible refine Rg.plan_done ?_)|(with_reducible refine Rg.calm_normal ?_))
      refine hK _ _ (Rg.Keep.of_below ((Below.refl _ _).alloc (Nat.le_refl _) _)) ?_
      clear hK
      have hX0 : Below we.heap.size we (we.alloc (.cells (hvA false 0 0 (.slice none 0 0) (.slice none 0 0) (.slice none 0 0) false false 0 0) 30)).drew := ((Below.refl _ _).alloc (Nat.le_refl _) _).drew
      have hX : Below we.drew.heap.size we.drew (we.alloc (.cells (hvA false 0 0 (.slice none 0 0) (.slice none 0 0) (.slice none 0 0) false false 0 0) 30)).drew := ⟨hX0.os, hX0.tape, hX0.output, hX0.size, hX0.block⟩
      have rM : row? (we.alloc (.cells (hvA false 0 0 (.slice none 0 0) (.slice none 0 0) (.slice none 0 0) false false 0 0) 30)).drew we.heap.size = some (hvA false 0 0 (.slice none 0 0) (.slice none 0 0) (.slice none 0 0) false false 0 0) := (row?_drew _ _).trans (row?_alloc_at _ _ _ _ rfl)
      have hXa : (we.alloc (.cells (hvA false 0 0 (.slice none 0 0) (.slice none 0 0) (.slice none 0 0) false false 0 0) 30)).drew.heap.size = we.heap.size + 1 := by simp
      generalize (we.alloc (.cells (hvA false 0 0 (.slice none 0 0) (.slice none 0 0) (.slice none 0 0) false false 0 0) 30)).drew = wa at hX0 hX rM hXa ⊢
      have RM := Lib.hid rM
      clear rM hX0
      have xk := Rg.stable_row hX RK.out
      have xr := Rg.stable_row hX RH.out
      have xb := BB.out.trans (hX.mono BB.out.size)
      clear RK RH BB
      have RK := Lib.hid xk
      have RH := Lib.hid xr
      have BB := Lib.hid xb
      clear xk xr xb
      have zz := TT0.out.below hX
      clear TT0
      have TT0 := Lib.hid zz
      clear zz
      have HX2 := Lib.hid hX
      clear hX
      go_wp2_with (first
       |(with_reducible refine Rg.plan_pure ?_ ?_ ?_); kernel_rfl; kernel_rfl; intro _ _|(with_reducible refine Rg.plan_take ?_ ?_ ?_); kernel_rfl; kernel_rfl; intro _ _|(with_reducible refine Rg.plan_keep ?_ ?_); kernel_rfl; intro K hK|refine hK _ _ (Rg.Keep.refl _) ?_; clear hK|refine hK _ _ (Rg.Keep.of_below (by assumption)) ?_; clear hK|(with_reducible refine Rg.plan_skip ?_ ?_); kernel_rfl|(with_reducible refine Rg.plan_done ?_)|(with_reducible refine Rg.calm_normal ?_))
      refine (HKY.out _).mono ?_
      rintro e wk ⟨rfl, hX⟩
      refine hK _ _ (Rg.Keep.of_below hX) ?_
      clear hK
      have HXK := Lib.hid hX
      have xk := Rg.stable_row hX RK.out
      have xr := Rg.stable_row hX RH.out
      have xb := BB.out.trans (hX.mono BB.out.size)
      clear RK RH BB
      have RK := Lib.hid xk
      have RH := Lib.hid xr
      have BB := Lib.hid xb
      clear xk xr xb
      have zz := TT0.out.below hX
      clear TT0
      have TT0 := Lib.hid zz
      clear zz
      have zz := Rg.stable_row hX RM.out
      clear RM
      have RM := Lib.hid zz
      clear zz
      clear hX
      go_wp2_with (first
       |(with_reducible refine Rg.plan_pure ?_ ?_ ?_); kernel_rfl; kernel_rfl; intro _ _|(with_reducible refine Rg.plan_take ?_ ?_ ?_); kernel_rfl; kernel_rfl; intro _ _|(with_reducible refine Rg.plan_keep ?_ ?_); kernel_rfl; intro K hK|refine hK _ _ (Rg.Keep.refl _) ?_; clear hK|refine hK _ _ (Rg.Keep.of_below (by assumption)) ?_; clear hK|(with_reducible refine Rg.plan_skip ?_ ?_); kernel_rfl|(with_reducible refine Rg.plan_done ?_)|(with_reducible refine Rg.calm_normal ?_))
      have hop := HRO.out (S.take j) (by have := HSL.out; simp; omega) wk _ TT0.out
      rw [hR1] at hop
      refine hop.mono ?_
      clear hop
      rintro e wo ⟨vr1, vr2, vr3, vr4, he, or1, or2, or3, or4, hX⟩
      simp only [] at he or1 or2 or3
      subst he
      obtain ⟨ra, rb, rfl, -, -, -⟩ := id (Own.sl or1)
      obtain ⟨rc, rd_, rfl, -, -, -⟩ := id (Own.sl or2)
      obtain ⟨re, rf, rfl, -, -, -⟩ := id (Own.sl or3)
      clear or1 or2 or3 or4
      refine hK _ _ (Rg.Keep.of_below hX) ?_
      clear hK
      have HX1 := Lib.hid hX
      have xk := Rg.stable_row hX RK.out
      have xr := Rg.stable_row hX RH.out
      have xb := BB.out.trans (hX.mono BB.out.size)
      clear RK RH BB
      have RK := Lib.hid xk
      have RH := Lib.hid xr
      have BB := Lib.hid xb
      clear xk xr xb
      clear hX
      have zz := Rg.stable_row HX1.out RM.out
      clear RM
      have RM := Lib.hid zz
      clear zz
      have rM := RM.out
      go_wp2_with (first
       |(with_reducible refine Rg.plan_pure ?_ ?_ ?_); kernel_rfl; kernel_rfl; intro _ _|(with_reducible refine Rg.plan_take ?_ ?_ ?_); kernel_rfl; kernel_rfl; intro _ _|(with_reducible refine Rg.plan_keep ?_ ?_); kernel_rfl; intro K hK|refine hK _ _ (Rg.Keep.refl _) ?_; clear hK|refine hK _ _ (Rg.Keep.of_below (by assumption)) ?_; clear hK|(with_reducible refine Rg.plan_skip ?_ ?_); kernel_rfl|(with_reducible refine Rg.plan_done ?_)|(with_reducible refine Rg.calm_normal ?_))
      go_meet
      have hz : Below we.heap.size we wo := (Below.refl _ _).drew.trans (HX2.out.trans ((HXK.out.mono HX2.out.size).trans (HX1.out.mono (Nat.le_trans HX2.out.size HXK.out.size))))
      exact ⟨rfl, hz.trans (((Mut.refl _ _).setRow _).below (N := we.heap.size) (Nat.le_refl _) hz.size)⟩
    obtain ⟨rfl, hcX⟩ := hcut
    rename World => wf
    have xk := Rg.stable_row hcX RK.out
    have xr := Rg.stable_row hcX RH.out
    have xb := BB.out.trans (hcX.mono BB.out.size)
    clear RK RH BB
    have RK := Lib.hid xk
    have RH := Lib.hid xr
    have BB := Lib.hid xb
    clear xk xr xb
    have zz := own_below hcX OC.out
    clear OC T0
    have OC := Lib.hid zz
    have HZ2 := Lib.hid hcX.size
    clear zz hcX hR1
    have cj := own_cellV OC.out rfl j hll
    have fj := OC.out.frozenAt j
    have oS := own_stored OC.out j by0
    have m6 : Mut gc_ wf (wf.setCell ⟨gc_, j, none⟩ (.int .u8 (n8 by0 : Nat))) := (Mut.refl _ _).setCell _ _ _
    go_wp2_with (with_reducible refine Rw.hold_ops 131 ?_)
    refine Rw.Held.mk ?_
    generalize (wf.setCell ⟨gc_, j, none⟩ (.int .u8 (n8 by0 : Nat))) = W6 at oS m6 ⊢
    clear cj fj
    have hgl : w.heap.size + 1 < gc_ := by have := HL9.out; have := HGC.out; omega
    have xk := m6.row RK.out (by omega)
    have xr := m6.row RH.out (by omega)
    have xb := BB.out.trans (m6.below (by omega) BB.out.size)
    clear RK RH BB m6 hgl OC HGC HL9 HZ1 HZ2
    have RK := Lib.hid xk
    have RH := Lib.hid xr
    have BB := Lib.hid xb
    have S6 := Lib.hid (show Sl W6 (.slice (some ⟨gc_, 0, none⟩) S.length cc) (S.set j by0) from Own.sl (B := _) (e := 5) (by rw [List.length_set]; exact oS))
    clear xk xr xb oS
    have hol := HOL.out (S.set j by0)
    have hop := HOP.out (S.set j by0) (by rw [List.length_set]; have := HSL.out; omega) W6 _ S6.out
    have hrop := HRO.out (S.set j by0) (by rw [List.length_set]; have := HSL.out; omega)
    clear HOL HOP HRO
    generalize OV (S.set j by0) L true = R2 at hol hop hrop
    obtain ⟨⟨l1, k1, ver1, d1, s1, t1, p1, f1, m1, n1⟩, T, oe⟩ := R2
    simp only [List.length_set] at hol
    have HRO := Lib.hid hrop
    have HOL := Lib.hid hol
    clear hrop hol
    have lk : (loadAgg 25 (.pointer (some ⟨w.heap.size, 0, none⟩))).run Try.prog W6 = .ok (.agg (bvs KB)) W6 := rldK W6 _ _ RK.out hKl
    go_wp2_with fail
    refine hop.mono ?_
    clear hop lk
    rintro e w10 ⟨vg1, vg2, vg3, vg4, he, og1, og2, og3, og4, h5⟩
    simp only [] at he og1 og2 og3 og4
    subst he
    obtain ⟨ha, hb_, rfl, -, -, -⟩ := id (Own.sl og1)
    obtain ⟨hc, hd_, rfl, -, -, -⟩ := id (Own.sl og2)
    obtain ⟨he_, hf, rfl, -, -, -⟩ := id (Own.sl og3)
    obtain ⟨hg, hh_, rfl, -, -, -⟩ := id (Own.sl og4)
    have x5 : row? (w10.alloc (.cells (hvA l1 k1 ver1 (.slice ha d1.length hb_) (.slice hc s1.length hd_) (.slice he_ t1.length hf) p1 f1 m1 n1) 30)) w10.heap.size = some (hvA l1 k1 ver1 (.slice ha d1.length hb_) (.slice hc s1.length hd_) (.slice he_ t1.length hf) p1 f1 m1 n1) := row?_alloc_at _ _ _ _ rfl
    have k5 : Below w10.heap.size w10 (w10.alloc (.cells (hvA l1 k1 ver1 (.slice ha d1.length hb_) (.slice hc s1.length hd_) (.slice he_ t1.length hf) p1 f1 m1 n1) 30)) := (Below.refl _ _).alloc (Nat.le_refl _) _
    have h65 : Below W6.heap.size W6 (w10.alloc (.cells (hvA l1 k1 ver1 (.slice ha d1.length hb_) (.slice hc s1.length hd_) (.slice he_ t1.length hf) p1 f1 m1 n1) 30)) := h5.trans (k5.mono h5.size)
    have HGB := Lib.hid (And.intro (fun b off n cap (e : Value.slice ha d1.length hb_ = .slice (some ⟨b, off, none⟩) n cap) => (Own.lt og1 b off n cap e).2) (And.intro (fun b off n cap (e : Value.slice hc s1.length hd_ = .slice (some ⟨b, off, none⟩) n cap) => (Own.lt og2 b off n cap e).2) (And.intro (fun b off n cap (e : Value.slice he_ t1.length hf = .slice (some ⟨b, off, none⟩) n cap) => (Own.lt og3 b off n cap e).2) (fun b off n cap (e : Value.slice hg T.length hh_ = .slice (some ⟨b, off, none⟩) n cap) => (Own.lt og4 b off n cap e).2))))
    have G1 := Lib.hid ((Own.sl og1).below k5)
    have G2 := Lib.hid ((Own.sl og2).below k5)
    have G3 := Lib.hid ((Own.sl og3).below k5)
    have G4 := Lib.hid ((Own.sl og4).below k5)
    have S6' := Lib.hid (S6.out.below h65)
    clear S6
    go_upto_region 19 with (fail)
    generalize (w10.alloc (.cells (hvA l1 k1 ver1 (.slice ha d1.length hb_) (.slice hc s1.length hd_) (.slice he_ t1.length hf) p1 f1 m1 n1) 30)) = W7 at x5 k5 h65 G1 G2 G3 G4 S6' ⊢
    have xk := Rg.stable_row h65 RK.out
    have xr := Rg.stable_row h65 RH.out
    have xb := BB.out.trans (h65.mono BB.out.size)
    clear RK RH BB
    have RK := Lib.hid xk
    have RH := Lib.hid xr
    have BB := Lib.hid xb
    clear xk xr xb
    have RG := Lib.hid x5
    clear x5 k5 h65 h5 og1 og2 og3 og4
    have lk : (loadAgg 25 (.pointer (some ⟨w.heap.size, 0, none⟩))).run Try.prog W7 = .ok (.agg (bvs KB)) W7 := rldK W7 _ _ RK.out hKl
    go_wp2_with fail
    refine (HKY.out _).mono ?_
    rintro e wk ⟨rfl, hX⟩
    have xk := Rg.stable_row hX RK.out
    have xr := Rg.stable_row hX RH.out
    have xb := BB.out.trans (hX.mono BB.out.size)
    clear RK RH BB
    have RK := Lib.hid xk
    have RH := Lib.hid xr
    have BB := Lib.hid xb
    clear xk xr xb
    have zz := G1.out.below hX
    clear G1
    have G1 := Lib.hid zz
    clear zz
    have zz := G2.out.below hX
    clear G2
    have G2 := Lib.hid zz
    clear zz
    have zz := G3.out.below hX
    clear G3
    have G3 := Lib.hid zz
    clear zz
    have zz := G4.out.below hX
    clear G4
    have G4 := Lib.hid zz
    clear zz
    have zz := S6'.out.below hX
    clear S6'
    have S6' := Lib.hid zz
    clear zz
    have zz := Rg.stable_row hX RG.out
    clear RG
    have RG := Lib.hid zz
    clear zz
    clear hX lk
    go_wp2_with fail
    refine (HRO.out wk _ S6'.out).mono ?_
    rintro e wo ⟨vr1, vr2, vr3, vr4, he, or1, or2, or3, or4, hX⟩
    simp only [] at he or1 or2 or3 or4
    subst he
    obtain ⟨ra, rb, rfl, -, -, -⟩ := id (Own.sl or1)
    obtain ⟨rc, rd_, rfl, -, -, -⟩ := id (Own.sl or2)
    obtain ⟨re, rf, rfl, -, -, -⟩ := id (Own.sl or3)
    obtain ⟨rg, rh, rfl, -, -, -⟩ := id (Own.sl or4)
    have T1 := Lib.hid (Own.sl or1)
    have T2 := Lib.hid (Own.sl or2)
    have T3 := Lib.hid (Own.sl or3)
    have T4 := Lib.hid (Own.sl or4)
    have HRB := Lib.hid (And.intro (fun b off n cap (e : Value.slice ra d1.length rb = .slice (some ⟨b, off, none⟩) n cap) => (Own.lt or1 b off n cap e).2) (And.intro (fun b off n cap (e : Value.slice rc s1.length rd_ = .slice (some ⟨b, off, none⟩) n cap) => (Own.lt or2 b off n cap e).2) (And.intro (fun b off n cap (e : Value.slice re t1.length rf = .slice (some ⟨b, off, none⟩) n cap) => (Own.lt or3 b off n cap e).2) (fun b off n cap (e : Value.slice rg T.length rh = .slice (some ⟨b, off, none⟩) n cap) => (Own.lt or4 b off n cap e).2))))
    clear or1 or2 or3 or4
    have xk := Rg.stable_row hX RK.out
    have xr := Rg.stable_row hX RH.out
    have xb := BB.out.trans (hX.mono BB.out.size)
    clear RK RH BB
    have RK := Lib.hid xk
    have RH := Lib.hid xr
    have BB := Lib.hid xb
    clear xk xr xb
    have zz := G1.out.below hX
    clear G1
    have G1 := Lib.hid zz
    clear zz
    have zz := G2.out.below hX
    clear G2
    have G2 := Lib.hid zz
    clear zz
    have zz := G3.out.below hX
    clear G3
    have G3 := Lib.hid zz
    clear zz
    have zz := G4.out.below hX
    clear G4
    have G4 := Lib.hid zz
    clear zz
    have zz := S6'.out.below hX
    clear S6'
    have S6' := Lib.hid zz
    clear zz
    have zz := Rg.stable_row hX RG.out
    clear RG
    have RG := Lib.hid zz
    clear zz
    have hXo := hX.size
    clear hX
    have x6 : row? (wo.alloc (.cells (hvA l1 k1 ver1 (.slice ra d1.length rb) (.slice rc s1.length rd_) (.slice re t1.length rf) p1 f1 m1 n1) 30)) wo.heap.size = some (hvA l1 k1 ver1 (.slice ra d1.length rb) (.slice rc s1.length rd_) (.slice re t1.length rf) p1 f1 m1 n1) := row?_alloc_at _ _ _ _ rfl
    have k6 : Below wo.heap.size wo (wo.alloc (.cells (hvA l1 k1 ver1 (.slice ra d1.length rb) (.slice rc s1.length rd_) (.slice re t1.length rf) p1 f1 m1 n1) 30)) := (Below.refl _ _).alloc (Nat.le_refl _) _
    go_wp2_with (with_reducible refine Rw.hold_ops 149 ?_)
    refine Rw.Held.mk ?_
    generalize (wo.alloc (.cells (hvA l1 k1 ver1 (.slice ra d1.length rb) (.slice rc s1.length rd_) (.slice re t1.length rf) p1 f1 m1 n1) 30)) = WF at x6 k6 ⊢
    have xk := Rg.stable_row k6 RK.out
    have xr := Rg.stable_row k6 RH.out
    have xb := BB.out.trans (k6.mono BB.out.size)
    clear RK RH BB
    have RK := Lib.hid xk
    have RH := Lib.hid xr
    have BB := Lib.hid xb
    clear xk xr xb
    have zz := G1.out.below k6
    clear G1
    have G1 := Lib.hid zz
    clear zz
    have zz := G2.out.below k6
    clear G2
    have G2 := Lib.hid zz
    clear zz
    have zz := G3.out.below k6
    clear G3
    have G3 := Lib.hid zz
    clear zz
    have zz := G4.out.below k6
    clear G4
    have G4 := Lib.hid zz
    clear zz
    have zz := T1.out.below k6
    clear T1
    have T1 := Lib.hid zz
    clear zz
    have zz := T2.out.below k6
    clear T2
    have T2 := Lib.hid zz
    clear zz
    have zz := T3.out.below k6
    clear T3
    have T3 := Lib.hid zz
    clear zz
    have zz := T4.out.below k6
    clear T4
    have T4 := Lib.hid zz
    clear zz
    have zz := Rg.stable_row k6 RG.out
    clear RG
    have RG := Lib.hid zz
    clear zz
    have rg : (loadAgg 30 (.pointer (some ⟨w10.heap.size, 0, none⟩))).run Try.prog WF = .ok (.agg (hvA l1 k1 ver1 (.slice ha d1.length hb_) (.slice hc s1.length hd_) (.slice he_ t1.length hf) p1 f1 m1 n1)) WF := by rw [rldH WF _ (by rw [RG.out]; rfl), RG.out]; rfl
    have rm : (loadAgg 30 (.pointer (some ⟨wo.heap.size, 0, none⟩))).run Try.prog WF = .ok (.agg (hvA l1 k1 ver1 (.slice ra d1.length rb) (.slice rc s1.length rd_) (.slice re t1.length rf) p1 f1 m1 n1)) WF := by rw [rldH WF _ (by rw [x6]; rfl), x6]; rfl
    clear k6 x6
    go_wp2_with fail
    refine (sameHeader_eq l1 k1 ver1 p1 f1 m1 n1 d1 s1 t1 (by have := HOL.out; have := HSL.out; omega) (by have := HOL.out; have := HSL.out; omega) (by have := HOL.out; have := HSL.out; omega) _ _ _ _ _ _ WF G1.out T1.out G2.out T2.out G3.out T3.out).mono ?_
    rintro e wG ⟨rfl, hg⟩
    have xb := BB.out.trans (hg.mono BB.out.size)
    clear rg rm
    go_wp2_with fail
    have hsb := same_any T T (by have := HOL.out; have := HSL.out; omega) _ _ wG (G4.out.below hg) (T4.out.below hg)
    rw [decide_eq_true rfl] at hsb
    refine hsb.mono ?_
    rintro e wH ⟨rfl, hh⟩
    have xb2 := xb.trans (hh.mono xb.size)
    clear hsb
    go_wp2_with fail
    refine (awake_any _).mono ?_
    rintro e wI ⟨rfl, hi⟩
    go_wp2_with fail
    go_ret
    exact ⟨rfl, xb2.trans (hi.mono xb2.size)⟩
  ·have hse' : (se != 0) = true := by simpa using hse
   have hS := HBD.out hse
   subst hS
   go_wp2_with fail
   refine (awake_any _).mono ?_
   rintro e w5 ⟨rfl, b5⟩
   have hW5 : Below w.heap.size w w5 := BB.out.trans (b5.mono BB.out.size)
   go_wp2_with fail
   go_ret
   exact ⟨rfl, hW5⟩
end Go.Proofs.Ytjlpppnpdgenfaa
