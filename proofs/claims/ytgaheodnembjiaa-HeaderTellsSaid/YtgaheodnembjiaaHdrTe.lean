/- The walk of the row HeaderTells. -/
import Derived.Test.YtgaheodnembjiaaHdrRo
import Derived.Test.YtgaheodnembjiaaHdrR4
namespace Go.Proofs.Ytgaheodnembjiaa
open Go.RowKit Go.Rw Hdr
/-- What is laid, by the program and by the document. -/
theorem put_both (lg : Bool) (kind : Int) (ver : Nat) (dst src tok : List UInt8) (sp ph : Bool) (num : Nat) (nl : Int) (rest : Int) (hver : ver < 4294967296) :
    ∃ (B : List UInt8) (x : Int), B.length ≤ 1000 ∧
      (∀ (ad as_ at_ : Option Addr) (cd cs ct : Nat) (w : World), Sl w (.slice ad dst.length cd) dst → Sl w (.slice as_ src.length cs) src → Sl w (.slice at_ tok.length ct) tok → Calls Try.prog 10 #[.agg (hvA lg kind ver (.slice ad dst.length cd) (.slice as_ src.length cs) (.slice at_ tok.length ct) sp ph num nl), .int .i64 rest] w fun e w' => ∃ v, e = .returned (.tuple #[v, .int .i64 x]) ∧ Sl w' v B ∧ Below w.heap.size w w') ∧
      (∀ (ad as_ at_ : Option Addr) (cd cs ct : Nat) (w : World), Sl w (.slice ad dst.length cd) dst → Sl w (.slice as_ src.length cs) src → Sl w (.slice at_ tok.length ct) tok → Calls Try.prog 11 #[.agg (hvA lg kind ver (.slice ad dst.length cd) (.slice as_ src.length cs) (.slice at_ tok.length ct) sp ph num nl), .int .i64 rest] w fun e w' => ∃ v, e = .returned (.tuple #[v, .int .i64 x]) ∧ Sl w' v B ∧ Below w.heap.size w w') := by
  by_cases h : mayN lg kind ver dst.length src.length tok.length sp ph num nl = false ∨ rest < 0 ∨ 16383 - nl < rest
  · refine ⟨[], 2, by simp, fun ad as_ at_ cd cs ct w _ _ _ => ?_, fun ad as_ at_ cd cs ct w _ _ _ => ?_⟩
    · refine (put_no lg kind ver ad as_ at_ dst.length src.length tok.length cd cs ct sp ph num nl rest h w).mono ?_
      rintro e w' ⟨rfl, b⟩
      exact ⟨_, rfl, Sl.nil _, b⟩
    · refine (rput_no lg kind ver ad as_ at_ dst.length src.length tok.length cd cs ct sp ph num nl rest h w).mono ?_
      rintro e w' ⟨rfl, b⟩
      exact ⟨_, rfl, Sl.nil _, b⟩
  · have hm : mayN lg kind ver dst.length src.length tok.length sp ph num nl = true := by
      cases hq : mayN lg kind ver dst.length src.length tok.length sp ph num nl with
      | true => rfl
      | false => exact absurd (.inl hq) h
    have hr0 : 0 ≤ rest := by omega
    have hr1 : rest ≤ 16383 - nl := by omega
    obtain ⟨n, rfl⟩ : ∃ n : Nat, nl = n := ⟨nl.toNat, by
      unfold mayN at hm
      split at hm
      · cases hm
      · omega⟩
    obtain ⟨q, rfl⟩ : ∃ q : Nat, rest = q := ⟨rest.toNat, by omega⟩
    obtain ⟨⟨h1, h4⟩, hn, hd, hs, ht, -⟩ := put_ok lg kind ver dst src tok sp ph num n 0 hm hver (by decide)
    have hm' := hm
    unfold mayN at hm'
    rw [if_neg (by omega)] at hm'
    cases lg
    · rw [if_pos rfl] at hm'
      obtain ⟨rfl, rfl, hs0, ht0⟩ := of_decide_eq_true hm'
      obtain rfl : src = [] := List.eq_nil_of_length_eq_zero hs0
      obtain rfl : tok = [] := List.eq_nil_of_length_eq_zero ht0
      exact ⟨[first sp ph n] ++ dst ++ be num n, 0, by simp [be_length, hd]; omega, fun ad as_ at_ cd cs ct w h1' _ _ => put_short2 dst hd _ as_ at_ cs ct sp ph num n q h1 h4 (by omega) hr0 hr1 w h1', fun ad as_ at_ cd cs ct w h1' _ _ => rput_short dst hd _ as_ at_ cs ct sp ph num n q h1 h4 (by omega) hr0 hr1 w h1'⟩
    · rw [if_neg (by decide)] at hm'
      obtain ⟨hk, -, -, rfl, rfl⟩ := of_decide_eq_true hm'
      have hl : (longTok kind tok).length ≤ 108 := by
        unfold longTok; split
        · have := vlen_le tok.length; simp [vin_length]; omega
        · simp
      refine ⟨longB kind ver dst src tok num n q, 0, by unfold longB; simp [be_length, vin_length, hd]; omega, fun ad as_ at_ cd cs ct w h1' h2' h3' => ?_, fun ad as_ at_ cd cs ct w h1' h2' h3' => rput_long kind ver dst src tok _ _ _ num n q hm hver hr1 w h1' h2' h3'⟩
      refine (put_long kind ver dst src tok _ _ _ num n q hm hver hr1 w h1' h2' h3').mono ?_
      rintro e w' ⟨v, rfl, o, b⟩
      exact ⟨v, rfl, Own.sl o, b⟩
attribute [local go_sem ↓] ldH stH alH bdR bdH hvA_0 hvA_1 hvA_2 hvA_3 hvA_4 hvA_5 hvA_6 hvA_7 hvA_8 hvA_9
attribute [local go_sem] rldH rstH ralH setRow_alloc_at setRow_alloc_past setRow_drew

set_option maxRecDepth 20000 in
set_option maxHeartbeats 4000000 in
theorem tellsLaw_any (lg : Bool) (kind : Int) (ver : Nat) (dst src tok : List UInt8) (sp ph : Bool) (num : Nat) (nl : Int) (rest : Int) (bl : List UInt8) (vd vs vt vb : Value) (hver : ver < 4294967296) (w : World) (hsd : Sl w vd dst) (hss : Sl w vs src) (hst : Sl w vt tok) (hsb : Sl w vb bl) :
    Calls Try.prog 3 #[.agg (hvA lg kind ver vd vs vt sp ph num nl), .int .i64 rest, vb] w fun e w' => e = .returned (.bool true) ∧ Below w.heap.size w w' := by
  obtain ⟨ad, cd, rfl, -, -, -⟩ := id hsd
  obtain ⟨as_, cs, rfl, -, -, -⟩ := id hss
  obtain ⟨at_, ct, rfl, -, -, -⟩ := id hst
  obtain ⟨ab, cb, rfl, -, -, -⟩ := id hsb
  have HW1 := Lib.hid (show Below w.heap.size w (w.alloc (.cells (hvA lg kind ver (.slice ad dst.length cd) (.slice as_ src.length cs) (.slice at_ tok.length ct) sp ph num nl) 26)) from (Below.refl _ _).alloc (Nat.le_refl _) _)
  have HR1 := Lib.hid (show row? (w.alloc (.cells (hvA lg kind ver (.slice ad dst.length cd) (.slice as_ src.length cs) (.slice at_ tok.length ct) sp ph num nl) 26)) w.heap.size = some (hvA lg kind ver (.slice ad dst.length cd) (.slice as_ src.length cs) (.slice at_ tok.length ct) sp ph num nl) from row?_alloc_at _ _ _ _ rfl)
  have HV := Lib.hid hver
  have SD := Lib.hid hsd
  have SS := Lib.hid hss
  have ST := Lib.hid hst
  have SB := Lib.hid hsb
  obtain ⟨BB, x, hBB, hp1, hp2⟩ := put_both lg kind ver dst src tok sp ph num nl rest hver
  have HBB := Lib.hid hBB
  have HP1 := Lib.hid hp1
  have HP2 := Lib.hid hp2
  clear hver hsd hss hst hsb hBB hp1 hp2
  go_enter Try.func3, Try.ntmps3
  go_wp2_with (with_reducible refine Rw.hold_ops 20 ?_)
  refine Rw.Held.mk ?_
  generalize (w.alloc (.cells (hvA lg kind ver (.slice ad dst.length cd) (.slice as_ src.length cs) (.slice at_ tok.length ct) sp ph num nl) 26)) = WA at HW1 HR1 ⊢
  have c3 : WA.cell? ⟨w.heap.size, 3, none⟩ = some (.slice ad dst.length cd) := row?_cell HR1.out 3
  have c4 : WA.cell? ⟨w.heap.size, 4, none⟩ = some (.slice as_ src.length cs) := row?_cell HR1.out 4
  have c5 : WA.cell? ⟨w.heap.size, 5, none⟩ = some (.slice at_ tok.length ct) := row?_cell HR1.out 5
  by_cases hbig : 150 < wrap64 (wrap64 ((dst.length : Int) + src.length) + tok.length)
  · go_wp2_with fail
    refine (awake_any _).mono ?_
    rintro e w5 ⟨rfl, b5⟩
    have hW5 : Below w.heap.size w w5 := HW1.out.trans (b5.mono HW1.out.size)
    go_wp2_with fail
    go_ret
    exact ⟨rfl, hW5⟩
  · by_cases h300 : (300 : Int) < (bl.length : Nat)
    · go_wp2_with fail
      refine (awake_any _).mono ?_
      rintro e w5 ⟨rfl, b5⟩
      have hW5 : Below w.heap.size w w5 := HW1.out.trans (b5.mono HW1.out.size)
      go_wp2_with fail
      go_ret
      exact ⟨rfl, hW5⟩
    · have HBL := Lib.hid (show bl.length ≤ 300 by omega)
      have r1 := HR1.out
      go_wp2_with fail
      refine (HP1.out _ _ _ _ _ _ WA (SD.out.below HW1.out) (SS.out.below HW1.out) (ST.out.below HW1.out)).mono ?_
      rintro e w2 ⟨v2, rfl, s2, b2⟩
      have x2 := Rg.stable_row b2 HR1.out
      have y2 := HW1.out.trans (b2.mono HW1.out.size)
      have R2 := Lib.hid x2
      have B2 := Lib.hid y2
      have S2 := Lib.hid s2
      clear r1 hbig h300 c3 c4 c5 x2 y2 b2 s2 HR1 HW1 HP1
      have r2 := R2.out
      go_wp2_with fail
      refine (HP2.out _ _ _ _ _ _ w2 (SD.out.below B2.out) (SS.out.below B2.out) (ST.out.below B2.out)).mono ?_
      rintro e w3 ⟨v3, rfl, s3, b3⟩
      have x3 := Rg.stable_row b3 R2.out
      have y3 := B2.out.trans (b3.mono B2.out.size)
      have R3 := Lib.hid x3
      have B3 := Lib.hid y3
      have S3 := Lib.hid s3
      have S2' := Lib.hid (S2.out.below b3)
      clear r2 x3 y3 b3 s3 R2 B2 HP2 S2
      have hgp := get_any bl (by have := HBL.out; omega) (.slice ab bl.length cb) w3 (SB.out.below B3.out)
      have hrp := fun W h => rrget_any bl (by have := HBL.out; omega) (.slice ab bl.length cb) W h
      rw [← get_rget bl (by have := HBL.out; omega)] at hrp
      have hlq := get_len bl
      generalize get bl = q1 at hgp hrp hlq
      obtain ⟨⟨l1, k1, ver1, d1, s1, t1, p1, f1, n1, m1⟩, i1, j1, e1⟩ := q1
      dsimp only at hlq
      have HGP := Lib.hid hgp
      have HRP := Lib.hid hrp
      have HLQ := Lib.hid hlq
      clear hgp hrp hlq
      go_wp2_with fail
      refine HGP.out.mono ?_
      rintro e w4 ⟨vg1, vg2, vg3, he, og1, og2, og3, hdis, b4⟩
      dsimp only at he og1 og2 og3
      subst he
      obtain ⟨ga, gb, rfl, -, -, -⟩ := id (Own.sl og1)
      obtain ⟨gc, gd, rfl, -, -, -⟩ := id (Own.sl og2)
      obtain ⟨ge, gf, rfl, -, -, -⟩ := id (Own.sl og3)
      have bal : Below w4.heap.size w4 (w4.alloc (.cells (hvA l1 k1 ver1 (.slice ga d1.length gb) (.slice gc s1.length gd) (.slice ge t1.length gf) p1 f1 n1 m1) 26)) := (Below.refl _ _).alloc (Nat.le_refl _) _
      have x4 := Rg.stable_row bal (Rg.stable_row b4 R3.out)
      have y4 := B3.out.trans ((b4.trans (bal.mono b4.size)).mono B3.out.size)
      have z4 := b4.size
      have zb4 := row?_lt R3.out
      have zal := bal.size
      have s34 := b4.trans (bal.mono b4.size)
      have T2 := Lib.hid (S2'.out.below s34)
      have T3 := Lib.hid (S3.out.below s34)
      have RG := Lib.hid (show row? (w4.alloc (.cells (hvA l1 k1 ver1 (.slice ga d1.length gb) (.slice gc s1.length gd) (.slice ge t1.length gf) p1 f1 n1 m1) 26)) w4.heap.size = some (hvA l1 k1 ver1 (.slice ga d1.length gb) (.slice gc s1.length gd) (.slice ge t1.length gf) p1 f1 n1 m1) from row?_alloc_at _ _ _ _ rfl)
      have RT := Lib.hid x4
      have B4 := Lib.hid y4
      have O1 := Lib.hid (own_below bal og1)
      have O2 := Lib.hid (own_below bal og2)
      have O3 := Lib.hid (own_below bal og3)
      have L1 := Lib.hid (fun k hk => (og1.lt k hk).2)
      have L3 := Lib.hid (fun k hk => (og3.lt k hk).2)
      have DIS := Lib.hid hdis
      clear og1 og2 og3 b4 bal x4 y4 s34 hdis HGP R3 B3 S2' S3
      go_wp2_with (with_reducible refine Rw.hold_ops 58 ?_)
      refine Rw.Held.mk ?_
      obtain ⟨W5, hW5⟩ : ∃ W5, (w4.alloc (.cells (hvA l1 k1 ver1 (.slice ga d1.length gb) (.slice gc s1.length gd) (.slice ge t1.length gf) p1 f1 n1 m1) 26)) = W5 := ⟨_, rfl⟩
      rw [hW5] at RG RT B4 O1 O2 O3 T2 T3 zal ⊢
      clear hW5
      go_wp2_with fail
      refine (HRP.out W5 (SB.out.below B4.out)).mono ?_
      rintro e w6 ⟨vh1, vh2, vh3, he, oh1, oh2, oh3, b6⟩
      dsimp only at he oh1 oh2 oh3
      subst he
      obtain ⟨ha, hb, rfl, -, -, -⟩ := id oh1
      obtain ⟨hc, hd, rfl, -, -, -⟩ := id oh2
      obtain ⟨he, hf, rfl, -, -, -⟩ := id oh3
      have bal : Below w6.heap.size w6 (w6.alloc (.cells (hvA l1 k1 ver1 (.slice ha d1.length hb) (.slice hc s1.length hd) (.slice he t1.length hf) p1 f1 n1 m1) 26)) := (Below.refl _ _).alloc (Nat.le_refl _) _
      have s56 := b6.trans (bal.mono b6.size)
      have x6 := Rg.stable_row s56 RT.out
      have g6 := Rg.stable_row s56 RG.out
      have y6 := B4.out.trans (s56.mono B4.out.size)
      have z6 := s56.size
      have RH := Lib.hid (show row? (w6.alloc (.cells (hvA l1 k1 ver1 (.slice ha d1.length hb) (.slice hc s1.length hd) (.slice he t1.length hf) p1 f1 n1 m1) 26)) w6.heap.size = some (hvA l1 k1 ver1 (.slice ha d1.length hb) (.slice hc s1.length hd) (.slice he t1.length hf) p1 f1 n1 m1) from row?_alloc_at _ _ _ _ rfl)
      have RT' := Lib.hid x6
      have RG' := Lib.hid g6
      have B6 := Lib.hid y6
      have U1 := Lib.hid (own_below s56 O1.out)
      have U2 := Lib.hid (own_below s56 O2.out)
      have U3 := Lib.hid (own_below s56 O3.out)
      have V1 := Lib.hid (oh1.below bal)
      have V2 := Lib.hid (oh2.below bal)
      have V3 := Lib.hid (oh3.below bal)
      have X2 := Lib.hid (T2.out.below s56)
      have X3 := Lib.hid (T3.out.below s56)
      clear oh1 oh2 oh3 b6 bal s56 x6 g6 y6 HRP RT RG B4 O1 O2 O3 T2 T3
      go_wp2_with fail
      obtain ⟨W7, hW7⟩ : ∃ W7, (w6.alloc (.cells (hvA l1 k1 ver1 (.slice ha d1.length hb) (.slice hc s1.length hd) (.slice he t1.length hf) p1 f1 n1 m1) 26)) = W7 := ⟨_, rfl⟩
      rw [hW7] at RH RT' RG' B6 U1 U2 U3 V1 V2 V3 X2 X3 z6 ⊢
      clear hW7
      have rt := RT'.out
      refine Rg.wp_region_plan (Rg.row [(0, 0), (2, 0), (1, 1), (3, 1), (4, 3), (5, 3), (6, 3), (7, 3), (8, 1), (9, 3), (10, 3), (11, 3), (12, 3), (13, 3), (14, 3), (15, 3), (16, 0), (17, 0), (18, 1), (19, 3), (20, 3), (21, 3), (22, 3), (23, 3), (24, 3), (25, 3), (26, 3), (27, 3), (28, 3), (29, 3), (30, 3), (31, 3), (32, 3), (33, 3), (34, 3), (35, 3)] []) [] (by kernel_rfl) (by kernel_rfl) ?_
      simp only [Rg.row, Rg.PT.map, List.map_nil, List.getD_cons_zero, List.getD_cons_succ]
      go_wp2_with (first
        | ((with_reducible refine Rg.plan_pure ?_ ?_ ?_); kernel_rfl; kernel_rfl; intro _ _)
        | ((with_reducible refine Rg.plan_take ?_ ?_ ?_); kernel_rfl; kernel_rfl; intro _ _)
        | ((with_reducible refine Rg.plan_keep ?_ ?_); kernel_rfl; intro K hK)
        | (refine hK _ _ (Rg.Keep.refl _) ?_; clear hK)
        | (refine hK _ _ (Rg.Keep.of_below (by assumption)) ?_; clear hK)
        | ((with_reducible refine Rg.plan_skip ?_ ?_); kernel_rfl)
        | (with_reducible refine Rg.plan_done ?_)
        | (with_reducible refine Rg.calm_normal ?_))
      refine (may_any lg kind ver ad as_ at_ dst.length src.length tok.length cd cs ct sp ph num nl W7.drew).mono ?_
      rintro e w8 ⟨rfl, b8⟩
      have rt8 := Rg.stable_row b8 ((row?_drew _ _).trans RT'.out)
      clear rt
      first
        | (refine hK _ _ (Rg.Keep.of_below b8) ?_; clear hK)
        | skip
      go_wp2_with (first
        | ((with_reducible refine Rg.plan_pure ?_ ?_ ?_); kernel_rfl; kernel_rfl; intro _ _)
        | ((with_reducible refine Rg.plan_take ?_ ?_ ?_); kernel_rfl; kernel_rfl; intro _ _)
        | ((with_reducible refine Rg.plan_keep ?_ ?_); kernel_rfl; intro K hK)
        | (refine hK _ _ (Rg.Keep.refl _) ?_; clear hK)
        | (refine hK _ _ (Rg.Keep.of_below (by assumption)) ?_; clear hK)
        | ((with_reducible refine Rg.plan_skip ?_ ?_); kernel_rfl)
        | (with_reducible refine Rg.plan_done ?_)
        | (with_reducible refine Rg.calm_normal ?_))
      refine (rmay_any lg kind ver ad as_ at_ dst.length src.length tok.length cd cs ct sp ph num nl w8).mono ?_
      rintro e w9 ⟨rfl, b9⟩
      first
        | (refine hK _ _ (Rg.Keep.of_below b9) ?_; clear hK)
        | skip
      have b79 := (Below.refl W7.heap.size W7).drew.trans ((b8.trans (b9.mono b8.size)))
      have B79 := Lib.hid b79
      clear rt8 b8 b9 b79
      go_wp2_with (first
        | ((with_reducible refine Rg.plan_pure ?_ ?_ ?_); kernel_rfl; kernel_rfl; intro _ _)
        | ((with_reducible refine Rg.plan_take ?_ ?_ ?_); kernel_rfl; kernel_rfl; intro _ _)
        | ((with_reducible refine Rg.plan_keep ?_ ?_); kernel_rfl; intro K hK)
        | (refine hK _ _ (Rg.Keep.refl _) ?_; clear hK)
        | (refine hK _ _ (Rg.Keep.of_below (by assumption)) ?_; clear hK)
        | ((with_reducible refine Rg.plan_skip ?_ ?_); kernel_rfl)
        | (with_reducible refine Rg.plan_done ?_)
        | (with_reducible refine Rg.calm_normal ?_))
      refine (same_any BB BB (by have := HBB.out; omega) _ _ w9 (X2.out.below B79.out) (X3.out.below B79.out)).mono ?_
      rintro e w10 ⟨rfl, b10⟩
      rw [decide_eq_true rfl]
      first
        | (refine hK _ _ (Rg.Keep.of_below b10) ?_; clear hK)
        | skip
      have B710 := Lib.hid (B79.out.trans (b10.mono B79.out.size))
      have rg := Rg.stable_row B710.out RG'.out
      have rh := Rg.stable_row B710.out RH.out
      clear b10 B79
      go_wp2_with (first
        | ((with_reducible refine Rg.plan_pure ?_ ?_ ?_); kernel_rfl; kernel_rfl; intro _ _)
        | ((with_reducible refine Rg.plan_take ?_ ?_ ?_); kernel_rfl; kernel_rfl; intro _ _)
        | ((with_reducible refine Rg.plan_keep ?_ ?_); kernel_rfl; intro K hK)
        | (refine hK _ _ (Rg.Keep.refl _) ?_; clear hK)
        | (refine hK _ _ (Rg.Keep.of_below (by assumption)) ?_; clear hK)
        | ((with_reducible refine Rg.plan_skip ?_ ?_); kernel_rfl)
        | (with_reducible refine Rg.plan_done ?_)
        | (with_reducible refine Rg.calm_normal ?_))
      refine (sameHeader_eq l1 k1 ver1 p1 f1 n1 m1 d1 s1 t1 (by have := HLQ.out; omega) (by have := HLQ.out; omega) (by have := HLQ.out; omega) _ _ _ _ _ _ w10 ((Own.sl U1.out).below B710.out) (V1.out.below B710.out) ((Own.sl U2.out).below B710.out) (V2.out.below B710.out) ((Own.sl U3.out).below B710.out) (V3.out.below B710.out)).mono ?_
      rintro e w11 ⟨rfl, b11⟩
      first
        | (refine hK _ _ (Rg.Keep.of_below b11) ?_; clear hK)
        | skip
      have b711 := B710.out.trans (b11.mono B710.out.size)
      have rg11 := Rg.stable_row b711 RG'.out
      have y11 := B6.out.trans (b711.mono B6.out.size)
      have z11 := b711.size
      have P1 := Lib.hid (own_below b711 U1.out)
      have P3 := Lib.hid (own_below b711 U3.out)
      have B11 := Lib.hid y11
      have R11 := Lib.hid rg11
      have c3 : w11.cell? ⟨w4.heap.size, 3, none⟩ = some (.slice ga d1.length gb) := row?_cell rg11 3
      clear rg rh b11 b711 rg11 y11 B710 U1 U2 U3 V1 V2 V3 X2 X3 RH RT' RG' B6
      go_wp2_with (first
        | ((with_reducible refine Rg.plan_pure ?_ ?_ ?_); kernel_rfl; kernel_rfl; intro _ _)
        | ((with_reducible refine Rg.plan_take ?_ ?_ ?_); kernel_rfl; kernel_rfl; intro _ _)
        | ((with_reducible refine Rg.plan_keep ?_ ?_); kernel_rfl; intro K hK)
        | (refine hK _ _ (Rg.Keep.refl _) ?_; clear hK)
        | (refine hK _ _ (Rg.Keep.of_below (by assumption)) ?_; clear hK)
        | ((with_reducible refine Rg.plan_skip ?_ ?_); kernel_rfl)
        | (with_reducible refine Rg.plan_done ?_)
        | (with_reducible refine Rg.calm_normal ?_))
      refine (over_any d1 (by have := HLQ.out; omega) _ w3.heap.size w11 (by omega) P1.out).mono ?_
      rintro e w12 ⟨rfl, g12⟩
      have b12 := B11.out.grown g12 B11.out.size (fun k hk => by have := (P1.out.lt k hk).1; omega)
      have rg12 : row? w12 w4.heap.size = some (hvA l1 k1 ver1 (.slice ga d1.length gb) (.slice gc s1.length gd) (.slice ge t1.length gf) p1 f1 n1 m1) := row_grown g12 R11.out (fun h => by have := L1.out _ h.symm; omega)
      have p12 := own_grown P3.out g12 (fun k hk he => by
        have hd : (Value.slice ga d1.length gb).ownBlock = some k := he.symm
        exact DIS.out k k hd hk rfl)
      have z12 := g12.size
      have c5 : w12.cell? ⟨w4.heap.size, 5, none⟩ = some (.slice ge t1.length gf) := row?_cell rg12 5
      have B12 := Lib.hid b12
      have P12 := Lib.hid p12
      clear c3 g12 b12 rg12 p12 B11 P1 P3 R11
      go_wp2_with fail
      refine (over_any t1 (by have := HLQ.out; omega) _ w3.heap.size w12 (by omega) P12.out).mono ?_
      rintro e w13 ⟨rfl, g13⟩
      have b13 := B12.out.grown g13 B12.out.size (fun k hk => by have := (P12.out.lt k hk).1; omega)
      clear c5 g13 B12 P12
      go_wp2_with fail
      refine (awake_any w13).mono ?_
      rintro e w14 ⟨rfl, b14⟩
      have y14 := b13.trans (b14.mono b13.size)
      go_wp2_with fail
      go_ret
      exact ⟨rfl, y14⟩
end Go.Proofs.Ytgaheodnembjiaa
