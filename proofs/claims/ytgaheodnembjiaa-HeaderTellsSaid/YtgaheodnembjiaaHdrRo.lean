/- The walk of the row HeaderRounds. -/
import Derived.Test.YtgaheodnembjiaaHdrL1
import Derived.Test.YtgaheodnembjiaaHdrT2
import Derived.Test.YtgaheodnembjiaaHdrPR
import Derived.Test.YtgaheodnembjiaaHdrR3
import Derived.Test.YtgaheodnembjiaaLibZ
import Derived.Test.YtgaheodnembjiaaLow
namespace Hdr
open Go.Rw
theorem rid_len (b : List UInt8) (l m : Nat) (s : Nat × Int) : (rid b l m s).2.length ≤ 256 := by
  unfold rid
  exact Nat.le_trans (rtake_len _ _ _) (by have := rnum_lt b 1 s; omega)
theorem get_len (b : List UInt8) : (get b).1.dst.length ≤ 256 ∧ (get b).1.src.length ≤ 256 ∧ (get b).1.tok.length ≤ 256 := by
  unfold get
  split
  · exact ⟨by simp [hd0], by simp [hd0], by simp [hd0]⟩
  · unfold gAll
    split
    · refine ⟨rid_len _ _ _ _, rid_len _ _ _ _, ?_⟩
      unfold aTok
      split
      · exact Nat.le_trans (rtake_len _ _ _) (by omega)
      · simp
    · refine ⟨?_, by simp, by simp⟩
      exact Nat.le_trans (rtake_len _ _ _) (by omega)
end Hdr
namespace Go.Proofs.Ytgaheodnembjiaa
open Go.RowKit Go.Rw Hdr
theorem wrap_pm64 (k : Nat) (h : k ≤ 4) : IntKind.u64.wrap (IntKind.u64.wrap ((2 : Int) ^ (8 * k)) - 1) = ((256 ^ k - 1 : Nat) : Int) := by
  match k, h with
  | 0, _ => rfl
  | 1, _ => rfl
  | 2, _ => rfl
  | 3, _ => rfl
  | 4, _ => rfl
theorem mask_val64 (n k : Nat) (h : k ≤ 4) (hn : n < 18446744073709551616) : n64 (UInt64.ofInt (n : Nat) &&& UInt64.ofInt (IntKind.u64.wrap (IntKind.u64.wrap ((2 : Int) ^ (8 * k)) - 1))) = n % 256 ^ k := by
  rw [wrap_pm64 k h]
  have e : n64 (UInt64.ofInt (n : Nat) &&& UInt64.ofInt ((256 ^ k - 1 : Nat) : Int)) = n &&& (2 ^ (8 * k) - 1) := by
    show (UInt64.ofInt (n : Nat) &&& UInt64.ofInt ((256 ^ k - 1 : Nat) : Int)).toNat = _
    rw [UInt64.toNat_and, u64_ofInt_toNat, u64_ofInt_toNat]
    have h1 : (((n : Nat) : Int) % 18446744073709551616).toNat = n := by omega
    have h2 : (((256 ^ k - 1 : Nat) : Int) % 18446744073709551616).toNat = 2 ^ (8 * k) - 1 := by
      match k, h with
      | 0, _ => rfl
      | 1, _ => rfl
      | 2, _ => rfl
      | 3, _ => rfl
      | 4, _ => rfl
    rw [h1, h2]
  rw [e, Nat.and_two_pow_sub_one_eq_mod, Nat.pow_mul]
attribute [local go_sem ↓] ldH stH alH bdR bdH hvA_0 hvA_1 hvA_2 hvA_3 hvA_4 hvA_5 hvA_6 hvA_7 hvA_8 hvA_9
attribute [local go_sem] rldH rstH ralH setRow_alloc_at setRow_alloc_past setRow_drew

set_option maxRecDepth 20000 in
set_option maxHeartbeats 4000000 in
theorem roundsLaw_any (lg : Bool) (kind : Int) (ver : Nat) (dst src tok : List UInt8) (sp ph : Bool) (num : Nat) (nlI : Int) (rest pos : Int) (by_ : UInt8) (vd vs vt : Value) (hver : ver < 4294967296) (hnum : num < 18446744073709551616) (w : World) (hsd : Sl w vd dst) (hss : Sl w vs src) (hst : Sl w vt tok) :
    Calls Try.prog 4 #[.agg (hvA lg kind ver vd vs vt sp ph num nlI), .int .i64 rest, .int .i64 pos, .int .u8 (n8 by_ : Nat)] w fun e w' => e = .returned (.bool true) ∧ Below w.heap.size w w' := by
  obtain ⟨ad, cd, rfl, -, -, -⟩ := id hsd
  obtain ⟨as_, cs, rfl, -, -, -⟩ := id hss
  obtain ⟨at_, ct, rfl, -, -, -⟩ := id hst
  obtain ⟨i0, hi, hz0, hz1, hz2⟩ := info_parts info8
  have HW1 := Lib.hid (show Below w.heap.size w (w.alloc (.cells (hvA lg kind ver (.slice ad dst.length cd) (.slice as_ src.length cs) (.slice at_ tok.length ct) sp ph num nlI) 26)) from (Below.refl _ _).alloc (Nat.le_refl _) _)
  have HR1 := Lib.hid (show row? (w.alloc (.cells (hvA lg kind ver (.slice ad dst.length cd) (.slice as_ src.length cs) (.slice at_ tok.length ct) sp ph num nlI) 26)) w.heap.size = some (hvA lg kind ver (.slice ad dst.length cd) (.slice as_ src.length cs) (.slice at_ tok.length ct) sp ph num nlI) from row?_alloc_at _ _ _ _ rfl)
  have HV := Lib.hid hver
  have HN := Lib.hid hnum
  have SD := Lib.hid hsd
  have SS := Lib.hid hss
  have ST := Lib.hid hst
  clear hver hnum hsd hss hst
  go_enter Try.func4, Try.ntmps4
  go_wp2_with (with_reducible refine Rw.hold_ops 33 ?_)
  refine Rw.Held.mk ?_
  generalize (w.alloc (.cells (hvA lg kind ver (.slice ad dst.length cd) (.slice as_ src.length cs) (.slice at_ tok.length ct) sp ph num nlI) 26)) = WA at HW1 HR1 ⊢
  have c3 : WA.cell? ⟨w.heap.size, 3, none⟩ = some (.slice ad dst.length cd) := row?_cell HR1.out 3
  have c4 : WA.cell? ⟨w.heap.size, 4, none⟩ = some (.slice as_ src.length cs) := row?_cell HR1.out 4
  have c5 : WA.cell? ⟨w.heap.size, 5, none⟩ = some (.slice at_ tok.length ct) := row?_cell HR1.out 5
  cases hm : mayN lg kind ver dst.length src.length tok.length sp ph num nlI with
  | false =>
    by_cases hbig : 150 < wrap64 (wrap64 ((dst.length : Int) + src.length) + tok.length)
    · have HBI := hbig
      go_wp2_with fail
      refine (awake_any _).mono ?_
      rintro e w5 ⟨rfl, b5⟩
      have hW5 : Below w.heap.size w w5 := HW1.out.trans (b5.mono HW1.out.size)
      go_wp2_with fail
      go_ret
      exact ⟨rfl, hW5⟩
    · have r1 := HR1.out
      go_wp2_with fail
      refine (rmay_any lg kind ver ad as_ at_ dst.length src.length tok.length cd cs ct sp ph num nlI WA).mono ?_
      rintro e w5 ⟨rfl, b5⟩
      rw [hm]
      have hW5 : Below w.heap.size w w5 := HW1.out.trans (b5.mono HW1.out.size)
      clear r1
      go_wp2_with fail
      refine (awake_any _).mono ?_
      rintro e w6 ⟨rfl, b6⟩
      have hW6 : Below w.heap.size w w6 := hW5.trans (b6.mono hW5.size)
      go_wp2_with fail
      go_ret
      exact ⟨rfl, hW6⟩
  | true =>
    obtain ⟨nl, rfl⟩ : ∃ nl : Nat, nlI = nl := ⟨nlI.toNat, by
      unfold mayN at hm
      split at hm
      · cases hm
      · omega⟩
    have hpo := fun R hR => put_ok lg kind ver dst src tok sp ph num nl R hm HV.out hR
    obtain ⟨⟨h1, h4⟩, hn, hd, hs, ht, -⟩ := hpo 0 (by decide)
    have hw1 : wrap64 ((dst.length : Int) + src.length) = (dst.length : Int) + src.length := by unfold wrap64; omega
    have HW1' := Lib.hid hw1
    clear hw1
    have hw2 : wrap64 ((dst.length : Int) + src.length + tok.length) = (dst.length : Int) + src.length + tok.length := by unfold wrap64; omega
    have h150 : ¬ 150 < (dst.length : Int) + src.length + tok.length := by omega
    have HPO := Lib.hid hpo
    have HLE := Lib.hid (And.intro hn (And.intro hd (And.intro hs ht)))
    clear hpo hn hd hs ht
    have hw1 := HW1'.out
    have r1 := HR1.out
    go_wp2_with fail
    refine (rmay_any lg kind ver ad as_ at_ dst.length src.length tok.length cd cs ct sp ph num nl WA).mono ?_
    rintro e w2 ⟨rfl, b2⟩
    rw [hm]
    have x2 := Rg.stable_row b2 HR1.out
    have y2 := HW1.out.trans (b2.mono HW1.out.size)
    have R2 := Lib.hid x2
    have B2 := Lib.hid y2
    clear r1 hw1 hw2 h150 c3 c4 c5 x2 y2 b2 HR1 HW1 HW1'
    go_wp2_with fail
    refine (low_any rest 100 (by decide) (by decide) _).mono ?_
    rintro e w' ⟨rfl, rfl⟩
    have hRl := low_lt rest 100 (by decide)
    generalize low rest 100 = R at hRl ⊢
    obtain ⟨-, -, -, -, -, BB, hBB, hBB1, hget, hput⟩ := HPO.out R (by omega)
    have HBL := Lib.hid (And.intro hBB (And.intro hBB1 hRl))
    have HGET := Lib.hid (hget (List.replicate R 0) (by simp))
    have HPUT := Lib.hid hput
    clear HPO hBB hBB1 hget hput hRl
    have r2 := R2.out
    go_wp2_with fail
    refine (HPUT.out _ _ _ w2 (SD.out.below B2.out) (SS.out.below B2.out) (ST.out.below B2.out)).mono ?_
    rintro e w3 ⟨v3, rfl, s3, b3⟩
    have x3 := Rg.stable_row b3 R2.out
    have y3 := B2.out.trans (b3.mono B2.out.size)
    have R3 := Lib.hid x3
    have B3 := Lib.hid y3
    have S3 := Lib.hid s3
    clear r2 x3 y3 b3 s3 R2 B2 HPUT
    go_wp2_with fail
    refine (copied_any BB (by have := HBL.out.1; omega) _ w3 S3.out).mono ?_
    rintro e w4 ⟨v4, rfl, o4, b4⟩
    have x4 := Rg.stable_row b4 R3.out
    have y4 := B3.out.trans (b4.mono B3.out.size)
    have z3 := row?_lt R3.out
    have z4 := b4.size
    have t4 := S3.out.below b4
    obtain ⟨a3, k3, rfl, -, -, -⟩ := id S3.out
    have R4 := Lib.hid x4
    have B4 := Lib.hid y4
    have O4 := Lib.hid o4
    clear x4 y4 b4 o4 R3 B3 t4
    go_wp2_with (at_builtin; refine Classical.byContradiction ?_)
    intro hh; apply hh; clear hh
    refine app_zeros rfl _ _ 23 3 rfl w3.heap.size 5 i0 Try.underlying23 Try.underlying3 hi hz0 hz1 hz2 v4 BB rfl O4.out R rfl (by have := HBL.out.1; omega) (by have := HBL.out.2.2; omega) z4 ?_
    intro v5 w5 o5 g5
    obtain ⟨Z, hZ⟩ : ∃ Z, BB ++ List.replicate R 0 = Z := ⟨_, rfl⟩
    have hZl : Z.length = BB.length + R := by rw [← hZ]; simp
    have o5' : w5.ownsRow w3.heap.size 5 1 v5 Z.length (Z.map bv) := by rw [← hZ]; simpa using o5
    have hg := HGET.out
    obtain ⟨M, hM⟩ : ∃ M, num % 256 ^ nl = M := ⟨_, rfl⟩
    rw [hZ, hM] at hg
    have HM := Lib.hid hM
    clear hM
    have bb5 : Below w3.heap.size w4 w5 := (Below.refl _ _).grown g5 z4 (fun q hq => (O4.out.lt q hq).1)
    have x5 := Rg.row_below bb5 R4.out z3
    have y5 := B4.out.trans (bb5.mono (by omega))
    have z5 := bb5.size
    have R5 := Lib.hid x5
    have B5 := Lib.hid y5
    have O5 := Lib.hid o5'
    have HG := Lib.hid hg
    have HZL := Lib.hid hZl
    clear o5 o5' g5 hZ hg bb5 x5 y5 R4 B4 O4 HGET hZl S3
    obtain ⟨a5, k5, rfl, hk5, -, hp5⟩ := id (Own.sl O5.out)
    obtain ⟨g5, off5, rfl, -⟩ := hp5 (by have := HZL.out; have := HBL.out.2.1; omega)
    obtain rfl : off5 = 0 := by
      rcases O5.out.2 with ⟨h', _⟩ | ⟨g', cap', cur, h', _⟩
      · cases h'
      · simp at h'; exact h'.1.2
    have HK5 := Lib.hid hk5
    clear hk5 hp5
    go_wp2_with fail
    have hgc := get_any Z (by have := HZL.out; have := HBL.out; omega) _ w5 (Own.sl O5.out)
    rw [HG.out] at hgc
    refine hgc.mono ?_
    rintro e w6 ⟨vg1, vg2, vg3, he, og1, og2, og3, -, b6⟩
    dsimp only at he og1 og2 og3
    subst he
    obtain ⟨xd, yd, rfl, -, -, -⟩ := id (Own.sl og1)
    obtain ⟨xs, ys, rfl, -, -, -⟩ := id (Own.sl og2)
    obtain ⟨xt, yt, rfl, -, -, -⟩ := id (Own.sl og3)
    have x6 := Rg.stable_row b6 R5.out
    have y6 := B5.out.trans (b6.mono B5.out.size)
    have z6 := b6.size
    have zz6 := row?_lt x6
    have p6 := own_below b6 O5.out
    have r6a : row? (w6.alloc (.cells (hvA lg kind ver (.slice xd dst.length yd) (.slice xs src.length ys) (.slice xt tok.length yt) sp ph M nl) 26)) w.heap.size = some (hvA lg kind ver (.slice ad dst.length cd) (.slice as_ src.length cs) (.slice at_ tok.length ct) sp ph num nl) := by rw [row?_alloc_past _ _ _ zz6]; exact x6
    have R6 := Lib.hid (show row? ((w6.alloc (.cells (hvA lg kind ver (.slice xd dst.length yd) (.slice xs src.length ys) (.slice xt tok.length yt) sp ph M nl) 26)).alloc (.cells (hvA lg kind ver (.slice ad dst.length cd) (.slice as_ src.length cs) (.slice at_ tok.length ct) sp ph num nl) 26)) w.heap.size = some (hvA lg kind ver (.slice ad dst.length cd) (.slice as_ src.length cs) (.slice at_ tok.length ct) sp ph num nl) from by rw [row?_alloc_past _ _ _ (by simp; omega)]; exact r6a)
    have G6 := Lib.hid (show row? ((w6.alloc (.cells (hvA lg kind ver (.slice xd dst.length yd) (.slice xs src.length ys) (.slice xt tok.length yt) sp ph M nl) 26)).alloc (.cells (hvA lg kind ver (.slice ad dst.length cd) (.slice as_ src.length cs) (.slice at_ tok.length ct) sp ph num nl) 26)) w6.heap.size = some (hvA lg kind ver (.slice xd dst.length yd) (.slice xs src.length ys) (.slice xt tok.length yt) sp ph M nl) from by rw [row?_alloc_past _ _ _ (by simp)]; exact row?_alloc_at _ _ _ _ rfl)
    have W6 := Lib.hid (show row? ((w6.alloc (.cells (hvA lg kind ver (.slice xd dst.length yd) (.slice xs src.length ys) (.slice xt tok.length yt) sp ph M nl) 26)).alloc (.cells (hvA lg kind ver (.slice ad dst.length cd) (.slice as_ src.length cs) (.slice at_ tok.length ct) sp ph num nl) 26)) (w6.heap.size + 1) = some (hvA lg kind ver (.slice ad dst.length cd) (.slice as_ src.length cs) (.slice at_ tok.length ct) sp ph num nl) from row?_alloc_at _ _ _ _ (by simp))
    have bb6 : Below w6.heap.size w6 ((w6.alloc (.cells (hvA lg kind ver (.slice xd dst.length yd) (.slice xs src.length ys) (.slice xt tok.length yt) sp ph M nl) 26)).alloc (.cells (hvA lg kind ver (.slice ad dst.length cd) (.slice as_ src.length cs) (.slice at_ tok.length ct) sp ph num nl) 26)) := bel2 _ _ _
    have zs6 : ((w6.alloc (.cells (hvA lg kind ver (.slice xd dst.length yd) (.slice xs src.length ys) (.slice xt tok.length yt) sp ph M nl) 26)).alloc (.cells (hvA lg kind ver (.slice ad dst.length cd) (.slice as_ src.length cs) (.slice at_ tok.length ct) sp ph num nl) 26)).heap.size = w6.heap.size + 2 := by simp
    have y7 := y6.trans (bb6.mono y6.size)
    have B7 := Lib.hid y7
    have P6 := Lib.hid p6
    have D1 := Lib.hid og1
    have D2 := Lib.hid og2
    have D3 := Lib.hid og3
    have BB6 := Lib.hid bb6
    clear og1 og2 og3 x6 y6 y7 p6 b6 bb6 hgc R5 B5 O5 HG
    go_wp2_with fail
    generalize ((w6.alloc (.cells (hvA lg kind ver (.slice xd dst.length yd) (.slice xs src.length ys) (.slice xt tok.length yt) sp ph M nl) 26)).alloc (.cells (hvA lg kind ver (.slice ad dst.length cd) (.slice as_ src.length cs) (.slice at_ tok.length ct) sp ph num nl) 26)) = W7 at R6 G6 W6 zs6 B7 BB6 ⊢
    clear r6a
    have c48 : W7.cell? ⟨w.heap.size, 8, none⟩ = some (.int .u64 (num : Nat)) := row?_cell R6.out 8
    have c49 : W7.cell? ⟨w.heap.size, 9, none⟩ = some (.int .i64 (nl : Nat)) := row?_cell R6.out 9
    have c68 := row?_cell W6.out 8
    have f68 := row?_frozen W6.out 8
    refine Rg.wp_region_plan (Rg.row [(0, 3), (1, 0), (2, 3), (3, 0), (4, 3), (5, 3), (6, 3), (7, 3), (8, 3)] [9]) [9] (by kernel_rfl) (by kernel_rfl) ?_
    simp only [Rg.row, Rg.PT.map, List.map_cons, List.map_nil, List.getD_cons_zero, List.getD_cons_succ]
    go_wp2_with (first
      | (with_reducible refine Rw.hold_ops 82 ?_)
      | ((with_reducible refine Rg.plan_pure ?_ ?_ ?_); kernel_rfl; kernel_rfl; intro _ _)
      | ((with_reducible refine Rg.plan_take ?_ ?_ ?_); kernel_rfl; kernel_rfl; intro _ _)
      | ((with_reducible refine Rg.plan_keep ?_ ?_); kernel_rfl; intro K hK)
      | (refine hK _ _ (Rg.Keep.refl _) ?_; clear hK)
      | (refine hK _ _ (Rg.Keep.of_below (by assumption)) ?_; clear hK)
      | ((with_reducible refine Rg.plan_skip ?_ ?_); kernel_rfl)
      | (with_reducible refine Rg.plan_done ?_)
      | (with_reducible refine Rg.calm_normal ?_))
    refine Rw.Held.mk ?_
    rw [mask_val64 num nl h4 HN.out, HM.out]
    clear c48 c49 c68 f68
    have mx : Mut (w6.heap.size + 1) W7 (W7.setCell ⟨w6.heap.size + 1, 8, none⟩ (.int .u64 (M : Nat))).drew := ((Mut.refl _ _).setCell _ _ _).drew
    have xw : row? (W7.setCell ⟨w6.heap.size + 1, 8, none⟩ (.int .u64 (M : Nat))).drew (w6.heap.size + 1) = some (hvA lg kind ver (.slice ad dst.length cd) (.slice as_ src.length cs) (.slice at_ tok.length ct) sp ph M nl) := by rw [row?_drew, row?_setCell_eq W6.out]; rfl
    generalize (W7.setCell ⟨w6.heap.size + 1, 8, none⟩ (.int .u64 (M : Nat))).drew = W8 at mx xw ⊢
    have xg := mx.row G6.out (by omega)
    have xr := mx.row R6.out (by omega)
    have xb := B7.out.trans (mx.below (by omega) B7.out.size)
    have xm := BB6.out.trans (mx.below (N := w6.heap.size) (by omega) (by omega))
    have O8 := Lib.hid (own_below xm P6.out)
    have E1 := Lib.hid (Own.sl (own_below xm D1.out))
    have E2 := Lib.hid (Own.sl (own_below xm D2.out))
    have E3 := Lib.hid (Own.sl (own_below xm D3.out))
    have B8 := Lib.hid xb
    have z8 := mx.size
    clear xr xb xm mx R6 G6 W6 B7 P6 D1 D2 D3 BB6
    go_wp2_with fail
    refine (sameHeader_eq lg kind ver sp ph M nl dst src tok (by have := HLE.out; omega) (by have := HLE.out; omega) (by have := HLE.out; omega) _ _ _ _ _ _ W8 E1.out (SD.out.below B8.out) E2.out (SS.out.below B8.out) E3.out (ST.out.below B8.out)).mono ?_
    rintro e w9 ⟨rfl, b9⟩
    have y9 := B8.out.trans (b9.mono B8.out.size)
    have B9 := Lib.hid y9
    have O9 := Lib.hid (own_below b9 O8.out)
    have z9 := b9.size
    clear xg xw b9 y9 E1 E2 E3 O8 B8
    go_wp2_with fail
    refine (low_any pos Z.length (by have := HZL.out; have := HBL.out.2.1; omega) (by have := HZL.out; have := HBL.out; omega) _).mono ?_
    rintro e w' ⟨rfl, rfl⟩
    have hPl := low_lt pos Z.length (by have := HZL.out; have := HBL.out.2.1; omega)
    generalize low pos Z.length = P at hPl ⊢
    have hcut : ∀ W, (Instr.sliceAt 23 (.slice (some ⟨g5, 0, none⟩) Z.length k5) none (some (.int .i64 (P : Nat))) none).run Try.prog W = .ok (.slice (cutA (some ⟨g5, 0, none⟩) 0 k5) P k5) W := fun W => by
      rw [cut_h TB W _ _ _ _ _ (by omega) (by have := HK5.out; omega), Int.toNat_natCast]
    have hsc := (Own.sl O9.out).cut 0 P (by omega) (by omega)
    simp only [Nat.sub_zero, List.drop_zero] at hsc
    have hlq := get_len (Z.take P)
    have hZP : (Z.take P).length ≤ 1000000 := by have := HZL.out; have := HBL.out; rw [List.length_take]; omega
    have hgp := fun v W h => get_any (Z.take P) hZP v W h
    have hrp := fun v W h => rrget_any (Z.take P) hZP v W h
    rw [← get_rget (Z.take P) hZP] at hrp
    generalize get (Z.take P) = q1 at hlq hgp hrp
    obtain ⟨⟨l1, k1, ver1, d1, s1, t1, p1, f1, n1, m1⟩, i1, j1, e1⟩ := q1
    have HGP := Lib.hid hgp
    have HRP := Lib.hid hrp
    have HSC := Lib.hid hsc
    have HPL := Lib.hid hPl
    have HZP := Lib.hid hZP
    clear hgp hrp hsc hPl hlq hZP
    go_wp2_with fail
    refine (HGP.out _ w9 HSC.out).mono ?_
    rintro e w10 ⟨vg1, vg2, vg3, he, og1, og2, og3, -, b10⟩
    dsimp only at he og1 og2 og3
    subst he
    obtain ⟨ga, gb, rfl, -, -, -⟩ := id (Own.sl og1)
    obtain ⟨gc, gd, rfl, -, -, -⟩ := id (Own.sl og2)
    obtain ⟨ge, gf, rfl, -, -, -⟩ := id (Own.sl og3)
    have ba := b10.trans ((Below.refl w10.heap.size w10).alloc (Nat.le_refl _) (.cells (hvA l1 k1 ver1 (.slice ga d1.length gb) (.slice gc s1.length gd) (.slice ge t1.length gf) p1 f1 n1 m1) 26) |>.mono b10.size)
    have za := ba.size
    have HBA := Lib.hid ba
    clear og1 og2 og3 b10 HGP ba
    go_wp2_with fail
    refine (HRP.out _ _ (HSC.out.below HBA.out)).mono ?_
    rintro e w11 ⟨vg1, vg2, vg3, he, og1, og2, og3, b11⟩
    dsimp only at he og1 og2 og3
    subst he
    obtain ⟨ha, hb, rfl, -, -, -⟩ := id og1
    obtain ⟨hc, hd, rfl, -, -, -⟩ := id og2
    obtain ⟨he, hf, rfl, -, -, -⟩ := id og3
    have bb := (HBA.out.trans (b11.mono za)).trans ((Below.refl w11.heap.size w11).alloc (Nat.le_refl _) (.cells (hvA l1 k1 ver1 (.slice ha d1.length hb) (.slice hc s1.length hd) (.slice he t1.length hf) p1 f1 n1 m1) 26) |>.mono (by have := b11.size; omega))
    have o12 := own_below bb O9.out
    have y12 := B9.out.trans (bb.mono B9.out.size)
    have z12 := bb.size
    have O12' := Lib.hid o12
    have B12' := Lib.hid y12
    have Z12' := Lib.hid z12
    clear og1 og2 og3 b11 HRP HBA za bb o12 y12 z12 HSC O9 B9
    go_wp2_with (with_reducible refine Rw.hold_ops 123 ?_)
    refine Rw.Held.mk ?_
    generalize (w11.alloc (.cells (hvA l1 k1 ver1 (.slice ha d1.length hb) (.slice hc s1.length hd) (.slice he t1.length hf) p1 f1 n1 m1) 26)) = W12 at O12' B12' Z12' ⊢
    have o12 := O12'.out
    have y12 := B12'.out
    have z12 := Z12'.out
    clear O12' B12' Z12'
    have c12 : W12.cell? ⟨g5, P, none⟩ = some (.int .u8 (n8 (nth Z P) : Nat)) := by
      have := HPL.out
      rw [o12.cellAt P (by simpa using this)]
      simp [nth, bv, n8, this]
    have f12 := o12.frozenAt P
    have O12 := Lib.hid o12
    have B12 := Lib.hid y12
    clear o12 y12
    have hPi : ((P : Nat) : Int) < (Z.length : Nat) := by have := HPL.out; omega
    go_wp2_with (with_reducible refine Rw.hold_ops 128 ?_)
    refine Rw.Held.mk ?_
    have os := own_stored O12.out P by_
    have mm : Mut g5 W12 (W12.setCell ⟨g5, P, none⟩ (.int .u8 (n8 by_ : Nat))) := (Mut.refl _ _).setCell _ _ _
    have hg5 := (O12.out.lt g5 rfl).1
    generalize (W12.setCell ⟨g5, P, none⟩ (.int .u8 (n8 by_ : Nat))) = W13 at os mm ⊢
    have y13 := B12.out.trans (mm.below (by omega) B12.out.size)
    have z13 := mm.size
    obtain ⟨Y, hY⟩ : ∃ Y, Z.set P by_ = Y := ⟨_, rfl⟩
    have hYl : Y.length = Z.length := by rw [← hY]; simp
    rw [hY, ← hYl] at os
    rw [← hYl]
    have hlq := get_len Y
    have hYP : Y.length ≤ 1000000 := by have := HZL.out; have := HBL.out; omega
    have hgp := fun v W h => get_any Y hYP v W h
    have hrp := fun v W h => rrget_any Y hYP v W h
    rw [← get_rget Y hYP] at hrp
    generalize get Y = q2 at hlq hgp hrp
    obtain ⟨⟨l2, k2, ver2, d2, s2, t2, p2, f2, n2, m2⟩, i2, j2, e2⟩ := q2
    dsimp only at hlq
    have HGP := Lib.hid hgp
    have HRP := Lib.hid hrp
    have HLQ := Lib.hid hlq
    have B13 := Lib.hid y13
    have O13 := Lib.hid os
    clear os mm hY hYl hlq hYP hgp hrp y13 c12 f12 O12 B12 hPi
    go_wp2_with fail
    refine (HGP.out _ W13 (Own.sl O13.out)).mono ?_
    rintro e w14 ⟨vg1, vg2, vg3, he, og1, og2, og3, -, b14⟩
    dsimp only at he og1 og2 og3
    subst he
    obtain ⟨ia, ib, rfl, -, -, -⟩ := id (Own.sl og1)
    obtain ⟨ic, id_, rfl, -, -, -⟩ := id (Own.sl og2)
    obtain ⟨ie, if_, rfl, -, -, -⟩ := id (Own.sl og3)
    have bal : Below w14.heap.size w14 (w14.alloc (.cells (hvA l2 k2 ver2 (.slice ia d2.length ib) (.slice ic s2.length id_) (.slice ie t2.length if_) p2 f2 n2 m2) 26)) := (Below.refl _ _).alloc (Nat.le_refl _) _
    have G1 := Lib.hid ((Own.sl og1).below bal)
    have G2 := Lib.hid ((Own.sl og2).below bal)
    have G3 := Lib.hid ((Own.sl og3).below bal)
    have GR := Lib.hid (show row? (w14.alloc (.cells (hvA l2 k2 ver2 (.slice ia d2.length ib) (.slice ic s2.length id_) (.slice ie t2.length if_) p2 f2 n2 m2) 26)) w14.heap.size = some (hvA l2 k2 ver2 (.slice ia d2.length ib) (.slice ic s2.length id_) (.slice ie t2.length if_) p2 f2 n2 m2) from row?_alloc_at _ _ _ _ rfl)
    have HBA := Lib.hid (b14.trans (bal.mono b14.size))
    have ZBA := Lib.hid (HBA.out.size)
    clear og1 og2 og3 b14 HGP bal
    go_wp2_with fail
    refine (HRP.out _ _ ((Own.sl O13.out).below HBA.out)).mono ?_
    rintro e w15 ⟨vg1, vg2, vg3, he, og1, og2, og3, b15⟩
    dsimp only at he og1 og2 og3
    subst he
    obtain ⟨ja, jb, rfl, -, -, -⟩ := id og1
    obtain ⟨jc, jd, rfl, -, -, -⟩ := id og2
    obtain ⟨je, jf, rfl, -, -, -⟩ := id og3
    have bal : Below w15.heap.size w15 (w15.alloc (.cells (hvA l2 k2 ver2 (.slice ja d2.length jb) (.slice jc s2.length jd) (.slice je t2.length jf) p2 f2 n2 m2) 26)) := (Below.refl _ _).alloc (Nat.le_refl _) _
    have b15' := b15.trans (bal.mono b15.size)
    have T1 := Lib.hid (og1.below bal)
    have T2 := Lib.hid (og2.below bal)
    have T3 := Lib.hid (og3.below bal)
    have U1 := Lib.hid (G1.out.below b15')
    have U2 := Lib.hid (G2.out.below b15')
    have U3 := Lib.hid (G3.out.below b15')
    have rg := Rg.stable_row b15' GR.out
    have rt : row? (w15.alloc (.cells (hvA l2 k2 ver2 (.slice ja d2.length jb) (.slice jc s2.length jd) (.slice je t2.length jf) p2 f2 n2 m2) 26)) w15.heap.size = some (hvA l2 k2 ver2 (.slice ja d2.length jb) (.slice jc s2.length jd) (.slice je t2.length jf) p2 f2 n2 m2) := row?_alloc_at _ _ _ _ rfl
    have BX := Lib.hid (B13.out.trans ((HBA.out.trans (b15'.mono ZBA.out)).mono B13.out.size))
    have RG := Lib.hid rg
    have RT := Lib.hid rt
    clear og1 og2 og3 b15 HRP bal b15' rg rt G1 G2 G3 GR HBA ZBA O13 B13
    go_wp2_with (with_reducible refine Rw.hold_ops 141 ?_)
    refine Rw.Held.mk ?_
    generalize (w15.alloc (.cells (hvA l2 k2 ver2 (.slice ja d2.length jb) (.slice jc s2.length jd) (.slice je t2.length jf) p2 f2 n2 m2) 26)) = WX at T1 T2 T3 U1 U2 U3 BX RG RT ⊢
    have rg := RG.out
    have rt := RT.out
    go_wp2_with fail
    refine (sameHeader_eq l2 k2 ver2 p2 f2 n2 m2 d2 s2 t2 (by have := HLQ.out; omega) (by have := HLQ.out; omega) (by have := HLQ.out; omega) _ _ _ _ _ _ WX U1.out T1.out U2.out T2.out U3.out T3.out).mono ?_
    rintro e w16 ⟨rfl, b16⟩
    have y16 := BX.out.trans (b16.mono BX.out.size)
    clear rg rt b16
    go_wp2_with fail
    refine (awake_any w16).mono ?_
    rintro e w17 ⟨rfl, b17⟩
    have y17 := y16.trans (b17.mono y16.size)
    go_wp2_with fail
    go_ret
    exact ⟨rfl, y17⟩
end Go.Proofs.Ytgaheodnembjiaa
