/- The law FrameZeros, walked. -/
import Derived.Test.YtipniobgijdlkaaMgaFrmN
import Derived.Test.YtipniobgijdlkaaMgaFrmU2
import Derived.Test.YtipniobgijdlkaaMga1
import Derived.Test.YtipniobgijdlkaaMgaLawN
import Derived.Test.YtipniobgijdlkaaLibZ
namespace Frm
open Go Go.RowKit Go.Rw Hdr
def frM (n : Nat) : Fr := ⟨16, n, 0, [], 0, 0, false, [], [], []⟩
theorem frM_may (n : Nat) (h : n < 4611686018427387904) : (frM n).may = true := by
  unfold Fr.may frM mayB
  rw [if_neg (by simp), if_neg (by simp), if_neg (by simp), if_neg (by simp), if_neg (by simp), if_pos (by simp)]
  simp [plainB]; omega
theorem frM_put (n : Nat) : (frM n).put = [16] ++ vP n := by
  unfold Fr.put frM
  rw [if_neg (by simp), if_neg (by simp), if_neg (by simp), if_neg (by simp), if_pos rfl]
theorem frM_laid (n : Nat) (h : n < 4611686018427387904) : (frM n).laid = [16] ++ vP n := by
  unfold Fr.laid; rw [if_pos (frM_may n h), frM_put]
theorem fits_M (n : Nat) : (frM n).fits := by unfold Fr.fits frM; simp
/-- A frame, zeros, the frame: read as they were. -/
theorem fall_zeros (n m : Nat) (h : n < 4611686018427387904) (hm : m ≤ 40000) : fall ([16] ++ vP n ++ List.replicate m 0 ++ ([16] ++ vP n)) = ([frM n] ++ pads m ++ [frM n], 0) := by
  have hp : (pads m).length ≤ 3 := by rw [pads_length]; omega
  have e : [16] ++ vP n ++ List.replicate m 0 ++ ([16] ++ vP n) = (frM n).put ++ (List.replicate m 0 ++ ((frM n).put ++ [])) := by rw [frM_put]; simp
  rw [e]
  show fallR _ [] = _
  rw [fallR_frame (frM_may n h) (by simp [frM]) (by simp), fallR_zeros m m _ _ (Nat.le_refl _) (by rw [frM_put]; intro c t hc; simp at hc; rw [← hc.1]; decide) (by simp; omega),
    fallR_frame (frM_may n h) (by simp [frM]) (by simp; omega), fallR_nil _ (by simp)]
  simp
theorem zeros_get (n m i : Nat) (h1 : 1 ≤ i) (h2 : i ≤ (m + 16383) / 16384) : ([frM n] ++ pads m ++ [frM n]).getD i fr0 = padF (min (m - (i - 1) * 16384) 16384) := by
  obtain ⟨k, rfl⟩ : ∃ k, i = k + 1 := ⟨i - 1, by omega⟩
  have hk : k < (pads m).length := by rw [pads_length]; omega
  rw [List.getD, List.append_assoc, List.singleton_append, List.getElem?_cons_succ, List.getElem?_append_left hk, List.getElem?_eq_getElem hk, Option.getD_some]
  simp [pads]
theorem zeros_last (n m : Nat) : ([frM n] ++ pads m ++ [frM n]).getD ((m + 16383) / 16384 + 1) fr0 = frM n := by
  rw [List.getD, List.append_assoc, List.singleton_append, List.getElem?_cons_succ, List.getElem?_append_right (by rw [pads_length]; omega), pads_length]
  simp
end Frm
namespace Go.Proofs.Ytipniobgijdlkaa
open Go.RowKit Go.Rw Frm Hdr
theorem u64_ofInt_nat2 (x : Int) : (UInt64.ofInt x).toNat = (x % 18446744073709551616).toNat := by
  simp [UInt64.ofInt]
  omega
theorem and_62 (x : Int) : bits .and .u64 x 4611686018427387903 = x % 4611686018427387904 := by
  rw [bits_and64]
  have e : n64 (UInt64.ofInt x &&& UInt64.ofInt 4611686018427387903) = (x % 18446744073709551616).toNat &&& (2 ^ 62 - 1) := by
    show (UInt64.ofInt x &&& UInt64.ofInt 4611686018427387903).toNat = _
    rw [UInt64.toNat_and, u64_ofInt_nat2]; rfl
  rw [e, Nat.and_two_pow_sub_one_eq_mod]
  omega
attribute [local go_sem high] and_62
attribute [local go_sem ↓] ldFF stFF alFF bdFQ
attribute [local go_sem] rldFF rstFF ralFF setRow_alloc_at setRow_alloc_past setRow_drew
theorem buildFM (k : Int) (n : Nat) (w : World) : (buildQ 28 #[(0, .int .i64 k), (1, .int .u64 (n : Nat))]).run Try.prog w = .ok (.agg (fvA k n 0 (.slice none 0 0) 0 0 false (.slice none 0 0) (.slice none 0 0) (.slice none 0 0))) w := Go.run_build w _ _ _ (by kernel_rfl)
attribute [local go_sem] buildFM
theorem fv_plain (w : World) (k : Int) (n : Nat) : Fv w (.agg (fvA k n 0 (.slice none 0 0) 0 0 false (.slice none 0 0) (.slice none 0 0) (.slice none 0 0))) ⟨k, n, 0, [], 0, 0, false, [], [], []⟩ :=
  ⟨_, _, _, _, rfl, Sr.nil _, Sl.nil _, Sl.nil _, Sl.nil _⟩
set_option maxRecDepth 100000 in
set_option maxHeartbeats 4000000 in
theorem zerosLaw_any (many : Int) (num : Nat) (w : World) :
    Calls Try.prog 12 #[.int .i64 many, .int .u64 (num : Nat)] w fun e w' => e = .returned (.bool true) ∧ Below w.heap.size w w' := by
  obtain ⟨i0, hi, hz0, hz1, hz2⟩ := info_parts info8
  go_enter Try.func12, Try.ntmps12
  go_wp2_with fail
  refine (low_any many 40001 (by decide) (by decide) w).mono ?_
  rintro e w0 ⟨rfl, rfl⟩
  have hm := low_lt many 40001 (by decide)
  generalize low many 40001 = m at *
  obtain ⟨n, hn, eI⟩ : ∃ n : Nat, n < 4611686018427387904 ∧ (num : Int) % 4611686018427387904 = n := ⟨num % 4611686018427387904, by omega, by omega⟩
  have HM := Lib.hid hm
  have HN := Lib.hid hn
  clear hm hn
  go_wp2_with fail
  refine (fput_fr (frM n) (fits_M n) _ w (fv_plain w 16 n)).mono ?_
  rintro e w1 ⟨v1, rfl, o1, b1⟩
  rw [frM_laid n HN.out] at o1
  have hL := vlen_le n
  obtain ⟨L, eL⟩ : ∃ L, [16] ++ vP n = L := ⟨_, rfl⟩
  have hLl : L.length ≤ 9 := by rw [← eL]; simp [vP_length]; omega
  have hfall := fall_zeros n m HN.out (by have := HM.out; omega)
  rw [eL] at o1 hfall
  have s1 := Own.sl o1
  have S1 := Lib.hid s1
  have B1 := Lib.hid b1
  have HF := Lib.hid hfall
  have HL := Lib.hid hLl
  clear o1 s1 b1 hfall hLl eL hL
  go_wp2_with (at_builtin; refine Classical.byContradiction ?_)
  intro hh; apply hh; clear hh
  refine app_sl rfl _ _ 25 rfl w1.heap.size 5 i0 Try.underlying25 hi hz0 hz1 hz2 (.slice none 0 0) [] rfl (World.ownsRow_nil _ _ _ _) v1 L rfl S1.out (by have := HL.out; simp; omega) (Nat.le_refl _) ?_
  intro v2 w2 o2 g2
  rw [List.nil_append] at o2
  have z2 := (Below.refl w1.heap.size w1).grown g2 (Nat.le_refl _) (fun k hk => by cases hk)
  have s2 := S1.out.below z2
  have b2 : Below w.heap.size w w2 := B1.out.trans (z2.mono B1.out.size)
  have S2 := Lib.hid s2
  have O2 := Lib.hid o2
  have B2 := Lib.hid b2
  have Z2 := Lib.hid z2
  clear o2 s2 b2 z2 g2
  go_wp2_with (at_builtin; refine Classical.byContradiction ?_)
  intro hh; apply hh; clear hh
  refine app_zeros rfl _ _ 25 3 rfl w1.heap.size 5 i0 Try.underlying25 Try.underlying3 hi hz0 hz1 hz2 v2 L rfl O2.out m rfl (by have := HL.out; omega) (by have := HM.out; omega) Z2.out.size ?_
  intro v3 w3 o3 g3
  have z3 : Below w1.heap.size w1 w3 := Z2.out.grown g3 Z2.out.size (fun k hk => (O2.out.lt k hk).1)
  have s3 := S1.out.below z3
  have b3 : Below w.heap.size w w3 := B1.out.trans (z3.mono B1.out.size)
  have S3 := Lib.hid s3
  have O3 := Lib.hid o3
  have B3 := Lib.hid b3
  have Z3 := Lib.hid z3
  have hl3 : (L ++ List.replicate m 0).length ≤ 40009 := by have := HL.out; have := HM.out; simp; omega
  have HL3 := Lib.hid hl3
  clear S2 O2 B2 Z2 o3 s3 b3 z3 g3 hl3
  go_wp2_with (at_builtin; refine Classical.byContradiction ?_)
  intro hh; apply hh; clear hh
  refine app_sl rfl _ _ 25 rfl w1.heap.size 5 i0 Try.underlying25 hi hz0 hz1 hz2 v3 (L ++ List.replicate m 0) rfl O3.out v1 L rfl S3.out (by have := HL.out; have := HL3.out; omega) Z3.out.size ?_
  intro v4 w4 o4 g4
  have z4 : Below w1.heap.size w1 w4 := Z3.out.grown g4 Z3.out.size (fun k hk => (O3.out.lt k hk).1)
  have b4 : Below w.heap.size w w4 := B1.out.trans (z4.mono B1.out.size)
  have s4 := Own.sl o4
  have B4 := Lib.hid b4
  have S4 := Lib.hid s4
  clear S1 B1 S3 O3 B3 Z3 o4 g4 z4 b4 s4
  have hall := fall_any (L ++ List.replicate m 0 ++ L) (by have := HL.out; have := HL3.out; rw [List.length_append]; omega) v4 w4 S4.out
  rw [HF.out] at hall
  have HA := Lib.hid hall
  clear hall S4 HF HL HL3
  go_wp2_with fail
  refine HA.out.mono ?_
  rintro e w5 ⟨v5, rfl, o5, b5⟩
  have b5' : Below w.heap.size w w5 := B4.out.trans (b5.mono B4.out.size)
  have o5' : OwnFs w5 w4.heap.size 28 v5 ([frM n] ++ pads m ++ [frM n]) := o5
  have hlen : ([frM n] ++ pads m ++ [frM n]).length = (m + 16383) / 16384 + 2 := by simp [pads_length]
  obtain ⟨g, cap, A0, e5, f0, hA0, c0⟩ := o5'.get 0 (by omega)
  rw [hlen] at e5
  subst e5
  obtain ⟨P, hP⟩ : ∃ P, (m + 16383) / 16384 = P := ⟨_, rfl⟩
  rw [hP] at o5' hlen ⊢
  simp only []
  have hm := HM.out
  obtain ⟨x1, q1, y1⟩ : ∃ x : Int, wrap64 ((m : Int) + 16384) = x ∧ x = m + 16384 := ⟨_, IntWalk.wrap64_in _ (by omega), rfl⟩
  obtain ⟨x2, q2, y2⟩ : ∃ x : Int, wrap64 (x1 - 1) = x ∧ x = x1 - 1 := ⟨_, IntWalk.wrap64_in _ (by omega), rfl⟩
  have q3 : wrap64 (x2 / 16384) = P := (IntWalk.wrap64_in _ (by omega)).trans (by omega)
  have q3' : wrap64 (x2.tdiv 16384) = P := by rw [Int.tdiv_eq_ediv_of_nonneg (by omega)]; exact q3
  obtain ⟨x5, q5, y5⟩ : ∃ x : Int, wrap64 ((P : Int) + 2) = x ∧ x = P + 2 := ⟨_, IntWalk.wrap64_in _ (by omega), rfl⟩
  have qn : ((P : Int) + 2 != x5) = false := by rw [bne_eq_false_iff_eq]; omega
  have HP3 := Lib.hid (show P ≤ 3 by omega)
  have HX := Lib.hid (And.intro y1 (And.intro y2 y5))
  clear y1 y2 y5
  have O5 := Lib.hid o5'
  have B5 := Lib.hid b5'
  have F0 := Lib.hid (And.intro f0 (And.intro hA0 c0))
  have HP := Lib.hid hP
  have HLn := Lib.hid hlen
  have hu : IntKind.u64.wrap (m : Int) = m := IntWalk.u64_in _ (by omega)
  clear o5 o5' b5 b5' f0 hA0 c0 hP hlen hm HA B4
  go_wp2_with fail
  rw [q1, q2, q3', q5]
  go_loopw [9, 10] (fun v9 v10 wr => ∃ i : Nat, 1 ≤ i ∧ i ≤ P + 1 ∧ v10 = .int .i64 (i : Nat) ∧ v9 = .int .u64 ((m - (i - 1) * 16384 : Nat) : Nat) ∧ OwnFs wr w4.heap.size 28 (.slice (some ⟨g, 0, none⟩) (P + 2) cap) ([frM n] ++ pads m ++ [frM n]) ∧ Below w.heap.size w wr) (fun _ v10 _ => P + 2 - (intOf v10).toNat)
  case atStart => exact ⟨1, by omega, by omega, rfl, by simp, O5.out, B5.out⟩
  case round =>
    obtain ⟨i, hi1, hi2, rfl, rfl, of, bw⟩ := hrel
    have OF := Lib.hid of
    have BW := Lib.hid bw
    have H1 := Lib.hid hi1
    have H2 := Lib.hid hi2
    by_cases hle : i ≤ P
    · have p : decide (i ≤ P) = true := decide_eq_true hle
      have pi : decide ((i : Int) ≤ P) = true := decide_eq_true (by omega)
      obtain ⟨g', cap', A, e', fa, hA, cA⟩ := of.get i (by rw [HLn.out]; omega)
      rw [HLn.out] at e'
      injection e' with e1 e2 e3
      injection e1 with e1
      injection e1 with e1
      subst e1 e3
      rw [zeros_get n m i hi1 (by rw [HP.out]; exact hle)] at fa
      obtain ⟨l, hl⟩ : ∃ l, m - (i - 1) * 16384 = l := ⟨_, rfl⟩
      rw [hl] at fa ⊢
      have lf := load_ten AgFF wr g (i * 10) A hA cA
      have hl4 : l ≤ 40000 := by have := HM.out; omega
      obtain ⟨q, hq⟩ : ∃ q, min l 16384 = q := ⟨_, rfl⟩
      rw [hq] at fa
      have hmn : min (l : Int) 16384 = (q : Int) := by omega
      have hsub : IntKind.u64.wrap ((l : Int) - q) = ((l - q : Nat) : Int) := (IntWalk.u64_in _ (by omega)).trans (by omega)
      have HQ := Lib.hid hq
      have HLE := Lib.hid hle
      have c1 : wr.cell? ⟨g, i * 10 + 1, none⟩ = some (.int .u64 (q : Nat)) := by rw [cA 1 (by decide)]; obtain ⟨_, _, _, _, rfl, _⟩ := fa; rfl
      have fz := fa.fv
      have hib : i < P + 2 := by omega
      have FA := Lib.hid fa
      have CA := Lib.hid cA
      have FZ := Lib.hid fz
      have HLl := Lib.hid hl
      clear fa cA fz of bw hl hi1 hi2 hle hq
      go_wp2_with fail
      have hs := fsame_fr (padF q) (padF q) (by unfold Fr.fits padF fr0; simp) (.agg A) _ wr FZ.out (fv_plain wr 0 q)
      rw [sameB_self] at hs
      refine hs.mono ?_
      rintro e w6 ⟨rfl, b6⟩
      have c2 := below_cell b6 c1 (cell_lt c1)
      have of6 := OF.out.below b6
      have bw6 := BW.out.trans (b6.mono BW.out.size)
      obtain ⟨i', hi64, hi'⟩ : ∃ i' : Nat, wrap64 ((i : Int) + 1) = i' ∧ i' = i + 1 := ⟨i + 1, (IntWalk.wrap64_in _ (by have := HP3.out; omega)).trans (by omega), rfl⟩
      obtain ⟨l', hsub', hl'⟩ : ∃ l' : Nat, IntKind.u64.wrap ((l : Int) - q) = l' ∧ l' = l - q := ⟨l - q, hsub, rfl⟩
      have HI' := Lib.hid (And.intro hi' hl')
      have OF6 := Lib.hid of6
      have BW6 := Lib.hid bw6
      clear lf c1 hs b6 of6 bw6 OF BW FZ FA CA hsub hmn hl4 hi' hl' q1 q2 q3 q3' q5 qn hu p pi hA
      go_wp2_with fail
      go_roundw
      case rel =>
        have e9 : l' = m - (i' - 1) * 16384 := by have h1 := HLl.out; have h2 := HQ.out; have h3 := H1.out; have h4 := HI'.out; omega
        exact ⟨i', by have := HI'.out; omega, by have := HI'.out; have := HLE.out; omega, congrArg (Value.int .i64) hi64, by rw [e9], OF6.out, BW6.out⟩
      case measure => rw [hi64]; simp [intOf]; have := HI'.out; have := HLE.out; omega
    · obtain rfl : i = P + 1 := by omega
      have p : decide (P + 1 ≤ P) = false := decide_eq_false (by omega)
      have pi : decide (((P + 1 : Nat) : Int) ≤ P) = false := decide_eq_false (by omega)
      have pj : decide ((P : Int) + 1 ≤ P) = false := decide_eq_false (by omega)
      obtain ⟨A0, h0, cA0, f0⟩ : ∃ A0 : Array Value, A0.size = 10 ∧ (∀ j, j < 10 → wr.cell? ⟨g, 0 + j, none⟩ = A0[j]?) ∧ Fv wr (.agg A0) (frM n) := by
        obtain ⟨g', cap', A, e', fa, hA, cA⟩ := of.get 0 (by rw [HLn.out]; omega)
        rw [HLn.out] at e'
        injection e' with e1 e2 e3
        injection e1 with e1
        injection e1 with e1
        subst e1
        exact ⟨A, hA, fun j hj => by have := cA j hj; rwa [Nat.zero_mul] at this, fa.fv⟩
      obtain ⟨A1, h1, cA1, f1⟩ : ∃ A1 : Array Value, A1.size = 10 ∧ (∀ j, j < 10 → wr.cell? ⟨g, (P + 1) * 10 + j, none⟩ = A1[j]?) ∧ Fv wr (.agg A1) (frM n) := by
        obtain ⟨g', cap', A, e', fa, hA, cA⟩ := of.get (P + 1) (by rw [HLn.out]; omega)
        rw [HLn.out] at e'
        injection e' with e1 e2 e3
        injection e1 with e1
        injection e1 with e1
        subst e1
        have hl := zeros_last n m
        rw [HP.out] at hl
        rw [hl] at fa
        exact ⟨A, hA, cA, fa.fv⟩
      have l0 := load_ten AgFF wr.drew g 0 A0 h0 (fun j hj => cA0 j hj)
      have l1 := load_ten AgFF wr.drew g ((P + 1) * 10) A1 h1 (fun j hj => cA1 j hj)
      have k0 : wr.drew.cell? ⟨g, 0, none⟩ = some (.int .i64 16) := (cA0 0 (by decide)).trans (by obtain ⟨_, _, _, _, e, _⟩ := f0; injection e with e; subst e; rfl)
      have k1 : wr.drew.cell? ⟨g, 1, none⟩ = some (.int .u64 (n : Nat)) := (cA0 1 (by decide)).trans (by obtain ⟨_, _, _, _, e, _⟩ := f0; injection e with e; subst e; rfl)
      have BD : Below wr.heap.size wr wr.drew := (Below.refl _ _).drew
      have F0 := Lib.hid (f0.below BD)
      have F1 := Lib.hid (f1.below BD)
      have BW := Lib.hid bw.drew
      have hx : wrap64 ((P : Int) + 2 - 1) = ((P + 1 : Nat) : Int) := (IntWalk.wrap64_in _ (by have := HP3.out; omega)).trans (by omega)
      have pP : P + 1 < P + 2 := by omega
      clear cA0 cA1 f0 f1 BD OF of bw hi1 hi2 HP
      go_wp2_with fail
      refine Rg.wp_region_plan (Rg.row [(0, 3), (1, 3), (2, 3), (3, 0), (4, 3), (5, 3), (6, 3), (7, 3), (8, 3), (9, 3), (10, 0), (11, 3), (12, 3), (13, 3), (14, 3), (15, 3), (16, 0), (17, 3), (18, 3), (19, 0), (20, 3), (21, 3), (22, 0), (23, 1), (24, 3), (25, 3), (26, 1), (27, 3), (28, 3)] []) [] (by kernel_rfl) (by kernel_rfl) ?_
      simp only [Rg.row, Rg.PT.map, List.map_nil, List.getD_cons_zero, List.getD_cons_succ]
      go_wp2_with (first
        | ((with_reducible refine Rg.plan_pure ?_ ?_ ?_); kernel_rfl; kernel_rfl; intro _ _)
        | ((with_reducible refine Rg.plan_take ?_ ?_ ?_); kernel_rfl; kernel_rfl; intro _ _)
        | ((with_reducible refine Rg.plan_keep ?_ ?_); kernel_rfl; intro K hK)
        | (refine hK _ _ (Rg.Keep.refl _) ?_; clear hK)
        | (refine hK _ _ (Rg.Keep.of_below (by assumption)) ?_; clear hK)
        | ((with_reducible refine Rg.plan_skip ?_ ?_); kernel_rfl)
        | (with_reducible refine Rg.plan_done ?_)
        | (with_reducible refine Rg.calm_normal ?_))
      have hs := fsame_fr (frM n) (frM n) (fits_M n) (.agg A0) (.agg A1) wr.drew F0.out F1.out
      rw [sameB_self] at hs
      refine hs.mono ?_
      rintro e w6 ⟨rfl, h6⟩
      refine hK _ _ (Rg.Keep.of_below h6) ?_
      have k0' := below_cell h6 k0 (cell_lt k0)
      have k1' := below_cell h6 k1 (cell_lt k1)
      have B6 := Lib.hid (BW.out.trans (h6.mono BW.out.size))
      clear hK hs h6 k0 k1 l0 l1 BW F0 F1
      go_wp2_with (first
        | ((with_reducible refine Rg.plan_pure ?_ ?_ ?_); kernel_rfl; kernel_rfl; intro _ _)
        | ((with_reducible refine Rg.plan_take ?_ ?_ ?_); kernel_rfl; kernel_rfl; intro _ _)
        | ((with_reducible refine Rg.plan_keep ?_ ?_); kernel_rfl; intro K hK)
        | (refine hK _ _ (Rg.Keep.refl _) ?_; clear hK)
        | (refine hK _ _ (Rg.Keep.of_below (by assumption)) ?_; clear hK)
        | ((with_reducible refine Rg.plan_skip ?_ ?_); kernel_rfl)
        | (with_reducible refine Rg.plan_done ?_)
        | (with_reducible refine Rg.calm_normal ?_))
      refine (fawake_any w6).mono ?_
      rintro e w7 ⟨rfl, h7⟩
      refine hK _ _ (Rg.Keep.of_below h7) ?_
      have k0 := below_cell h7 k0' (cell_lt k0')
      have k1 := below_cell h7 k1' (cell_lt k1')
      have B7 := Lib.hid (B6.out.trans (h7.mono B6.out.size))
      clear hK h7 k0' k1' B6
      go_wp2_with (first
        | ((with_reducible refine Rg.plan_pure ?_ ?_ ?_); kernel_rfl; kernel_rfl; intro _ _)
        | ((with_reducible refine Rg.plan_take ?_ ?_ ?_); kernel_rfl; kernel_rfl; intro _ _)
        | ((with_reducible refine Rg.plan_keep ?_ ?_); kernel_rfl; intro K hK)
        | (refine hK _ _ (Rg.Keep.refl _) ?_; clear hK)
        | (refine hK _ _ (Rg.Keep.of_below (by assumption)) ?_; clear hK)
        | ((with_reducible refine Rg.plan_skip ?_ ?_); kernel_rfl)
        | (with_reducible refine Rg.plan_done ?_)
        | (with_reducible refine Rg.calm_normal ?_))
      go_ret
      exact ⟨rfl, B7.out⟩
end Go.Proofs.Ytipniobgijdlkaa
