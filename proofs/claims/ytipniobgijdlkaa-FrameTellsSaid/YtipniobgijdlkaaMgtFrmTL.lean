/- The law FrameTells, walked. -/
import Derived.Test.YtipniobgijdlkaaMgt16
import Derived.Test.YtipniobgijdlkaaMgt17
import Derived.Test.YtipniobgijdlkaaMgtFrmGt
import Derived.Test.YtipniobgijdlkaaMgt18
import Derived.Test.YtipniobgijdlkaaMgtFrmS2
import Derived.Test.YtipniobgijdlkaaMgt2
import Derived.Deep.DeepCutAuto
namespace Frm
open Go Go.RowKit Go.Rw Hdr
/-- Two frames in rows of the call's own. -/
structure U2 (w : World) (F : Array Value) (f : Fr) (G : Array Value) (g : Fr) (w' : World) : Prop where
  r1 : row? w' w.heap.size = some F
  r2 : row? w' (w.heap.size + 1) = some G
  f1 : Fv w' (.agg F) f
  f2 : Fv w' (.agg G) g
  bel : Below w.heap.size w w'
theorem U2.step {w : World} {F G : Array Value} {f g : Fr} {w' w'' : World} (h : U2 w F f G g w') (hb : Below w'.heap.size w' w'') : U2 w F f G g w'' :=
  ⟨by rw [row?_below hb (row?_lt h.r1)]; exact h.r1, by rw [row?_below hb (row?_lt h.r2)]; exact h.r2, h.f1.below hb, h.f2.below hb, h.bel.trans (hb.mono h.bel.size)⟩
theorem great_fits {f : Fr} (h : ¬ greatB f = true) : f.fits ∧ f.dat.length ≤ 300 ∧ (f.k = 0 → f.n ≤ 400) := by
  unfold greatB at h
  simp only [Bool.or_eq_true, Bool.and_eq_true, decide_eq_true_eq] at h
  unfold Fr.fits
  omega
theorem put_len (f : Fr) (N : Nat) (h1 : f.rs.length ≤ N) (h2 : f.dat.length ≤ N) (h3 : f.cid.length ≤ N) (h4 : f.tok.length ≤ N) (h5 : f.k = 0 → f.n ≤ N) : f.put.length ≤ 200 + 20 * N := by
  have a1 := ackR_len f.rs (f.rs.length - 1)
  have a2 := vlen_le (rhi f.rs 0)
  have a3 := vlen_le f.d
  have a4 := vlen_le (f.rs.length - 1)
  have a5 := vlen_le (rhi f.rs 0 - rlo f.rs 0)
  have a6 := vlen_le f.i
  have a7 := vlen_le f.o
  have a8 := vlen_le f.dat.length
  have a9 := vlen_le f.n
  have b1 : (ackB f.d f.rs).length ≤ 40 := by
    unfold ackB
    rw [List.length_append, List.length_append, List.length_append, vP_length, vP_length, vP_length, vP_length]
    omega
  unfold Fr.put
  by_cases k0 : f.k = 0
  · rw [if_pos k0, List.length_replicate]; have := h5 k0; omega
  rw [if_neg k0]
  repeat' (first | (rw [if_pos ‹_›]) | split)
  all_goals try simp only [List.length_append, List.length_cons, List.length_nil, vP_length]
  all_goals try omega
theorem laid_len (f : Fr) (h : ¬ greatB f = true) : f.laid.length ≤ 1000000 := by
  unfold greatB at h
  simp only [Bool.or_eq_true, Bool.and_eq_true, decide_eq_true_eq] at h
  unfold Fr.laid
  split
  · have := put_len f 400 (by omega) (by omega) (by omega) (by omega) (by omega); omega
  · simp
/-- What is laid, padding too, is read as it was. -/
theorem fget_laid (f : Fr) (h : f.laid.length ≠ 0) : fget f.laid = (f, f.laid.length, 0) := by
  have hm : f.may = true := by
    cases hm : f.may with
    | true => rfl
    | false => unfold Fr.laid at h; rw [hm] at h; simp at h
  by_cases hk : f.k = 0
  · have hm' := hm
    obtain ⟨k, n, d, rs, i, o, fin, dat, cid, tok⟩ := f
    simp only [] at hk
    subst hk
    unfold Fr.may mayB at hm'
    simp only [if_pos, plainB, Bool.and_eq_true, decide_eq_true_eq, Bool.not_eq_true', List.length_eq_zero_iff] at hm'
    obtain ⟨⟨h1, h2⟩, ⟨⟨⟨⟨⟨⟨⟨⟨-, rfl⟩, rfl⟩, rfl⟩, rfl⟩, rfl⟩, rfl⟩, rfl⟩, rfl⟩⟩ := hm'
    have hg := fget_zeros n (by omega) [] (by intro c t e; cases e)
    rw [List.append_nil, Nat.min_eq_left h2] at hg
    unfold Fr.laid
    rw [if_pos hm]
    unfold Fr.put
    rw [if_pos rfl]
    simp only [List.length_replicate]
    exact hg
  · have hg := fget_put f hm hk []
    rw [List.append_nil] at hg
    unfold Fr.laid
    rw [if_pos hm]
    exact hg
theorem U2.grown {w : World} {F G : Array Value} {f g : Fr} {w' w'' : World} {r : Option Nat} (h : U2 w F f G g w') (hf : Fv w (.agg F) f) (hg : Fv w (.agg G) g) (gr : w'.grownBy w'' r) (hr : ∀ k, r = some k → w.heap.size + 2 ≤ k) : U2 w F f G g w'' := by
  have hb : Below w.heap.size w w'' := h.bel.grown gr h.bel.size (fun k hk => by have := hr k hk; omega)
  exact ⟨row_grown gr h.r1 (by intro e; have := hr _ e.symm; omega), row_grown gr h.r2 (by intro e; have := hr _ e.symm; omega), hf.below hb, hg.below hb, hb⟩
end Frm
namespace Go.Proofs.Ytipniobgijdlkaa
open Go.RowKit Go.Rw Frm Hdr
attribute [local go_sem ↓] ldFF stFF alFF
attribute [local go_sem] rldFF rstFF ralFF setRow_alloc_at setRow_alloc_past setRow_drew
theorem fu2_rules {w : World} {F G : Array Value} {f g : Fr} (hF : F.size = 10) (hG : G.size = 10) {W : World} (T : U2 w F f G g W) :
    (loadAgg 28 (.pointer (some ⟨w.heap.size, 0, none⟩))).run Try.prog W = .ok (.agg F) W ∧ (loadAgg 28 (.pointer (some ⟨w.heap.size + 1, 0, none⟩))).run Try.prog W = .ok (.agg G) W := by
  have lf := rldFF W w.heap.size (by rw [T.r1, Option.map_some, hF])
  have lg := rldFF W (w.heap.size + 1) (by rw [T.r2, Option.map_some, hG])
  rw [T.r1, Option.getD_some] at lf
  rw [T.r2, Option.getD_some] at lg
  exact ⟨lf, lg⟩
set_option maxRecDepth 100000 in
set_option maxHeartbeats 4000000 in
theorem tellsF_any (f g : Fr) (vf vg : Value) (w : World) (hf : Fv w vf f) (hg : Fv w vg g) :
    Calls Try.prog 6 #[vf, vg] w fun e w' => e = .returned (.bool true) ∧ Below w.heap.size w w' := by
  obtain ⟨F, rfl, hF⟩ : ∃ F, vf = .agg F ∧ F.size = 10 := by obtain ⟨_, _, _, _, rfl, _⟩ := hf; exact ⟨_, rfl, rfl⟩
  obtain ⟨G, rfl, hG⟩ : ∃ G, vg = .agg G ∧ G.size = 10 := by obtain ⟨_, _, _, _, rfl, _⟩ := hg; exact ⟨_, rfl, rfl⟩
  have b1 := (Below.refl w.heap.size w).alloc (Nat.le_refl _) (.cells F 28)
  have b2 := b1.alloc (by simp) (.cells G 28)
  have T0 : U2 w F f G g ((w.alloc (.cells F 28)).alloc (.cells G 28)) :=
    ⟨by rw [row?_alloc_past _ _ _ (by simp)]; exact row?_alloc_at _ _ _ _ rfl, row?_alloc_at _ _ _ _ (by simp), hf.below b2, hg.below b2, b2⟩
  obtain ⟨lf, lg⟩ := fu2_rules hF hG T0
  have T0 := Lib.hid T0
  clear b1 b2
  go_enter Try.func6, Try.ntmps6
  go_wp2_with fail
  generalize (w.alloc (.cells F 28)).alloc (.cells G 28) = w1 at *
  refine (great_any f (.agg F) w1 T0.out.f1).mono ?_
  rintro e w2 ⟨rfl, h2⟩
  have RUL := fun (W : World) (T : U2 w F f G g W) => fu2_rules hF hG T
  have T2 := Lib.hid (T0.out.step h2)
  clear h2 lf lg T0
  by_cases hgf : greatB f = true
  · rw [hgf]
    clear RUL
    go_wp2_with fail
    refine (fawake_any _).mono ?_
    rintro e wx ⟨rfl, hx⟩
    have BX := Lib.hid (T2.out.bel.trans (hx.mono T2.out.bel.size))
    clear hx
    go_wp2_with fail
    go_ret
    exact ⟨rfl, BX.out⟩
  rw [Bool.eq_false_iff.2 hgf]
  obtain ⟨lf, lg⟩ := RUL _ T2.out
  have RUL' := Lib.hid RUL
  have HGF := Lib.hid hgf
  clear RUL hgf
  go_wp2_with fail
  refine (great_any g (.agg G) w2 T2.out.f2).mono ?_
  rintro e w3 ⟨rfl, h3⟩
  have T3 := Lib.hid (T2.out.step h3)
  clear h3 lf lg T2
  by_cases hgg : greatB g = true
  · rw [hgg]
    go_wp2_with fail
    refine (fawake_any _).mono ?_
    rintro e wx ⟨rfl, hx⟩
    have BX := Lib.hid (T3.out.bel.trans (hx.mono T3.out.bel.size))
    clear hx
    go_wp2_with fail
    go_ret
    exact ⟨rfl, BX.out⟩
  rw [Bool.eq_false_iff.2 hgg]
  obtain ⟨lf, lg⟩ := RUL'.out _ T3.out
  have HGG := Lib.hid hgg
  clear hgg
  go_wp2_with fail
  have FF := Lib.hid (great_fits HGF.out).1
  have FG := Lib.hid (great_fits HGG.out).1
  obtain ⟨L, hL⟩ : ∃ L, f.laid = L := ⟨_, rfl⟩
  have HL := Lib.hid hL
  refine (fput_fr f FF.out (.agg F) w3 T3.out.f1).mono ?_
  rintro e w4 ⟨v4, rfl, o4, h4⟩
  rw [hL] at o4
  have T4 := Lib.hid (T3.out.step h4)
  have O4 := Lib.hid o4
  have Z4 := Lib.hid (And.intro (row?_lt T3.out.r2) h4.size)
  have L4 := Lib.hid O4.out.lt
  clear h4 lf lg T3 o4 hL
  obtain ⟨lf, lg⟩ := RUL'.out _ T4.out
  go_wp2_with fail
  refine (rput_fr f FF.out (.agg F) w4 T4.out.f1).mono ?_
  rintro e w5 ⟨v5, rfl, o5, h5⟩
  rw [HL.out] at o5
  have T5 := Lib.hid (T4.out.step h5)
  have o45 := Lib.hid (own_below O4.out h5)
  have O5 := Lib.hid o5
  clear h5 lf lg T4 o5
  have c0 : w5.cell? ⟨w.heap.size, 0, none⟩ = some (.int .i64 f.k) := by
    refine (row?_cell T5.out.r1 0).trans ?_
    obtain ⟨_, _, _, _, e, _⟩ := T5.out.f1
    injection e with e
    rw [e]; rfl
  go_upto_region 5 with (fail)
  obtain ⟨k, hk⟩ : ∃ k, f.k = k := ⟨_, rfl⟩
  rw [hk] at c0
  have HK := Lib.hid hk
  clear hk
  go_cut [7] (fun t wx => t = .bool (elicits k) ∧ w5 = wx)
  case first =>
    by_cases g0 : k = 0
    · subst g0
      go_wp2_with fail
      go_meet
      exact ⟨rfl, rfl⟩
    by_cases g2 : k = 2
    · subst g2
      go_wp2_with fail
      go_meet
      exact ⟨rfl, rfl⟩
    have q0 : (k != 0) = true := by simpa using g0
    have q2 : (k != 2) = true := by simpa using g2
    by_cases g28 : k = 28
    · subst g28
      go_wp2_with fail
      go_meet
      exact ⟨rfl, rfl⟩
    have q28 : (k != 28) = true := by simpa using g28
    have he : elicits k = true := by simp [elicits, g0, g2, g28]
    have HE := Lib.hid he
    clear he g0 g2 g28
    go_wp2_with fail
    go_meet
    exact ⟨by rw [HE.out], rfl⟩
  obtain ⟨rfl, rfl⟩ := hcut
  have T6 := Lib.hid (T5.out.step (Below.refl w5.heap.size w5).drew)
  have o4d := Lib.hid (own_below o45.out (Below.refl w5.heap.size w5).drew)
  have o5d := Lib.hid (own_below O5.out (Below.refl w5.heap.size w5).drew)
  have LL := Lib.hid (show L.length ≤ 1000000 by rw [← HL.out]; exact laid_len _ HGF.out)
  obtain ⟨a4, x4, rfl, -, -, -⟩ := id (Own.sl o4d.out)
  obtain ⟨a5, x5, rfl, -, -, -⟩ := id (Own.sl o5d.out)
  clear c0
  obtain ⟨lf, lg⟩ := RUL'.out _ T6.out
  go_wp2_with fail
  refine Rg.wp_region_plan (Rg.row [(0, 0), (2, 0), (1, 1), (3, 1), (4, 3), (5, 3), (6, 3), (7, 3), (8, 1), (9, 3), (10, 3), (11, 3), (12, 0), (14, 3), (15, 0), (13, 1), (16, 3), (17, 3), (18, 3), (19, 0), (21, 3), (20, 1), (22, 3), (23, 3), (24, 3), (25, 0), (26, 0), (28, 0), (29, 0), (27, 1), (30, 1), (31, 3), (32, 3), (33, 3), (34, 0), (35, 0), (36, 1), (37, 3), (38, 3)] []) [] (by kernel_rfl) (by kernel_rfl) ?_
  simp only [Rg.row, Rg.PT.map, List.map_nil, List.getD_cons_zero, List.getD_cons_succ]
  go_wp2_with (first
    | ((with_reducible refine Rg.plan_pure ?_ ?_ ?_); kernel_rfl; kernel_rfl; intro _ _)
    | ((with_reducible refine Rg.plan_take ?_ ?_ ?_); kernel_rfl; kernel_rfl; intro _ _)
    | ((with_reducible refine Rg.plan_keep ?_ ?_); kernel_rfl; intro K hK)
    | (refine hK _ _ (Rg.Keep.refl _) ?_; clear hK)
    | (refine hK _ _ (Rg.Keep.of_below (by assumption)) ?_; clear hK)
    | ((with_reducible refine Rg.plan_skip ?_ ?_); kernel_rfl)
    | (with_reducible refine Rg.plan_done ?_)
    | (with_reducible refine Rg.calm_normal ?_))
  have o4_6 := o4d
  have o5_6 := o5d
  clear o4d o5d o45
  have hc := fmay_fr f FF.out (.agg F) w5.drew T6.out.f1
  refine hc.mono ?_
  rintro e w7 ⟨rfl, h⟩
  refine hK _ _ (Rg.Keep.of_below h) ?_
  have T7 := Lib.hid (T6.out.step h)
  have o4_7 := Lib.hid (own_below o4_6.out h)
  have o5_7 := Lib.hid (own_below o5_6.out h)
  clear hK hc h T6 o4_6 o5_6 lf lg
  obtain ⟨lf, lg⟩ := RUL'.out _ T7.out
  go_wp2_with (first
    | ((with_reducible refine Rg.plan_pure ?_ ?_ ?_); kernel_rfl; kernel_rfl; intro _ _)
    | ((with_reducible refine Rg.plan_take ?_ ?_ ?_); kernel_rfl; kernel_rfl; intro _ _)
    | ((with_reducible refine Rg.plan_keep ?_ ?_); kernel_rfl; intro K hK)
    | (refine hK _ _ (Rg.Keep.refl _) ?_; clear hK)
    | (refine hK _ _ (Rg.Keep.of_below (by assumption)) ?_; clear hK)
    | ((with_reducible refine Rg.plan_skip ?_ ?_); kernel_rfl)
    | (with_reducible refine Rg.plan_done ?_)
    | (with_reducible refine Rg.calm_normal ?_))
  have hc := rmay_fr f FF.out (.agg F) w7 T7.out.f1
  refine hc.mono ?_
  rintro e w8 ⟨rfl, h⟩
  refine hK _ _ (Rg.Keep.of_below h) ?_
  have T8 := Lib.hid (T7.out.step h)
  have o4_8 := Lib.hid (own_below o4_7.out h)
  have o5_8 := Lib.hid (own_below o5_7.out h)
  clear hK hc h T7 o4_7 o5_7 lf lg
  obtain ⟨lf, lg⟩ := RUL'.out _ T8.out
  go_wp2_with (first
    | ((with_reducible refine Rg.plan_pure ?_ ?_ ?_); kernel_rfl; kernel_rfl; intro _ _)
    | ((with_reducible refine Rg.plan_take ?_ ?_ ?_); kernel_rfl; kernel_rfl; intro _ _)
    | ((with_reducible refine Rg.plan_keep ?_ ?_); kernel_rfl; intro K hK)
    | (refine hK _ _ (Rg.Keep.refl _) ?_; clear hK)
    | (refine hK _ _ (Rg.Keep.of_below (by assumption)) ?_; clear hK)
    | ((with_reducible refine Rg.plan_skip ?_ ?_); kernel_rfl)
    | (with_reducible refine Rg.plan_done ?_)
    | (with_reducible refine Rg.calm_normal ?_))
  have hc := same_any L L LL.out _ _ w8 (Own.sl o4_8.out) (Own.sl o5_8.out)
  rw [decide_eq_true rfl] at hc
  refine hc.mono ?_
  rintro e w9 ⟨rfl, h⟩
  refine hK _ _ (Rg.Keep.of_below h) ?_
  have T9 := Lib.hid (T8.out.step h)
  have o4_9 := Lib.hid (own_below o4_8.out h)
  have o5_9 := Lib.hid (own_below o5_8.out h)
  clear hK hc h T8 o4_8 o5_8 lf lg
  obtain ⟨lf, lg⟩ := RUL'.out _ T9.out
  go_wp2_with (first
    | ((with_reducible refine Rg.plan_pure ?_ ?_ ?_); kernel_rfl; kernel_rfl; intro _ _)
    | ((with_reducible refine Rg.plan_take ?_ ?_ ?_); kernel_rfl; kernel_rfl; intro _ _)
    | ((with_reducible refine Rg.plan_keep ?_ ?_); kernel_rfl; intro K hK)
    | (refine hK _ _ (Rg.Keep.refl _) ?_; clear hK)
    | (refine hK _ _ (Rg.Keep.of_below (by assumption)) ?_; clear hK)
    | ((with_reducible refine Rg.plan_skip ?_ ?_); kernel_rfl)
    | (with_reducible refine Rg.plan_done ?_)
    | (with_reducible refine Rg.calm_normal ?_))
  have hc := flen_fr f FF.out (.agg F) w9 T9.out.f1
  rw [HL.out] at hc
  refine hc.mono ?_
  rintro e w10 ⟨rfl, h⟩
  refine hK _ _ (Rg.Keep.of_below h) ?_
  have T10 := Lib.hid (T9.out.step h)
  have o4_10 := Lib.hid (own_below o4_9.out h)
  have o5_10 := Lib.hid (own_below o5_9.out h)
  clear hK hc h T9 o4_9 o5_9 lf lg
  obtain ⟨lf, lg⟩ := RUL'.out _ T10.out
  go_wp2_with (first
    | ((with_reducible refine Rg.plan_pure ?_ ?_ ?_); kernel_rfl; kernel_rfl; intro _ _)
    | ((with_reducible refine Rg.plan_take ?_ ?_ ?_); kernel_rfl; kernel_rfl; intro _ _)
    | ((with_reducible refine Rg.plan_keep ?_ ?_); kernel_rfl; intro K hK)
    | (refine hK _ _ (Rg.Keep.refl _) ?_; clear hK)
    | (refine hK _ _ (Rg.Keep.of_below (by assumption)) ?_; clear hK)
    | ((with_reducible refine Rg.plan_skip ?_ ?_); kernel_rfl)
    | (with_reducible refine Rg.plan_done ?_)
    | (with_reducible refine Rg.calm_normal ?_))
  have hc := feli_fr f (.agg F) w10 T10.out.f1
  rw [HK.out] at hc
  refine hc.mono ?_
  rintro e w11 ⟨rfl, h⟩
  refine hK _ _ (Rg.Keep.of_below h) ?_
  have T11 := Lib.hid (T10.out.step h)
  have o4_11 := Lib.hid (own_below o4_10.out h)
  have o5_11 := Lib.hid (own_below o5_10.out h)
  clear hK hc h T10 o4_10 o5_10 lf lg
  obtain ⟨lf, lg⟩ := RUL'.out _ T11.out
  go_wp2_with (first
    | ((with_reducible refine Rg.plan_pure ?_ ?_ ?_); kernel_rfl; kernel_rfl; intro _ _)
    | ((with_reducible refine Rg.plan_take ?_ ?_ ?_); kernel_rfl; kernel_rfl; intro _ _)
    | ((with_reducible refine Rg.plan_keep ?_ ?_); kernel_rfl; intro K hK)
    | (refine hK _ _ (Rg.Keep.refl _) ?_; clear hK)
    | (refine hK _ _ (Rg.Keep.of_below (by assumption)) ?_; clear hK)
    | ((with_reducible refine Rg.plan_skip ?_ ?_); kernel_rfl)
    | (with_reducible refine Rg.plan_done ?_)
    | (with_reducible refine Rg.calm_normal ?_))
  have hc := fsame_fr f g FF.out (.agg F) (.agg G) w11 T11.out.f1 T11.out.f2
  refine hc.mono ?_
  rintro e w12 ⟨rfl, h⟩
  refine hK _ _ (Rg.Keep.of_below h) ?_
  have T12 := Lib.hid (T11.out.step h)
  have o4_12 := Lib.hid (own_below o4_11.out h)
  have o5_12 := Lib.hid (own_below o5_11.out h)
  clear hK hc h T11 o4_11 o5_11 lf lg
  obtain ⟨lf, lg⟩ := RUL'.out _ T12.out
  go_wp2_with (first
    | ((with_reducible refine Rg.plan_pure ?_ ?_ ?_); kernel_rfl; kernel_rfl; intro _ _)
    | ((with_reducible refine Rg.plan_take ?_ ?_ ?_); kernel_rfl; kernel_rfl; intro _ _)
    | ((with_reducible refine Rg.plan_keep ?_ ?_); kernel_rfl; intro K hK)
    | (refine hK _ _ (Rg.Keep.refl _) ?_; clear hK)
    | (refine hK _ _ (Rg.Keep.of_below (by assumption)) ?_; clear hK)
    | ((with_reducible refine Rg.plan_skip ?_ ?_); kernel_rfl)
    | (with_reducible refine Rg.plan_done ?_)
    | (with_reducible refine Rg.calm_normal ?_))
  have hc := rsame_fr f g FF.out FG.out (.agg F) (.agg G) w12 T12.out.f1 T12.out.f2
  refine hc.mono ?_
  rintro e w13 ⟨rfl, h⟩
  refine hK _ _ (Rg.Keep.of_below h) ?_
  have T13 := Lib.hid (T12.out.step h)
  have o4_13 := Lib.hid (own_below o4_12.out h)
  have o5_13 := Lib.hid (own_below o5_12.out h)
  clear hK hc h T12 o4_12 o5_12 lf lg
  obtain ⟨lf, lg⟩ := RUL'.out _ T13.out
  go_wp2_with (first
    | ((with_reducible refine Rg.plan_pure ?_ ?_ ?_); kernel_rfl; kernel_rfl; intro _ _)
    | ((with_reducible refine Rg.plan_take ?_ ?_ ?_); kernel_rfl; kernel_rfl; intro _ _)
    | ((with_reducible refine Rg.plan_keep ?_ ?_); kernel_rfl; intro K hK)
    | (refine hK _ _ (Rg.Keep.refl _) ?_; clear hK)
    | (refine hK _ _ (Rg.Keep.of_below (by assumption)) ?_; clear hK)
    | ((with_reducible refine Rg.plan_skip ?_ ?_); kernel_rfl)
    | (with_reducible refine Rg.plan_done ?_)
    | (with_reducible refine Rg.calm_normal ?_))
  have hc := fsame_fr f f FF.out (.agg F) (.agg F) w13 T13.out.f1 T13.out.f1
  rw [sameB_self] at hc
  refine hc.mono ?_
  rintro e w14 ⟨rfl, h⟩
  refine hK _ _ (Rg.Keep.of_below h) ?_
  have T14 := Lib.hid (T13.out.step h)
  have o4_14 := Lib.hid (own_below o4_13.out h)
  have o5_14 := Lib.hid (own_below o5_13.out h)
  clear hK hc h T13 o4_13 o5_13 lf lg
  obtain ⟨lf, lg⟩ := RUL'.out _ T14.out
  go_wp2_with (first
    | ((with_reducible refine Rg.plan_pure ?_ ?_ ?_); kernel_rfl; kernel_rfl; intro _ _)
    | ((with_reducible refine Rg.plan_take ?_ ?_ ?_); kernel_rfl; kernel_rfl; intro _ _)
    | ((with_reducible refine Rg.plan_keep ?_ ?_); kernel_rfl; intro K hK)
    | (refine hK _ _ (Rg.Keep.refl _) ?_; clear hK)
    | (refine hK _ _ (Rg.Keep.of_below (by assumption)) ?_; clear hK)
    | ((with_reducible refine Rg.plan_skip ?_ ?_); kernel_rfl)
    | (with_reducible refine Rg.plan_done ?_)
    | (with_reducible refine Rg.calm_normal ?_))
  · refine (fawake_any _).mono ?_
    rintro e wx ⟨rfl, hx⟩
    have BX := Lib.hid (T14.out.bel.trans (hx.mono T14.out.bel.size))
    clear hx
    go_wp2_with fail
    go_ret
    exact ⟨rfl, BX.out⟩
  have hne : L.length ≠ 0 := by
    intro h0
    have hh := ‹((L.length : Int) == 0) = false›
    rw [h0] at hh
    cases hh
  have hG := fget_laid f (by rw [HL.out]; exact hne)
  rw [HL.out] at hG
  have hc := fget_any L LL.out _ w14 (Own.sl o4_14.out)
  rw [hG] at hc
  refine hc.mono ?_
  rintro e w15 ⟨vx, rfl, ox, hb⟩
  have ox : FO w14.heap.size 58 5 w15 vx f := ox
  have T15 := T14.out.step hb
  have zz : w.heap.size + 1 < w14.heap.size := row?_lt T14.out.r2
  have z15 : w14.heap.size ≤ w15.heap.size := hb.size
  have D4 : ∀ k, (Value.slice a4 L.length x4).ownBlock = some k → k < w14.heap.size := fun k hk => (o4_14.out.lt k hk).2
  have D5 : ∀ k, (Value.slice a5 L.length x5).ownBlock = some k → k < w14.heap.size := fun k hk => (o5_14.out.lt k hk).2
  have o4_15 := own_below o4_14.out hb
  have o5_15 := own_below o5_14.out hb
  have xv := ox.fv
  obtain ⟨X, eX, fva⟩ := ox.fva (g := none) (fun k hk => by cases hk)
  have X1 := fva.size.1
  have X2 := fva.size.2
  obtain ⟨vr, vd, vc, vt, e2, -, xd, -, -⟩ := ox
  obtain ⟨ad, ed, rfl, -, -, -⟩ := id (Own.sl xd)
  have X7 : X[7]? = some (.slice ad f.dat.length ed) := by rw [eX] at e2; injection e2 with e3; rw [e3]; rfl
  clear e2 fva
  subst eX
  have bA := (Below.refl w15.heap.size w15).alloc (Nat.le_refl _) (.cells X 28)
  have T16 := Lib.hid (T15.step bA)
  have o4_16 := Lib.hid (own_below o4_15 bA)
  have o5_16 := Lib.hid (own_below o5_15 bA)
  have xd16 := Lib.hid (own_below xd bA)
  have xv16 := Lib.hid (xv.below bA)
  have rx := row?_alloc_at w15 X 28 w15.heap.size rfl
  have lx := rldFF (w15.alloc (.cells X 28)) w15.heap.size (by rw [rx, Option.map_some, X1])
  rw [rx, Option.getD_some] at lx
  have RX := Lib.hid rx
  have Z := Lib.hid (And.intro zz z15)
  have HX7 := Lib.hid X7
  have HD4 := Lib.hid D4
  have HD5 := Lib.hid D5
  have HNE := Lib.hid hne
  clear hc hb hG hne T14 T15 o4_14 o5_14 o4_15 o5_15 xd xv bA rx zz z15 X7 D4 D5 lf lg
  obtain ⟨lf, lg⟩ := RUL'.out _ T16.out
  go_wp2_with fail
  have hc := rsame_fr f f FF.out FF.out (.agg X) (.agg F) _ xv16.out T16.out.f1
  rw [sameB_self] at hc
  refine hc.mono ?_
  rintro e w17 ⟨rfl, h⟩
  have T17 := Lib.hid (T16.out.step h)
  have o4_17 := Lib.hid (own_below o4_16.out h)
  have o5_17 := Lib.hid (own_below o5_16.out h)
  have xd17 := Lib.hid (own_below xd16.out h)
  have z17 : w15.heap.size ≤ w17.heap.size := Nat.le_trans (by simp) h.size
  have c7 : w17.cell? ⟨w15.heap.size, 7, none⟩ = some (.slice ad f.dat.length ed) := (row?_cell (show row? w17 w15.heap.size = some X by rw [row?_below h (row?_lt RX.out)]; exact RX.out) 7).trans HX7.out
  have Z17 := Lib.hid z17
  clear hc h T16 o4_16 o5_16 xd16 xv16 lf lg lx RX z17
  go_wp2_with fail
  refine (over_any f.dat FF.out.2.1 _ w14.heap.size w17 (Nat.le_trans Z.out.2 Z17.out) xd17.out).mono ?_
  rintro e w18 ⟨rfl, g18⟩
  have T18 := Lib.hid (T17.out.grown hf hg g18 (fun k hk => by have := (xd17.out.lt k hk).1; have := Z.out.1; omega))
  have o4_18 := Lib.hid (own_grown o4_17.out g18 (fun k hk he => by have := (xd17.out.lt k he.symm).1; have := HD4.out k hk; omega))
  have o5_18 := Lib.hid (own_grown o5_17.out g18 (fun k hk he => by have := (xd17.out.lt k he.symm).1; have := HD5.out k hk; omega))
  have Z18 := Lib.hid (Nat.le_trans Z17.out g18.size)
  clear g18 T17 o4_17 o5_17 xd17 c7
  go_wp2_with fail
  refine (over_any L LL.out _ (w.heap.size + 1) w18 (by have := Z.out; have := Z18.out; omega) (own_lower o4_18.out (by have := Z4.out.1; omega))).mono ?_
  rintro e w19 ⟨rfl, g19⟩
  have T19 := Lib.hid (T18.out.grown hf hg g19 (fun k hk => by have := (o4_18.out.lt k hk).1; have := Z4.out.1; omega))
  have o5_19 := Lib.hid (own_grown o5_18.out g19 (fun k hk he => by have := (o5_18.out.lt k hk).1; have := (L4.out k he.symm).2; omega))
  clear g19 T18 o4_18 o5_18
  obtain ⟨lf, lg⟩ := RUL'.out _ T19.out
  go_wp2_with fail
  refine (fput_fr f FF.out (.agg F) w19 T19.out.f1).mono ?_
  rintro e w20 ⟨v6, rfl, o6, h20⟩
  rw [HL.out] at o6
  have T20 := Lib.hid (T19.out.step h20)
  have o5_20 := Lib.hid (own_below o5_19.out h20)
  obtain ⟨a6, x6, rfl, -, -, -⟩ := id (Own.sl o6)
  have O6 := Lib.hid o6
  clear h20 T19 o5_19 o6 lf lg
  go_wp2_with fail
  have hc := same_any L L LL.out _ _ w20 (Own.sl O6.out) (Own.sl o5_20.out)
  rw [decide_eq_true rfl] at hc
  refine hc.mono ?_
  rintro e w21 ⟨rfl, h⟩
  have T21 := Lib.hid (T20.out.step h)
  clear hc h T20 o5_20 O6
  go_wp2_with fail
  refine (fawake_any _).mono ?_
  rintro e wx ⟨rfl, hx⟩
  have BX := Lib.hid (T21.out.bel.trans (hx.mono T21.out.bel.size))
  clear hx
  go_wp2_with fail
  go_ret
  exact ⟨rfl, BX.out⟩
end Go.Proofs.Ytipniobgijdlkaa
