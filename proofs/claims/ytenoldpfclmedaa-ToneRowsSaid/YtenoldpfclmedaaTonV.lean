/- The walk of the law ToneRows. -/
import Derived.Test.YtenoldpfclmedaaTonN
namespace Tone
open Go Go.Rw
/-- the sum of the first n of a list -/
def sumN (l : List Int) : Nat → Int
  | 0 => 0
  | n + 1 => sumN l n + ni l n
theorem sumN_set (l : List Int) (j : Nat) (x : Int) (hj : j < l.length) : ∀ n, sumN (l.set j x) n = sumN l n + if j < n then x - ni l j else 0
  | 0 => by simp [sumN]
  | n + 1 => by
    simp only [sumN]
    rw [sumN_set l j x hj n, ni_set l j x n hj]
    by_cases h1 : n = j
    · subst h1; rw [if_neg (by omega), if_pos rfl, if_pos (by omega)]; omega
    · rw [if_neg h1]
      by_cases h2 : j < n
      · rw [if_pos h2, if_pos (by omega)]; omega
      · rw [if_neg h2, if_neg (by omega)]; omega
theorem sumN_zero (m : Nat) : ∀ n, sumN (List.replicate m 0) n = 0
  | 0 => rfl
  | n + 1 => by
    simp only [sumN]
    rw [sumN_zero m n]
    simp only [ni, List.getElem?_replicate]
    split <;> simp
/-- how many ticks are within -/
def cntN (l : List Int) (fr to : Int) : Nat → Int
  | 0 => 0
  | n + 1 => cntN l fr to n + if fr ≤ ni l n ∧ ni l n < to then 1 else 0
theorem cntN_le (l : List Int) (fr to : Int) : ∀ n, 0 ≤ cntN l fr to n ∧ cntN l fr to n ≤ n
  | 0 => by simp [cntN]
  | n + 1 => by
    have := cntN_le l fr to n
    simp only [cntN]
    split <;> omega
theorem cntN_none (l : List Int) (fr to : Int) (h : to ≤ fr) : ∀ n, cntN l fr to n = 0
  | 0 => rfl
  | n + 1 => by simp only [cntN]; rw [cntN_none l fr to h n, if_neg (by omega)]; rfl
theorem sq_zero {a b : Int} : a * a + b * b = 0 ↔ a = 0 ∧ b = 0 := by
  constructor
  · intro h
    have h1 : 0 ≤ a * a := by rw [← Int.natAbs_mul_self' a]; exact Int.mul_nonneg (by omega) (by omega)
    have h2 : 0 ≤ b * b := by rw [← Int.natAbs_mul_self' b]; exact Int.mul_nonneg (by omega) (by omega)
    have h3 : a * a = 0 := by omega
    have h4 : b * b = 0 := by omega
    exact ⟨by rcases Int.mul_eq_zero.1 h3 with h | h <;> exact h, by rcases Int.mul_eq_zero.1 h4 with h | h <;> exact h⟩
  · rintro ⟨rfl, rfl⟩; rfl
end Tone
namespace Go.Proofs.Ytenoldpfclmedaa
open Go.RowKit Go.Rw Tone
theorem rwN_sum (l : List Int) (fr to : Int) (m : Nat) (hm : to - fr = (m : Int)) : ∀ n, sumN (rwN l fr to m n) m = cntN l fr to n
  | 0 => by simp only [rwN, cntN]; exact sumN_zero m m
  | n + 1 => by
    have ih := rwN_sum l fr to m hm n
    simp only [rwN, cntN]
    by_cases h : fr ≤ ni l n ∧ ni l n < to
    · rw [if_pos h, if_pos h, sumN_set _ _ _ (by rw [rwN_len]; omega), if_pos (by omega), ih]; omega
    · rw [if_neg h, if_neg h, ih]; omega
theorem row_sum (l : List Int) (fr to : Int) (h : to - fr ≤ 65536) : sumN (rowL l fr to) (rowL l fr to).length = cntN l fr to l.length ∧ ((rowL l fr to).length : Int) = if 0 > to - fr then 0 else to - fr := by
  unfold rowL
  by_cases h1 : fr < to
  · rw [if_pos ⟨h1, h⟩, rwN_len, if_neg (by omega)]
    exact ⟨rwN_sum l fr to _ (by omega) _, by omega⟩
  · rw [if_neg (by omega), cntN_none l fr to (by omega)]
    refine ⟨rfl, ?_⟩
    show (0 : Int) = _
    split <;> omega
theorem sumN_le (l : List Int) (N : Int) (h : ∀ j, 0 ≤ ni l j ∧ ni l j ≤ N) (hN : 0 ≤ N) : ∀ n, 0 ≤ sumN l n ∧ sumN l n ≤ n * N
  | 0 => by simp [sumN]
  | n + 1 => by
    have ih := sumN_le l N h hN n
    have := h n
    simp only [sumN]
    have e : ((n + 1 : Nat) : Int) * N = n * N + N := by rw [Int.natCast_add, Int.add_mul]; simp
    rw [e]; omega
theorem rowL_ni (l : List Int) (fr to : Int) (j : Nat) : 0 ≤ ni (rowL l fr to) j ∧ ni (rowL l fr to) j ≤ l.length := by
  unfold rowL
  split
  · exact rwN_le l fr to _ _ j
  · simp [ni]
theorem flat_same (a b c d : Int) (ha : a.natAbs ≤ 9) (hb : b.natAbs ≤ 9) (hc : c.natAbs ≤ 9) (hd : d.natAbs ≤ 9) :
    flatB (fN [a, b, c, d]) = decide (a = b ∧ b = c ∧ c = d) := by
  have ok : okN [a, b, c, d] := fun i hi => by
    have : i = 0 ∨ i = 1 ∨ i = 2 ∨ i = 3 := by simp at hi; omega
    rcases this with rfl | rfl | rfl | rfl <;> simp [ni] <;> omega
  rw [fN_ok ok]
  have e0 : q4 [a, b, c, d] ([a, b, c, d] : List Int).length 0 = a := by simp [q4, bump, ni]
  have e1 : q4 [a, b, c, d] ([a, b, c, d] : List Int).length 1 = b := by simp [q4, bump, ni]
  have e2 : q4 [a, b, c, d] ([a, b, c, d] : List Int).length 2 = c := by simp [q4, bump, ni]
  have e3 : q4 [a, b, c, d] ([a, b, c, d] : List Int).length 3 = d := by simp [q4, bump, ni]
  unfold flatB powV
  rw [re1, im1, re2, im2, re3, im3, e0, e1, e2, e3, if_pos (by omega), if_pos (by omega), if_pos (by omega), Bool.eq_iff_iff]
  simp only [Bool.and_eq_true, beq_iff_eq, sq_zero, decide_eq_true_eq, and_true]
  omega
theorem four_le {a b c d : Int} (ha : a.natAbs ≤ 9) (hb : b.natAbs ≤ 9) (hc : c.natAbs ≤ 9) (hd : d.natAbs ≤ 9) (j : Nat) : (q4 [a, b, c, d] 4 j).natAbs ≤ 1048576 := by
  simp [q4, bump, ni]
  split <;> split <;> split <;> split <;> omega
theorem up_four (a b c d : Int) : upF (q4 [a, b, c, d] 4) 4 = [a, b, c, d] := by
  simp [upF, List.range_succ, q4, bump, ni]
attribute [local go_sem ↓] ldZ stZ alZ ldI stI alI
attribute [local go_sem] rldZ rstZ ralZ rldI rstI ralI setRow_alloc_at setRow_alloc_past setRow_drew run_store_cx upF_len
theorem plan_skipG {P : Program} {ops : Array Oper} {Q : Exit → Act → World → Prop} {a : Act} {w : World} {o : Oper} {k : Nat} {t : Rg.PT Oper} (g : Nat) (_ : o.guard = some (g, true)) (hg : Region.wanted o (yielded ops a.tmps) = false)
    (h : Rg.wpPlan P ops Q t (a.put o.dst undef) w) : Rg.wpPlan P ops Q (.op o k t) a w := Rg.plan_skip hg h
set_option maxRecDepth 20000 in
set_option maxHeartbeats 8000000 in
theorem rowsLaw_any (four : List Int) (h4 : four.length = 4) (ticks : List Int) (F T : Int) (vt : Value) (w : World) (ht : Si w vt ticks) :
    Calls Try.prog 7 #[.agg (ivs four), vt, .int .i64 F, .int .i64 T] w fun e w' => e = .returned (.bool true) ∧ Below w.heap.size w w' := by
  have HT := Lib.hid ht
  obtain ⟨at_, ct, rfl, _, hnn, hp⟩ := ht
  obtain ⟨i0, hi, hz0, hz1, hz2⟩ := info_parts infoI
  by_cases hl1 : 40 < ticks.length
  · have hl : (40 : Int) < ticks.length := by omega
    go_enter Try.func7, Try.ntmps7
    go_wp2_with fail
    refine (awake_any _).mono ?_
    rintro e w' ⟨rfl, hb⟩
    have hb2 : Below w.heap.size w w' := ((Below.refl _ _).alloc (Nat.le_refl _) _).trans (hb.mono (by simp))
    go_wp2_with fail
    go_ret
    exact ⟨rfl, hb2⟩
  obtain ⟨x0, x1, x2, x3, rfl⟩ : ∃ x0 x1 x2 x3, four = [x0, x1, x2, x3] := by
    match four, h4 with
    | [x0, x1, x2, x3], _ => exact ⟨x0, x1, x2, x3, rfl⟩
  clear h4
  have hr0 : row? (w.alloc (.cells (ivs [x0, x1, x2, x3]) 39)) w.heap.size = some (ivs [x0, x1, x2, x3]) := row?_alloc_at _ _ _ _ rfl
  have c0 : (w.alloc (.cells (ivs [x0, x1, x2, x3]) 39)).cell? ⟨w.heap.size, 0, none⟩ = some (.int .i64 x0) := row?_cell hr0 0
  have c1 : (w.alloc (.cells (ivs [x0, x1, x2, x3]) 39)).cell? ⟨w.heap.size, 1, none⟩ = some (.int .i64 x1) := row?_cell hr0 1
  have c2 : (w.alloc (.cells (ivs [x0, x1, x2, x3]) 39)).cell? ⟨w.heap.size, 2, none⟩ = some (.int .i64 x2) := row?_cell hr0 2
  have c3 : (w.alloc (.cells (ivs [x0, x1, x2, x3]) 39)).cell? ⟨w.heap.size, 3, none⟩ = some (.int .i64 x3) := row?_cell hr0 3
  clear hr0
  go_enter Try.func7, Try.ntmps7
  go_wp2_with fail
  refine Rg.wp_region_plan (Rg.row [(0, 3), (1, 0), (4, 3), (5, 0), (8, 3), (9, 0), (12, 3), (13, 0), (2, 1), (3, 3), (6, 1), (7, 3), (10, 1), (11, 3), (14, 1), (15, 3), (16, 1), (17, 3)] []) [] (by kernel_rfl) (by kernel_rfl) ?_
  simp only [Rg.row, Rg.PT.map, List.map_nil, List.getD_cons_zero, List.getD_cons_succ]
  go_wp2_with (first
    | ((with_reducible refine Rg.plan_pure ?_ ?_ ?_); kernel_rfl; kernel_rfl; intro _ _)
    | ((with_reducible refine Rg.plan_take ?_ ?_ ?_); kernel_rfl; kernel_rfl; intro _ _)
    | ((with_reducible refine Rg.plan_keep ?_ ?_); kernel_rfl; intro K hK)
    | (refine hK _ _ (Rg.Keep.refl _) ?_; clear hK)
    | (refine hK _ _ (Rg.Keep.of_below (by assumption)) ?_; clear hK)
    | ((with_reducible refine Rg.plan_skip ?_ ?_); kernel_rfl)
    | (with_reducible refine Rg.plan_done ?_)
    | (with_reducible refine Rg.calm_normal ?_))
  refine (low_any x0 19 (by omega) (by omega) _).mono ?_
  rintro e w' ⟨rfl, rfl⟩
  dsimp only
  refine hK _ _ (Rg.Keep.refl _) ?_
  clear hK
  have l0 := low_lt x0 19 (by omega)
  have q0 : wrap64 ((low x0 19 : Nat) - 9 : Int) = (low x0 19 : Int) - 9 := IntWalk.wrap64_in _ (by omega)
  obtain ⟨y0, hy0⟩ : ∃ y : Int, (low x0 19 : Int) - 9 = y := ⟨_, rfl⟩
  have b0 : y0.natAbs ≤ 9 := by omega
  rw [hy0] at q0
  have B0 := Lib.hid b0
  clear l0 b0
  go_wp2_with (first
    | ((with_reducible refine Rg.plan_pure ?_ ?_ ?_); kernel_rfl; kernel_rfl; intro _ _)
    | ((with_reducible refine Rg.plan_take ?_ ?_ ?_); kernel_rfl; kernel_rfl; intro _ _)
    | ((with_reducible refine Rg.plan_keep ?_ ?_); kernel_rfl; intro K hK)
    | (refine hK _ _ (Rg.Keep.refl _) ?_; clear hK)
    | (refine hK _ _ (Rg.Keep.of_below (by assumption)) ?_; clear hK)
    | ((with_reducible refine Rg.plan_skip ?_ ?_); kernel_rfl)
    | (with_reducible refine Rg.plan_done ?_)
    | (with_reducible refine Rg.calm_normal ?_))
  refine (low_any x1 19 (by omega) (by omega) _).mono ?_
  rintro e w' ⟨rfl, rfl⟩
  dsimp only
  refine hK _ _ (Rg.Keep.refl _) ?_
  clear hK
  have l1 := low_lt x1 19 (by omega)
  have q1 : wrap64 ((low x1 19 : Nat) - 9 : Int) = (low x1 19 : Int) - 9 := IntWalk.wrap64_in _ (by omega)
  obtain ⟨y1, hy1⟩ : ∃ y : Int, (low x1 19 : Int) - 9 = y := ⟨_, rfl⟩
  have b1 : y1.natAbs ≤ 9 := by omega
  rw [hy1] at q1
  have B1 := Lib.hid b1
  clear l1 b1
  go_wp2_with (first
    | ((with_reducible refine Rg.plan_pure ?_ ?_ ?_); kernel_rfl; kernel_rfl; intro _ _)
    | ((with_reducible refine Rg.plan_take ?_ ?_ ?_); kernel_rfl; kernel_rfl; intro _ _)
    | ((with_reducible refine Rg.plan_keep ?_ ?_); kernel_rfl; intro K hK)
    | (refine hK _ _ (Rg.Keep.refl _) ?_; clear hK)
    | (refine hK _ _ (Rg.Keep.of_below (by assumption)) ?_; clear hK)
    | ((with_reducible refine Rg.plan_skip ?_ ?_); kernel_rfl)
    | (with_reducible refine Rg.plan_done ?_)
    | (with_reducible refine Rg.calm_normal ?_))
  refine (low_any x2 19 (by omega) (by omega) _).mono ?_
  rintro e w' ⟨rfl, rfl⟩
  dsimp only
  refine hK _ _ (Rg.Keep.refl _) ?_
  clear hK
  have l2 := low_lt x2 19 (by omega)
  have q2 : wrap64 ((low x2 19 : Nat) - 9 : Int) = (low x2 19 : Int) - 9 := IntWalk.wrap64_in _ (by omega)
  obtain ⟨y2, hy2⟩ : ∃ y : Int, (low x2 19 : Int) - 9 = y := ⟨_, rfl⟩
  have b2 : y2.natAbs ≤ 9 := by omega
  rw [hy2] at q2
  have B2 := Lib.hid b2
  clear l2 b2
  go_wp2_with (first
    | ((with_reducible refine Rg.plan_pure ?_ ?_ ?_); kernel_rfl; kernel_rfl; intro _ _)
    | ((with_reducible refine Rg.plan_take ?_ ?_ ?_); kernel_rfl; kernel_rfl; intro _ _)
    | ((with_reducible refine Rg.plan_keep ?_ ?_); kernel_rfl; intro K hK)
    | (refine hK _ _ (Rg.Keep.refl _) ?_; clear hK)
    | (refine hK _ _ (Rg.Keep.of_below (by assumption)) ?_; clear hK)
    | ((with_reducible refine Rg.plan_skip ?_ ?_); kernel_rfl)
    | (with_reducible refine Rg.plan_done ?_)
    | (with_reducible refine Rg.calm_normal ?_))
  refine (low_any x3 19 (by omega) (by omega) _).mono ?_
  rintro e w' ⟨rfl, rfl⟩
  dsimp only
  refine hK _ _ (Rg.Keep.refl _) ?_
  clear hK
  have l3 := low_lt x3 19 (by omega)
  have q3 : wrap64 ((low x3 19 : Nat) - 9 : Int) = (low x3 19 : Int) - 9 := IntWalk.wrap64_in _ (by omega)
  obtain ⟨y3, hy3⟩ : ∃ y : Int, (low x3 19 : Int) - 9 = y := ⟨_, rfl⟩
  have b3 : y3.natAbs ≤ 9 := by omega
  rw [hy3] at q3
  have B3 := Lib.hid b3
  clear l3 b3
  go_wp2_with (first
    | ((with_reducible refine Rg.plan_pure ?_ ?_ ?_); kernel_rfl; kernel_rfl; intro _ _)
    | ((with_reducible refine Rg.plan_take ?_ ?_ ?_); kernel_rfl; kernel_rfl; intro _ _)
    | ((with_reducible refine Rg.plan_keep ?_ ?_); kernel_rfl; intro K hK)
    | (refine hK _ _ (Rg.Keep.refl _) ?_; clear hK)
    | (refine hK _ _ (Rg.Keep.of_below (by assumption)) ?_; clear hK)
    | ((with_reducible refine Rg.plan_skip ?_ ?_); kernel_rfl)
    | (with_reducible refine Rg.plan_done ?_)
    | (with_reducible refine Rg.calm_normal ?_))
  refine hK _ _ (Rg.Keep.of_below ((Below.refl _ _).alloc (Nat.le_refl _) _)) ?_
  clear hK
  clear c0 c1 c2 c3
  go_wp2_with (first
    | ((with_reducible refine Rg.plan_pure ?_ ?_ ?_); kernel_rfl; kernel_rfl; intro _ _)
    | ((with_reducible refine Rg.plan_take ?_ ?_ ?_); kernel_rfl; kernel_rfl; intro _ _)
    | ((with_reducible refine Rg.plan_keep ?_ ?_); kernel_rfl; intro K hK)
    | (refine hK _ _ (Rg.Keep.refl _) ?_; clear hK)
    | (refine hK _ _ (Rg.Keep.of_below (by assumption)) ?_; clear hK)
    | ((with_reducible refine Rg.plan_skip ?_ ?_); kernel_rfl)
    | (with_reducible refine Rg.plan_done ?_)
    | (with_reducible refine Rg.calm_normal ?_))
  obtain ⟨w2, hw2⟩ : ∃ w2, ((w.alloc (.cells (ivs [x0, x1, x2, x3]) 39)).alloc (.cells (ivs [y0, y1, y2, y3]) 3)).drew = w2 := ⟨_, rfl⟩
  have hw2' : ((w.alloc (.cells (ivs [x0, x1, x2, x3]) 39)).alloc (.cells #[.int .i64 y0, .int .i64 y1, .int .i64 y2, .int .i64 y3] 3)).drew = w2 := hw2
  rw [hw2']
  have R2 := Lib.hid (show row? w2 (w.heap.size + 1) = some (ivs [y0, y1, y2, y3]) by rw [← hw2, row?_drew]; exact row?_alloc_at _ _ _ _ (by simp))
  have HB2 := Lib.hid (show Below w.heap.size w w2 by rw [← hw2]; exact (bl2 _ _ _).drew)
  clear hw2 hw2' hy0 hy1 hy2 hy3
  refine (low_any F 100 (by omega) (by omega) _).mono ?_
  rintro e w' ⟨rfl, rfl⟩
  have l5 := low_lt F 100 (by omega)
  have l6 := low_lt T 100 (by omega)
  have q5 : wrap64 ((low F 100 : Nat) - 50 : Int) = (low F 100 : Int) - 50 := IntWalk.wrap64_in _ (by omega)
  have q6 : wrap64 ((low T 100 : Nat) - 50 : Int) = (low T 100 : Int) - 50 := IntWalk.wrap64_in _ (by omega)
  obtain ⟨fr, hfr⟩ : ∃ y : Int, (low F 100 : Int) - 50 = y := ⟨_, rfl⟩
  obtain ⟨to, hto⟩ : ∃ y : Int, (low T 100 : Int) - 50 = y := ⟨_, rfl⟩
  have b5 : -50 ≤ fr ∧ fr ≤ 50 ∧ -50 ≤ to ∧ to ≤ 50 := by omega
  rw [hfr] at q5
  rw [hto] at q6
  have B5 := Lib.hid b5
  clear l5 l6 b5
  go_wp2_with fail
  refine (low_any T 100 (by omega) (by omega) _).mono ?_
  rintro e w' ⟨rfl, rfl⟩
  go_wp2_with (at_builtin; refine app_si rfl _ _ 22 rfl w.heap.size 3 i0 Try.underlying22 hi hz0 hz1 hz2 (.slice none 0 0) [] rfl (World.ownsRow_nil _ _ _ _) _ ticks rfl ?hu ?hlen ?hbase ?_)
  case hu => exact HT.out.below HB2.out
  case hlen => simp; omega
  case hbase => exact HB2.out.size
  intro v3 w3 hown3 hgrow3
  have hown4 : w3.ownsRow w.heap.size 3 1 v3 ticks.length (ticks.map iv) := by simpa using hown3
  have hb3 : Below w2.heap.size w2 w3 := (Below.refl _ _).grown hgrow3 (Nat.le_refl _) (fun k hk => by cases hk)
  have R3 := Lib.hid (show row? w3 (w.heap.size + 1) = some (ivs [y0, y1, y2, y3]) by rw [row?_below hb3 (row?_lt R2.out)]; exact R2.out)
  have HB3 := Lib.hid (HB2.out.trans (hb3.mono HB2.out.size))
  have HS3 := Lib.hid (Own.si hown4)
  clear hown3 hown4 hgrow3 hb3
  go_wp2_with fail
  refine (row_any ticks (by omega) fr to (by have := B5.out; exact ⟨by omega, by omega⟩) (by have := B5.out; exact ⟨by omega, by omega⟩) _ _ HS3.out).mono ?_
  rintro e w4 ⟨v4, rfl, hs4, hb4⟩
  have R4 := Lib.hid (show row? w4 (w.heap.size + 1) = some (ivs [y0, y1, y2, y3]) by rw [row?_below hb4 (row?_lt R3.out)]; exact R3.out)
  have HB4 := Lib.hid (HB3.out.trans (hb4.mono HB3.out.size))
  have HRS := Lib.hid (row_sum ticks fr to (by have := B5.out; omega))
  have HRN := Lib.hid (fun j => rowL_ni ticks fr to j)
  clear hb4 q0 q1 q2 q3 q5 q6 hfr hto
  generalize hR : rowL ticks fr to = R at *
  have hrl : R.length ≤ 100 := by have h1 := HRS.out.2; have := B5.out; split at h1 <;> omega
  obtain ⟨ar, cr, rfl, hcr, hnr, hpr⟩ := hs4
  go_wp2_with fail
  go_loopw [11, 13] (fun c v wr => ∃ n : Nat, n ≤ ticks.length ∧ v = .int .i64 n ∧ c = .int .i64 (cntN ticks fr to n) ∧ wr = w4) (fun _ v _ => ticks.length - (intOf v).toNat)
  case atStart => exact ⟨0, by omega, rfl, rfl, rfl⟩
  case round =>
    obtain ⟨n, hn, rfl, rfl, rfl⟩ := hrel
    by_cases hlt : n < ticks.length
    · obtain ⟨bx, off, rfl, hcell⟩ := hp (by omega)
      have c1 := below_cell HB4.out (hcell n hlt) (cell_lt (hcell n hlt))
      have HC := Lib.hid hcell
      clear hcell
      have hst : cntN ticks fr to (n + 1) = cntN ticks fr to n + if fr ≤ ni ticks n ∧ ni ticks n < to then 1 else 0 := rfl
      have hle := cntN_le ticks fr to n
      have hw : wrap64 (cntN ticks fr to n + 1) = cntN ticks fr to n + 1 := IntWalk.wrap64_in _ (by omega)
      have HST := Lib.hid hst
      clear hst hle
      generalize ni ticks n = x at *
      by_cases h1 : fr ≤ x
      · by_cases h2 : x < to
        · go_wp2_with fail
          go_roundw
          case rel => exact ⟨n + 1, by omega, by go_num, by rw [HST.out, if_pos ⟨h1, h2⟩]; first | rfl | exact congrArg (Value.int .i64) hw, trivial⟩
          case measure => simp [intOf]; omega
        · go_wp2_with fail
          go_roundw
          case rel => exact ⟨n + 1, by omega, by go_num, by rw [HST.out, if_neg (fun h => h2 h.2)]; simp, trivial⟩
          case measure => simp [intOf]; omega
      · go_wp2_with fail
        go_roundw
        case rel => exact ⟨n + 1, by omega, by go_num, by rw [HST.out, if_neg (fun h => h1 h.1)]; simp, trivial⟩
        case measure => simp [intOf]; omega
    · obtain rfl : n = ticks.length := by omega
      go_wp2_with fail
      go_loopw [12, 14] (fun c v wi => ∃ n : Nat, n ≤ R.length ∧ v = .int .i64 n ∧ c = .int .i64 (sumN R n) ∧ wi = wr) (fun _ v _ => R.length - (intOf v).toNat)
      case atStart => exact ⟨0, by omega, rfl, rfl, rfl⟩
      case round =>
        obtain ⟨n, hn2, rfl, rfl, rfl⟩ := hrel
        by_cases hlt2 : n < R.length
        · obtain ⟨br, offr, rfl, hcell⟩ := hpr (by omega)
          have c1 := hcell n hlt2
          have HC := Lib.hid hcell
          clear hcell
          have hst : sumN R n + ni R n = sumN R (n + 1) := rfl
          have hle := sumN_le R ticks.length HRN.out (by omega) (n + 1)
          have hw : wrap64 (sumN R n + ni R n) = sumN R (n + 1) := by
            rw [hst]
            refine IntWalk.wrap64_in _ ?_
            have h1 : ((n + 1 : Nat) : Int) * (ticks.length : Int) ≤ 101 * 40 := Int.mul_le_mul (by omega) (by omega) (by omega) (by omega)
            omega
          clear hst hle
          go_wp2_with fail
          go_roundw
          case rel => exact ⟨n + 1, by omega, by go_num, by first | rfl | exact congrArg (Value.int .i64) hw, trivial⟩
          case measure => simp [intOf]; omega
        · obtain rfl : n = R.length := by omega
          obtain ⟨hs1, hs2⟩ := HRS.out
          rw [hs1]
          have HS2 := Lib.hid hs2
          clear hs1 hs2
          have k0 : wr.cell? ⟨w.heap.size + 1, 0, none⟩ = some (.int .i64 y0) := row?_cell R4.out 0
          have k1 : wr.cell? ⟨w.heap.size + 1, 1, none⟩ = some (.int .i64 y1) := row?_cell R4.out 1
          have k2 : wr.cell? ⟨w.heap.size + 1, 2, none⟩ = some (.int .i64 y2) := row?_cell R4.out 2
          have k3 : wr.cell? ⟨w.heap.size + 1, 3, none⟩ = some (.int .i64 y3) := row?_cell R4.out 3
          have hwt : wrap64 (to - fr) = to - fr := IntWalk.wrap64_in _ (by have := B5.out; omega)
          by_cases htf : to - fr < 0
          · have hs3 : (R.length : Int) = 0 := by rw [HS2.out, if_pos htf]
            by_cases e1 : y0 = y1
            · by_cases e2 : y1 = y2
              · skip
                have hfl : flatB (fN [y0, y1, y2, y3]) = (y2 == y3) := by rw [flat_same y0 y1 y2 y3 B0.out B1.out B2.out B3.out, Bool.eq_iff_iff]; simp [e1, e2]
                have HFL := Lib.hid hfl
                clear hfl
                go_wp2_with fail
                refine Rg.wp_region_plan (Rg.row [(0, 3), (1, 3), (2, 0), (3, 3), (4, 3), (5, 0), (6, 3), (7, 3), (8, 3), (9, 3), (10, 0), (11, 3), (12, 3), (13, 0), (14, 3), (15, 3), (16, 3), (17, 3), (18, 3), (19, 0), (20, 3), (21, 3), (22, 0), (23, 3), (24, 3), (25, 3)] []) [] (by kernel_rfl) (by kernel_rfl) ?_
                simp only [Rg.row, Rg.PT.map, List.map_nil, List.getD_cons_zero, List.getD_cons_succ]
                go_wp2_with (first
                  | ((with_reducible refine Rg.plan_pure ?_ ?_ ?_); kernel_rfl; kernel_rfl; intro _ _)
                  | ((with_reducible refine Rg.plan_take ?_ ?_ ?_); kernel_rfl; kernel_rfl; intro _ _)
                  | ((with_reducible refine Rg.plan_keep ?_ ?_); kernel_rfl; intro K hK)
                  | (refine hK _ _ (Rg.Keep.refl _) ?_; clear hK)
                  | (refine hK _ _ (Rg.Keep.of_below (by assumption)) ?_; clear hK)
                  | ((with_reducible refine Rg.plan_skip ?_ ?_); kernel_rfl)
                  | (with_reducible refine Rg.plan_done ?_)
                  | (with_reducible refine Rg.calm_normal ?_))
                clear k0 k1 k2 k3
                clear e1 e2
                generalize ((y2 == y3)) = sb at *
                refine Rg.wp_region_plan (Rg.row [(0, 3), (2, 3), (1, 1), (3, 3), (4, 3), (5, 3), (6, 3), (7, 3), (8, 3), (9, 3), (10, 3), (11, 0), (12, 3), (13, 3), (14, 3), (15, 1), (16, 3), (17, 3), (18, 3), (19, 3), (22, 3), (23, 3), (24, 0), (25, 3), (26, 3), (27, 0), (28, 3), (29, 3), (30, 0), (31, 3), (32, 3), (33, 0), (34, 3), (20, 1), (21, 1), (35, 1), (36, 3), (37, 3), (38, 1), (39, 3), (40, 3)] []) [] (by kernel_rfl) (by kernel_rfl) ?_
                simp only [Rg.row, Rg.PT.map, List.map_nil, List.getD_cons_zero, List.getD_cons_succ]
                go_wp2_with (first
                  | ((with_reducible refine Rg.plan_pure ?_ ?_ ?_); kernel_rfl; kernel_rfl; intro _ _)
                  | ((with_reducible refine Rg.plan_take ?_ ?_ ?_); kernel_rfl; kernel_rfl; intro _ _)
                  | ((with_reducible refine Rg.plan_keep ?_ ?_); kernel_rfl; intro K hK)
                  | (refine hK _ _ (Rg.Keep.refl _) ?_; clear hK)
                  | (refine hK _ _ (Rg.Keep.of_below (by assumption)) ?_; clear hK)
                  | ((with_reducible refine Rg.plan_skip ?_ ?_); kernel_rfl)
                  | (with_reducible refine Rg.plan_done ?_)
                  | (with_reducible refine Rg.calm_normal ?_))
                have hrow : row? wr.drew.drew (w.heap.size + 1) = some (ivs [y0, y1, y2, y3]) := R4.out
                refine (flat_any [y0, y1, y2, y3] (by simp) _ _ (Si.row hrow)).mono ?_
                rw [HFL.out]
                rintro e w5 ⟨rfl, hb5⟩
                have R5 := Lib.hid (show row? w5 (w.heap.size + 1) = some (ivs [y0, y1, y2, y3]) by rw [row?_below hb5 (row?_lt hrow)]; exact hrow)
                have HB5 := Lib.hid (HB4.out.drew.drew.trans (hb5.mono (by have := HB4.out.size; simpa using this)))
                have k0 : w5.cell? ⟨w.heap.size + 1, 0, none⟩ = some (.int .i64 y0) := row?_cell R5.out 0
                have k1 : w5.cell? ⟨w.heap.size + 1, 1, none⟩ = some (.int .i64 y1) := row?_cell R5.out 1
                have k2 : w5.cell? ⟨w.heap.size + 1, 2, none⟩ = some (.int .i64 y2) := row?_cell R5.out 2
                have k3 : w5.cell? ⟨w.heap.size + 1, 3, none⟩ = some (.int .i64 y3) := row?_cell R5.out 3
                have HB5' := Lib.hid hb5
                clear hb5 hrow
                dsimp only
                refine hK _ _ (Rg.Keep.of_below HB5'.out) ?_
                clear hK
                go_wp2_with (first
                  | ((with_reducible refine Rg.plan_pure ?_ ?_ ?_); kernel_rfl; kernel_rfl; intro _ _)
                  | ((with_reducible refine Rg.plan_take ?_ ?_ ?_); kernel_rfl; kernel_rfl; intro _ _)
                  | ((with_reducible refine Rg.plan_keep ?_ ?_); kernel_rfl; intro K hK)
                  | (refine hK _ _ (Rg.Keep.refl _) ?_; clear hK)
                  | (refine hK _ _ (Rg.Keep.of_below (by assumption)) ?_; clear hK)
                  | ((with_reducible refine Rg.plan_skip ?_ ?_); kernel_rfl)
                  | (with_reducible refine Rg.plan_done ?_)
                  | (with_reducible refine Rg.calm_normal ?_))
                refine hK _ _ (Rg.Keep.refl _) ?_
                clear hK
                go_wp2_with (first
                  | ((with_reducible refine Rg.plan_pure ?_ ?_ ?_); kernel_rfl; kernel_rfl; intro _ _)
                  | ((with_reducible refine Rg.plan_take ?_ ?_ ?_); kernel_rfl; kernel_rfl; intro _ _)
                  | ((with_reducible refine Rg.plan_keep ?_ ?_); kernel_rfl; intro K hK)
                  | (refine hK _ _ (Rg.Keep.refl _) ?_; clear hK)
                  | (refine hK _ _ (Rg.Keep.of_below (by assumption)) ?_; clear hK)
                  | ((with_reducible refine Rg.plan_skip ?_ ?_); kernel_rfl)
                  | (with_reducible refine Rg.plan_done ?_)
                  | (with_reducible refine Rg.calm_normal ?_))
                have hok : okN [y0, y1, y2, y3] := fun i hi => by
                  have b0 := B0.out
                  have b1 := B1.out
                  have b2 := B2.out
                  have b3 := B3.out
                  have : i = 0 ∨ i = 1 ∨ i = 2 ∨ i = 3 := by simp at hi; omega
                  rcases this with rfl | rfl | rfl | rfl <;> simp [ni] <;> omega
                refine (sums_any [y0, y1, y2, y3] (by simp) hok _ _ (Si.row R5.out)).mono ?_
                rintro e w6 ⟨z, rfl, hz, hb6⟩
                have HZ := Lib.hid (show FlZ z (q4 [y0, y1, y2, y3] 4) from hz)
                have HB6 := Lib.hid (HB5.out.trans (hb6.mono HB5.out.size))
                have HB6' := Lib.hid hb6
                have HOK := Lib.hid hok
                clear hb6 hz k0 k1 k2 k3 hok
                dsimp only
                refine hK _ _ (Rg.Keep.of_below HB6'.out) ?_
                clear hK
                go_wp2_with (first
                  | ((with_reducible refine Rg.plan_pure ?_ ?_ ?_); kernel_rfl; kernel_rfl; intro _ _)
                  | ((with_reducible refine Rg.plan_take ?_ ?_ ?_); kernel_rfl; kernel_rfl; intro _ _)
                  | ((with_reducible refine Rg.plan_keep ?_ ?_); kernel_rfl; intro K hK)
                  | (refine hK _ _ (Rg.Keep.refl _) ?_; clear hK)
                  | (refine hK _ _ (Rg.Keep.of_below (by assumption)) ?_; clear hK)
                  | ((with_reducible refine Rg.plan_skip ?_ ?_); kernel_rfl)
                  | (with_reducible refine Rg.plan_done ?_)
                  | (with_reducible refine Rg.calm_normal ?_))
                refine (back_any z _ HZ.out (four_le B0.out B1.out B2.out B3.out) _).mono ?_
                rw [up_four]
                rintro e w7 ⟨rfl, hb7⟩
                have HB7 := Lib.hid (HB6.out.trans (hb7.mono HB6.out.size))
                have HB7' := Lib.hid hb7
                have heq : ∀ W : World, (Op.equalIn 10000 39 (.agg (ivs [y0, y1, y2, y3])) (.agg #[.int .i64 y0, .int .i64 y1, .int .i64 y2, .int .i64 y3])).run Try.prog W = .ok true W := fun W => by
                  have := eqI [y0, y1, y2, y3] [y0, y1, y2, y3] rfl rfl W
                  rw [beq_self_eq_true] at this
                  exact this
                clear hb7
                dsimp only
                refine hK _ _ (Rg.Keep.of_below HB7'.out) ?_
                clear hK
                go_wp2_with (first
                  | ((with_reducible refine Rg.plan_pure ?_ ?_ ?_); kernel_rfl; kernel_rfl; intro _ _)
                  | ((with_reducible refine Rg.plan_take ?_ ?_ ?_); kernel_rfl; kernel_rfl; intro _ _)
                  | ((with_reducible refine Rg.plan_keep ?_ ?_); kernel_rfl; intro K hK)
                  | (refine hK _ _ (Rg.Keep.refl _) ?_; clear hK)
                  | (refine hK _ _ (Rg.Keep.of_below (by assumption)) ?_; clear hK)
                  | ((with_reducible refine Rg.plan_skip ?_ ?_); kernel_rfl)
                  | (with_reducible refine Rg.plan_done ?_)
                  | (with_reducible refine Rg.calm_normal ?_))
                refine hK _ _ (Rg.Keep.refl _) ?_
                clear hK
                go_wp2_with (first
                  | ((with_reducible refine Rg.plan_pure ?_ ?_ ?_); kernel_rfl; kernel_rfl; intro _ _)
                  | ((with_reducible refine Rg.plan_take ?_ ?_ ?_); kernel_rfl; kernel_rfl; intro _ _)
                  | ((with_reducible refine Rg.plan_keep ?_ ?_); kernel_rfl; intro K hK)
                  | (refine hK _ _ (Rg.Keep.refl _) ?_; clear hK)
                  | (refine hK _ _ (Rg.Keep.of_below (by assumption)) ?_; clear hK)
                  | ((with_reducible refine Rg.plan_skip ?_ ?_); kernel_rfl)
                  | (with_reducible refine Rg.plan_done ?_)
                  | (with_reducible refine Rg.calm_normal ?_))
                refine (awake_any _).mono ?_
                rintro e w8 ⟨rfl, hb8⟩
                have HB8 := Lib.hid (HB7.out.trans (hb8.mono HB7.out.size))
                have HB8' := Lib.hid hb8
                clear hb8
                dsimp only
                refine hK _ _ (Rg.Keep.of_below HB8'.out) ?_
                clear hK
                go_wp2_with (first
                  | ((with_reducible refine Rg.plan_pure ?_ ?_ ?_); kernel_rfl; kernel_rfl; intro _ _)
                  | ((with_reducible refine Rg.plan_take ?_ ?_ ?_); kernel_rfl; kernel_rfl; intro _ _)
                  | ((with_reducible refine Rg.plan_keep ?_ ?_); kernel_rfl; intro K hK)
                  | (refine hK _ _ (Rg.Keep.refl _) ?_; clear hK)
                  | (refine hK _ _ (Rg.Keep.of_below (by assumption)) ?_; clear hK)
                  | ((with_reducible refine Rg.plan_skip ?_ ?_); kernel_rfl)
                  | (with_reducible refine Rg.plan_done ?_)
                  | (with_reducible refine Rg.calm_normal ?_))
                go_ret
                exact ⟨rfl, HB8.out⟩
              · have e2' : (y1 == y2) = false := by simpa using e2
                have hfl : flatB (fN [y0, y1, y2, y3]) = false := by rw [flat_same y0 y1 y2 y3 B0.out B1.out B2.out B3.out, Bool.eq_iff_iff]; simp [e2]
                have HFL := Lib.hid hfl
                clear hfl
                go_wp2_with fail
                refine Rg.wp_region_plan (Rg.row [(0, 3), (1, 3), (2, 0), (3, 3), (4, 3), (5, 0), (6, 3), (7, 3), (8, 3), (9, 3), (10, 0), (11, 3), (12, 3), (13, 0), (14, 3), (15, 3), (16, 3), (17, 3), (18, 3), (19, 0), (20, 3), (21, 3), (22, 0), (23, 3), (24, 3), (25, 3)] []) [] (by kernel_rfl) (by kernel_rfl) ?_
                simp only [Rg.row, Rg.PT.map, List.map_nil, List.getD_cons_zero, List.getD_cons_succ]
                go_wp2_with (first
                  | ((with_reducible refine plan_skipG 16 rfl ?_ ?_); kernel_rfl)
                  | ((with_reducible refine Rg.plan_pure ?_ ?_ ?_); kernel_rfl; kernel_rfl; intro _ _)
                  | ((with_reducible refine Rg.plan_take ?_ ?_ ?_); kernel_rfl; kernel_rfl; intro _ _)
                  | ((with_reducible refine Rg.plan_keep ?_ ?_); kernel_rfl; intro K hK)
                  | (refine hK _ _ (Rg.Keep.refl _) ?_; clear hK)
                  | (refine hK _ _ (Rg.Keep.of_below (by assumption)) ?_; clear hK)
                  | ((with_reducible refine Rg.plan_skip ?_ ?_); kernel_rfl)
                  | (with_reducible refine Rg.plan_done ?_)
                  | (with_reducible refine Rg.calm_normal ?_))
                clear k0 k1 k2 k3
                clear e1 e2 e2'
                refine Rg.wp_region_plan (Rg.row [(0, 3), (2, 3), (1, 1), (3, 3), (4, 3), (5, 3), (6, 3), (7, 3), (8, 3), (9, 3), (10, 3), (11, 0), (12, 3), (13, 3), (14, 3), (15, 1), (16, 3), (17, 3), (18, 3), (19, 3), (22, 3), (23, 3), (24, 0), (25, 3), (26, 3), (27, 0), (28, 3), (29, 3), (30, 0), (31, 3), (32, 3), (33, 0), (34, 3), (20, 1), (21, 1), (35, 1), (36, 3), (37, 3), (38, 1), (39, 3), (40, 3)] []) [] (by kernel_rfl) (by kernel_rfl) ?_
                simp only [Rg.row, Rg.PT.map, List.map_nil, List.getD_cons_zero, List.getD_cons_succ]
                go_wp2_with (first
                  | ((with_reducible refine Rg.plan_pure ?_ ?_ ?_); kernel_rfl; kernel_rfl; intro _ _)
                  | ((with_reducible refine Rg.plan_take ?_ ?_ ?_); kernel_rfl; kernel_rfl; intro _ _)
                  | ((with_reducible refine Rg.plan_keep ?_ ?_); kernel_rfl; intro K hK)
                  | (refine hK _ _ (Rg.Keep.refl _) ?_; clear hK)
                  | (refine hK _ _ (Rg.Keep.of_below (by assumption)) ?_; clear hK)
                  | ((with_reducible refine Rg.plan_skip ?_ ?_); kernel_rfl)
                  | (with_reducible refine Rg.plan_done ?_)
                  | (with_reducible refine Rg.calm_normal ?_))
                have hrow : row? wr.drew.drew (w.heap.size + 1) = some (ivs [y0, y1, y2, y3]) := R4.out
                refine (flat_any [y0, y1, y2, y3] (by simp) _ _ (Si.row hrow)).mono ?_
                rw [HFL.out]
                rintro e w5 ⟨rfl, hb5⟩
                have R5 := Lib.hid (show row? w5 (w.heap.size + 1) = some (ivs [y0, y1, y2, y3]) by rw [row?_below hb5 (row?_lt hrow)]; exact hrow)
                have HB5 := Lib.hid (HB4.out.drew.drew.trans (hb5.mono (by have := HB4.out.size; simpa using this)))
                have k0 : w5.cell? ⟨w.heap.size + 1, 0, none⟩ = some (.int .i64 y0) := row?_cell R5.out 0
                have k1 : w5.cell? ⟨w.heap.size + 1, 1, none⟩ = some (.int .i64 y1) := row?_cell R5.out 1
                have k2 : w5.cell? ⟨w.heap.size + 1, 2, none⟩ = some (.int .i64 y2) := row?_cell R5.out 2
                have k3 : w5.cell? ⟨w.heap.size + 1, 3, none⟩ = some (.int .i64 y3) := row?_cell R5.out 3
                have HB5' := Lib.hid hb5
                clear hb5 hrow
                dsimp only
                refine hK _ _ (Rg.Keep.of_below HB5'.out) ?_
                clear hK
                go_wp2_with (first
                  | ((with_reducible refine Rg.plan_pure ?_ ?_ ?_); kernel_rfl; kernel_rfl; intro _ _)
                  | ((with_reducible refine Rg.plan_take ?_ ?_ ?_); kernel_rfl; kernel_rfl; intro _ _)
                  | ((with_reducible refine Rg.plan_keep ?_ ?_); kernel_rfl; intro K hK)
                  | (refine hK _ _ (Rg.Keep.refl _) ?_; clear hK)
                  | (refine hK _ _ (Rg.Keep.of_below (by assumption)) ?_; clear hK)
                  | ((with_reducible refine Rg.plan_skip ?_ ?_); kernel_rfl)
                  | (with_reducible refine Rg.plan_done ?_)
                  | (with_reducible refine Rg.calm_normal ?_))
                refine hK _ _ (Rg.Keep.refl _) ?_
                clear hK
                go_wp2_with (first
                  | ((with_reducible refine Rg.plan_pure ?_ ?_ ?_); kernel_rfl; kernel_rfl; intro _ _)
                  | ((with_reducible refine Rg.plan_take ?_ ?_ ?_); kernel_rfl; kernel_rfl; intro _ _)
                  | ((with_reducible refine Rg.plan_keep ?_ ?_); kernel_rfl; intro K hK)
                  | (refine hK _ _ (Rg.Keep.refl _) ?_; clear hK)
                  | (refine hK _ _ (Rg.Keep.of_below (by assumption)) ?_; clear hK)
                  | ((with_reducible refine Rg.plan_skip ?_ ?_); kernel_rfl)
                  | (with_reducible refine Rg.plan_done ?_)
                  | (with_reducible refine Rg.calm_normal ?_))
                have hok : okN [y0, y1, y2, y3] := fun i hi => by
                  have b0 := B0.out
                  have b1 := B1.out
                  have b2 := B2.out
                  have b3 := B3.out
                  have : i = 0 ∨ i = 1 ∨ i = 2 ∨ i = 3 := by simp at hi; omega
                  rcases this with rfl | rfl | rfl | rfl <;> simp [ni] <;> omega
                refine (sums_any [y0, y1, y2, y3] (by simp) hok _ _ (Si.row R5.out)).mono ?_
                rintro e w6 ⟨z, rfl, hz, hb6⟩
                have HZ := Lib.hid (show FlZ z (q4 [y0, y1, y2, y3] 4) from hz)
                have HB6 := Lib.hid (HB5.out.trans (hb6.mono HB5.out.size))
                have HB6' := Lib.hid hb6
                have HOK := Lib.hid hok
                clear hb6 hz k0 k1 k2 k3 hok
                dsimp only
                refine hK _ _ (Rg.Keep.of_below HB6'.out) ?_
                clear hK
                go_wp2_with (first
                  | ((with_reducible refine Rg.plan_pure ?_ ?_ ?_); kernel_rfl; kernel_rfl; intro _ _)
                  | ((with_reducible refine Rg.plan_take ?_ ?_ ?_); kernel_rfl; kernel_rfl; intro _ _)
                  | ((with_reducible refine Rg.plan_keep ?_ ?_); kernel_rfl; intro K hK)
                  | (refine hK _ _ (Rg.Keep.refl _) ?_; clear hK)
                  | (refine hK _ _ (Rg.Keep.of_below (by assumption)) ?_; clear hK)
                  | ((with_reducible refine Rg.plan_skip ?_ ?_); kernel_rfl)
                  | (with_reducible refine Rg.plan_done ?_)
                  | (with_reducible refine Rg.calm_normal ?_))
                refine (back_any z _ HZ.out (four_le B0.out B1.out B2.out B3.out) _).mono ?_
                rw [up_four]
                rintro e w7 ⟨rfl, hb7⟩
                have HB7 := Lib.hid (HB6.out.trans (hb7.mono HB6.out.size))
                have HB7' := Lib.hid hb7
                have heq : ∀ W : World, (Op.equalIn 10000 39 (.agg (ivs [y0, y1, y2, y3])) (.agg #[.int .i64 y0, .int .i64 y1, .int .i64 y2, .int .i64 y3])).run Try.prog W = .ok true W := fun W => by
                  have := eqI [y0, y1, y2, y3] [y0, y1, y2, y3] rfl rfl W
                  rw [beq_self_eq_true] at this
                  exact this
                clear hb7
                dsimp only
                refine hK _ _ (Rg.Keep.of_below HB7'.out) ?_
                clear hK
                go_wp2_with (first
                  | ((with_reducible refine Rg.plan_pure ?_ ?_ ?_); kernel_rfl; kernel_rfl; intro _ _)
                  | ((with_reducible refine Rg.plan_take ?_ ?_ ?_); kernel_rfl; kernel_rfl; intro _ _)
                  | ((with_reducible refine Rg.plan_keep ?_ ?_); kernel_rfl; intro K hK)
                  | (refine hK _ _ (Rg.Keep.refl _) ?_; clear hK)
                  | (refine hK _ _ (Rg.Keep.of_below (by assumption)) ?_; clear hK)
                  | ((with_reducible refine Rg.plan_skip ?_ ?_); kernel_rfl)
                  | (with_reducible refine Rg.plan_done ?_)
                  | (with_reducible refine Rg.calm_normal ?_))
                refine hK _ _ (Rg.Keep.refl _) ?_
                clear hK
                go_wp2_with (first
                  | ((with_reducible refine Rg.plan_pure ?_ ?_ ?_); kernel_rfl; kernel_rfl; intro _ _)
                  | ((with_reducible refine Rg.plan_take ?_ ?_ ?_); kernel_rfl; kernel_rfl; intro _ _)
                  | ((with_reducible refine Rg.plan_keep ?_ ?_); kernel_rfl; intro K hK)
                  | (refine hK _ _ (Rg.Keep.refl _) ?_; clear hK)
                  | (refine hK _ _ (Rg.Keep.of_below (by assumption)) ?_; clear hK)
                  | ((with_reducible refine Rg.plan_skip ?_ ?_); kernel_rfl)
                  | (with_reducible refine Rg.plan_done ?_)
                  | (with_reducible refine Rg.calm_normal ?_))
                refine (awake_any _).mono ?_
                rintro e w8 ⟨rfl, hb8⟩
                have HB8 := Lib.hid (HB7.out.trans (hb8.mono HB7.out.size))
                have HB8' := Lib.hid hb8
                clear hb8
                dsimp only
                refine hK _ _ (Rg.Keep.of_below HB8'.out) ?_
                clear hK
                go_wp2_with (first
                  | ((with_reducible refine Rg.plan_pure ?_ ?_ ?_); kernel_rfl; kernel_rfl; intro _ _)
                  | ((with_reducible refine Rg.plan_take ?_ ?_ ?_); kernel_rfl; kernel_rfl; intro _ _)
                  | ((with_reducible refine Rg.plan_keep ?_ ?_); kernel_rfl; intro K hK)
                  | (refine hK _ _ (Rg.Keep.refl _) ?_; clear hK)
                  | (refine hK _ _ (Rg.Keep.of_below (by assumption)) ?_; clear hK)
                  | ((with_reducible refine Rg.plan_skip ?_ ?_); kernel_rfl)
                  | (with_reducible refine Rg.plan_done ?_)
                  | (with_reducible refine Rg.calm_normal ?_))
                go_ret
                exact ⟨rfl, HB8.out⟩
            · have e1' : (y0 == y1) = false := by simpa using e1
              have hfl : flatB (fN [y0, y1, y2, y3]) = false := by rw [flat_same y0 y1 y2 y3 B0.out B1.out B2.out B3.out, Bool.eq_iff_iff]; simp [e1]
              have HFL := Lib.hid hfl
              clear hfl
              go_wp2_with fail
              refine Rg.wp_region_plan (Rg.row [(0, 3), (1, 3), (2, 0), (3, 3), (4, 3), (5, 0), (6, 3), (7, 3), (8, 3), (9, 3), (10, 0), (11, 3), (12, 3), (13, 0), (14, 3), (15, 3), (16, 3), (17, 3), (18, 3), (19, 0), (20, 3), (21, 3), (22, 0), (23, 3), (24, 3), (25, 3)] []) [] (by kernel_rfl) (by kernel_rfl) ?_
              simp only [Rg.row, Rg.PT.map, List.map_nil, List.getD_cons_zero, List.getD_cons_succ]
              go_wp2_with (first
                | ((with_reducible refine plan_skipG 7 rfl ?_ ?_); kernel_rfl)
                | ((with_reducible refine plan_skipG 16 rfl ?_ ?_); kernel_rfl)
                | ((with_reducible refine Rg.plan_pure ?_ ?_ ?_); kernel_rfl; kernel_rfl; intro _ _)
                | ((with_reducible refine Rg.plan_take ?_ ?_ ?_); kernel_rfl; kernel_rfl; intro _ _)
                | ((with_reducible refine Rg.plan_keep ?_ ?_); kernel_rfl; intro K hK)
                | (refine hK _ _ (Rg.Keep.refl _) ?_; clear hK)
                | (refine hK _ _ (Rg.Keep.of_below (by assumption)) ?_; clear hK)
                | ((with_reducible refine Rg.plan_skip ?_ ?_); kernel_rfl)
                | (with_reducible refine Rg.plan_done ?_)
                | (with_reducible refine Rg.calm_normal ?_))
              clear k0 k1 k2 k3
              clear e1 e1'
              refine Rg.wp_region_plan (Rg.row [(0, 3), (2, 3), (1, 1), (3, 3), (4, 3), (5, 3), (6, 3), (7, 3), (8, 3), (9, 3), (10, 3), (11, 0), (12, 3), (13, 3), (14, 3), (15, 1), (16, 3), (17, 3), (18, 3), (19, 3), (22, 3), (23, 3), (24, 0), (25, 3), (26, 3), (27, 0), (28, 3), (29, 3), (30, 0), (31, 3), (32, 3), (33, 0), (34, 3), (20, 1), (21, 1), (35, 1), (36, 3), (37, 3), (38, 1), (39, 3), (40, 3)] []) [] (by kernel_rfl) (by kernel_rfl) ?_
              simp only [Rg.row, Rg.PT.map, List.map_nil, List.getD_cons_zero, List.getD_cons_succ]
              go_wp2_with (first
                | ((with_reducible refine Rg.plan_pure ?_ ?_ ?_); kernel_rfl; kernel_rfl; intro _ _)
                | ((with_reducible refine Rg.plan_take ?_ ?_ ?_); kernel_rfl; kernel_rfl; intro _ _)
                | ((with_reducible refine Rg.plan_keep ?_ ?_); kernel_rfl; intro K hK)
                | (refine hK _ _ (Rg.Keep.refl _) ?_; clear hK)
                | (refine hK _ _ (Rg.Keep.of_below (by assumption)) ?_; clear hK)
                | ((with_reducible refine Rg.plan_skip ?_ ?_); kernel_rfl)
                | (with_reducible refine Rg.plan_done ?_)
                | (with_reducible refine Rg.calm_normal ?_))
              have hrow : row? wr.drew.drew (w.heap.size + 1) = some (ivs [y0, y1, y2, y3]) := R4.out
              refine (flat_any [y0, y1, y2, y3] (by simp) _ _ (Si.row hrow)).mono ?_
              rw [HFL.out]
              rintro e w5 ⟨rfl, hb5⟩
              have R5 := Lib.hid (show row? w5 (w.heap.size + 1) = some (ivs [y0, y1, y2, y3]) by rw [row?_below hb5 (row?_lt hrow)]; exact hrow)
              have HB5 := Lib.hid (HB4.out.drew.drew.trans (hb5.mono (by have := HB4.out.size; simpa using this)))
              have k0 : w5.cell? ⟨w.heap.size + 1, 0, none⟩ = some (.int .i64 y0) := row?_cell R5.out 0
              have k1 : w5.cell? ⟨w.heap.size + 1, 1, none⟩ = some (.int .i64 y1) := row?_cell R5.out 1
              have k2 : w5.cell? ⟨w.heap.size + 1, 2, none⟩ = some (.int .i64 y2) := row?_cell R5.out 2
              have k3 : w5.cell? ⟨w.heap.size + 1, 3, none⟩ = some (.int .i64 y3) := row?_cell R5.out 3
              have HB5' := Lib.hid hb5
              clear hb5 hrow
              dsimp only
              refine hK _ _ (Rg.Keep.of_below HB5'.out) ?_
              clear hK
              go_wp2_with (first
                | ((with_reducible refine Rg.plan_pure ?_ ?_ ?_); kernel_rfl; kernel_rfl; intro _ _)
                | ((with_reducible refine Rg.plan_take ?_ ?_ ?_); kernel_rfl; kernel_rfl; intro _ _)
                | ((with_reducible refine Rg.plan_keep ?_ ?_); kernel_rfl; intro K hK)
                | (refine hK _ _ (Rg.Keep.refl _) ?_; clear hK)
                | (refine hK _ _ (Rg.Keep.of_below (by assumption)) ?_; clear hK)
                | ((with_reducible refine Rg.plan_skip ?_ ?_); kernel_rfl)
                | (with_reducible refine Rg.plan_done ?_)
                | (with_reducible refine Rg.calm_normal ?_))
              refine hK _ _ (Rg.Keep.refl _) ?_
              clear hK
              go_wp2_with (first
                | ((with_reducible refine Rg.plan_pure ?_ ?_ ?_); kernel_rfl; kernel_rfl; intro _ _)
                | ((with_reducible refine Rg.plan_take ?_ ?_ ?_); kernel_rfl; kernel_rfl; intro _ _)
                | ((with_reducible refine Rg.plan_keep ?_ ?_); kernel_rfl; intro K hK)
                | (refine hK _ _ (Rg.Keep.refl _) ?_; clear hK)
                | (refine hK _ _ (Rg.Keep.of_below (by assumption)) ?_; clear hK)
                | ((with_reducible refine Rg.plan_skip ?_ ?_); kernel_rfl)
                | (with_reducible refine Rg.plan_done ?_)
                | (with_reducible refine Rg.calm_normal ?_))
              have hok : okN [y0, y1, y2, y3] := fun i hi => by
                have b0 := B0.out
                have b1 := B1.out
                have b2 := B2.out
                have b3 := B3.out
                have : i = 0 ∨ i = 1 ∨ i = 2 ∨ i = 3 := by simp at hi; omega
                rcases this with rfl | rfl | rfl | rfl <;> simp [ni] <;> omega
              refine (sums_any [y0, y1, y2, y3] (by simp) hok _ _ (Si.row R5.out)).mono ?_
              rintro e w6 ⟨z, rfl, hz, hb6⟩
              have HZ := Lib.hid (show FlZ z (q4 [y0, y1, y2, y3] 4) from hz)
              have HB6 := Lib.hid (HB5.out.trans (hb6.mono HB5.out.size))
              have HB6' := Lib.hid hb6
              have HOK := Lib.hid hok
              clear hb6 hz k0 k1 k2 k3 hok
              dsimp only
              refine hK _ _ (Rg.Keep.of_below HB6'.out) ?_
              clear hK
              go_wp2_with (first
                | ((with_reducible refine Rg.plan_pure ?_ ?_ ?_); kernel_rfl; kernel_rfl; intro _ _)
                | ((with_reducible refine Rg.plan_take ?_ ?_ ?_); kernel_rfl; kernel_rfl; intro _ _)
                | ((with_reducible refine Rg.plan_keep ?_ ?_); kernel_rfl; intro K hK)
                | (refine hK _ _ (Rg.Keep.refl _) ?_; clear hK)
                | (refine hK _ _ (Rg.Keep.of_below (by assumption)) ?_; clear hK)
                | ((with_reducible refine Rg.plan_skip ?_ ?_); kernel_rfl)
                | (with_reducible refine Rg.plan_done ?_)
                | (with_reducible refine Rg.calm_normal ?_))
              refine (back_any z _ HZ.out (four_le B0.out B1.out B2.out B3.out) _).mono ?_
              rw [up_four]
              rintro e w7 ⟨rfl, hb7⟩
              have HB7 := Lib.hid (HB6.out.trans (hb7.mono HB6.out.size))
              have HB7' := Lib.hid hb7
              have heq : ∀ W : World, (Op.equalIn 10000 39 (.agg (ivs [y0, y1, y2, y3])) (.agg #[.int .i64 y0, .int .i64 y1, .int .i64 y2, .int .i64 y3])).run Try.prog W = .ok true W := fun W => by
                have := eqI [y0, y1, y2, y3] [y0, y1, y2, y3] rfl rfl W
                rw [beq_self_eq_true] at this
                exact this
              clear hb7
              dsimp only
              refine hK _ _ (Rg.Keep.of_below HB7'.out) ?_
              clear hK
              go_wp2_with (first
                | ((with_reducible refine Rg.plan_pure ?_ ?_ ?_); kernel_rfl; kernel_rfl; intro _ _)
                | ((with_reducible refine Rg.plan_take ?_ ?_ ?_); kernel_rfl; kernel_rfl; intro _ _)
                | ((with_reducible refine Rg.plan_keep ?_ ?_); kernel_rfl; intro K hK)
                | (refine hK _ _ (Rg.Keep.refl _) ?_; clear hK)
                | (refine hK _ _ (Rg.Keep.of_below (by assumption)) ?_; clear hK)
                | ((with_reducible refine Rg.plan_skip ?_ ?_); kernel_rfl)
                | (with_reducible refine Rg.plan_done ?_)
                | (with_reducible refine Rg.calm_normal ?_))
              refine hK _ _ (Rg.Keep.refl _) ?_
              clear hK
              go_wp2_with (first
                | ((with_reducible refine Rg.plan_pure ?_ ?_ ?_); kernel_rfl; kernel_rfl; intro _ _)
                | ((with_reducible refine Rg.plan_take ?_ ?_ ?_); kernel_rfl; kernel_rfl; intro _ _)
                | ((with_reducible refine Rg.plan_keep ?_ ?_); kernel_rfl; intro K hK)
                | (refine hK _ _ (Rg.Keep.refl _) ?_; clear hK)
                | (refine hK _ _ (Rg.Keep.of_below (by assumption)) ?_; clear hK)
                | ((with_reducible refine Rg.plan_skip ?_ ?_); kernel_rfl)
                | (with_reducible refine Rg.plan_done ?_)
                | (with_reducible refine Rg.calm_normal ?_))
              refine (awake_any _).mono ?_
              rintro e w8 ⟨rfl, hb8⟩
              have HB8 := Lib.hid (HB7.out.trans (hb8.mono HB7.out.size))
              have HB8' := Lib.hid hb8
              clear hb8
              dsimp only
              refine hK _ _ (Rg.Keep.of_below HB8'.out) ?_
              clear hK
              go_wp2_with (first
                | ((with_reducible refine Rg.plan_pure ?_ ?_ ?_); kernel_rfl; kernel_rfl; intro _ _)
                | ((with_reducible refine Rg.plan_take ?_ ?_ ?_); kernel_rfl; kernel_rfl; intro _ _)
                | ((with_reducible refine Rg.plan_keep ?_ ?_); kernel_rfl; intro K hK)
                | (refine hK _ _ (Rg.Keep.refl _) ?_; clear hK)
                | (refine hK _ _ (Rg.Keep.of_below (by assumption)) ?_; clear hK)
                | ((with_reducible refine Rg.plan_skip ?_ ?_); kernel_rfl)
                | (with_reducible refine Rg.plan_done ?_)
                | (with_reducible refine Rg.calm_normal ?_))
              go_ret
              exact ⟨rfl, HB8.out⟩
          · have hs3 : (R.length : Int) = to - fr := by rw [HS2.out, if_neg htf]
            by_cases e1 : y0 = y1
            · by_cases e2 : y1 = y2
              · skip
                have hfl : flatB (fN [y0, y1, y2, y3]) = (y2 == y3) := by rw [flat_same y0 y1 y2 y3 B0.out B1.out B2.out B3.out, Bool.eq_iff_iff]; simp [e1, e2]
                have HFL := Lib.hid hfl
                clear hfl
                go_wp2_with fail
                refine Rg.wp_region_plan (Rg.row [(0, 3), (1, 3), (2, 0), (3, 3), (4, 3), (5, 0), (6, 3), (7, 3), (8, 3), (9, 3), (10, 0), (11, 3), (12, 3), (13, 0), (14, 3), (15, 3), (16, 3), (17, 3), (18, 3), (19, 0), (20, 3), (21, 3), (22, 0), (23, 3), (24, 3), (25, 3)] []) [] (by kernel_rfl) (by kernel_rfl) ?_
                simp only [Rg.row, Rg.PT.map, List.map_nil, List.getD_cons_zero, List.getD_cons_succ]
                go_wp2_with (first
                  | ((with_reducible refine Rg.plan_pure ?_ ?_ ?_); kernel_rfl; kernel_rfl; intro _ _)
                  | ((with_reducible refine Rg.plan_take ?_ ?_ ?_); kernel_rfl; kernel_rfl; intro _ _)
                  | ((with_reducible refine Rg.plan_keep ?_ ?_); kernel_rfl; intro K hK)
                  | (refine hK _ _ (Rg.Keep.refl _) ?_; clear hK)
                  | (refine hK _ _ (Rg.Keep.of_below (by assumption)) ?_; clear hK)
                  | ((with_reducible refine Rg.plan_skip ?_ ?_); kernel_rfl)
                  | (with_reducible refine Rg.plan_done ?_)
                  | (with_reducible refine Rg.calm_normal ?_))
                clear k0 k1 k2 k3
                clear e1 e2
                generalize ((y2 == y3)) = sb at *
                refine Rg.wp_region_plan (Rg.row [(0, 3), (2, 3), (1, 1), (3, 3), (4, 3), (5, 3), (6, 3), (7, 3), (8, 3), (9, 3), (10, 3), (11, 0), (12, 3), (13, 3), (14, 3), (15, 1), (16, 3), (17, 3), (18, 3), (19, 3), (22, 3), (23, 3), (24, 0), (25, 3), (26, 3), (27, 0), (28, 3), (29, 3), (30, 0), (31, 3), (32, 3), (33, 0), (34, 3), (20, 1), (21, 1), (35, 1), (36, 3), (37, 3), (38, 1), (39, 3), (40, 3)] []) [] (by kernel_rfl) (by kernel_rfl) ?_
                simp only [Rg.row, Rg.PT.map, List.map_nil, List.getD_cons_zero, List.getD_cons_succ]
                go_wp2_with (first
                  | ((with_reducible refine Rg.plan_pure ?_ ?_ ?_); kernel_rfl; kernel_rfl; intro _ _)
                  | ((with_reducible refine Rg.plan_take ?_ ?_ ?_); kernel_rfl; kernel_rfl; intro _ _)
                  | ((with_reducible refine Rg.plan_keep ?_ ?_); kernel_rfl; intro K hK)
                  | (refine hK _ _ (Rg.Keep.refl _) ?_; clear hK)
                  | (refine hK _ _ (Rg.Keep.of_below (by assumption)) ?_; clear hK)
                  | ((with_reducible refine Rg.plan_skip ?_ ?_); kernel_rfl)
                  | (with_reducible refine Rg.plan_done ?_)
                  | (with_reducible refine Rg.calm_normal ?_))
                have hrow : row? wr.drew.drew (w.heap.size + 1) = some (ivs [y0, y1, y2, y3]) := R4.out
                refine (flat_any [y0, y1, y2, y3] (by simp) _ _ (Si.row hrow)).mono ?_
                rw [HFL.out]
                rintro e w5 ⟨rfl, hb5⟩
                have R5 := Lib.hid (show row? w5 (w.heap.size + 1) = some (ivs [y0, y1, y2, y3]) by rw [row?_below hb5 (row?_lt hrow)]; exact hrow)
                have HB5 := Lib.hid (HB4.out.drew.drew.trans (hb5.mono (by have := HB4.out.size; simpa using this)))
                have k0 : w5.cell? ⟨w.heap.size + 1, 0, none⟩ = some (.int .i64 y0) := row?_cell R5.out 0
                have k1 : w5.cell? ⟨w.heap.size + 1, 1, none⟩ = some (.int .i64 y1) := row?_cell R5.out 1
                have k2 : w5.cell? ⟨w.heap.size + 1, 2, none⟩ = some (.int .i64 y2) := row?_cell R5.out 2
                have k3 : w5.cell? ⟨w.heap.size + 1, 3, none⟩ = some (.int .i64 y3) := row?_cell R5.out 3
                have HB5' := Lib.hid hb5
                clear hb5 hrow
                dsimp only
                refine hK _ _ (Rg.Keep.of_below HB5'.out) ?_
                clear hK
                go_wp2_with (first
                  | ((with_reducible refine Rg.plan_pure ?_ ?_ ?_); kernel_rfl; kernel_rfl; intro _ _)
                  | ((with_reducible refine Rg.plan_take ?_ ?_ ?_); kernel_rfl; kernel_rfl; intro _ _)
                  | ((with_reducible refine Rg.plan_keep ?_ ?_); kernel_rfl; intro K hK)
                  | (refine hK _ _ (Rg.Keep.refl _) ?_; clear hK)
                  | (refine hK _ _ (Rg.Keep.of_below (by assumption)) ?_; clear hK)
                  | ((with_reducible refine Rg.plan_skip ?_ ?_); kernel_rfl)
                  | (with_reducible refine Rg.plan_done ?_)
                  | (with_reducible refine Rg.calm_normal ?_))
                refine hK _ _ (Rg.Keep.refl _) ?_
                clear hK
                go_wp2_with (first
                  | ((with_reducible refine Rg.plan_pure ?_ ?_ ?_); kernel_rfl; kernel_rfl; intro _ _)
                  | ((with_reducible refine Rg.plan_take ?_ ?_ ?_); kernel_rfl; kernel_rfl; intro _ _)
                  | ((with_reducible refine Rg.plan_keep ?_ ?_); kernel_rfl; intro K hK)
                  | (refine hK _ _ (Rg.Keep.refl _) ?_; clear hK)
                  | (refine hK _ _ (Rg.Keep.of_below (by assumption)) ?_; clear hK)
                  | ((with_reducible refine Rg.plan_skip ?_ ?_); kernel_rfl)
                  | (with_reducible refine Rg.plan_done ?_)
                  | (with_reducible refine Rg.calm_normal ?_))
                have hok : okN [y0, y1, y2, y3] := fun i hi => by
                  have b0 := B0.out
                  have b1 := B1.out
                  have b2 := B2.out
                  have b3 := B3.out
                  have : i = 0 ∨ i = 1 ∨ i = 2 ∨ i = 3 := by simp at hi; omega
                  rcases this with rfl | rfl | rfl | rfl <;> simp [ni] <;> omega
                refine (sums_any [y0, y1, y2, y3] (by simp) hok _ _ (Si.row R5.out)).mono ?_
                rintro e w6 ⟨z, rfl, hz, hb6⟩
                have HZ := Lib.hid (show FlZ z (q4 [y0, y1, y2, y3] 4) from hz)
                have HB6 := Lib.hid (HB5.out.trans (hb6.mono HB5.out.size))
                have HB6' := Lib.hid hb6
                have HOK := Lib.hid hok
                clear hb6 hz k0 k1 k2 k3 hok
                dsimp only
                refine hK _ _ (Rg.Keep.of_below HB6'.out) ?_
                clear hK
                go_wp2_with (first
                  | ((with_reducible refine Rg.plan_pure ?_ ?_ ?_); kernel_rfl; kernel_rfl; intro _ _)
                  | ((with_reducible refine Rg.plan_take ?_ ?_ ?_); kernel_rfl; kernel_rfl; intro _ _)
                  | ((with_reducible refine Rg.plan_keep ?_ ?_); kernel_rfl; intro K hK)
                  | (refine hK _ _ (Rg.Keep.refl _) ?_; clear hK)
                  | (refine hK _ _ (Rg.Keep.of_below (by assumption)) ?_; clear hK)
                  | ((with_reducible refine Rg.plan_skip ?_ ?_); kernel_rfl)
                  | (with_reducible refine Rg.plan_done ?_)
                  | (with_reducible refine Rg.calm_normal ?_))
                refine (back_any z _ HZ.out (four_le B0.out B1.out B2.out B3.out) _).mono ?_
                rw [up_four]
                rintro e w7 ⟨rfl, hb7⟩
                have HB7 := Lib.hid (HB6.out.trans (hb7.mono HB6.out.size))
                have HB7' := Lib.hid hb7
                have heq : ∀ W : World, (Op.equalIn 10000 39 (.agg (ivs [y0, y1, y2, y3])) (.agg #[.int .i64 y0, .int .i64 y1, .int .i64 y2, .int .i64 y3])).run Try.prog W = .ok true W := fun W => by
                  have := eqI [y0, y1, y2, y3] [y0, y1, y2, y3] rfl rfl W
                  rw [beq_self_eq_true] at this
                  exact this
                clear hb7
                dsimp only
                refine hK _ _ (Rg.Keep.of_below HB7'.out) ?_
                clear hK
                go_wp2_with (first
                  | ((with_reducible refine Rg.plan_pure ?_ ?_ ?_); kernel_rfl; kernel_rfl; intro _ _)
                  | ((with_reducible refine Rg.plan_take ?_ ?_ ?_); kernel_rfl; kernel_rfl; intro _ _)
                  | ((with_reducible refine Rg.plan_keep ?_ ?_); kernel_rfl; intro K hK)
                  | (refine hK _ _ (Rg.Keep.refl _) ?_; clear hK)
                  | (refine hK _ _ (Rg.Keep.of_below (by assumption)) ?_; clear hK)
                  | ((with_reducible refine Rg.plan_skip ?_ ?_); kernel_rfl)
                  | (with_reducible refine Rg.plan_done ?_)
                  | (with_reducible refine Rg.calm_normal ?_))
                refine hK _ _ (Rg.Keep.refl _) ?_
                clear hK
                go_wp2_with (first
                  | ((with_reducible refine Rg.plan_pure ?_ ?_ ?_); kernel_rfl; kernel_rfl; intro _ _)
                  | ((with_reducible refine Rg.plan_take ?_ ?_ ?_); kernel_rfl; kernel_rfl; intro _ _)
                  | ((with_reducible refine Rg.plan_keep ?_ ?_); kernel_rfl; intro K hK)
                  | (refine hK _ _ (Rg.Keep.refl _) ?_; clear hK)
                  | (refine hK _ _ (Rg.Keep.of_below (by assumption)) ?_; clear hK)
                  | ((with_reducible refine Rg.plan_skip ?_ ?_); kernel_rfl)
                  | (with_reducible refine Rg.plan_done ?_)
                  | (with_reducible refine Rg.calm_normal ?_))
                refine (awake_any _).mono ?_
                rintro e w8 ⟨rfl, hb8⟩
                have HB8 := Lib.hid (HB7.out.trans (hb8.mono HB7.out.size))
                have HB8' := Lib.hid hb8
                clear hb8
                dsimp only
                refine hK _ _ (Rg.Keep.of_below HB8'.out) ?_
                clear hK
                go_wp2_with (first
                  | ((with_reducible refine Rg.plan_pure ?_ ?_ ?_); kernel_rfl; kernel_rfl; intro _ _)
                  | ((with_reducible refine Rg.plan_take ?_ ?_ ?_); kernel_rfl; kernel_rfl; intro _ _)
                  | ((with_reducible refine Rg.plan_keep ?_ ?_); kernel_rfl; intro K hK)
                  | (refine hK _ _ (Rg.Keep.refl _) ?_; clear hK)
                  | (refine hK _ _ (Rg.Keep.of_below (by assumption)) ?_; clear hK)
                  | ((with_reducible refine Rg.plan_skip ?_ ?_); kernel_rfl)
                  | (with_reducible refine Rg.plan_done ?_)
                  | (with_reducible refine Rg.calm_normal ?_))
                go_ret
                exact ⟨rfl, HB8.out⟩
              · have e2' : (y1 == y2) = false := by simpa using e2
                have hfl : flatB (fN [y0, y1, y2, y3]) = false := by rw [flat_same y0 y1 y2 y3 B0.out B1.out B2.out B3.out, Bool.eq_iff_iff]; simp [e2]
                have HFL := Lib.hid hfl
                clear hfl
                go_wp2_with fail
                refine Rg.wp_region_plan (Rg.row [(0, 3), (1, 3), (2, 0), (3, 3), (4, 3), (5, 0), (6, 3), (7, 3), (8, 3), (9, 3), (10, 0), (11, 3), (12, 3), (13, 0), (14, 3), (15, 3), (16, 3), (17, 3), (18, 3), (19, 0), (20, 3), (21, 3), (22, 0), (23, 3), (24, 3), (25, 3)] []) [] (by kernel_rfl) (by kernel_rfl) ?_
                simp only [Rg.row, Rg.PT.map, List.map_nil, List.getD_cons_zero, List.getD_cons_succ]
                go_wp2_with (first
                  | ((with_reducible refine plan_skipG 16 rfl ?_ ?_); kernel_rfl)
                  | ((with_reducible refine Rg.plan_pure ?_ ?_ ?_); kernel_rfl; kernel_rfl; intro _ _)
                  | ((with_reducible refine Rg.plan_take ?_ ?_ ?_); kernel_rfl; kernel_rfl; intro _ _)
                  | ((with_reducible refine Rg.plan_keep ?_ ?_); kernel_rfl; intro K hK)
                  | (refine hK _ _ (Rg.Keep.refl _) ?_; clear hK)
                  | (refine hK _ _ (Rg.Keep.of_below (by assumption)) ?_; clear hK)
                  | ((with_reducible refine Rg.plan_skip ?_ ?_); kernel_rfl)
                  | (with_reducible refine Rg.plan_done ?_)
                  | (with_reducible refine Rg.calm_normal ?_))
                clear k0 k1 k2 k3
                clear e1 e2 e2'
                refine Rg.wp_region_plan (Rg.row [(0, 3), (2, 3), (1, 1), (3, 3), (4, 3), (5, 3), (6, 3), (7, 3), (8, 3), (9, 3), (10, 3), (11, 0), (12, 3), (13, 3), (14, 3), (15, 1), (16, 3), (17, 3), (18, 3), (19, 3), (22, 3), (23, 3), (24, 0), (25, 3), (26, 3), (27, 0), (28, 3), (29, 3), (30, 0), (31, 3), (32, 3), (33, 0), (34, 3), (20, 1), (21, 1), (35, 1), (36, 3), (37, 3), (38, 1), (39, 3), (40, 3)] []) [] (by kernel_rfl) (by kernel_rfl) ?_
                simp only [Rg.row, Rg.PT.map, List.map_nil, List.getD_cons_zero, List.getD_cons_succ]
                go_wp2_with (first
                  | ((with_reducible refine Rg.plan_pure ?_ ?_ ?_); kernel_rfl; kernel_rfl; intro _ _)
                  | ((with_reducible refine Rg.plan_take ?_ ?_ ?_); kernel_rfl; kernel_rfl; intro _ _)
                  | ((with_reducible refine Rg.plan_keep ?_ ?_); kernel_rfl; intro K hK)
                  | (refine hK _ _ (Rg.Keep.refl _) ?_; clear hK)
                  | (refine hK _ _ (Rg.Keep.of_below (by assumption)) ?_; clear hK)
                  | ((with_reducible refine Rg.plan_skip ?_ ?_); kernel_rfl)
                  | (with_reducible refine Rg.plan_done ?_)
                  | (with_reducible refine Rg.calm_normal ?_))
                have hrow : row? wr.drew.drew (w.heap.size + 1) = some (ivs [y0, y1, y2, y3]) := R4.out
                refine (flat_any [y0, y1, y2, y3] (by simp) _ _ (Si.row hrow)).mono ?_
                rw [HFL.out]
                rintro e w5 ⟨rfl, hb5⟩
                have R5 := Lib.hid (show row? w5 (w.heap.size + 1) = some (ivs [y0, y1, y2, y3]) by rw [row?_below hb5 (row?_lt hrow)]; exact hrow)
                have HB5 := Lib.hid (HB4.out.drew.drew.trans (hb5.mono (by have := HB4.out.size; simpa using this)))
                have k0 : w5.cell? ⟨w.heap.size + 1, 0, none⟩ = some (.int .i64 y0) := row?_cell R5.out 0
                have k1 : w5.cell? ⟨w.heap.size + 1, 1, none⟩ = some (.int .i64 y1) := row?_cell R5.out 1
                have k2 : w5.cell? ⟨w.heap.size + 1, 2, none⟩ = some (.int .i64 y2) := row?_cell R5.out 2
                have k3 : w5.cell? ⟨w.heap.size + 1, 3, none⟩ = some (.int .i64 y3) := row?_cell R5.out 3
                have HB5' := Lib.hid hb5
                clear hb5 hrow
                dsimp only
                refine hK _ _ (Rg.Keep.of_below HB5'.out) ?_
                clear hK
                go_wp2_with (first
                  | ((with_reducible refine Rg.plan_pure ?_ ?_ ?_); kernel_rfl; kernel_rfl; intro _ _)
                  | ((with_reducible refine Rg.plan_take ?_ ?_ ?_); kernel_rfl; kernel_rfl; intro _ _)
                  | ((with_reducible refine Rg.plan_keep ?_ ?_); kernel_rfl; intro K hK)
                  | (refine hK _ _ (Rg.Keep.refl _) ?_; clear hK)
                  | (refine hK _ _ (Rg.Keep.of_below (by assumption)) ?_; clear hK)
                  | ((with_reducible refine Rg.plan_skip ?_ ?_); kernel_rfl)
                  | (with_reducible refine Rg.plan_done ?_)
                  | (with_reducible refine Rg.calm_normal ?_))
                refine hK _ _ (Rg.Keep.refl _) ?_
                clear hK
                go_wp2_with (first
                  | ((with_reducible refine Rg.plan_pure ?_ ?_ ?_); kernel_rfl; kernel_rfl; intro _ _)
                  | ((with_reducible refine Rg.plan_take ?_ ?_ ?_); kernel_rfl; kernel_rfl; intro _ _)
                  | ((with_reducible refine Rg.plan_keep ?_ ?_); kernel_rfl; intro K hK)
                  | (refine hK _ _ (Rg.Keep.refl _) ?_; clear hK)
                  | (refine hK _ _ (Rg.Keep.of_below (by assumption)) ?_; clear hK)
                  | ((with_reducible refine Rg.plan_skip ?_ ?_); kernel_rfl)
                  | (with_reducible refine Rg.plan_done ?_)
                  | (with_reducible refine Rg.calm_normal ?_))
                have hok : okN [y0, y1, y2, y3] := fun i hi => by
                  have b0 := B0.out
                  have b1 := B1.out
                  have b2 := B2.out
                  have b3 := B3.out
                  have : i = 0 ∨ i = 1 ∨ i = 2 ∨ i = 3 := by simp at hi; omega
                  rcases this with rfl | rfl | rfl | rfl <;> simp [ni] <;> omega
                refine (sums_any [y0, y1, y2, y3] (by simp) hok _ _ (Si.row R5.out)).mono ?_
                rintro e w6 ⟨z, rfl, hz, hb6⟩
                have HZ := Lib.hid (show FlZ z (q4 [y0, y1, y2, y3] 4) from hz)
                have HB6 := Lib.hid (HB5.out.trans (hb6.mono HB5.out.size))
                have HB6' := Lib.hid hb6
                have HOK := Lib.hid hok
                clear hb6 hz k0 k1 k2 k3 hok
                dsimp only
                refine hK _ _ (Rg.Keep.of_below HB6'.out) ?_
                clear hK
                go_wp2_with (first
                  | ((with_reducible refine Rg.plan_pure ?_ ?_ ?_); kernel_rfl; kernel_rfl; intro _ _)
                  | ((with_reducible refine Rg.plan_take ?_ ?_ ?_); kernel_rfl; kernel_rfl; intro _ _)
                  | ((with_reducible refine Rg.plan_keep ?_ ?_); kernel_rfl; intro K hK)
                  | (refine hK _ _ (Rg.Keep.refl _) ?_; clear hK)
                  | (refine hK _ _ (Rg.Keep.of_below (by assumption)) ?_; clear hK)
                  | ((with_reducible refine Rg.plan_skip ?_ ?_); kernel_rfl)
                  | (with_reducible refine Rg.plan_done ?_)
                  | (with_reducible refine Rg.calm_normal ?_))
                refine (back_any z _ HZ.out (four_le B0.out B1.out B2.out B3.out) _).mono ?_
                rw [up_four]
                rintro e w7 ⟨rfl, hb7⟩
                have HB7 := Lib.hid (HB6.out.trans (hb7.mono HB6.out.size))
                have HB7' := Lib.hid hb7
                have heq : ∀ W : World, (Op.equalIn 10000 39 (.agg (ivs [y0, y1, y2, y3])) (.agg #[.int .i64 y0, .int .i64 y1, .int .i64 y2, .int .i64 y3])).run Try.prog W = .ok true W := fun W => by
                  have := eqI [y0, y1, y2, y3] [y0, y1, y2, y3] rfl rfl W
                  rw [beq_self_eq_true] at this
                  exact this
                clear hb7
                dsimp only
                refine hK _ _ (Rg.Keep.of_below HB7'.out) ?_
                clear hK
                go_wp2_with (first
                  | ((with_reducible refine Rg.plan_pure ?_ ?_ ?_); kernel_rfl; kernel_rfl; intro _ _)
                  | ((with_reducible refine Rg.plan_take ?_ ?_ ?_); kernel_rfl; kernel_rfl; intro _ _)
                  | ((with_reducible refine Rg.plan_keep ?_ ?_); kernel_rfl; intro K hK)
                  | (refine hK _ _ (Rg.Keep.refl _) ?_; clear hK)
                  | (refine hK _ _ (Rg.Keep.of_below (by assumption)) ?_; clear hK)
                  | ((with_reducible refine Rg.plan_skip ?_ ?_); kernel_rfl)
                  | (with_reducible refine Rg.plan_done ?_)
                  | (with_reducible refine Rg.calm_normal ?_))
                refine hK _ _ (Rg.Keep.refl _) ?_
                clear hK
                go_wp2_with (first
                  | ((with_reducible refine Rg.plan_pure ?_ ?_ ?_); kernel_rfl; kernel_rfl; intro _ _)
                  | ((with_reducible refine Rg.plan_take ?_ ?_ ?_); kernel_rfl; kernel_rfl; intro _ _)
                  | ((with_reducible refine Rg.plan_keep ?_ ?_); kernel_rfl; intro K hK)
                  | (refine hK _ _ (Rg.Keep.refl _) ?_; clear hK)
                  | (refine hK _ _ (Rg.Keep.of_below (by assumption)) ?_; clear hK)
                  | ((with_reducible refine Rg.plan_skip ?_ ?_); kernel_rfl)
                  | (with_reducible refine Rg.plan_done ?_)
                  | (with_reducible refine Rg.calm_normal ?_))
                refine (awake_any _).mono ?_
                rintro e w8 ⟨rfl, hb8⟩
                have HB8 := Lib.hid (HB7.out.trans (hb8.mono HB7.out.size))
                have HB8' := Lib.hid hb8
                clear hb8
                dsimp only
                refine hK _ _ (Rg.Keep.of_below HB8'.out) ?_
                clear hK
                go_wp2_with (first
                  | ((with_reducible refine Rg.plan_pure ?_ ?_ ?_); kernel_rfl; kernel_rfl; intro _ _)
                  | ((with_reducible refine Rg.plan_take ?_ ?_ ?_); kernel_rfl; kernel_rfl; intro _ _)
                  | ((with_reducible refine Rg.plan_keep ?_ ?_); kernel_rfl; intro K hK)
                  | (refine hK _ _ (Rg.Keep.refl _) ?_; clear hK)
                  | (refine hK _ _ (Rg.Keep.of_below (by assumption)) ?_; clear hK)
                  | ((with_reducible refine Rg.plan_skip ?_ ?_); kernel_rfl)
                  | (with_reducible refine Rg.plan_done ?_)
                  | (with_reducible refine Rg.calm_normal ?_))
                go_ret
                exact ⟨rfl, HB8.out⟩
            · have e1' : (y0 == y1) = false := by simpa using e1
              have hfl : flatB (fN [y0, y1, y2, y3]) = false := by rw [flat_same y0 y1 y2 y3 B0.out B1.out B2.out B3.out, Bool.eq_iff_iff]; simp [e1]
              have HFL := Lib.hid hfl
              clear hfl
              go_wp2_with fail
              refine Rg.wp_region_plan (Rg.row [(0, 3), (1, 3), (2, 0), (3, 3), (4, 3), (5, 0), (6, 3), (7, 3), (8, 3), (9, 3), (10, 0), (11, 3), (12, 3), (13, 0), (14, 3), (15, 3), (16, 3), (17, 3), (18, 3), (19, 0), (20, 3), (21, 3), (22, 0), (23, 3), (24, 3), (25, 3)] []) [] (by kernel_rfl) (by kernel_rfl) ?_
              simp only [Rg.row, Rg.PT.map, List.map_nil, List.getD_cons_zero, List.getD_cons_succ]
              go_wp2_with (first
                | ((with_reducible refine plan_skipG 7 rfl ?_ ?_); kernel_rfl)
                | ((with_reducible refine plan_skipG 16 rfl ?_ ?_); kernel_rfl)
                | ((with_reducible refine Rg.plan_pure ?_ ?_ ?_); kernel_rfl; kernel_rfl; intro _ _)
                | ((with_reducible refine Rg.plan_take ?_ ?_ ?_); kernel_rfl; kernel_rfl; intro _ _)
                | ((with_reducible refine Rg.plan_keep ?_ ?_); kernel_rfl; intro K hK)
                | (refine hK _ _ (Rg.Keep.refl _) ?_; clear hK)
                | (refine hK _ _ (Rg.Keep.of_below (by assumption)) ?_; clear hK)
                | ((with_reducible refine Rg.plan_skip ?_ ?_); kernel_rfl)
                | (with_reducible refine Rg.plan_done ?_)
                | (with_reducible refine Rg.calm_normal ?_))
              clear k0 k1 k2 k3
              clear e1 e1'
              refine Rg.wp_region_plan (Rg.row [(0, 3), (2, 3), (1, 1), (3, 3), (4, 3), (5, 3), (6, 3), (7, 3), (8, 3), (9, 3), (10, 3), (11, 0), (12, 3), (13, 3), (14, 3), (15, 1), (16, 3), (17, 3), (18, 3), (19, 3), (22, 3), (23, 3), (24, 0), (25, 3), (26, 3), (27, 0), (28, 3), (29, 3), (30, 0), (31, 3), (32, 3), (33, 0), (34, 3), (20, 1), (21, 1), (35, 1), (36, 3), (37, 3), (38, 1), (39, 3), (40, 3)] []) [] (by kernel_rfl) (by kernel_rfl) ?_
              simp only [Rg.row, Rg.PT.map, List.map_nil, List.getD_cons_zero, List.getD_cons_succ]
              go_wp2_with (first
                | ((with_reducible refine Rg.plan_pure ?_ ?_ ?_); kernel_rfl; kernel_rfl; intro _ _)
                | ((with_reducible refine Rg.plan_take ?_ ?_ ?_); kernel_rfl; kernel_rfl; intro _ _)
                | ((with_reducible refine Rg.plan_keep ?_ ?_); kernel_rfl; intro K hK)
                | (refine hK _ _ (Rg.Keep.refl _) ?_; clear hK)
                | (refine hK _ _ (Rg.Keep.of_below (by assumption)) ?_; clear hK)
                | ((with_reducible refine Rg.plan_skip ?_ ?_); kernel_rfl)
                | (with_reducible refine Rg.plan_done ?_)
                | (with_reducible refine Rg.calm_normal ?_))
              have hrow : row? wr.drew.drew (w.heap.size + 1) = some (ivs [y0, y1, y2, y3]) := R4.out
              refine (flat_any [y0, y1, y2, y3] (by simp) _ _ (Si.row hrow)).mono ?_
              rw [HFL.out]
              rintro e w5 ⟨rfl, hb5⟩
              have R5 := Lib.hid (show row? w5 (w.heap.size + 1) = some (ivs [y0, y1, y2, y3]) by rw [row?_below hb5 (row?_lt hrow)]; exact hrow)
              have HB5 := Lib.hid (HB4.out.drew.drew.trans (hb5.mono (by have := HB4.out.size; simpa using this)))
              have k0 : w5.cell? ⟨w.heap.size + 1, 0, none⟩ = some (.int .i64 y0) := row?_cell R5.out 0
              have k1 : w5.cell? ⟨w.heap.size + 1, 1, none⟩ = some (.int .i64 y1) := row?_cell R5.out 1
              have k2 : w5.cell? ⟨w.heap.size + 1, 2, none⟩ = some (.int .i64 y2) := row?_cell R5.out 2
              have k3 : w5.cell? ⟨w.heap.size + 1, 3, none⟩ = some (.int .i64 y3) := row?_cell R5.out 3
              have HB5' := Lib.hid hb5
              clear hb5 hrow
              dsimp only
              refine hK _ _ (Rg.Keep.of_below HB5'.out) ?_
              clear hK
              go_wp2_with (first
                | ((with_reducible refine Rg.plan_pure ?_ ?_ ?_); kernel_rfl; kernel_rfl; intro _ _)
                | ((with_reducible refine Rg.plan_take ?_ ?_ ?_); kernel_rfl; kernel_rfl; intro _ _)
                | ((with_reducible refine Rg.plan_keep ?_ ?_); kernel_rfl; intro K hK)
                | (refine hK _ _ (Rg.Keep.refl _) ?_; clear hK)
                | (refine hK _ _ (Rg.Keep.of_below (by assumption)) ?_; clear hK)
                | ((with_reducible refine Rg.plan_skip ?_ ?_); kernel_rfl)
                | (with_reducible refine Rg.plan_done ?_)
                | (with_reducible refine Rg.calm_normal ?_))
              refine hK _ _ (Rg.Keep.refl _) ?_
              clear hK
              go_wp2_with (first
                | ((with_reducible refine Rg.plan_pure ?_ ?_ ?_); kernel_rfl; kernel_rfl; intro _ _)
                | ((with_reducible refine Rg.plan_take ?_ ?_ ?_); kernel_rfl; kernel_rfl; intro _ _)
                | ((with_reducible refine Rg.plan_keep ?_ ?_); kernel_rfl; intro K hK)
                | (refine hK _ _ (Rg.Keep.refl _) ?_; clear hK)
                | (refine hK _ _ (Rg.Keep.of_below (by assumption)) ?_; clear hK)
                | ((with_reducible refine Rg.plan_skip ?_ ?_); kernel_rfl)
                | (with_reducible refine Rg.plan_done ?_)
                | (with_reducible refine Rg.calm_normal ?_))
              have hok : okN [y0, y1, y2, y3] := fun i hi => by
                have b0 := B0.out
                have b1 := B1.out
                have b2 := B2.out
                have b3 := B3.out
                have : i = 0 ∨ i = 1 ∨ i = 2 ∨ i = 3 := by simp at hi; omega
                rcases this with rfl | rfl | rfl | rfl <;> simp [ni] <;> omega
              refine (sums_any [y0, y1, y2, y3] (by simp) hok _ _ (Si.row R5.out)).mono ?_
              rintro e w6 ⟨z, rfl, hz, hb6⟩
              have HZ := Lib.hid (show FlZ z (q4 [y0, y1, y2, y3] 4) from hz)
              have HB6 := Lib.hid (HB5.out.trans (hb6.mono HB5.out.size))
              have HB6' := Lib.hid hb6
              have HOK := Lib.hid hok
              clear hb6 hz k0 k1 k2 k3 hok
              dsimp only
              refine hK _ _ (Rg.Keep.of_below HB6'.out) ?_
              clear hK
              go_wp2_with (first
                | ((with_reducible refine Rg.plan_pure ?_ ?_ ?_); kernel_rfl; kernel_rfl; intro _ _)
                | ((with_reducible refine Rg.plan_take ?_ ?_ ?_); kernel_rfl; kernel_rfl; intro _ _)
                | ((with_reducible refine Rg.plan_keep ?_ ?_); kernel_rfl; intro K hK)
                | (refine hK _ _ (Rg.Keep.refl _) ?_; clear hK)
                | (refine hK _ _ (Rg.Keep.of_below (by assumption)) ?_; clear hK)
                | ((with_reducible refine Rg.plan_skip ?_ ?_); kernel_rfl)
                | (with_reducible refine Rg.plan_done ?_)
                | (with_reducible refine Rg.calm_normal ?_))
              refine (back_any z _ HZ.out (four_le B0.out B1.out B2.out B3.out) _).mono ?_
              rw [up_four]
              rintro e w7 ⟨rfl, hb7⟩
              have HB7 := Lib.hid (HB6.out.trans (hb7.mono HB6.out.size))
              have HB7' := Lib.hid hb7
              have heq : ∀ W : World, (Op.equalIn 10000 39 (.agg (ivs [y0, y1, y2, y3])) (.agg #[.int .i64 y0, .int .i64 y1, .int .i64 y2, .int .i64 y3])).run Try.prog W = .ok true W := fun W => by
                have := eqI [y0, y1, y2, y3] [y0, y1, y2, y3] rfl rfl W
                rw [beq_self_eq_true] at this
                exact this
              clear hb7
              dsimp only
              refine hK _ _ (Rg.Keep.of_below HB7'.out) ?_
              clear hK
              go_wp2_with (first
                | ((with_reducible refine Rg.plan_pure ?_ ?_ ?_); kernel_rfl; kernel_rfl; intro _ _)
                | ((with_reducible refine Rg.plan_take ?_ ?_ ?_); kernel_rfl; kernel_rfl; intro _ _)
                | ((with_reducible refine Rg.plan_keep ?_ ?_); kernel_rfl; intro K hK)
                | (refine hK _ _ (Rg.Keep.refl _) ?_; clear hK)
                | (refine hK _ _ (Rg.Keep.of_below (by assumption)) ?_; clear hK)
                | ((with_reducible refine Rg.plan_skip ?_ ?_); kernel_rfl)
                | (with_reducible refine Rg.plan_done ?_)
                | (with_reducible refine Rg.calm_normal ?_))
              refine hK _ _ (Rg.Keep.refl _) ?_
              clear hK
              go_wp2_with (first
                | ((with_reducible refine Rg.plan_pure ?_ ?_ ?_); kernel_rfl; kernel_rfl; intro _ _)
                | ((with_reducible refine Rg.plan_take ?_ ?_ ?_); kernel_rfl; kernel_rfl; intro _ _)
                | ((with_reducible refine Rg.plan_keep ?_ ?_); kernel_rfl; intro K hK)
                | (refine hK _ _ (Rg.Keep.refl _) ?_; clear hK)
                | (refine hK _ _ (Rg.Keep.of_below (by assumption)) ?_; clear hK)
                | ((with_reducible refine Rg.plan_skip ?_ ?_); kernel_rfl)
                | (with_reducible refine Rg.plan_done ?_)
                | (with_reducible refine Rg.calm_normal ?_))
              refine (awake_any _).mono ?_
              rintro e w8 ⟨rfl, hb8⟩
              have HB8 := Lib.hid (HB7.out.trans (hb8.mono HB7.out.size))
              have HB8' := Lib.hid hb8
              clear hb8
              dsimp only
              refine hK _ _ (Rg.Keep.of_below HB8'.out) ?_
              clear hK
              go_wp2_with (first
                | ((with_reducible refine Rg.plan_pure ?_ ?_ ?_); kernel_rfl; kernel_rfl; intro _ _)
                | ((with_reducible refine Rg.plan_take ?_ ?_ ?_); kernel_rfl; kernel_rfl; intro _ _)
                | ((with_reducible refine Rg.plan_keep ?_ ?_); kernel_rfl; intro K hK)
                | (refine hK _ _ (Rg.Keep.refl _) ?_; clear hK)
                | (refine hK _ _ (Rg.Keep.of_below (by assumption)) ?_; clear hK)
                | ((with_reducible refine Rg.plan_skip ?_ ?_); kernel_rfl)
                | (with_reducible refine Rg.plan_done ?_)
                | (with_reducible refine Rg.calm_normal ?_))
              go_ret
              exact ⟨rfl, HB8.out⟩
end Go.Proofs.Ytenoldpfclmedaa
