/- The walk of package tone's Back. -/
import Derived.Test.YtenoldpfclmedaaTonW3
namespace Tone
open Go Go.Rw
/-- the sums turned back, as far as k -/
def pr (f : Nat → Int) (t : Nat) : Nat → Int
  | 0 => 0
  | k + 1 => pr f t k + (re f k * cs (-(k : Int) * t) - im f k * sn (-(k : Int) * t))
def pq (f : Nat → Int) (t : Nat) : Nat → Int
  | 0 => 0
  | k + 1 => pq f t k + (re f k * sn (-(k : Int) * t) + im f k * cs (-(k : Int) * t))
theorem pr4 (f : Nat → Int) (t : Nat) (h : t < 4) : pr f t 4 = 4 * f t := by
  rcases (by omega : t = 0 ∨ t = 1 ∨ t = 2 ∨ t = 3) with rfl | rfl | rfl | rfl <;> simp [pr, re0, re1, re2, re3, im0, im1, im2, im3, cs, sn] <;> omega
theorem turned_le {f : Nat → Int} (h : small f) {k : Nat} (hk : k < 4) (u : Int) : (re f k * cs u).natAbs ≤ 4398046511104 ∧ (im f k * sn u).natAbs ≤ 4398046511104 ∧ (re f k * sn u).natAbs ≤ 4398046511104 ∧ (im f k * cs u).natAbs ≤ 4398046511104 := by
  have a := re_lt h hk
  have b := im_lt h hk
  have h1 := mul_le1 (re f k) _ (cs_le u)
  have h2 := mul_le1 (im f k) _ (sn_le u)
  have h3 := mul_le1 (re f k) _ (sn_le u)
  have h4 := mul_le1 (im f k) _ (cs_le u)
  omega
theorem pr_le {f : Nat → Int} (h : small f) (t : Nat) : ∀ k, k ≤ 4 → (pr f t k).natAbs ≤ k * 8796093022208 ∧ (pq f t k).natAbs ≤ k * 8796093022208
  | 0, _ => by simp [pr, pq]
  | k + 1, hk => by
    have ih := pr_le h t k (by omega)
    have := turned_le h (k := k) (by omega) (-(k : Int) * t)
    simp only [pr, pq]
    omega
/-- one step back -/
theorem back_Fl {f : Nat → Int} (hf : small f) {t k : Nat} (hk : k < 4) {p q a b c d : Nat} (hp : Fl p (pr f t k)) (hq : Fl q (pq f t k)) (ha : Fl a (re f k)) (hb : Fl b (im f k)) (hc : Fl c (cs (-(k : Int) * t))) (hd : Fl d (sn (-(k : Int) * t))) :
    ∃ u v p' q', cMulBits a b c d = some (u, v) ∧ cSumBits .add .f64 p q u v = some (p', q') ∧ Fl p' (pr f t (k + 1)) ∧ Fl q' (pq f t (k + 1)) := by
  have m := turned_le hf hk (-(k : Int) * t)
  have r := pr_le hf t k (by omega)
  obtain ⟨u, v, e1, g1, g2⟩ := cmul_Fl ha hb hc hd (by omega) (by omega) (by omega) (by omega) (by omega) (by omega)
  obtain ⟨p', q', e2, g3, g4⟩ := csum_Fl hp hq g1 g2 (by omega) (by omega)
  exact ⟨u, v, p', q', e1, e2, g3, g4⟩
theorem four_Fl : Fl 4616189618054758400 4 := by
  have h : W false (4 : Int).natAbs = 4616189618054758400 := by decide
  have := Fl.mk (x := 4) false (by decide) (fun _ => by decide)
  rwa [h] at this
/-- the numbers found so far -/
def upF (f : Nat → Int) (t : Nat) : List Int := (List.range 4).map fun j => if j < t then f j else 0
theorem upF_len (f : Nat → Int) (t : Nat) : (upF f t).length = 4 := by simp [upF]
theorem upF_set (f : Nat → Int) (t : Nat) (h : t < 4) : (upF f t).set t (f t) = upF f (t + 1) := by
  rcases (by omega : t = 0 ∨ t = 1 ∨ t = 2 ∨ t = 3) with rfl | rfl | rfl | rfl <;> simp [upF, List.range_succ]
theorem upF_ni (f : Nat → Int) (j : Nat) (h : j < 4) : ni (upF f 4) j = f j := by
  rcases (by omega : j = 0 ∨ j = 1 ∨ j = 2 ∨ j = 3) with rfl | rfl | rfl | rfl <;> simp [upF, ni, List.range_succ]
theorem q4_upF (f : Nat → Int) (j : Nat) (h : j < 4) : q4 (upF f 4) 4 j = f j := by
  have h0 := upF_ni f 0 (by omega)
  have h1 := upF_ni f 1 (by omega)
  have h2 := upF_ni f 2 (by omega)
  have h3 := upF_ni f 3 (by omega)
  rcases (by omega : j = 0 ∨ j = 1 ∨ j = 2 ∨ j = 3) with rfl | rfl | rfl | rfl <;> simp [q4, bump, h0, h1, h2, h3]
theorem re_congr {f g : Nat → Int} (h : ∀ j, j < 4 → f j = g j) (k : Nat) : re f k = re g k := by
  unfold re; rw [h 0 (by omega), h 1 (by omega), h 2 (by omega), h 3 (by omega)]
theorem im_congr {f g : Nat → Int} (h : ∀ j, j < 4 → f j = g j) (k : Nat) : im f k = im g k := by
  unfold im; rw [h 0 (by omega), h 1 (by omega), h 2 (by omega), h 3 (by omega)]
end Tone
namespace Go.Proofs.Ytenoldpfclmedaa
open Go.RowKit Go.Rw Tone
theorem AgI : Agg Try.prog 39 4 := ⟨⟨_, Try.underlying39, rfl⟩, by kernel_rfl⟩
theorem ldI (x : Value) : Instr.loadAt 39 x = loadAgg 39 x := rfl
theorem stI (x y : Value) : Instr.storeAt 39 x y = storeAgg 39 x y := rfl
theorem alI : Instr.alloc 39 true (.tuple #[]) = allocAgg 39 := rfl
theorem rldI (w : World) (b : Nat) (h : (row? w b).map (·.size) = some 4) : (loadAgg 39 (.pointer (some ⟨b, 0, none⟩))).run Try.prog w = .ok (.agg ((row? w b).getD #[])) w := load_rule AgI w b h
theorem rstI (w : World) (b : Nat) (c' : Array Value) (h : (row? w b).map (·.size) = some 4) (hn : c'.size = 4) (h1 : allOne c' = true) : (storeAgg 39 (.pointer (some ⟨b, 0, none⟩)) (.agg c')).run Try.prog w = .ok () (w.setRow b c') := store_rule AgI w b c' h hn h1
theorem ralI (w : World) : (allocAgg 39).run Try.prog w = .ok (.pointer (some ⟨w.heap.size, 0, none⟩)) (w.alloc (.cells (ivs [0, 0, 0, 0]) 39)) := alloc_rule (n := 4) (by kernel_rfl) w
theorem retI {fn : Func} {p : Tmp} {R : Ending → World → Prop} {a : Act} {w : World} (b : Nat) (c : Array Value) (hr : fn.results = #[.cell p 39]) (hp : a.tmps.getD p undef = .pointer (some ⟨b, 0, none⟩)) (hd : a.defers = [])
    (h : row? w b = some c) (hn : c.size = 4) (hR : R (.returned (.agg c)) w) : bodyPost Try.prog fn R .ret a w :=
  bodyPost_ret (results_row AgI hr _ _ b c hp h hn) hd hR
attribute [local go_sem ↓] ldZ stZ alZ ldI stI alI
attribute [local go_sem] rldZ rstZ ralZ rldI rstI ralI setRow_alloc_at setRow_alloc_past setRow_drew run_store_cx
theorem upF_size (f : Nat → Int) (t : Nat) : (ivs (upF f t)).size = 4 := by rw [ivs_size, upF_len]
attribute [local go_sem] upF_len
theorem eq_Fl {a b : Nat} {x : Int} (ha : Fl a x) (hb : Fl b x) : Op.floatEq .f64 a b = true := by
  unfold Op.floatEq
  have : FloatKind.f64.format.order a b = some (compare x x) := order_Fl ha hb
  rw [this, cmp_eq]; rfl
theorem one24 : (Try.prog.info? 24).map (·.size) = some 1 := by kernel_rfl
theorem part_cx (xs : Array Value) (o : Nat) (v : Value) (h : xs[o]? = some v) (w : World) : (part 24 xs o).run Try.prog w = .ok v w := by
  have ha : (isAgg 24).run Try.prog w = .ok false w := by unfold isAgg; rw [Sem.run_bind, run_underlying Try.underlying24 w]; rfl
  unfold part
  rw [Sem.run_bind, ha]
  simp only [Result.andThen_ok, Bool.false_eq_true, if_false, h, Sem.run_pure]
theorem eqcx (d : Nat) (a b a' b' : Nat) (w : World) : (Op.equalIn (d + 1) 24 (.complex .f64 a b) (.complex .f64 a' b')).run Try.prog w = .ok (Op.floatEq .f64 a a' && Op.floatEq .f64 b b') w := by
  simp only [Op.equalIn, Sem.run_bind, run_underlying Try.underlying24, Result.andThen_ok]
  rfl
theorem eqZ {z z' : Nat → Nat × Nat} {f : Nat → Int} (h : FlZ z f) (h' : FlZ z' f) (w : World) : (Op.equalIn 10000 25 (.agg (zv z)) (.agg (zv z'))).run Try.prog w = .ok true w := by
  rw [run_equalIn_row 9999 _ _ (fun _ => true) Try.underlying25 one24 ?_ w]
  · rfl
  intro i hi w
  obtain ⟨a1, a2⟩ := h i hi
  obtain ⟨b1, b2⟩ := h' i hi
  exact ⟨_, _, part_cx _ _ _ (by rw [Nat.mul_one]; exact zv_get z i hi) w, part_cx _ _ _ (by rw [Nat.mul_one]; exact zv_get z' i hi) w, by
    rw [eqcx, eq_Fl a1 b1, eq_Fl a2 b2]; rfl⟩
theorem ix_any (z : Nat → Nat × Nat) (k : Nat) (h : k < 4) (w : World) : (Instr.index 25 (.agg (zv z)) (.int .i64 (k : Nat))).run Try.prog w = .ok (.complex .f64 (z k).1 (z k).2) w := by
  rcases (by omega : k = 0 ∨ k = 1 ∨ k = 2 ∨ k = 3) with rfl | rfl | rfl | rfl <;> kernel_rfl
set_option maxHeartbeats 2000000 in
theorem back_any (z : Nat → Nat × Nat) (f : Nat → Int) (hz : FlZ z f) (hf : ∀ j, (f j).natAbs ≤ 1048576) (w : World) :
    Calls Try.prog 20 #[.agg (zv z)] w fun e w' => e = .returned (.agg (ivs (upF f 4))) ∧ Below w.heap.size w w' := by
  have hsm : small f := fun j => by have := hf j; omega
  have HZ := Lib.hid hz
  have HF := Lib.hid hf
  have HS := Lib.hid hsm
  have HU0 : ivs [0, 0, 0, 0] = ivs (upF f 0) := by simp [upF, List.range_succ]
  clear hz hf hsm
  go_enter Try.func20, Try.ntmps20
  go_wp2_with fail
  go_loopw [9] (fun v wr => ∃ t : Nat, t ≤ 4 ∧ v = .int .i64 t ∧ row? wr w.heap.size = some (zv z) ∧ row? wr (w.heap.size + 1) = some (ivs (upF f 0)) ∧ row? wr (w.heap.size + 1 + 1) = some (ivs (upF f t)) ∧ Below w.heap.size w wr) (fun v _ => 4 - (intOf v).toNat)
  case atStart => exact ⟨0, by omega, rfl, by simp [go_sem], by rw [← HU0]; simp [go_sem], by rw [← HU0]; simp [go_sem], bl3 _ _ _ _⟩
  case round =>
    obtain ⟨t, ht, rfl, h0, h1, h2, hb⟩ := hrel
    by_cases hlt : t < 4
    · have H1 := Lib.hid h1
      have H2 := Lib.hid h2
      clear h1 h2
      go_wp2_with fail
      have H0 := Lib.hid h0
      clear h0
      rw [show decide ((t : Int) < 4) = true from decide_eq_true (by omega)]
      go_loopw [5, 13] (fun s v wi => ∃ (k p q : Nat), k ≤ 4 ∧ v = .int .i64 k ∧ s = .complex .f64 p q ∧ Fl p (pr f t k) ∧ Fl q (pq f t k) ∧ wi = wr) (fun _ v _ => 4 - (intOf v).toNat)
      case atStart => exact ⟨0, 0, 0, by omega, rfl, rfl, fl0, fl0, rfl⟩
      case round =>
        obtain ⟨k, p, q, hk, rfl, rfl, hp, hq, rfl⟩ := hrel
        have HP := Lib.hid hp
        have HQ := Lib.hid hq
        clear hp hq
        by_cases hlt2 : k < 4
        · have hix := ix_any z k hlt2
          obtain ⟨f1, f2⟩ := HZ.out k hlt2
          have F1 := Lib.hid f1
          have F2 := Lib.hid f2
          clear f1 f2
          generalize (z k).1 = a at *
          generalize (z k).2 = b at *
          have hw : wrap64 (-(k : Int) * (t : Int)) = -(k : Int) * (t : Int) := by
            refine IntWalk.wrap64_in _ ?_
            rcases (by omega : k = 0 ∨ k = 1 ∨ k = 2 ∨ k = 3) with rfl | rfl | rfl | rfl <;> omega
          have hw2 : wrap64 (-(k : Int)) = -(k : Int) := IntWalk.wrap64_in _ (by omega)
          go_wp2_with fail
          refine (turn_any _ _).mono ?_
          rintro e w' ⟨c, d, rfl, hc, hd, rfl⟩
          obtain ⟨u, v, p', q', e1, e2, g1, g2⟩ := back_Fl HS.out hlt2 HP.out HQ.out F1.out F2.out hc hd
          have G1 := Lib.hid g1
          have G2 := Lib.hid g2
          have hm := fun W => run_complex_mul (P := Try.prog) W 24 _ _ _ _ _ _ e1
          have hs := fun W => run_complex_sum (P := Try.prog) W .add (.inl rfl) 24 _ _ _ _ _ _ _ e2
          clear g1 g2 e1 e2 hc hd
          go_wp2_with fail
          go_roundw
          case rel => exact ⟨k + 1, p', q', by omega, by go_num, rfl, G1.out, G2.out, trivial⟩
          case measure => simp [intOf]; omega
        · obtain rfl : k = 4 := by omega
          have hp4 := HP.out
          rw [pr4 f t hlt] at hp4
          obtain ⟨c, ed, hc⟩ := div4_Fl hp4 four_Fl
          have hdv := fun W => run_float_arith (P := Try.prog) W .quo 43 .f64 p 4616189618054758400 c ed
          have hcv := conv_any hc
          have HC := Lib.hid hc
          have hle := HF.out t
          have ho := order_self hc
          have h2 := H2.out
          have c2 : wr.cell? ⟨w.heap.size + 1 + 1, t, none⟩ = some (.int .i64 (ni (upF f t) t)) := (row?_cell h2 t).trans (by rw [ivs_getElem?, upF_len, if_pos hlt])
          have f2 := row?_frozen h2
          clear ed hp4 hc h2
          go_wp2_with fail
          refine (abs_any HC.out _).mono ?_
          rintro e w' ⟨m, rfl, hm, rfl⟩
          have HM := Lib.hid hm
          clear hm
          rcases order_le HM.out big20 (by omega) with h1 | h1
          · go_wp2_with fail
            refine (trunc_any HC.out _).mono ?_
            rintro e w' ⟨rfl, rfl⟩
            go_wp2_with fail
            go_roundw
            case rel =>
              refine ⟨t + 1, by omega, by go_num, ?_, ?_, ?_, hb.setCell (by simp; omega) _⟩
              · rw [row?_setCell_ne _ _ _ _ (by simp <;> omega)]; exact H0.out
              · rw [row?_setCell_ne _ _ _ _ (by simp)]; exact H1.out
              · rw [row?_setCell_eq H2.out, ivs_set, upF_set f t hlt]
            case measure => simp [intOf]; omega
          · go_wp2_with fail
            refine (trunc_any HC.out _).mono ?_
            rintro e w' ⟨rfl, rfl⟩
            go_wp2_with fail
            go_roundw
            case rel =>
              refine ⟨t + 1, by omega, by go_num, ?_, ?_, ?_, hb.setCell (by simp; omega) _⟩
              · rw [row?_setCell_ne _ _ _ _ (by simp <;> omega)]; exact H0.out
              · rw [row?_setCell_ne _ _ _ _ (by simp)]; exact H1.out
              · rw [row?_setCell_eq H2.out, ivs_set, upF_set f t hlt]
            case measure => simp [intOf]; omega
    · obtain rfl : t = 4 := by omega
      go_wp2_with fail
      refine Rg.wp_region_plan (Rg.row [(0, 3), (2, 0), (1, 1), (3, 1)] []) [] (by kernel_rfl) (by kernel_rfl) ?_
      simp only [Rg.row, Rg.PT.map, List.map_nil, List.getD_cons_zero, List.getD_cons_succ]
      go_wp2_with (first
        | ((with_reducible refine Rg.plan_pure ?_ ?_ ?_); kernel_rfl; kernel_rfl; intro _ _)
        | ((with_reducible refine Rg.plan_take ?_ ?_ ?_); kernel_rfl; kernel_rfl; intro _ _)
        | ((with_reducible refine Rg.plan_keep ?_ ?_); kernel_rfl; intro K hK)
        | (refine hK _ _ (Rg.Keep.refl _) ?_; clear hK)
        | (refine hK _ _ (Rg.Keep.of_below (by assumption)) ?_; clear hK)
        | ((with_reducible refine Rg.plan_skip ?_ ?_); kernel_rfl)
        | (with_reducible refine Rg.plan_done ?_)
        | (with_reducible refine Rg.calm_normal ?_))
      have hlen := upF_len f 4
      have hsi : Si wr.drew (.slice (some ⟨w.heap.size + 1 + 1, 0, none⟩) 4 4) (upF f 4) := by
        have := Si.row (w := wr.drew) (g := w.heap.size + 1 + 1) (l := upF f 4) (by rw [row?_drew]; exact h2)
        rwa [hlen] at this
      have hok : okN (upF f 4) := fun i hi => by
        rw [hlen] at hi
        rw [upF_ni f i hi]
        have := HF.out i
        omega
      have hsums := sums_any (upF f 4) (by omega) hok _ wr.drew hsi
      refine hsums.mono ?_
      rintro e w2 ⟨z', rfl, hz', hb2⟩
      have hzz : FlZ z' f := fun k hk => by
        have := hz' k hk
        rw [hlen] at this
        rw [re_congr (fun j hj => (q4_upF f j hj).symm) k, im_congr (fun j hj => (q4_upF f j hj).symm) k]
        exact this
      have heq := fun W => eqZ hzz HZ.out W
      have r1 : row? w2 (w.heap.size + 1) = some (ivs (upF f 0)) := by rw [row?_below hb2 (row?_lt h1)]; exact h1
      have r2 : row? w2 (w.heap.size + 1 + 1) = some (ivs (upF f 4)) := by rw [row?_below hb2 (row?_lt h2)]; exact h2
      have hb3 : Below w.heap.size w w2 := hb.drew.trans (hb2.mono (by have := hb.size; simpa using this))
      have HB2 := Lib.hid hb2
      clear hsums hok hz' hzz h0 h1 h2 hsi HU0
      dsimp only
      refine hK _ _ (Rg.Keep.of_below HB2.out) ?_
      clear hK
      go_wp2_with (first
        | ((with_reducible refine Rg.plan_pure ?_ ?_ ?_); kernel_rfl; kernel_rfl; intro _ _)
        | ((with_reducible refine Rg.plan_take ?_ ?_ ?_); kernel_rfl; kernel_rfl; intro _ _)
        | ((with_reducible refine Rg.plan_keep ?_ ?_); kernel_rfl; intro K hK)
        | (refine hK _ _ (Rg.Keep.refl _) ?_; clear hK)
        | (refine hK _ _ (Rg.Keep.of_below (by assumption)) ?_; clear hK)
        | ((with_reducible refine Rg.plan_skip ?_ ?_); kernel_rfl)
        | (with_reducible refine Rg.plan_done ?_)
        | (with_reducible refine Rg.calm_normal ?_))
      refine hK _ _ (Rg.Keep.refl _) ?_
      clear hK
      go_wp2_with (first
        | ((with_reducible refine Rg.plan_pure ?_ ?_ ?_); kernel_rfl; kernel_rfl; intro _ _)
        | ((with_reducible refine Rg.plan_take ?_ ?_ ?_); kernel_rfl; kernel_rfl; intro _ _)
        | ((with_reducible refine Rg.plan_keep ?_ ?_); kernel_rfl; intro K hK)
        | (refine hK _ _ (Rg.Keep.refl _) ?_; clear hK)
        | (refine hK _ _ (Rg.Keep.of_below (by assumption)) ?_; clear hK)
        | ((with_reducible refine Rg.plan_skip ?_ ?_); kernel_rfl)
        | (with_reducible refine Rg.plan_done ?_)
        | (with_reducible refine Rg.calm_normal ?_))
      exact retI (w.heap.size + 1) (ivs (upF f 4)) rfl rfl rfl (row?_setRow_eq r1) (upF_size f 4) ⟨rfl, below_setRow hb3 (by omega) _⟩
end Go.Proofs.Ytenoldpfclmedaa
