/- The walk of awake, which every law of package tone calls. -/
import Derived.Test.YtenoldpfclmedaaTonR1
namespace Go.Proofs.Ytenoldpfclmedaa
open Go.RowKit Go.Rw Tone
attribute [local go_sem ↓] ldZ stZ alZ ldI stI alI
attribute [local go_sem] rldZ rstZ ralZ rldI rstI ralI setRow_alloc_at setRow_alloc_past setRow_drew run_store_cx upF_len
theorem all_ni (a b : List Int) (n : Nat) (ha : a.length = n) (hb : b.length = n) : ((List.range n).all fun i => ni a i == ni b i) = (a == b) := by
  rw [Bool.eq_iff_iff]
  simp only [List.all_eq_true, List.mem_range, beq_iff_eq]
  constructor
  · intro h
    exact extI (by omega) fun i hi => h i (by omega)
  · rintro rfl i _; rfl
theorem one3 : (Try.prog.info? 3).map (·.size) = some 1 := by kernel_rfl
theorem eqI (a b : List Int) (ha : a.length = 4) (hb : b.length = 4) (w : World) : (Op.equalIn 10000 39 (.agg (ivs a)) (.agg (ivs b))).run Try.prog w = .ok (a == b) w := by
  rw [run_equalIn_row 9999 _ _ (fun i => ni a i == ni b i) Try.underlying39 one3 ?_ w, all_ni a b 4 ha hb]
  intro i hi w
  have e1 : (ivs a)[i * 1]? = some (.int .i64 (ni a i)) := by rw [Nat.mul_one, ivs_getElem?, if_pos (by omega)]
  have e2 : (ivs b)[i * 1]? = some (.int .i64 (ni b i)) := by rw [Nat.mul_one, ivs_getElem?, if_pos (by omega)]
  exact ⟨_, _, part_cell Try.underlying3 _ _ _ e1 w, part_cell Try.underlying3 _ _ _ e2 w, by rw [run_equalIn_int w 9998 3 .i64 .i64 _ _ Try.underlying3]⟩
theorem order_eq {a b : Nat} {x : Int} (ha : Fl a x) (hb : Fl b x) : FloatKind.f64.format.order a b = some .eq := by
  have : FloatKind.f64.format.order a b = some (compare x x) := order_Fl ha hb
  rw [this, cmp_eq]
theorem fl10 : Fl 4621819117588971520 10 := by
  have h : W false (10 : Int).natAbs = 4621819117588971520 := by decide
  have := Fl.mk (x := 10) false (by decide) (fun _ => by decide)
  rwa [h] at this
theorem fl2 : Fl 4611686018427387904 2 := by
  have h : W false (2 : Int).natAbs = 4611686018427387904 := by decide
  have := Fl.mk (x := 2) false (by decide) (fun _ => by decide)
  rwa [h] at this
theorem flm2 : Fl 13835058055282163712 (-2) := by
  have h : W true (-2 : Int).natAbs = 13835058055282163712 := by decide
  have := Fl.mk (x := -2) true (by decide) (fun _ => by decide)
  rwa [h] at this
theorem z1234 {z : Nat → Nat × Nat} (h : FlZ z (fN [1, 2, 3, 4])) : (Fl (z 0).1 10 ∧ Fl (z 0).2 0) ∧ (Fl (z 1).1 (-2) ∧ Fl (z 1).2 2) ∧ (Fl (z 2).1 (-2) ∧ Fl (z 2).2 0) ∧ FlZ z (q4 [1, 2, 3, 4] 4) := by
  have ok : okN [1, 2, 3, 4] := fun i hi => by
    have : i = 0 ∨ i = 1 ∨ i = 2 ∨ i = 3 := by simp at hi; omega
    rcases this with rfl | rfl | rfl | rfl <;> simp [ni]
  rw [fN_ok ok] at h
  have h' : FlZ z (q4 [1, 2, 3, 4] 4) := h
  have a0 := h' 0 (by omega)
  have a1 := h' 1 (by omega)
  have a2 := h' 2 (by omega)
  rw [re0, im0] at a0
  rw [re1, im1] at a1
  rw [re2, im2] at a2
  simp [q4, bump, ni] at a0 a1 a2
  exact ⟨a0, a1, a2, h'⟩
theorem flat5 : flatB (fN [5, 5, 5, 5]) = true := by
  have ok : okN [5, 5, 5, 5] := fun i hi => by
    have : i = 0 ∨ i = 1 ∨ i = 2 ∨ i = 3 := by simp at hi; omega
    rcases this with rfl | rfl | rfl | rfl <;> simp [ni]
  rw [fN_ok ok]
  unfold flatB
  rw [re1, im1, re2, im2, re3, im3]
  simp [q4, bump, ni, powV]
theorem flat1 : flatB (fN [1]) = false := by
  have ok : okN [1] := fun i hi => by
    have : i = 0 := by simp at hi; omega
    subst this; simp [ni]
  rw [fN_ok ok]
  unfold flatB
  rw [re1, im1, re2, im2, re3, im3]
  simp [q4, bump, ni, powV]
theorem row229 : rowL [2, 2, 9] 1 4 = [0, 2, 0] := by
  simp [rowL, rwN, ni, List.replicate]
theorem up1234 : upF (q4 [1, 2, 3, 4] 4) 4 = [1, 2, 3, 4] := by
  simp [upF, List.range_succ, q4, bump, ni]
theorem pow8 : powV (-2) 2 = 8 := by simp [powV]
theorem q1234_le (j : Nat) : (q4 [1, 2, 3, 4] 4 j).natAbs ≤ 1048576 := by
  simp [q4, bump, ni]
  split <;> split <;> split <;> split <;> omega
theorem si_alloc (w : World) (l : List Int) (n : Nat) (hn : l.length = n) : Si (w.alloc (.cells (ivs l) 3)) (.slice (some ⟨w.heap.size, 0, none⟩) n n) l := by
  have := Si.row (w := w.alloc (.cells (ivs l) 3)) (g := w.heap.size) (l := l) (row?_alloc_at _ _ _ _ rfl)
  rwa [hn] at this
set_option maxHeartbeats 2000000 in
theorem awake_any (w : World) :
    Calls Try.prog 8 #[] w fun e w' => e = .returned (.bool true) ∧ Below w.heap.size w w' := by
  go_enter Try.func8, Try.ntmps8
  go_wp2_with fail
  refine (sums_all [1, 2, 3, 4] (by simp) _ _ (si_alloc w [1, 2, 3, 4] 4 rfl)).mono ?_
  rintro e w1 ⟨z, rfl, hz, hb1⟩
  obtain ⟨⟨a0, a1⟩, ⟨b0, b1⟩, ⟨c0, c1⟩, hz4⟩ := z1234 hz
  have o1 := order_eq a0 fl10
  have o2 := order_eq a1 fl0
  have o3 := order_eq b0 flm2
  have o4 := order_eq b1 fl2
  have o5 := order_eq c0 flm2
  have o6 := order_eq c1 fl0
  have hB1 : Below w.heap.size w w1 := ((Below.refl _ _).alloc (Nat.le_refl _) _).trans (hb1.mono (by simp))
  have W2 := Lib.hid (row?_alloc_at w1 (zv z) 25 w1.heap.size rfl)
  have HZ4 := Lib.hid hz4
  have hB2 : Below w.heap.size w (w1.alloc (.cells (zv z) 25)) := hB1.alloc hB1.size _
  have HB2 := Lib.hid hB2
  have B0 := Lib.hid b0
  have B1 := Lib.hid b1
  clear hb1 hB1 hz hz4 a0 a1 b0 b1 c0 c1 hB2
  have k0 := (row?_cell W2.out 0).trans (zv_get z 0 (by omega))
  have k1 := (row?_cell W2.out 1).trans (zv_get z 1 (by omega))
  have k2 := (row?_cell W2.out 2).trans (zv_get z 2 (by omega))
  go_wp2_with fail
  refine (power_any B0.out B1.out _).mono ?_
  rintro e w2 ⟨rfl, rfl⟩
  rw [pow8]
  go_wp2_with fail
  refine (turn_any _ _).mono ?_
  rintro e w2 ⟨c, d, rfl, hc, hd, rfl⟩
  have o7 := order_eq (x := 0) hc fl0
  have o8 := order_eq (x := -1) hd flm1
  have ld := rldZ (w1.alloc (.cells (zv z) 25)) w1.heap.size (by rw [W2.out]; rfl)
  rw [W2.out] at ld
  clear hc hd
  go_wp2_with fail
  refine (back_any z _ HZ4.out q1234_le _).mono ?_
  rw [up1234]
  rintro e w2 ⟨rfl, hb2⟩
  have HB3 := Lib.hid (HB2.out.trans (hb2.mono HB2.out.size))
  have heq : ∀ W : World, (Op.equalIn 10000 39 (.agg (ivs [1, 2, 3, 4])) (.agg #[.int .i64 1, .int .i64 2, .int .i64 3, .int .i64 4])).run Try.prog W = .ok true W := fun W => eqI [1, 2, 3, 4] [1, 2, 3, 4] rfl rfl W
  clear hb2 o1 o2 o3 o4 o5 o6 o7 o8 k0 k1 k2 ld
  go_wp2_with fail
  refine (flat_any [5, 5, 5, 5] (by simp) _ _ (si_alloc w2 [5, 5, 5, 5] 4 rfl)).mono ?_
  rw [flat5]
  rintro e w3 ⟨rfl, hb3⟩
  have HB4 := Lib.hid ((HB3.out.alloc HB3.out.size (.cells (ivs [5, 5, 5, 5]) 3)).trans (hb3.mono (HB3.out.alloc HB3.out.size _).size))
  clear hb3
  go_wp2_with fail
  refine (flat_any [1] (by simp) _ _ (si_alloc w3 [1] 1 rfl)).mono ?_
  rw [flat1]
  rintro e w4 ⟨rfl, hb4⟩
  have HB5 := Lib.hid ((HB4.out.alloc HB4.out.size (.cells (ivs [1]) 3)).trans (hb4.mono (HB4.out.alloc HB4.out.size _).size))
  clear hb4
  go_wp2_with fail
  refine (row_any [2, 2, 9] (by simp) 1 4 ⟨by omega, by omega⟩ ⟨by omega, by omega⟩ _ _ (si_alloc w4 [2, 2, 9] 3 rfl)).mono ?_
  rw [row229]
  rintro e w5 ⟨v', rfl, hs5, hb5⟩
  have HB6 := Lib.hid ((HB5.out.alloc HB5.out.size (.cells (ivs [2, 2, 9]) 3)).trans (hb5.mono (HB5.out.alloc HB5.out.size _).size))
  have HS5 := Lib.hid hs5
  clear hb5 hs5
  go_wp2_with fail
  refine (sameI_any [0, 2, 0] [0, 2, 0] (by simp) _ _ _ (HS5.out.below ((Below.refl _ _).alloc (Nat.le_refl _) _)) (si_alloc w5 [0, 2, 0] 3 rfl)).mono ?_
  rw [show decide (([0, 2, 0] : List Int) = [0, 2, 0]) = true from rfl]
  rintro e w6 ⟨rfl, hb6⟩
  have HB7 := Lib.hid ((HB6.out.alloc HB6.out.size (.cells (ivs [0, 2, 0]) 3)).trans (hb6.mono (HB6.out.alloc HB6.out.size _).size))
  clear hb6
  go_wp2_with fail
  go_ret
  exact ⟨rfl, HB7.out⟩
end Go.Proofs.Ytenoldpfclmedaa
