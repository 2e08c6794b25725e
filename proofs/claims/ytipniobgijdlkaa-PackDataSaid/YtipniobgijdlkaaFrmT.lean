/- The walk of mantillaref7's Put at a stream's frame. (under way) -/
import Derived.Test.YtipniobgijdlkaaFrmS
import Derived.Test.YtipniobgijdlkaaVarR2
namespace Go.Proofs.Ytipniobgijdlkaa
open Go.RowKit Go.Rw Frm Hdr
attribute [local go_sem ↓] ldFF stFF alFF ldH stH alH bdH
attribute [local go_sem] rldFF rstFF ralFF rldH rstH ralH setRow_alloc_at setRow_alloc_past setRow_drew
set_option maxRecDepth 400000 in
set_option maxHeartbeats 2000000 in
theorem rput_stream (i o : Nat) (hi : i < 4611686018427387904) (l : List UInt8) (hl : l.length < 16384) (ho : o + l.length < 4611686018427387904) (a2 : Option Addr) (e2 : Nat) (w : World) (hs : Sl w (.slice a2 l.length e2) l) :
    Calls Try.prog 16 #[.agg (fvA 8 0 0 (.slice none 0 0) i o false (.slice a2 l.length e2) (.slice none 0 0) (.slice none 0 0))] w fun e w' => ∃ v, e = .returned v ∧ Sl w' v (14 :: (vin i (vlen i) ++ vin o (vlen o) ++ vin l.length (vlen l.length) ++ l)) ∧ Below w.heap.size w w' := by
  obtain ⟨i0, hi0, hz0, hz1, hz2⟩ := info_parts info8
  have hz : (fvA 8 0 0 (.slice none 0 0) i o false (.slice a2 l.length e2) (.slice none 0 0) (.slice none 0 0)).size = 10 := rfl
  have ha := fvA_all 8 0 0 none a2 none none 0 l.length 0 0 0 e2 0 0 i o false
  have hm := fun W => rmay_stream i o l.length false a2 e2 W
  have fc := fun (W : World) (b : Nat) (h : row? W b = some (fvA 8 0 0 (.slice none 0 0) i o false (.slice a2 l.length e2) (.slice none 0 0) (.slice none 0 0))) => fv_cells h
  generalize fvA 8 0 0 (.slice none 0 0) i o false (.slice a2 l.length e2) (.slice none 0 0) (.slice none 0 0) = F at *
  have lf := rldFF (w.alloc (.cells F 28)) w.heap.size (by rw [row?_alloc_at _ _ _ _ rfl, Option.map_some, hz])
  rw [row?_alloc_at _ _ _ _ rfl] at lf
  have lf' : (loadAgg 28 (.pointer (some ⟨w.heap.size, 0, none⟩))).run Try.prog (w.alloc (.cells F 28)) = .ok (.agg F) (w.alloc (.cells F 28)) := lf
  have HM := Lib.hid hm
  have FC := Lib.hid fc
  have S0 := Lib.hid (hs.below ((Below.refl _ _).alloc (Nat.le_refl _) (.cells F 28)))
  clear hm lf fc
  go_enter Try.func16, Try.ntmps16
  go_wp2_with fail
  refine (HM.out _).mono ?_
  rw [show decide (l.length < 16384 ∧ i < 4611686018427387904 ∧ o + l.length < 4611686018427387904) = true from decide_eq_true ⟨hl, hi, ho⟩]
  rintro e w1 ⟨rfl, b1⟩
  have B1 := Lib.hid (((Below.refl w.heap.size w).alloc (Nat.le_refl _) (.cells F 28)).trans (b1.mono (by simp)))
  have S1 := Lib.hid (S0.out.below b1)
  have R1 := Lib.hid (show row? w1 w.heap.size = some F by rw [row?_below b1 (by simp)]; exact row?_alloc_at _ _ _ _ rfl)
  obtain ⟨c0, c1, c2, c3, c4, c5, c6, c7, c8, c9⟩ := FC.out _ _ R1.out
  have hsz := row?_lt R1.out
  clear b1 lf'
  go_wp2_with fail
  refine (rput_any [14] i (by simp) hi _ _ (Sl.row (l := [14]) (row?_alloc_at _ _ _ _ rfl))).mono ?_
  rintro e w2 ⟨v2, rfl, o2, b2⟩
  obtain ⟨q2, hq2⟩ : ∃ q2, [14] ++ vin i (vlen i) = q2 := ⟨_, rfl⟩
  have kq2 : q2.length ≤ 9 := by rw [← hq2]; simp [vin_length]; have := (vlen_fit hi).1; omega
  rw [hq2] at o2
  have Hq2 := Lib.hid hq2
  clear hq2
  have s2 := Own.sl o2
  obtain ⟨a3, e3, rfl, -, -, -⟩ := id s2
  have bb2 : Below w1.heap.size w1 w2 := ((Below.refl _ _).alloc (Nat.le_refl _) _).trans (b2.mono (by simp))
  have B2 := Lib.hid (B1.out.trans (bb2.mono B1.out.size))
  have S2 := Lib.hid (S1.out.below bb2)
  have R2 := Lib.hid (show row? w2 w.heap.size = some F by rw [row?_below bb2 hsz]; exact R1.out)
  obtain ⟨x0, x1, x2, x3, x4, x5, x6, x7, x8, x9⟩ := FC.out _ _ R2.out
  have V2 := Lib.hid s2
  clear b2 o2 bb2 s2 c0 c1 c2 c3 c4 c5 c6 c7 c8 c9
  go_wp2_with fail
  refine (rput_any q2 o (by omega) (by omega) _ _ V2.out).mono ?_
  rintro e w3 ⟨v3, rfl, o3, b3⟩
  obtain ⟨q3, hq3⟩ : ∃ q3, q2 ++ vin o (vlen o) = q3 := ⟨_, rfl⟩
  have kq3 : q3.length ≤ 17 := by rw [← hq3]; simp [vin_length]; have := (vlen_fit (n := o) (by omega)).1; omega
  rw [hq3] at o3
  have Hq3 := Lib.hid hq3
  clear hq3
  have s3 := Own.sl o3
  obtain ⟨a4, e4, rfl, -, -, -⟩ := id s3
  have B3 := Lib.hid (B2.out.trans (b3.mono B2.out.size))
  have S3 := Lib.hid (S2.out.below b3)
  have R3 := Lib.hid (show row? w3 w.heap.size = some F by rw [row?_below b3 (row?_lt R2.out)]; exact R2.out)
  obtain ⟨y0, y1, y2, y3, y4, y5, y6, y7, y8, y9⟩ := FC.out _ _ R3.out
  have V3 := Lib.hid s3
  clear b3 o3 s3 x0 x1 x2 x3 x4 x5 x6 x7 x8 x9
  go_wp2_with fail
  refine (rput_any q3 l.length (by omega) (by omega) _ _ V3.out).mono ?_
  rintro e w4 ⟨v4, rfl, o4, b4⟩
  obtain ⟨q4, hq4⟩ : ∃ q4, q3 ++ vin l.length (vlen l.length) = q4 := ⟨_, rfl⟩
  have kq4 : q4.length ≤ 25 := by rw [← hq4]; simp [vin_length]; have := (vlen_fit (n := l.length) (by omega)).1; omega
  rw [hq4] at o4
  have Hq4 := Lib.hid hq4
  clear hq4
  have s4 := Own.sl o4
  obtain ⟨a5, e5, rfl, -, -, -⟩ := id s4
  have B4 := Lib.hid (B3.out.trans (b4.mono B3.out.size))
  have S4 := Lib.hid (S3.out.below b4)
  have R4 := Lib.hid (show row? w4 w.heap.size = some F by rw [row?_below b4 (row?_lt R3.out)]; exact R3.out)
  obtain ⟨c0, c1, c2, c3, c4, c5, c6, c7, c8, c9⟩ := FC.out _ _ R4.out
  have hw3 := B3.out.size
  have O4 := Lib.hid o4
  have hb4 := b4.size
  clear b4 o4 s4 y0 y1 y2 y3 y4 y5 y6 y7 y8 y9
  go_wp2_with (at_builtin; refine app_sl rfl _ _ 25 rfl w3.heap.size 5 i0 Try.underlying25 hi0 hz0 hz1 hz2 _ _ rfl O4.out _ l rfl S4.out ?hl ?hb ?_)
  case hl => omega
  case hb => exact hb4
  intro v5 w5 o5 g5
  rw [← List.map_append, ← List.length_append] at o5
  have s5 := Own.sl o5
  obtain ⟨a6, e6, rfl, -, -, -⟩ := id s5
  have S5 := Lib.hid s5
  have B5 := Lib.hid (B4.out.grown g5 B4.out.size (fun k hk => Nat.le_trans hw3 (O4.out.lt k hk).1))
  have HQ := Lib.hid (show q4 ++ l = 14 :: (vin i (vlen i) ++ vin o (vlen o) ++ vin l.length (vlen l.length) ++ l) by rw [← Hq4.out, ← Hq3.out, ← Hq2.out]; simp)
  clear o5 g5 s5
  go_wp2_with fail
  go_ret
  exact ⟨_, rfl, HQ.out ▸ S5.out, B5.out⟩
end Go.Proofs.Ytipniobgijdlkaa
