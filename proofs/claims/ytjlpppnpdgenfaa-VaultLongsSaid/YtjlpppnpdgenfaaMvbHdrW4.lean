/- The walk of package header's Put at a short header. -/
import Derived.Test.YtjlpppnpdgenfaaMvb5
namespace Hdr
open Go.Rw
def first (spin phase : Bool) (nl : Nat) : UInt8 := 64 ||| UInt8.ofInt ((nl : Int) - 1) ||| (if spin then 32 else 0) ||| (if phase then 4 else 0)
end Hdr
namespace Go.Proofs.Ytjlpppnpdgenfaa
open Go.RowKit Go.Rw Hdr
attribute [local go_sem ↓] ldH stH alH shift_shl8 shift_shr8 shift_shl64 shift_shr64
attribute [local go_sem] rldH rstH ralH setRow_alloc_at setRow_alloc_past setRow_drew
set_option maxRecDepth 100000 in
set_option maxHeartbeats 4000000 in
theorem put_short (dst : List UInt8) (hd : dst.length = 8) (vd : Value) (as_ at_ : Option Addr) (cs ct : Nat) (spin phase : Bool) (num : Nat) (nl : Nat) (rest : Int) (h1 : 1 ≤ nl) (h4 : nl ≤ 4) (hn : (num : Int) ≤ 4611686018427387903) (hr0 : 0 ≤ rest) (hr1 : rest ≤ 16379) (w : World) (hsd : Sl w vd dst) :
  Calls Try.prog 28 #[.agg (hvA false 0 0 vd (.slice as_ 0 cs) (.slice at_ 0 ct) spin phase num nl), .int .i64 rest] w fun e w' => ∃ v, e = .returned (.tuple #[v, .int .i64 0]) ∧ Sl w' v ([first spin phase nl] ++ dst ++ be num nl) ∧ Below w.heap.size w w' := by
 obtain ⟨ad, cd, rfl, hc, hnn, hp⟩ := hsd
 rw [hd]
 obtain ⟨b, off, rfl, hcell⟩ := hp (by omega)
 obtain ⟨i0, hi, hz0, hz1, hz2⟩ := info_parts info8
 clear hnn hp
 have hm := fun W => may_short (some ⟨b, off, none⟩) as_ at_ cd cs ct spin phase num nl (by omega) (by omega) hn W
 unfold hvA at hm ⊢
 have g1 : ¬ rest < 0 := by omega
 have g2 : ¬ (16383 - (nl : Int) < rest) := by omega
 have HM := Lib.hid hm
 have HN := Lib.hid hn
 clear hm hn
 go_enter Try.func28, Try.ntmps28
 go_wp2_with fail
 refine (HM.out _).mono ?_
 rintro e w1 ⟨rfl, hb1⟩
 have r1 : row? w1 w.heap.size = some #[.bool false, .int .i64 0, .int .u32 ((0 : Nat) : Int), .slice (some ⟨b, off, none⟩) 8 cd, .slice as_ 0 cs, .slice at_ 0 ct, .bool spin, .bool phase, .int .u64 (num : Nat), .int .i64 (nl : Nat)] := Rg.stable_row hb1 (row?_alloc_at _ _ _ _ rfl)
 have b1 : Below w.heap.size w w1 := ((Below.refl w.heap.size w).alloc (Nat.le_refl _) _).trans (hb1.mono (by simp))
 have c0 : w1.cell? ⟨w.heap.size, 0, none⟩ = some (.bool false) := row?_cell r1 0
 have c3 : w1.cell? ⟨w.heap.size, 3, none⟩ = some (.slice (some ⟨b, off, none⟩) 8 cd) := row?_cell r1 3
 have c6 : w1.cell? ⟨w.heap.size, 6, none⟩ = some (.bool spin) := row?_cell r1 6
 have c7 : w1.cell? ⟨w.heap.size, 7, none⟩ = some (.bool phase) := row?_cell r1 7
 have c9 : w1.cell? ⟨w.heap.size, 9, none⟩ = some (.int .i64 (nl : Nat)) := row?_cell r1 9
 have R1 := Lib.hid r1
 have HM' := HM
 have HC0 := Lib.hid hcell
 clear r1 hb1 HM HM' hcell
 go_wp2_with fail
 refine Rg.wp_region_plan (Rg.row [(0, 3), (1, 0), (4, 3), (5, 0), (6, 3), (7, 3), (2, 1), (3, 3), (8, 3), (9, 3)] []) [] (by kernel_rfl) (by kernel_rfl) ?_
 simp only [Rg.row, Rg.PT.map, List.map_nil, List.getD_cons_zero, List.getD_cons_succ]
 go_wp2_with (first
  |(with_reducible refine Rg.plan_pure ?_ ?_ ?_); kernel_rfl; kernel_rfl; intro _ _|(with_reducible refine Rg.plan_take ?_ ?_ ?_); kernel_rfl; kernel_rfl; intro _ _|(with_reducible refine Rg.plan_keep ?_ ?_); kernel_rfl; intro K hK|refine hK _ _ (Rg.Keep.refl _) ?_; clear hK|refine hK _ _ (Rg.Keep.of_below (by assumption)) ?_; clear hK|(with_reducible refine Rg.plan_skip ?_ ?_); kernel_rfl|(with_reducible refine Rg.plan_done ?_)|(with_reducible refine Rg.calm_normal ?_))
 refine (flag_any _ 128 _).mono ?_
 rintro e w' ⟨rfl, rfl⟩
 obtain ⟨fs, hfs⟩ : ∃ fs : UInt8, (if spin then 32 else 0) = fs := ⟨_, rfl⟩
 obtain ⟨fp, hfp⟩ : ∃ fp : UInt8, (if phase then 4 else 0) = fp := ⟨_, rfl⟩
 have F1 := flag_any spin 32
 have F2 := flag_any phase 4
 have hfirst : first spin phase nl = 64 ||| UInt8.ofInt ((nl : Int) - 1) ||| fs ||| fp := by rw [← hfs, ← hfp]; rfl
 rw [hfs] at F1
 rw [hfp] at F2
 have G1 := Lib.hid F1
 have G2 := Lib.hid F2
 have G3 := Lib.hid hfirst
 clear hfs hfp F1 F2 hfirst
 go_wp2_with (first
  |(with_reducible refine Rg.plan_pure ?_ ?_ ?_); kernel_rfl; kernel_rfl; intro _ _|(with_reducible refine Rg.plan_take ?_ ?_ ?_); kernel_rfl; kernel_rfl; intro _ _|(with_reducible refine Rg.plan_keep ?_ ?_); kernel_rfl; intro K hK|refine hK _ _ (Rg.Keep.refl _) ?_; clear hK|refine hK _ _ (Rg.Keep.of_below (by assumption)) ?_; clear hK|(with_reducible refine Rg.plan_skip ?_ ?_); kernel_rfl|(with_reducible refine Rg.plan_done ?_)|(with_reducible refine Rg.calm_normal ?_))
 refine Rg.wp_region_plan (Rg.row [(0, 3), (1, 3), (2, 0), (5, 3), (6, 0), (10, 3), (11, 0), (3, 1), (4, 3), (7, 1), (8, 3), (9, 1)] [12, 13]) [12, 13] (by kernel_rfl) (by kernel_rfl) ?_
 simp only [Rg.row, Rg.PT.map, List.map_cons, List.map_nil, List.getD_cons_zero, List.getD_cons_succ]
 go_wp2_with (first
  |(with_reducible refine Rg.plan_pure ?_ ?_ ?_); kernel_rfl; kernel_rfl; intro _ _|(with_reducible refine Rg.plan_take ?_ ?_ ?_); kernel_rfl; kernel_rfl; intro _ _|(with_reducible refine Rg.plan_keep ?_ ?_); kernel_rfl; intro K hK|refine hK _ _ (Rg.Keep.refl _) ?_; clear hK|refine hK _ _ (Rg.Keep.of_below (by assumption)) ?_; clear hK|(with_reducible refine Rg.plan_skip ?_ ?_); kernel_rfl|(with_reducible refine Rg.plan_done ?_)|(with_reducible refine Rg.calm_normal ?_))
 refine (G1.out _).mono ?_
 rintro e w' ⟨rfl, rfl⟩
 go_wp2_with (first
  |(with_reducible refine Rg.plan_pure ?_ ?_ ?_); kernel_rfl; kernel_rfl; intro _ _|(with_reducible refine Rg.plan_take ?_ ?_ ?_); kernel_rfl; kernel_rfl; intro _ _|(with_reducible refine Rg.plan_keep ?_ ?_); kernel_rfl; intro K hK|refine hK _ _ (Rg.Keep.refl _) ?_; clear hK|refine hK _ _ (Rg.Keep.of_below (by assumption)) ?_; clear hK|(with_reducible refine Rg.plan_skip ?_ ?_); kernel_rfl|(with_reducible refine Rg.plan_done ?_)|(with_reducible refine Rg.calm_normal ?_))
 refine (G2.out _).mono ?_
 rintro e w' ⟨rfl, rfl⟩
 go_wp2_with (first
  |(with_reducible refine Rg.plan_pure ?_ ?_ ?_); kernel_rfl; kernel_rfl; intro _ _|(with_reducible refine Rg.plan_take ?_ ?_ ?_); kernel_rfl; kernel_rfl; intro _ _|(with_reducible refine Rg.plan_keep ?_ ?_); kernel_rfl; intro K hK|refine hK _ _ (Rg.Keep.refl _) ?_; clear hK|refine hK _ _ (Rg.Keep.of_below (by assumption)) ?_; clear hK|(with_reducible refine Rg.plan_skip ?_ ?_); kernel_rfl|(with_reducible refine Rg.plan_done ?_)|(with_reducible refine Rg.calm_normal ?_))
 refine hK _ _ (Rg.Keep.of_below ((Below.refl _ _).alloc (Nat.le_refl _) _)) ?_
 clear hK
 have howA : (w1.alloc (.cells #[.int .u8 (n8 (64 ||| UInt8.ofInt ((nl : Int) - 1) ||| fs ||| fp) : Nat)] 5)).drew.drew.ownsRow w.heap.size 5 1 (.slice (some ⟨w1.heap.size, 0, none⟩) 1 1) 1 ([64 ||| UInt8.ofInt ((nl : Int) - 1) ||| fs ||| fp].map bv) := ((World.ownsRow_lit (base := w.heap.size) w1 #[.int .u8 (n8 (64 ||| UInt8.ofInt ((nl : Int) - 1) ||| fs ||| fp) : Nat)] 1 b1.size (by decide) (by simp)).drew).drew
 have bA : Below w.heap.size w (w1.alloc (.cells #[.int .u8 (n8 (64 ||| UInt8.ofInt ((nl : Int) - 1) ||| fs ||| fp) : Nat)] 5)).drew.drew := ((b1.alloc b1.size _).drew).drew
 have rA : row? (w1.alloc (.cells #[.int .u8 (n8 (64 ||| UInt8.ofInt ((nl : Int) - 1) ||| fs ||| fp) : Nat)] 5)).drew.drew w.heap.size = some #[.bool false, .int .i64 0, .int .u32 ((0 : Nat) : Int), .slice (some ⟨b, off, none⟩) 8 cd, .slice as_ 0 cs, .slice at_ 0 ct, .bool spin, .bool phase, .int .u64 (num : Nat), .int .i64 (nl : Nat)] := by rw [row?_drew, row?_drew]; exact Rg.stable_row ((Below.refl _ _).alloc (Nat.le_refl _) _) R1.out
 rw [← G3.out] at howA bA rA ⊢
 generalize hfF : first spin phase nl = F at howA bA rA ⊢
 generalize (w1.alloc (.cells #[.int .u8 (n8 F : Nat)] 5)).drew.drew = wA at howA bA rA ⊢
 have HA := Lib.hid howA
 have RA := Lib.hid rA
 clear howA rA c0 c3 c6 c7 c9 G3 g1 g2
 go_wp2_with (first
  | (at_builtin; refine wpList_append_own _ rfl _ _ 27 rfl w.heap.size 5 i0 (.int .u8 0) 1 1 Try.underlying27 hi hz0 hz1 hz2 rfl (by decide) _ 1 _ rfl HA.out ⟨b, off, none⟩ 8 cd (dst.map bv) rfl (by simp [hd]) ?c1 ?c2 ?c3 ?c4 ?c5 ?_)
  |(with_reducible refine Rg.plan_pure ?_ ?_ ?_); kernel_rfl; kernel_rfl; intro _ _|(with_reducible refine Rg.plan_take ?_ ?_ ?_); kernel_rfl; kernel_rfl; intro _ _|(with_reducible refine Rg.plan_keep ?_ ?_); kernel_rfl; intro K hK|refine hK _ _ (Rg.Keep.refl _) ?_; clear hK|refine hK _ _ (Rg.Keep.of_below (by assumption)) ?_; clear hK|(with_reducible refine Rg.plan_skip ?_ ?_); kernel_rfl|(with_reducible refine Rg.plan_done ?_)|(with_reducible refine Rg.calm_normal ?_))
 case c1 =>
  intro j u hj
  have hjl : j < dst.length := by have := (List.getElem?_eq_some_iff.1 hj).1; simpa using this
  have hcj := HC0.out j hjl
  rw [Addr.add_lit, below_cell bA hcj (cell_lt hcj), ← hj]
  simp [nth, bv, n8, hjl]
 case c2 => exact map_bv_one _
 case c3 => decide
 case c4 => decide
 case c5 => exact bA.size
 intro v' w2 hown2 hgrow2 _
 have hlt1 : w.heap.size ≤ w1.heap.size := b1.size
 have b2 : Below w.heap.size w w2 := bA.grown hgrow2 bA.size (fun k hk => by have := (HA.out.lt k hk).1; exact this)
 have r2 : row? w2 w.heap.size = some #[.bool false, .int .i64 0, .int .u32 ((0 : Nat) : Int), .slice (some ⟨b, off, none⟩) 8 cd, .slice as_ 0 cs, .slice at_ 0 ct, .bool spin, .bool phase, .int .u64 (num : Nat), .int .i64 (nl : Nat)] := by
  refine row_grown hgrow2 RA.out ?_
  intro h
  have hq := row?_lt R1.out
  have e : w.heap.size = w1.heap.size := Option.some.inj h
  omega
 have c8 : w2.cell? ⟨w.heap.size, 8, none⟩ = some (.int .u64 (num : Nat)) := row?_cell r2 8
 have c9 : w2.cell? ⟨w.heap.size, 9, none⟩ = some (.int .i64 (nl : Nat)) := row?_cell r2 9
 have hown3 : w2.ownsRow w.heap.size 5 1 v' ([F] ++ dst).length (([F] ++ dst).map bv) := by
  rw [List.length_append, hd]
  simpa using hown2
 have HO2 := Lib.hid hown3
 clear hown2 hown3 hgrow2 r2
 go_wp2_with (first
  |(with_reducible refine Rg.plan_pure ?_ ?_ ?_); kernel_rfl; kernel_rfl; intro _ _|(with_reducible refine Rg.plan_take ?_ ?_ ?_); kernel_rfl; kernel_rfl; intro _ _|(with_reducible refine Rg.plan_keep ?_ ?_); kernel_rfl; intro K hK|refine hK _ _ (Rg.Keep.refl _) ?_; clear hK|refine hK _ _ (Rg.Keep.of_below (by assumption)) ?_; clear hK|(with_reducible refine Rg.plan_skip ?_ ?_); kernel_rfl|(with_reducible refine Rg.plan_done ?_)|(with_reducible refine Rg.calm_normal ?_))
 refine (number_any ([F] ++ dst) num nl (by simp [hd]) (by have := HN.out; omega) (by omega) v' w.heap.size w2 b2.size HO2.out).mono ?_
 rintro e w3 ⟨v3, rfl, hown3, b3⟩
 have H3 := Lib.hid hown3
 clear hown3
 go_wp2_with fail
 go_ret2
 refine ⟨v3, rfl, ?_, b2.trans b3⟩
 rw [hfF]
 exact Own.sl H3.out
end Go.Proofs.Ytjlpppnpdgenfaa
