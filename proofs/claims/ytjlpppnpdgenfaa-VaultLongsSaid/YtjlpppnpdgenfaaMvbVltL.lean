/- The walk of the document's Lead where the header is masked. -/
import Derived.Test.YtjlpppnpdgenfaaMvb17
namespace Go.Proofs.Ytjlpppnpdgenfaa
open Go.RowKit Go.Rw Hdr
attribute [local go_sem ↓] hvA_0 hvA_1 hvA_2 hvA_3 hvA_4 hvA_5 hvA_6 hvA_7 hvA_8 hvA_9
attribute [local go_sem ↓] ldH stH alH bdR bdH shift_shl8 shift_shr8
attribute [local go_sem] rldH rstH ralH setRow_alloc_at setRow_alloc_past setRow_drew buildR buildH buildH0
set_option maxRecDepth 100000 in
set_option maxHeartbeats 4000000 in
theorem rleadm_any (b : List UInt8) (hb : b.length ≤ 1000000) (vb : Value) (w : World) (hsb : Sl w vb b) :
  Calls Try.prog 41 #[vb, .bool true] w (LeadPost w (lead b true)) := by
 obtain ⟨q, hq⟩ : ∃ q, lead b true = q := ⟨_, rfl⟩
 rw [hq]
 unfold lead at hq
 obtain ⟨ao, cap, rfl, hc, -, hp⟩ := id hsb
 have HSB := Lib.hid hsb
 have HBL := Lib.hid hb
 have HCC := Lib.hid hc
 have HP := Lib.hid hp
 have HQ0 := Lib.hid hq
 have HW1 := Lib.hid (bel2 w (.cells (hvA false 0 0 (.slice none 0 0) (.slice none 0 0) (.slice none 0 0) false false 0 0) 30) (.cells (hvA false 0 0 (.slice none 0 0) (.slice none 0 0) (.slice none 0 0) false false 0 0) 30))
 have HR8 := Lib.hid (show row? ((w.alloc (.cells (hvA false 0 0 (.slice none 0 0) (.slice none 0 0) (.slice none 0 0) false false 0 0) 30)).alloc (.cells (hvA false 0 0 (.slice none 0 0) (.slice none 0 0) (.slice none 0 0) false false 0 0) 30)) (w.heap.size + 1) = some (hvA false 0 0 (.slice none 0 0) (.slice none 0 0) (.slice none 0 0) false false 0 0) from row?_alloc_at _ _ _ _ (by simp))
 have HR4 := Lib.hid (show row? ((w.alloc (.cells (hvA false 0 0 (.slice none 0 0) (.slice none 0 0) (.slice none 0 0) false false 0 0) 30)).alloc (.cells (hvA false 0 0 (.slice none 0 0) (.slice none 0 0) (.slice none 0 0) false false 0 0) 30)) w.heap.size = some (hvA false 0 0 (.slice none 0 0) (.slice none 0 0) (.slice none 0 0) false false 0 0) from by rw [row?_alloc_past _ _ _ (by simp)]; exact row?_alloc_at _ _ _ _ rfl)
 clear hsb hb hc hp hq
 go_enter Try.func41, Try.ntmps41
 by_cases h0 : b.length = 0
 ·have hq := HQ0.out
  rw [if_pos h0] at hq
  have HQ := Lib.hid hq
  clear hq HQ0
  go_wp2_with fail
  refine bodyPost_ret (results_row4 AgH rfl _ _ w.heap.size (hvA false 0 0 (.slice none 0 0) (.slice none 0 0) (.slice none 0 0) false false 0 0) rfl ?_ (hvA_size ..)) rfl ?_
  ·first | exact HR4.out | (rw [row?_drew]; exact row?_setRow_eq R4.out)
  ·rw [← HQ.out]
   exact ⟨_, _, _, _, _, _, _, _, _, _, _, _, _, _, _, _, rfl, HW1.out⟩ --by first | exact BB.out.trans (((Mut.refl _ _).setRow _).below (Nat.le_refl _) BB.out.size) | exact BB.out.trans (((Mut.refl _ _).setRow _).drew.below (Nat.le_refl _) BB.out.size)⟩
 ·have hq := HQ0.out
  rw [if_neg h0] at hq
  obtain ⟨bb, off, rfl, hcell⟩ := HP.out (by omega)
  obtain ⟨c, hc0⟩ : ∃ c, nth b 0 = c := ⟨_, rfl⟩
  rw [hc0] at hq
  have HQ1 := Lib.hid hq
  have hcl : ∀ W, Below w.heap.size w W → W.cell? ⟨bb, off, none⟩ = some (.int .u8 (n8 c : Nat)) := fun W h => by
   have := hcell 0 (by omega)
   rw [Nat.add_zero, hc0] at this
   exact below_cell h this (cell_lt this)
  have HCELL := Lib.hid hcell
  have HCL := Lib.hid hcl
  have HH0 := Lib.hid h0
  have h0' : ((b.length : Nat) : Int) ≠ 0 := by omega
  clear hc0 hcl hcell h0 HP hq HQ0
  go_wp2_with (with_reducible refine Rw.hold_ops 31 ?_)
  refine Rw.Held.mk ?_
  generalize ((w.alloc (.cells (hvA false 0 0 (.slice none 0 0) (.slice none 0 0) (.slice none 0 0) false false 0 0) 30)).alloc (.cells (hvA false 0 0 (.slice none 0 0) (.slice none 0 0) (.slice none 0 0) false false 0 0) 30)) = W1 at HW1 HR8 HR4 ⊢
  have R8 := HR8
  have R4 := HR4
  have BB := HW1
  clear HR8 HR4 HW1
  have c0 := HCL.out _ BB.out
  have c8 := row?_cell R8.out 0
  have f8 := row?_frozen R8.out 0
  go_wp2_with (with_reducible refine Rw.hold_ops 37 ?_)
  refine Rw.Held.mk ?_
  clear c0 c8 f8
  obtain ⟨L, hL⟩ : ∃ L, (c &&& 128 != 0) = L := ⟨_, rfl⟩
  rw [hL]
  have HL := Lib.hid hL
  clear hL
  have mx : Mut (w.heap.size + 1) W1 (W1.setCell ⟨w.heap.size + 1, 0, none⟩ (.bool L)) := ((Mut.refl _ _).setCell _ _ _)
  have x8 : row? (W1.setCell ⟨w.heap.size + 1, 0, none⟩ (.bool L)) (w.heap.size + 1) = some (hvA L 0 0 (.slice none 0 0) (.slice none 0 0) (.slice none 0 0) false false 0 0) := by rw [row?_setCell_eq R8.out]; rfl
  generalize (W1.setCell ⟨w.heap.size + 1, 0, none⟩ (.bool L)) = W2 at mx x8  ⊢
  have x4 := mx.row R4.out (by omega)
  have xb := BB.out.trans (mx.below (by omega) BB.out.size)
  clear R8 R4 BB mx
  have R8 := Lib.hid x8
  have R4 := Lib.hid x4
  have BB := Lib.hid xb
  clear x8 x4 xb
  have c0 := HCL.out _ BB.out
  have c8 := row?_cell R8.out 9
  have f8 := row?_frozen R8.out 9
  have hn3 := and3_lt c
  have hw3 : wrap64 ((n8 (c &&& 3) : Nat) : Int) = (n8 (c &&& 3) : Nat) := by unfold wrap64; omega
  have hw4 : wrap64 (((n8 (c &&& 3) : Nat) : Int) + 1) = (n8 (c &&& 3) : Nat) + 1 := by unfold wrap64; omega
  go_wp2_with (with_reducible refine Rw.hold_ops 44 ?_)
  refine Rw.Held.mk ?_
  clear c0 c8 f8 hw3 hw4 hn3
  obtain ⟨nl, hnl⟩ : ∃ nl, n8 (c &&& 3) + 1 = nl := ⟨_, rfl⟩
  rw [show ((n8 (c &&& 3) : Nat) : Int) + 1 = (nl : Nat) by omega]
  have hq := HQ1.out
  rw [hnl] at hq
  have HQ2 := Lib.hid hq
  clear hnl hq HQ1
  have mx : Mut (w.heap.size + 1) W2 (W2.setCell ⟨w.heap.size + 1, 9, none⟩ (.int .i64 (nl : Nat))) := ((Mut.refl _ _).setCell _ _ _)
  have x8 : row? (W2.setCell ⟨w.heap.size + 1, 9, none⟩ (.int .i64 (nl : Nat))) (w.heap.size + 1) = some (hvA L 0 0 (.slice none 0 0) (.slice none 0 0) (.slice none 0 0) false false 0 nl) := by rw [row?_setCell_eq R8.out]; rfl
  generalize (W2.setCell ⟨w.heap.size + 1, 9, none⟩ (.int .i64 (nl : Nat))) = W3 at mx x8  ⊢
  have x4 := mx.row R4.out (by omega)
  have xb := BB.out.trans (mx.below (by omega) BB.out.size)
  clear R8 R4 BB mx
  have R8 := Lib.hid x8
  have R4 := Lib.hid x4
  have BB := Lib.hid xb
  clear x8 x4 xb
  have c0 := HCL.out _ BB.out
  by_cases h64 : c &&& 64 = 0
  ·have hb64 : (c &&& 64 == 0) = true := by rw [h64]; rfl
   have hq := HQ2.out
   rw [if_pos h64] at hq
   have HQ := Lib.hid hq
   have r8 := R8.out
   have r4 := R4.out
   clear hq HQ2 h64
   go_wp2_with fail
   refine bodyPost_ret (results_row4 AgH rfl _ _ w.heap.size (hvA L 0 0 (.slice none 0 0) (.slice none 0 0) (.slice none 0 0) false false 0 nl) rfl ?_ (hvA_size ..)) rfl ?_
   ·first | exact row?_setRow_eq R4.out | (rw [row?_drew]; exact row?_setRow_eq R4.out)
   ·rw [← HQ.out]
    exact ⟨_, _, _, _, _, _, _, _, _, _, _, _, _, _, _, _, rfl, by first | exact BB.out.trans (((Mut.refl _ _).setRow _).below (Nat.le_refl _) BB.out.size) | exact BB.out.trans (((Mut.refl _ _).setRow _).drew.below (Nat.le_refl _) BB.out.size)⟩
  ·have hb64 : (c &&& 64 == 0) = false := by simpa using h64
   have hq := HQ2.out
   rw [if_neg h64] at hq
   have HQ3 := Lib.hid hq
   have c8 := row?_cell R8.out 0
   rw [hvA_0] at c8
   clear hq HQ2 h64
   cases L
   ·have hl128 : c &&& 128 = 0 := by have := HL.out; simpa using this
    have hq := HQ3.out
    rw [if_pos hl128] at hq
    have HQ4 := Lib.hid hq
    clear hq HQ3 hl128
    go_wp2_with fail
    clear c8
    have c86 := row?_cell R8.out 6
    have f86 := row?_frozen R8.out 6
    have c87 := row?_cell R8.out 7
    have f87 := row?_frozen R8.out 7
    have c0a : ∀ v, (W3.setCell ⟨w.heap.size + 1, 6, none⟩ v).cell? ⟨bb, off, none⟩ = some (.int .u8 (n8 c : Nat)) := fun v => HCL.out _ (BB.out.trans (((Mut.refl _ _).setCell _ _ _).below (by omega) BB.out.size))
    go_region
    all_goals (go_wp2_with (with_reducible refine Rw.hold_ops 65 ?_))
    refine Rw.Held.mk ?_
    clear c0 c86 f86 c87 f87 c0a
    have mx : Mut (w.heap.size + 1) W3 (W3.setCell ⟨w.heap.size + 1, 6, none⟩ (.bool (c &&& 32 != 0))) := ((Mut.refl _ _).setCell _ _ _)
    have x8 : row? (W3.setCell ⟨w.heap.size + 1, 6, none⟩ (.bool (c &&& 32 != 0))) (w.heap.size + 1) = some (hvA false 0 0 (.slice none 0 0) (.slice none 0 0) (.slice none 0 0) (c &&& 32 != 0) false 0 nl) := by rw [row?_setCell_eq R8.out]; rfl
    generalize (W3.setCell ⟨w.heap.size + 1, 6, none⟩ (.bool (c &&& 32 != 0))) = W4 at mx x8  ⊢
    have x4 := mx.row R4.out (by omega)
    have xb := BB.out.trans (mx.below (by omega) BB.out.size)
    clear R8 R4 BB mx
    have R8 := Lib.hid x8
    have R4 := Lib.hid x4
    have BB := Lib.hid xb
    clear x8 x4 xb
    have mx : Mut (w.heap.size + 1) W4 (W4.setCell ⟨w.heap.size + 1, 7, none⟩ (.bool (c &&& 4 != 0))).drew := (((Mut.refl _ _).setCell _ _ _)).drew
    have x8 : row? (W4.setCell ⟨w.heap.size + 1, 7, none⟩ (.bool (c &&& 4 != 0))).drew (w.heap.size + 1) = some (hvA false 0 0 (.slice none 0 0) (.slice none 0 0) (.slice none 0 0) (c &&& 32 != 0) (c &&& 4 != 0) 0 nl) := by rw [row?_drew]; rw [row?_setCell_eq R8.out]; rfl
    generalize (W4.setCell ⟨w.heap.size + 1, 7, none⟩ (.bool (c &&& 4 != 0))).drew = W5 at mx x8  ⊢
    have x4 := mx.row R4.out (by omega)
    have xb := BB.out.trans (mx.below (by omega) BB.out.size)
    clear R8 R4 BB mx
    have R8 := Lib.hid x8
    have R4 := Lib.hid x4
    have BB := Lib.hid xb
    clear x8 x4 xb
    have c0 := HCL.out _ BB.out
    by_cases h24 : c &&& 24 = 0
    ·have hb24 : (c &&& 24 != 0) = false := by rw [h24]; rfl
     have hq := HQ4.out
     rw [if_neg (by simp)] at hq
     clear h24
     have HQ5 := Lib.hid hq
     clear hq HQ4
     by_cases h9 : b.length < 9
     ·have hq := HQ5.out
      rw [if_pos h9] at hq
      have HQ := Lib.hid hq
      have hpt : Calls Try.prog 64 #[.slice (some ⟨bb, off, none⟩) b.length cap, .int .i64 1, .int .i64 8] W5 _ := rpart_no b HBL.out 1 8 (by decide) (by decide) (by omega) _ W5 (HSB.out.below BB.out)
      have HPT := Lib.hid hpt
      clear hq HQ5 hpt h9
      go_wp2_with fail
      refine HPT.out.mono ?_
      rintro e w' ⟨rfl, rfl⟩
      clear HPT
      have r8 := R8.out
      have r4 := R4.out
      go_wp2_with fail
      refine bodyPost_ret (results_row4 AgH rfl _ _ w.heap.size (hvA false 0 0 (.slice none 0 0) (.slice none 0 0) (.slice none 0 0) (c &&& 32 != 0) (c &&& 4 != 0) 0 nl) rfl ?_ (hvA_size ..)) rfl ?_
      ·first | exact row?_setRow_eq R4.out | (rw [row?_drew]; exact row?_setRow_eq R4.out)
      ·rw [← HQ.out]
       exact ⟨_, _, _, _, _, _, _, _, _, _, _, _, _, _, _, _, rfl, by first | exact BB.out.trans (((Mut.refl _ _).setRow _).below (Nat.le_refl _) BB.out.size) | exact BB.out.trans (((Mut.refl _ _).setRow _).drew.below (Nat.le_refl _) BB.out.size)⟩
     ·have hq := HQ5.out
      rw [if_neg h9] at hq
      have HQ := Lib.hid hq
      have hpt : Calls Try.prog 64 #[.slice (some ⟨bb, off, none⟩) b.length cap, .int .i64 1, .int .i64 8] W5 _ := rpart_ok b HBL.out 1 8 (by decide) (by decide) (by omega) _ W5 (HSB.out.below BB.out)
      have HPT := Lib.hid hpt
      have hw9 : wrap64 (((b.length : Nat) : Int) - 9) = ((b.length - 9 : Nat) : Int) := by have := HBL.out; unfold wrap64; omega
      have HW9 := Lib.hid hw9
      clear hq HQ5 hpt h9 hw9
      go_wp2_with fail
      refine HPT.out.mono ?_
      rintro e W6 ⟨v6, rfl, o6, b6⟩
      clear HPT c0
      have hq := HQ.out
      obtain ⟨T, hT⟩ : ∃ T, (b.drop 1).take 8 = T := ⟨_, rfl⟩
      rw [hT] at o6 hq
      obtain ⟨a6, k6, rfl, -, -, -⟩ := id (Own.sl o6)
      clear HQ
      have HQ := Lib.hid hq
      clear hq
      have x8 := Rg.stable_row b6 R8.out
      have x4 := Rg.stable_row b6 R4.out
      have xo := own_lower o6 (row?_lt R8.out)
      have xb := BB.out.trans (b6.mono BB.out.size)
      have z6 : w.heap.size + 1 < W6.heap.size := row?_lt x8
      clear R8 R4 BB o6 b6
      have R8 := Lib.hid x8
      have R4 := Lib.hid x4
      have BB := Lib.hid xb
      have O6 := Lib.hid xo
      clear x8 x4 xb xo hT
      have c8 := row?_cell R8.out 3
      have f8 := row?_frozen R8.out 3
      go_wp2_with (with_reducible refine Rw.hold_ops 85 ?_)
      refine Rw.Held.mk ?_
      clear c8 f8
      have mo : Mut (w.heap.size + 1) W6 (W6.setCell ⟨w.heap.size + 1, 3, none⟩ (.slice a6 T.length k6)) := (Mut.refl _ _).setCell _ _ _
      have xo := mo.own O6.out (by omega)
      clear O6 mo
      have mx : Mut (w.heap.size + 1) W6 (W6.setCell ⟨w.heap.size + 1, 3, none⟩ (.slice a6 T.length k6)) := ((Mut.refl _ _).setCell _ _ _)
      have x8 : row? (W6.setCell ⟨w.heap.size + 1, 3, none⟩ (.slice a6 T.length k6)) (w.heap.size + 1) = some (hvA false 0 0 (.slice a6 T.length k6) (.slice none 0 0) (.slice none 0 0) (c &&& 32 != 0) (c &&& 4 != 0) 0 nl) := by rw [row?_setCell_eq R8.out]; rfl
      generalize (W6.setCell ⟨w.heap.size + 1, 3, none⟩ (.slice a6 T.length k6)) = W7 at mx x8 xo ⊢
      have x4 := mx.row R4.out (by omega)
      have xb := BB.out.trans (mx.below (by omega) BB.out.size)
      clear R8 R4 BB mx
      have R8 := Lib.hid x8
      have R4 := Lib.hid x4
      have BB := Lib.hid xb
      clear x8 x4 xb
      have O7 := Lib.hid xo
      clear xo
      have r8 := R8.out
      have r4 := R4.out
      have hw9 := HW9.out
      go_wp2_with fail
      refine bodyPost_ret (results_row4 AgH rfl _ _ w.heap.size (hvA false 0 0 (.slice a6 T.length k6) (.slice none 0 0) (.slice none 0 0) (c &&& 32 != 0) (c &&& 4 != 0) 0 nl) rfl ?_ (hvA_size ..)) rfl ?_
      ·exact row?_setRow_eq R4.out
      ·rw [← HQ.out]
       have mm : Mut w.heap.size W7 (W7.setRow w.heap.size (hvA false 0 0 (.slice a6 T.length k6) (.slice none 0 0) (.slice none 0 0) (c &&& 32 != 0) (c &&& 4 != 0) 0 nl)) := (Mut.refl _ _).setRow _
       exact ⟨.slice a6 T.length k6, .slice none 0 0, .slice none 0 0, congrArg (fun x => Ending.returned (.tuple #[.agg (hvA false 0 0 (.slice a6 T.length k6) (.slice none 0 0) (.slice none 0 0) (c &&& 32 != 0) (c &&& 4 != 0) 0 nl), .int .i64 9, .int .i64 x, .int .i64 0])) hw9, own_lower (mm.own O7.out (by omega)) (by omega), World.ownsRow_nil _ _ _ _, World.ownsRow_nil _ _ _ _, BB.out.trans (mm.below (Nat.le_refl _) BB.out.size)⟩
    ·have hb24 : (c &&& 24 != 0) = true := by simpa using h24
     have hq := HQ4.out
     rw [if_neg (by simp)] at hq
     clear h24
     have HQ5 := Lib.hid hq
     clear hq HQ4
     by_cases h9 : b.length < 9
     ·have hq := HQ5.out
      rw [if_pos h9] at hq
      have HQ := Lib.hid hq
      have hpt : Calls Try.prog 64 #[.slice (some ⟨bb, off, none⟩) b.length cap, .int .i64 1, .int .i64 8] W5 _ := rpart_no b HBL.out 1 8 (by decide) (by decide) (by omega) _ W5 (HSB.out.below BB.out)
      have HPT := Lib.hid hpt
      clear hq HQ5 hpt h9
      go_wp2_with fail
      refine HPT.out.mono ?_
      rintro e w' ⟨rfl, rfl⟩
      clear HPT
      have r8 := R8.out
      have r4 := R4.out
      go_wp2_with fail
      refine bodyPost_ret (results_row4 AgH rfl _ _ w.heap.size (hvA false 0 0 (.slice none 0 0) (.slice none 0 0) (.slice none 0 0) (c &&& 32 != 0) (c &&& 4 != 0) 0 nl) rfl ?_ (hvA_size ..)) rfl ?_
      ·first | exact row?_setRow_eq R4.out | (rw [row?_drew]; exact row?_setRow_eq R4.out)
      ·rw [← HQ.out]
       exact ⟨_, _, _, _, _, _, _, _, _, _, _, _, _, _, _, _, rfl, by first | exact BB.out.trans (((Mut.refl _ _).setRow _).below (Nat.le_refl _) BB.out.size) | exact BB.out.trans (((Mut.refl _ _).setRow _).drew.below (Nat.le_refl _) BB.out.size)⟩
     ·have hq := HQ5.out
      rw [if_neg h9] at hq
      have HQ := Lib.hid hq
      have hpt : Calls Try.prog 64 #[.slice (some ⟨bb, off, none⟩) b.length cap, .int .i64 1, .int .i64 8] W5 _ := rpart_ok b HBL.out 1 8 (by decide) (by decide) (by omega) _ W5 (HSB.out.below BB.out)
      have HPT := Lib.hid hpt
      have hw9 : wrap64 (((b.length : Nat) : Int) - 9) = ((b.length - 9 : Nat) : Int) := by have := HBL.out; unfold wrap64; omega
      have HW9 := Lib.hid hw9
      clear hq HQ5 hpt h9 hw9
      go_wp2_with fail
      refine HPT.out.mono ?_
      rintro e W6 ⟨v6, rfl, o6, b6⟩
      clear HPT c0
      have hq := HQ.out
      obtain ⟨T, hT⟩ : ∃ T, (b.drop 1).take 8 = T := ⟨_, rfl⟩
      rw [hT] at o6 hq
      obtain ⟨a6, k6, rfl, -, -, -⟩ := id (Own.sl o6)
      clear HQ
      have HQ := Lib.hid hq
      clear hq
      have x8 := Rg.stable_row b6 R8.out
      have x4 := Rg.stable_row b6 R4.out
      have xo := own_lower o6 (row?_lt R8.out)
      have xb := BB.out.trans (b6.mono BB.out.size)
      have z6 : w.heap.size + 1 < W6.heap.size := row?_lt x8
      clear R8 R4 BB o6 b6
      have R8 := Lib.hid x8
      have R4 := Lib.hid x4
      have BB := Lib.hid xb
      have O6 := Lib.hid xo
      clear x8 x4 xb xo hT
      have c8 := row?_cell R8.out 3
      have f8 := row?_frozen R8.out 3
      go_wp2_with (with_reducible refine Rw.hold_ops 85 ?_)
      refine Rw.Held.mk ?_
      clear c8 f8
      have mo : Mut (w.heap.size + 1) W6 (W6.setCell ⟨w.heap.size + 1, 3, none⟩ (.slice a6 T.length k6)) := (Mut.refl _ _).setCell _ _ _
      have xo := mo.own O6.out (by omega)
      clear O6 mo
      have mx : Mut (w.heap.size + 1) W6 (W6.setCell ⟨w.heap.size + 1, 3, none⟩ (.slice a6 T.length k6)) := ((Mut.refl _ _).setCell _ _ _)
      have x8 : row? (W6.setCell ⟨w.heap.size + 1, 3, none⟩ (.slice a6 T.length k6)) (w.heap.size + 1) = some (hvA false 0 0 (.slice a6 T.length k6) (.slice none 0 0) (.slice none 0 0) (c &&& 32 != 0) (c &&& 4 != 0) 0 nl) := by rw [row?_setCell_eq R8.out]; rfl
      generalize (W6.setCell ⟨w.heap.size + 1, 3, none⟩ (.slice a6 T.length k6)) = W7 at mx x8 xo ⊢
      have x4 := mx.row R4.out (by omega)
      have xb := BB.out.trans (mx.below (by omega) BB.out.size)
      clear R8 R4 BB mx
      have R8 := Lib.hid x8
      have R4 := Lib.hid x4
      have BB := Lib.hid xb
      clear x8 x4 xb
      have O7 := Lib.hid xo
      clear xo
      have r8 := R8.out
      have r4 := R4.out
      have hw9 := HW9.out
      go_wp2_with fail
      refine bodyPost_ret (results_row4 AgH rfl _ _ w.heap.size (hvA false 0 0 (.slice a6 T.length k6) (.slice none 0 0) (.slice none 0 0) (c &&& 32 != 0) (c &&& 4 != 0) 0 nl) rfl ?_ (hvA_size ..)) rfl ?_
      ·exact row?_setRow_eq R4.out
      ·rw [← HQ.out]
       have mm : Mut w.heap.size W7 (W7.setRow w.heap.size (hvA false 0 0 (.slice a6 T.length k6) (.slice none 0 0) (.slice none 0 0) (c &&& 32 != 0) (c &&& 4 != 0) 0 nl)) := (Mut.refl _ _).setRow _
       exact ⟨.slice a6 T.length k6, .slice none 0 0, .slice none 0 0, congrArg (fun x => Ending.returned (.tuple #[.agg (hvA false 0 0 (.slice a6 T.length k6) (.slice none 0 0) (.slice none 0 0) (c &&& 32 != 0) (c &&& 4 != 0) 0 nl), .int .i64 9, .int .i64 x, .int .i64 0])) hw9, own_lower (mm.own O7.out (by omega)) (by omega), World.ownsRow_nil _ _ _ _, World.ownsRow_nil _ _ _ _, BB.out.trans (mm.below (Nat.le_refl _) BB.out.size)⟩
   ·have hl128 : ¬ (c &&& 128 = 0) := by have := HL.out; simpa using this
    have hq := HQ3.out
    rw [if_neg hl128] at hq
    have HQ4 := Lib.hid hq
    clear hq HQ3 hl128
    have c81 := row?_cell R8.out 1
    have f81 := row?_frozen R8.out 1
    have hwk : wrap64 ((n8 (shr8 c 4 &&& 3) : Nat) : Int) = (n8 (shr8 c 4 &&& 3) : Nat) := by have := kind_bits c; unfold wrap64; omega
    go_wp2_with (with_reducible refine Rw.hold_ops 96 ?_)
    refine Rw.Held.mk ?_
    clear c8 c81 f81 hwk
    have hk4 : n8 c / 16 % 4 < 4 := Nat.mod_lt _ (by decide)
    obtain ⟨k, hk⟩ : ∃ k, n8 c / 16 % 4 = k := ⟨_, rfl⟩
    rw [kind_bits c, hk]
    rw [hk] at hk4
    have hq := HQ4.out
    rw [hk] at hq
    have HQ5 := Lib.hid hq
    clear hq HQ4 hk
    have mx : Mut (w.heap.size + 1) W3 (W3.setCell ⟨w.heap.size + 1, 1, none⟩ (.int .i64 (k : Nat))) := ((Mut.refl _ _).setCell _ _ _)
    have x8 : row? (W3.setCell ⟨w.heap.size + 1, 1, none⟩ (.int .i64 (k : Nat))) (w.heap.size + 1) = some (hvA true k 0 (.slice none 0 0) (.slice none 0 0) (.slice none 0 0) false false 0 nl) := by rw [row?_setCell_eq R8.out]; rfl
    generalize (W3.setCell ⟨w.heap.size + 1, 1, none⟩ (.int .i64 (k : Nat))) = W4 at mx x8  ⊢
    have x4 := mx.row R4.out (by omega)
    have xb := BB.out.trans (mx.below (by omega) BB.out.size)
    clear R8 R4 BB mx
    have R8 := Lib.hid x8
    have R4 := Lib.hid x4
    have BB := Lib.hid xb
    clear x8 x4 xb
    have c0 := HCL.out _ BB.out
    have hkk : k = 0 ∨ k = 1 ∨ k = 2 ∨ k = 3 := by omega
    clear hk4
    rcases hkk with rfl | rfl | rfl | rfl
    ·have c81 : W4.cell? ⟨w.heap.size + 1, 1, none⟩ = some (.int .i64 0) := row?_cell R8.out 1
     by_cases h12 : c &&& 12 = 0
     ·have hb12 : (c &&& 12 != 0) = false := by rw [h12]; rfl
      have hq := HQ5.out
      rw [if_neg (by simp)] at hq
      have HQ6 := Lib.hid hq
      clear hq HQ5 h12
      by_cases h5 : b.length < 5
      ·have hq := HQ6.out
       rw [if_pos h5] at hq
       have HQ := Lib.hid hq
       have hpt : Calls Try.prog 64 #[.slice (some ⟨bb, off, none⟩) b.length cap, .int .i64 1, .int .i64 4] W4 _ := rpart_no b HBL.out 1 4 (by decide) (by decide) (by omega) _ W4 (HSB.out.below BB.out)
       have HPT := Lib.hid hpt
       clear hq HQ6 hpt h5
       go_wp2_with fail
       refine HPT.out.mono ?_
       rintro e w' ⟨rfl, rfl⟩
       clear HPT
       have r8 := R8.out
       have r4 := R4.out
       go_wp2_with fail
       refine bodyPost_ret (results_row4 AgH rfl _ _ w.heap.size (hvA true 0 0 (.slice none 0 0) (.slice none 0 0) (.slice none 0 0) false false 0 nl) rfl ?_ (hvA_size ..)) rfl ?_
       ·first | exact row?_setRow_eq R4.out | (rw [row?_drew]; exact row?_setRow_eq R4.out)
       ·rw [← HQ.out]
        exact ⟨_, _, _, _, _, _, _, _, _, _, _, _, _, _, _, _, rfl, by first | exact BB.out.trans (((Mut.refl _ _).setRow _).below (Nat.le_refl _) BB.out.size) | exact BB.out.trans (((Mut.refl _ _).setRow _).drew.below (Nat.le_refl _) BB.out.size)⟩
      ·have hq := HQ6.out
       rw [if_neg h5] at hq
       have HQ7 := Lib.hid hq
       have H5 := Lib.hid h5
       have hpt : Calls Try.prog 64 #[.slice (some ⟨bb, off, none⟩) b.length cap, .int .i64 1, .int .i64 4] W4 _ := rpart_ok b HBL.out 1 4 (by decide) (by decide) (by omega) _ W4 (HSB.out.below BB.out)
       have HPT := Lib.hid hpt
       clear hq HQ6 hpt h5
       go_wp2_with fail
       refine HPT.out.mono ?_
       rintro e W5 ⟨v5, rfl, o5, b5⟩
       clear HPT c0 c81
       have hT4 : ((b.drop 1).take 4).length = 4 := by have := H5.out; simp; omega
       have hq := HQ7.out
       obtain ⟨T, hT⟩ : ∃ T, (b.drop 1).take 4 = T := ⟨_, rfl⟩
       rw [hT] at o5 hq hT4
       have x8 := Rg.stable_row b5 R8.out
       have x4 := Rg.stable_row b5 R4.out
       have xb := BB.out.trans (b5.mono BB.out.size)
       have st := Own.sl o5
       obtain ⟨a5, k5, rfl, -, -, hp5⟩ := id st
       obtain ⟨b5b, off5, rfl, hcell5⟩ := hp5 (by omega)
       rw [hT4]
       have d0 : W5.cell? ⟨b5b, off5, none⟩ = some (.int .u8 (n8 (nth T 0) : Nat)) := by have := hcell5 0 (by omega); simpa using this
       have d1 : W5.cell? ⟨b5b, off5 + 1, none⟩ = some (.int .u8 (n8 (nth T 1) : Nat)) := hcell5 1 (by omega)
       have d2 : W5.cell? ⟨b5b, off5 + 2, none⟩ = some (.int .u8 (n8 (nth T 2) : Nat)) := hcell5 2 (by omega)
       have d3 : W5.cell? ⟨b5b, off5 + 3, none⟩ = some (.int .u8 (n8 (nth T 3) : Nat)) := hcell5 3 (by omega)
       have HN4 := Lib.hid (num4 hT4)
       clear R8 R4 BB b5 HQ7 hT st hp5 hcell5 o5
       have R8 := Lib.hid x8
       have R4 := Lib.hid x4
       have BB := Lib.hid xb
       have HQ8 := Lib.hid hq
       have c82 := row?_cell R8.out 2
       have f82 := row?_frozen R8.out 2
       clear x8 x4 xb hq
       generalize nth T 0 = e0 at *
       generalize nth T 1 = e1 at *
       generalize nth T 2 = e2 at *
       generalize nth T 3 = e3 at *
       go_wp2_with fail
       refine Rg.wp_region_plan (Rg.row [(0, 3), (1, 3), (2, 0), (3, 3), (4, 3), (5, 3), (6, 3), (7, 0), (8, 3), (9, 3), (10, 3), (11, 3), (12, 3), (13, 0), (14, 3), (15, 3), (16, 3), (17, 3), (18, 3), (19, 0), (20, 3), (21, 3), (22, 3)] [23]) [23] (by kernel_rfl) (by kernel_rfl) ?_
       simp only [Rg.row, Rg.PT.map, List.map_cons, List.map_nil, List.getD_cons_zero, List.getD_cons_succ]
       go_wp2_with (first
        |(with_reducible refine Rg.plan_pure ?_ ?_ ?_); kernel_rfl; kernel_rfl; intro _ _|(with_reducible refine Rg.plan_take ?_ ?_ ?_); kernel_rfl; kernel_rfl; intro _ _|(with_reducible refine Rg.plan_keep ?_ ?_); kernel_rfl; intro K hK|refine hK _ _ (Rg.Keep.refl _) ?_; clear hK|refine hK _ _ (Rg.Keep.of_below (by assumption)) ?_; clear hK|(with_reducible refine Rg.plan_skip ?_ ?_); kernel_rfl|(with_reducible refine Rg.plan_done ?_)|(with_reducible refine Rg.calm_normal ?_))
       clear c82 f82 d0 d1 d2 d3
       rw [ver4 e0 e1 e2 e3, ← HN4.out]
       obtain ⟨ver, hver⟩ : ∃ ver, Hdr.num T = ver := ⟨_, rfl⟩
       rw [hver]
       have hq := HQ8.out
       rw [hver] at hq
       have HQ9 := Lib.hid (show L0 b 0 ver nl 5 = q from hq)
       clear hq HQ8 HN4 hver hT4
       have mx : Mut (w.heap.size + 1) W5 (W5.setCell ⟨w.heap.size + 1, 2, none⟩ (.int .u32 (ver : Nat))).drew := (((Mut.refl _ _).setCell _ _ _)).drew
       have x8 : row? (W5.setCell ⟨w.heap.size + 1, 2, none⟩ (.int .u32 (ver : Nat))).drew (w.heap.size + 1) = some (hvA true 0 ver (.slice none 0 0) (.slice none 0 0) (.slice none 0 0) false false 0 nl) := by rw [row?_drew]; rw [row?_setCell_eq R8.out]; rfl
       generalize (W5.setCell ⟨w.heap.size + 1, 2, none⟩ (.int .u32 (ver : Nat))).drew = W6 at mx x8  ⊢
       have x4 := mx.row R4.out (by omega)
       have xb := BB.out.trans (mx.below (by omega) BB.out.size)
       clear R8 R4 BB mx
       have R8 := Lib.hid x8
       have R4 := Lib.hid x4
       have BB := Lib.hid xb
       clear x8 x4 xb
       go_loopw [13, 14, 15, 16, 17] (fun v13 v14 v15 v16 v17 wr => ∃ (j at_ : Nat) (ad as_ : Option Addr) (dl sl : List UInt8) (kd ks : Nat), j ≤ 2 ∧ v14 = .int .i64 (j : Nat) ∧ v13 = .int .i64 (at_ : Nat) ∧ at_ ≤ b.length ∧ row? wr (w.heap.size + 1) = some (hvA true 0 ver (.slice ad dl.length kd) (.slice as_ sl.length ks) (.slice none 0 0) false false 0 nl) ∧ row? wr w.heap.size = some (hvA false 0 0 (.slice none 0 0) (.slice none 0 0) (.slice none 0 0) false false 0 0) ∧ Below w.heap.size w wr ∧ wr.ownsRow (w.heap.size + 2) 5 1 (.slice ad dl.length kd) dl.length (dl.map bv) ∧ wr.ownsRow (w.heap.size + 2) 5 1 (.slice as_ sl.length ks) sl.length (sl.map bv) ∧ ((j = 0 ∧ L0 b 0 ver nl at_ = q) ∨ (j = 1 ∧ L1 b 0 ver nl dl at_ = q) ∨ (j = 2 ∧ L2 b 0 ver nl dl sl at_ = q))) (fun _ v _ _ _ _ => (2 - intOf v).toNat)
       case atStart => exact ⟨0, 5, none, none, [], [], 0, 0, by omega, rfl, rfl, by have := H5.out; omega, R8.out, R4.out, BB.out, World.ownsRow_nil _ _ _ _, World.ownsRow_nil _ _ _ _, .inl ⟨rfl, HQ9.out⟩⟩
       case round =>
        obtain ⟨j, at_, ad, as_, dl, sl, kd, ks, hj, rfl, rfl, hat, hr8, hr4, hbb, hod, hos, hdoc⟩ := hrel
        clear R8 R4 BB HQ9
        have R8 := Lib.hid hr8
        have R4 := Lib.hid hr4
        have BB := Lib.hid hbb
        have OD := Lib.hid hod
        have OS := Lib.hid hos
        have HAT := Lib.hid hat
        have z8 : w.heap.size + 1 < wr.heap.size := row?_lt hr8
        clear hr8 hr4 hbb hod hos hj c0
        rcases hdoc with ⟨rfl, hq⟩ | ⟨rfl, hq⟩ | ⟨rfl, hq⟩
        ·unfold L0 at hq
         by_cases hA : b.length ≤ at_
         ·have e : lPart b at_ true = .error 3 := by unfold lPart; rw [if_pos hA]
          have hAi : ((b.length : Nat) : Int) ≤ (at_ : Nat) := by omega
          clear hA
          rw [e] at hq
          have HQ := Lib.hid hq
          clear hq e
          have r8 := R8.out
          have r4 := R4.out
          go_wp2_with fail
          refine bodyPost_ret (results_row4 AgH rfl _ _ w.heap.size (hvA true 0 ver (.slice ad dl.length kd) (.slice as_ sl.length ks) (.slice none 0 0) false false 0 nl) rfl ?_ (hvA_size ..)) rfl ?_
          ·first | exact row?_setRow_eq R4.out | (rw [row?_drew]; exact row?_setRow_eq R4.out)
          ·rw [← HQ.out]
           exact ⟨_, _, _, _, _, _, _, _, _, _, _, _, _, _, _, _, rfl, by first | exact BB.out.trans (((Mut.refl _ _).setRow _).below (Nat.le_refl _) BB.out.size) | exact BB.out.trans (((Mut.refl _ _).setRow _).drew.below (Nat.le_refl _) BB.out.size)⟩
         ·have hAi : ¬ ((b.length : Nat) : Int) ≤ (at_ : Nat) := by omega
          have hAj : ((at_ : Nat) : Int) < (b.length : Nat) := by omega
          obtain ⟨n, hn⟩ : ∃ n, n8 (nth b at_) = n := ⟨_, rfl⟩
          have hn256 : n < 256 := by rw [← hn]; exact n8_lt _
          have cA : wr.cell? ⟨bb, off + at_, none⟩ = some (.int .u8 (n : Nat)) := by
           have := HCELL.out at_ (by omega)
           rw [hn] at this
           exact below_cell BB.out this (cell_lt this)
          have hwn : wrap64 ((n : Nat) : Int) = (n : Nat) := by unfold wrap64; omega
          by_cases hB : n = 8
          ·subst hB
           have cA : wr.cell? ⟨bb, off + at_, none⟩ = some (.int .u8 8) := cA
           clear hwn
           have hw1 : wrap64 ((at_ : Int) + 1) = (at_ : Int) + 1 := by have := HBL.out; unfold wrap64; omega
           have hw2 : wrap64 ((at_ : Int) + 1 + 8) = (at_ : Int) + 1 + 8 := by have := HBL.out; unfold wrap64; omega
           have hBd : ¬ ((true = true ∧ 8 ≠ 8) ∨ 20 < 8) := by decide
           have hw3 : wrap64 ((at_ : Int) + 9) = (at_ : Int) + 9 := by have := HBL.out; unfold wrap64; omega
           by_cases hC : b.length < at_ + 1 + 8
           ·have e : lPart b at_ true = .error 3 := by unfold lPart; rw [if_neg hA, hn, if_neg hBd, if_pos hC]
            have hpt : Calls Try.prog 64 #[.slice (some ⟨bb, off, none⟩) b.length cap, .int .i64 ((at_ : Int) + 1), .int .i64 8] wr _ := rpart_no b HBL.out (at_ + 1) 8 (by have := HBL.out; omega) (by omega) hC _ wr (HSB.out.below BB.out)
            rw [e] at hq
            have HQ := Lib.hid hq
            have HPT := Lib.hid hpt
            clear hq e hpt hC hBd  hA hn
            go_wp2_with fail
            refine HPT.out.mono ?_
            rintro e w' ⟨rfl, rfl⟩
            clear HPT
            have r8 := R8.out
            have r4 := R4.out
            go_wp2_with fail
            refine bodyPost_ret (results_row4 AgH rfl _ _ w.heap.size (hvA true 0 ver (.slice ad dl.length kd) (.slice as_ sl.length ks) (.slice none 0 0) false false 0 nl) rfl ?_ (hvA_size ..)) rfl ?_
            ·first | exact row?_setRow_eq R4.out | (rw [row?_drew]; exact row?_setRow_eq R4.out)
            ·rw [← HQ.out]
             exact ⟨_, _, _, _, _, _, _, _, _, _, _, _, _, _, _, _, rfl, by first | exact BB.out.trans (((Mut.refl _ _).setRow _).below (Nat.le_refl _) BB.out.size) | exact BB.out.trans (((Mut.refl _ _).setRow _).drew.below (Nat.le_refl _) BB.out.size)⟩
           ·have e : lPart b at_ true = .ok ((b.drop (at_ + 1)).take 8, at_ + 1 + 8) := by unfold lPart; rw [if_neg hA, hn, if_neg hBd, if_neg hC]
            have hpt : Calls Try.prog 64 #[.slice (some ⟨bb, off, none⟩) b.length cap, .int .i64 ((at_ : Int) + 1), .int .i64 8] wr _ := rpart_ok b HBL.out (at_ + 1) 8 (by have := HBL.out; omega) (by omega) (by omega) _ wr (HSB.out.below BB.out)
            rw [e] at hq
            simp only [] at hq
            obtain ⟨T, hT⟩ : ∃ T, (b.drop (at_ + 1)).take 8 = T := ⟨_, rfl⟩
            rw [hT] at hq hpt
            have HQ := Lib.hid hq
            have HPT := Lib.hid hpt
            have HC' := Lib.hid hC
            clear hq e hpt hC hBd  hA hn hT
            go_wp2_with fail
            refine HPT.out.mono ?_
            rintro e Wn ⟨vn, rfl, on, bn⟩
            obtain ⟨an, kn, rfl, -, -, -⟩ := id (Own.sl on)
            have x8 := Rg.stable_row bn R8.out
            have x4 := Rg.stable_row bn R4.out
            have xb := BB.out.trans (bn.mono BB.out.size)
            have xn := own_lower on (show w.heap.size + 2 ≤ wr.heap.size by omega)
            have xd := own_below bn OD.out
            have xs := own_below bn OS.out
            have zn := bn.size
            clear HPT R8 R4 BB OD OS on bn cA
            have R8 := Lib.hid x8
            have R4 := Lib.hid x4
            have BB := Lib.hid xb
            have OD := Lib.hid xd
            have OS := Lib.hid xs
            have ON := Lib.hid xn
            have c8 := row?_cell R8.out 3
            have f8 := row?_frozen R8.out 3
            clear x8 x4 xb xn xd xs
            go_wp2_with fail
            go_roundw
            case rel =>
             have mm : Mut (w.heap.size + 1) Wn (Wn.setCell ⟨w.heap.size + 1, 3, none⟩ (.slice an T.length kn)) := (Mut.refl _ _).setCell _ _ _
             exact ⟨1, at_ + 1 + 8, an, as_, T, sl, kn, ks, by omega, by first | rfl | go_num, by first | rfl | go_num, by have := HC'.out; omega, by rw [row?_setCell_eq R8.out]; rfl, mm.row R4.out (by omega), BB.out.trans (mm.below (by omega) BB.out.size), mm.own ON.out (by omega), mm.own OS.out (by omega), .inr (.inl ⟨rfl, HQ.out⟩)⟩
            case measure => simp [intOf]
          ·have e : lPart b at_ true = .error 5 := by unfold lPart; rw [if_neg hA, hn, if_pos (.inl ⟨rfl, hB⟩)]
           have hBi : ¬ ((n : Nat) : Int) = 8 := by omega
           clear hB hA
           rw [e] at hq
           have HQ := Lib.hid hq
           clear hq e
           have r8 := R8.out
           have r4 := R4.out
           go_wp2_with fail
           refine bodyPost_ret (results_row4 AgH rfl _ _ w.heap.size (hvA true 0 ver (.slice ad dl.length kd) (.slice as_ sl.length ks) (.slice none 0 0) false false 0 nl) rfl ?_ (hvA_size ..)) rfl ?_
           ·first | exact row?_setRow_eq R4.out | (rw [row?_drew]; exact row?_setRow_eq R4.out)
           ·rw [← HQ.out]
            exact ⟨_, _, _, _, _, _, _, _, _, _, _, _, _, _, _, _, rfl, by first | exact BB.out.trans (((Mut.refl _ _).setRow _).below (Nat.le_refl _) BB.out.size) | exact BB.out.trans (((Mut.refl _ _).setRow _).drew.below (Nat.le_refl _) BB.out.size)⟩
        ·unfold L1 at hq
         by_cases hA : b.length ≤ at_
         ·have e : lPart b at_ false = .error 3 := by unfold lPart; rw [if_pos hA]
          have hAi : ((b.length : Nat) : Int) ≤ (at_ : Nat) := by omega
          clear hA
          rw [e] at hq
          have HQ := Lib.hid hq
          clear hq e
          have r8 := R8.out
          have r4 := R4.out
          go_wp2_with fail
          refine bodyPost_ret (results_row4 AgH rfl _ _ w.heap.size (hvA true 0 ver (.slice ad dl.length kd) (.slice as_ sl.length ks) (.slice none 0 0) false false 0 nl) rfl ?_ (hvA_size ..)) rfl ?_
          ·first | exact row?_setRow_eq R4.out | (rw [row?_drew]; exact row?_setRow_eq R4.out)
          ·rw [← HQ.out]
           exact ⟨_, _, _, _, _, _, _, _, _, _, _, _, _, _, _, _, rfl, by first | exact BB.out.trans (((Mut.refl _ _).setRow _).below (Nat.le_refl _) BB.out.size) | exact BB.out.trans (((Mut.refl _ _).setRow _).drew.below (Nat.le_refl _) BB.out.size)⟩
         ·have hAi : ¬ ((b.length : Nat) : Int) ≤ (at_ : Nat) := by omega
          have hAj : ((at_ : Nat) : Int) < (b.length : Nat) := by omega
          obtain ⟨n, hn⟩ : ∃ n, n8 (nth b at_) = n := ⟨_, rfl⟩
          have hn256 : n < 256 := by rw [← hn]; exact n8_lt _
          have cA : wr.cell? ⟨bb, off + at_, none⟩ = some (.int .u8 (n : Nat)) := by
           have := HCELL.out at_ (by omega)
           rw [hn] at this
           exact below_cell BB.out this (cell_lt this)
          have hwn : wrap64 ((n : Nat) : Int) = (n : Nat) := by unfold wrap64; omega
          by_cases hB : ¬ 20 < n
          ·have hBi : ¬ (20 : Int) < (n : Nat) := by omega
           have hw1 : wrap64 ((at_ : Int) + 1) = (at_ : Int) + 1 := by have := HBL.out; unfold wrap64; omega
           have hw2 : wrap64 ((at_ : Int) + 1 + n) = (at_ : Int) + 1 + n := by have := HBL.out; unfold wrap64; omega
           have hBd : ¬ ((false = true ∧ n ≠ 8) ∨ 20 < n) := by simp; omega
           by_cases hC : b.length < at_ + 1 + n
           ·have e : lPart b at_ false = .error 3 := by unfold lPart; rw [if_neg hA, hn, if_neg hBd, if_pos hC]
            have hpt : Calls Try.prog 64 #[.slice (some ⟨bb, off, none⟩) b.length cap, .int .i64 ((at_ : Int) + 1), .int .i64 (n : Nat)] wr _ := rpart_no b HBL.out (at_ + 1) n (by have := HBL.out; omega) (by omega) hC _ wr (HSB.out.below BB.out)
            rw [e] at hq
            have HQ := Lib.hid hq
            have HPT := Lib.hid hpt
            clear hq e hpt hC hBd hB hA hn
            go_wp2_with fail
            refine HPT.out.mono ?_
            rintro e w' ⟨rfl, rfl⟩
            clear HPT
            have r8 := R8.out
            have r4 := R4.out
            go_wp2_with fail
            refine bodyPost_ret (results_row4 AgH rfl _ _ w.heap.size (hvA true 0 ver (.slice ad dl.length kd) (.slice as_ sl.length ks) (.slice none 0 0) false false 0 nl) rfl ?_ (hvA_size ..)) rfl ?_
            ·first | exact row?_setRow_eq R4.out | (rw [row?_drew]; exact row?_setRow_eq R4.out)
            ·rw [← HQ.out]
             exact ⟨_, _, _, _, _, _, _, _, _, _, _, _, _, _, _, _, rfl, by first | exact BB.out.trans (((Mut.refl _ _).setRow _).below (Nat.le_refl _) BB.out.size) | exact BB.out.trans (((Mut.refl _ _).setRow _).drew.below (Nat.le_refl _) BB.out.size)⟩
           ·have e : lPart b at_ false = .ok ((b.drop (at_ + 1)).take n, at_ + 1 + n) := by unfold lPart; rw [if_neg hA, hn, if_neg hBd, if_neg hC]
            have hpt : Calls Try.prog 64 #[.slice (some ⟨bb, off, none⟩) b.length cap, .int .i64 ((at_ : Int) + 1), .int .i64 (n : Nat)] wr _ := rpart_ok b HBL.out (at_ + 1) n (by have := HBL.out; omega) (by omega) (by omega) _ wr (HSB.out.below BB.out)
            rw [e] at hq
            simp only [] at hq
            obtain ⟨T, hT⟩ : ∃ T, (b.drop (at_ + 1)).take n = T := ⟨_, rfl⟩
            rw [hT] at hq hpt
            have HQ := Lib.hid hq
            have HPT := Lib.hid hpt
            have HC' := Lib.hid hC
            clear hq e hpt hC hBd hB hA hn hT
            go_wp2_with fail
            refine HPT.out.mono ?_
            rintro e Wn ⟨vn, rfl, on, bn⟩
            obtain ⟨an, kn, rfl, -, -, -⟩ := id (Own.sl on)
            have x8 := Rg.stable_row bn R8.out
            have x4 := Rg.stable_row bn R4.out
            have xb := BB.out.trans (bn.mono BB.out.size)
            have xn := own_lower on (show w.heap.size + 2 ≤ wr.heap.size by omega)
            have xd := own_below bn OD.out
            have xs := own_below bn OS.out
            have zn := bn.size
            clear HPT R8 R4 BB OD OS on bn cA
            have R8 := Lib.hid x8
            have R4 := Lib.hid x4
            have BB := Lib.hid xb
            have OD := Lib.hid xd
            have OS := Lib.hid xs
            have ON := Lib.hid xn
            have c8 := row?_cell R8.out 4
            have f8 := row?_frozen R8.out 4
            clear x8 x4 xb xn xd xs
            go_wp2_with fail
            go_roundw
            case rel =>
             have mm : Mut (w.heap.size + 1) Wn (Wn.setCell ⟨w.heap.size + 1, 4, none⟩ (.slice an T.length kn)) := (Mut.refl _ _).setCell _ _ _
             exact ⟨2, at_ + 1 + n, ad, an, dl, T, kd, kn, by omega, by first | rfl | go_num, by first | rfl | go_num, by have := HC'.out; omega, by rw [row?_setCell_eq R8.out]; rfl, mm.row R4.out (by omega), BB.out.trans (mm.below (by omega) BB.out.size), mm.own OD.out (by omega), mm.own ON.out (by omega), .inr (.inr ⟨rfl, HQ.out⟩)⟩
            case measure => simp [intOf]
          ·have e : lPart b at_ false = .error 5 := by unfold lPart; rw [if_neg hA, hn, if_pos (.inr (by omega))]
           have hBi : (20 : Int) < (n : Nat) := by omega
           clear hB hA
           rw [e] at hq
           have HQ := Lib.hid hq
           clear hq e
           have r8 := R8.out
           have r4 := R4.out
           go_wp2_with fail
           refine bodyPost_ret (results_row4 AgH rfl _ _ w.heap.size (hvA true 0 ver (.slice ad dl.length kd) (.slice as_ sl.length ks) (.slice none 0 0) false false 0 nl) rfl ?_ (hvA_size ..)) rfl ?_
           ·first | exact row?_setRow_eq R4.out | (rw [row?_drew]; exact row?_setRow_eq R4.out)
           ·rw [← HQ.out]
            exact ⟨_, _, _, _, _, _, _, _, _, _, _, _, _, _, _, _, rfl, by first | exact BB.out.trans (((Mut.refl _ _).setRow _).below (Nat.le_refl _) BB.out.size) | exact BB.out.trans (((Mut.refl _ _).setRow _).drew.below (Nat.le_refl _) BB.out.size)⟩
        ·have c81 : wr.cell? ⟨w.heap.size + 1, 1, none⟩ = some (.int .i64 0) := row?_cell R8.out 1
         unfold L2 lTok at hq
         rw [if_neg (by decide)] at hq
         have hcut : ∀ W, (Instr.sliceAt 27 (.slice (some ⟨bb, off, none⟩) b.length cap) (some (.int .i64 (at_ : Nat))) none none).run Try.prog W = .ok (.slice (cutA (some ⟨bb, off, none⟩) at_ cap) (b.length - at_) (cap - at_)) W := fun W => by
          rw [cut_l TB W _ _ _ _ _ (by omega) (by have := HAT.out; omega), Int.toNat_natCast]
         have hsc := HSB.out.cut at_ b.length HAT.out (Nat.le_refl _)
         rw [List.take_length] at hsc
         have hv := rvget_any (b.drop at_) (by rw [List.length_drop]; have := HBL.out; omega) _ wr (hsc.below BB.out)
         have hm8 := vget_many8 (b.drop at_)
         have hml := vget_many (b.drop at_)
         rw [List.length_drop] at hml
         obtain ⟨pp, hpp⟩ : ∃ pp, vget (b.drop at_) = pp := ⟨_, rfl⟩
         rw [hpp] at hv hm8 hml hq
         obtain ⟨n1, m1, x1⟩ := pp
         simp only [] at hv hm8 hml hq
         have HV := Lib.hid hv
         have HM8 := Lib.hid hm8
         have HML := Lib.hid hml
         have HQT := Lib.hid hq
         clear hsc hv hm8 hml hq hpp
         go_wp2_with fail
         refine HV.out.mono ?_
         rintro e w' ⟨rfl, rfl⟩
         clear HV hcut c81
         by_cases hx : x1 = 0
         ·subst hx
          have hq := HQT.out
          rw [if_neg (by simp)] at hq
          clear HQT
          by_cases h100 : 100 < n1
          ·rw [if_pos h100] at hq
           have HQ := Lib.hid hq
           have h100i : (100 : Int) < (n1 : Nat) := by omega
           clear hq h100
           have r8 := R8.out
           have r4 := R4.out
           go_wp2_with fail
           refine bodyPost_ret (results_row4 AgH rfl _ _ w.heap.size (hvA true 0 ver (.slice ad dl.length kd) (.slice as_ sl.length ks) (.slice none 0 0) false false 0 nl) rfl ?_ (hvA_size ..)) rfl ?_
           ·first | exact row?_setRow_eq R4.out | (rw [row?_drew]; exact row?_setRow_eq R4.out)
           ·rw [← HQ.out]
            exact ⟨_, _, _, _, _, _, _, _, _, _, _, _, _, _, _, _, rfl, by first | exact BB.out.trans (((Mut.refl _ _).setRow _).below (Nat.le_refl _) BB.out.size) | exact BB.out.trans (((Mut.refl _ _).setRow _).drew.below (Nat.le_refl _) BB.out.size)⟩
          ·rw [if_neg h100] at hq
           have h100i : ¬ (100 : Int) < (n1 : Nat) := by omega
           have hwA : wrap64 ((at_ : Int) + m1) = (at_ : Int) + m1 := by have := HBL.out; have := HAT.out; have := HM8.out; unfold wrap64; omega
           have hwB : wrap64 ((n1 : Nat) : Int) = (n1 : Nat) := by unfold wrap64; omega
           have hwC : wrap64 ((at_ : Int) + m1 + n1) = (at_ : Int) + m1 + n1 := by have := HBL.out; have := HAT.out; have := HM8.out; unfold wrap64; omega
           have HWC := Lib.hid hwC
           have HWB := Lib.hid hwB
           have HWA := Lib.hid hwA
           clear hwC
           by_cases hC : b.length < at_ + m1 + n1
           ·have hpt : Calls Try.prog 64 #[.slice (some ⟨bb, off, none⟩) b.length cap, .int .i64 ((at_ : Int) + m1), .int .i64 (n1 : Nat)] wr _ := rpart_no b HBL.out (at_ + m1) n1 (by have := HBL.out; have := HAT.out; have := HML.out; omega) (by omega) hC _ wr (HSB.out.below BB.out)
            rw [if_pos hC] at hq
            have HQ := Lib.hid hq
            have HPT := Lib.hid hpt
            clear hq hpt hC h100
            go_wp2_with fail
            refine HPT.out.mono ?_
            rintro e w' ⟨rfl, rfl⟩
            clear HPT hwA hwB
            have r8 := R8.out
            have r4 := R4.out
            go_wp2_with fail
            refine bodyPost_ret (results_row4 AgH rfl _ _ w.heap.size (hvA true 0 ver (.slice ad dl.length kd) (.slice as_ sl.length ks) (.slice none 0 0) false false 0 nl) rfl ?_ (hvA_size ..)) rfl ?_
            ·first | exact row?_setRow_eq R4.out | (rw [row?_drew]; exact row?_setRow_eq R4.out)
            ·rw [← HQ.out]
             exact ⟨_, _, _, _, _, _, _, _, _, _, _, _, _, _, _, _, rfl, by first | exact BB.out.trans (((Mut.refl _ _).setRow _).below (Nat.le_refl _) BB.out.size) | exact BB.out.trans (((Mut.refl _ _).setRow _).drew.below (Nat.le_refl _) BB.out.size)⟩
           ·have hpt : Calls Try.prog 64 #[.slice (some ⟨bb, off, none⟩) b.length cap, .int .i64 ((at_ : Int) + m1), .int .i64 (n1 : Nat)] wr _ := rpart_ok b HBL.out (at_ + m1) n1 (by have := HBL.out; have := HAT.out; have := HML.out; omega) (by omega) (by omega) _ wr (HSB.out.below BB.out)
            rw [if_neg hC] at hq
            simp only [] at hq
            obtain ⟨T, hT⟩ : ∃ T, (b.drop (at_ + m1)).take n1 = T := ⟨_, rfl⟩
            obtain ⟨at2, hat2⟩ : ∃ a, at_ + m1 + n1 = a := ⟨_, rfl⟩
            have hat2i : (at_ : Int) + m1 + n1 = (at2 : Nat) := by omega
            have HC' := Lib.hid (show at2 ≤ b.length by omega)
            rw [hT] at hq hpt
            rw [hat2] at hq
            have HQU := Lib.hid hq
            have HPT := Lib.hid hpt
            clear hq hpt hC h100 hT hat2
            go_wp2_with fail
            refine HPT.out.mono ?_
            rintro e Wn ⟨vn, rfl, on, bn⟩
            obtain ⟨an, kn, rfl, -, -, -⟩ := id (Own.sl on)
            have x8 := Rg.stable_row bn R8.out
            have x4 := Rg.stable_row bn R4.out
            have xb := BB.out.trans (bn.mono BB.out.size)
            have xn := own_lower on (show w.heap.size + 2 ≤ wr.heap.size by omega)
            have xd := own_below bn OD.out
            have xs := own_below bn OS.out
            have zn := bn.size
            clear HPT R8 R4 BB OD OS on bn hwA hwB
            have R8 := Lib.hid x8
            have R4 := Lib.hid x4
            have BB := Lib.hid xb
            have OD := Lib.hid xd
            have OS := Lib.hid xs
            have ON := Lib.hid xn
            have c8 := row?_cell R8.out 5
            have f8 := row?_frozen R8.out 5
            have HI2 := Lib.hid hat2i
            clear x8 x4 xb xn xd xs hat2i
            go_wp2_with (with_reducible refine Rw.hold_ops 229 ?_)
            refine Rw.Held.mk ?_
            clear c8 f8
            have hwD : wrap64 ((at2 : Nat) : Int) = (at2 : Nat) := by have := HBL.out; have := HC'.out; unfold wrap64; omega
            simp only [HWA.out, HWB.out, HI2.out, hwD]
            clear hwD
            have mm : Mut (w.heap.size + 1) Wn (Wn.setCell ⟨w.heap.size + 1, 5, none⟩ (.slice an T.length kn)) := (Mut.refl _ _).setCell _ _ _
            have xd := mm.own OD.out (by omega)
            have xs := mm.own OS.out (by omega)
            have xn := mm.own ON.out (by omega)
            clear OD OS ON
            have mx : Mut (w.heap.size + 1) Wn (Wn.setCell ⟨w.heap.size + 1, 5, none⟩ (.slice an T.length kn)) := ((Mut.refl _ _).setCell _ _ _)
            have x8 : row? (Wn.setCell ⟨w.heap.size + 1, 5, none⟩ (.slice an T.length kn)) (w.heap.size + 1) = some (hvA true 0 ver (.slice ad dl.length kd) (.slice as_ sl.length ks) (.slice an T.length kn) false false 0 nl) := by rw [row?_setCell_eq R8.out]; rfl
            generalize (Wn.setCell ⟨w.heap.size + 1, 5, none⟩ (.slice an T.length kn)) = Wm at mx x8 xd xs xn mm ⊢
            have x4 := mx.row R4.out (by omega)
            have xb := BB.out.trans (mx.below (by omega) BB.out.size)
            clear R8 R4 BB mx
            have R8 := Lib.hid x8
            have R4 := Lib.hid x4
            have BB := Lib.hid xb
            clear x8 x4 xb
            have OD := Lib.hid xd
            have OS := Lib.hid xs
            have OT := Lib.hid xn
            have zm := mm.size
            clear xd xs xn mm HWA HWB HWC HM8 HML HAT
            have HAT := HC'
            have hq := HQU.out
            clear HQU HC'
            unfold lTail at hq
            have hcut : ∀ W, (Instr.sliceAt 27 (.slice (some ⟨bb, off, none⟩) b.length cap) (some (.int .i64 (at2 : Nat))) none none).run Try.prog W = .ok (.slice (cutA (some ⟨bb, off, none⟩) at2 cap) (b.length - at2) (cap - at2)) W := fun W => by
             rw [cut_l TB W _ _ _ _ _ (by omega) (by have := HAT.out; omega), Int.toNat_natCast]
            have hsc := HSB.out.cut at2 b.length HAT.out (Nat.le_refl _)
            rw [List.take_length] at hsc
            have hv := rvget_any (b.drop at2) (by rw [List.length_drop]; have := HBL.out; omega) _ Wm (hsc.below BB.out)
            have hm8 := vget_many8 (b.drop at2)
            have hml := vget_many (b.drop at2)
            rw [List.length_drop] at hml
            obtain ⟨pp, hpp⟩ : ∃ pp, vget (b.drop at2) = pp := ⟨_, rfl⟩
            rw [hpp] at hv hm8 hml hq
            obtain ⟨n2, m2, x2⟩ := pp
            simp only [] at hv hm8 hml hq
            have HV := Lib.hid hv
            have HM8 := Lib.hid hm8
            have HML := Lib.hid hml
            have HQT := Lib.hid hq
            clear hsc hv hm8 hml hq hpp
            go_wp2_with fail
            refine HV.out.mono ?_
            rintro e w' ⟨rfl, rfl⟩
            clear HV hcut
            by_cases hx : x2 = 0
            ·subst hx
             have hq := HQT.out
             rw [if_neg (by simp)] at hq
             have HQ := Lib.hid hq
             clear hq HQT
             by_cases h30 : 1073741824 < n2
             ·have h30i : (1073741824 : Int) < (n2 : Nat) := by omega
              have hwt : (1073741824 : Int) = ((min n2 1073741824 : Nat) : Int) := by omega
              have hwa : wrap64 ((at2 : Int) + m2) = ((at2 + m2 : Nat) : Int) := by have := HBL.out; have := HAT.out; have := HM8.out; unfold wrap64; omega
              have HWA := Lib.hid hwa
              have HWT := Lib.hid hwt
              have r8 := R8.out
              have r4 := R4.out
              clear h30 hwt hwa
              go_wp2_with fail
              refine bodyPost_ret (results_row4 AgH rfl _ _ w.heap.size (hvA true 0 ver (.slice ad dl.length kd) (.slice as_ sl.length ks) (.slice an T.length kn) false false 0 nl) rfl ?_ (hvA_size ..)) rfl ?_
              ·exact row?_setRow_eq R4.out
              ·rw [← HQ.out]
               have mm : Mut w.heap.size Wm (Wm.setRow w.heap.size (hvA true 0 ver (.slice ad dl.length kd) (.slice as_ sl.length ks) (.slice an T.length kn) false false 0 nl)) := (Mut.refl _ _).setRow _
               exact ⟨(.slice ad dl.length kd), (.slice as_ sl.length ks), (.slice an T.length kn), congrArg (fun p : Int × Int => Ending.returned (.tuple #[.agg (hvA true 0 ver (.slice ad dl.length kd) (.slice as_ sl.length ks) (.slice an T.length kn) false false 0 nl), .int .i64 p.1, .int .i64 p.2, .int .i64 0])) (Prod.ext (x := ((wrap64 ((at2 : Int) + m2), 1073741824) : Int × Int)) (y := ((((at2 + m2 : Nat) : Int), ((min n2 1073741824 : Nat) : Int)) : Int × Int)) HWA.out HWT.out), own_lower (mm.own OD.out (by omega)) (by omega), own_lower (mm.own OS.out (by omega)) (by omega), own_lower (mm.own OT.out (by omega)) (by omega), BB.out.trans (mm.below (Nat.le_refl _) BB.out.size)⟩
             ·have h30i : ¬ (1073741824 : Int) < (n2 : Nat) := by omega
              have hwt : ((n2 : Nat) : Int) = ((min n2 1073741824 : Nat) : Int) := by omega
              have hwa : wrap64 ((at2 : Int) + m2) = ((at2 + m2 : Nat) : Int) := by have := HBL.out; have := HAT.out; have := HM8.out; unfold wrap64; omega
              have HWA := Lib.hid hwa
              have HWT := Lib.hid hwt
              have r8 := R8.out
              have r4 := R4.out
              clear h30 hwt hwa
              go_wp2_with fail
              refine bodyPost_ret (results_row4 AgH rfl _ _ w.heap.size (hvA true 0 ver (.slice ad dl.length kd) (.slice as_ sl.length ks) (.slice an T.length kn) false false 0 nl) rfl ?_ (hvA_size ..)) rfl ?_
              ·exact row?_setRow_eq R4.out
              ·rw [← HQ.out]
               have mm : Mut w.heap.size Wm (Wm.setRow w.heap.size (hvA true 0 ver (.slice ad dl.length kd) (.slice as_ sl.length ks) (.slice an T.length kn) false false 0 nl)) := (Mut.refl _ _).setRow _
               exact ⟨(.slice ad dl.length kd), (.slice as_ sl.length ks), (.slice an T.length kn), congrArg (fun p : Int × Int => Ending.returned (.tuple #[.agg (hvA true 0 ver (.slice ad dl.length kd) (.slice as_ sl.length ks) (.slice an T.length kn) false false 0 nl), .int .i64 p.1, .int .i64 p.2, .int .i64 0])) (Prod.ext (x := ((wrap64 ((at2 : Int) + m2), ((n2 : Nat) : Int)) : Int × Int)) (y := ((((at2 + m2 : Nat) : Int), ((min n2 1073741824 : Nat) : Int)) : Int × Int)) HWA.out HWT.out), own_lower (mm.own OD.out (by omega)) (by omega), own_lower (mm.own OS.out (by omega)) (by omega), own_lower (mm.own OT.out (by omega)) (by omega), BB.out.trans (mm.below (Nat.le_refl _) BB.out.size)⟩
            ·have hq := HQT.out
             rw [if_pos hx] at hq
             have HQ := Lib.hid hq
             clear hq HQT
             have r8 := R8.out
             have r4 := R4.out
             go_wp2_with fail
             refine bodyPost_ret (results_row4 AgH rfl _ _ w.heap.size (hvA true 0 ver (.slice ad dl.length kd) (.slice as_ sl.length ks) (.slice an T.length kn) false false 0 nl) rfl ?_ (hvA_size ..)) rfl ?_
             ·first | exact row?_setRow_eq R4.out | (rw [row?_drew]; exact row?_setRow_eq R4.out)
             ·rw [← HQ.out]
              exact ⟨_, _, _, _, _, _, _, _, _, _, _, _, _, _, _, _, rfl, by first | exact BB.out.trans (((Mut.refl _ _).setRow _).below (Nat.le_refl _) BB.out.size) | exact BB.out.trans (((Mut.refl _ _).setRow _).drew.below (Nat.le_refl _) BB.out.size)⟩
         ·have hq := HQT.out
          rw [if_pos hx] at hq
          have HQ := Lib.hid hq
          clear hq HQT
          have r8 := R8.out
          have r4 := R4.out
          go_wp2_with fail
          refine bodyPost_ret (results_row4 AgH rfl _ _ w.heap.size (hvA true 0 ver (.slice ad dl.length kd) (.slice as_ sl.length ks) (.slice none 0 0) false false 0 nl) rfl ?_ (hvA_size ..)) rfl ?_
          ·first | exact row?_setRow_eq R4.out | (rw [row?_drew]; exact row?_setRow_eq R4.out)
          ·rw [← HQ.out]
           exact ⟨_, _, _, _, _, _, _, _, _, _, _, _, _, _, _, _, rfl, by first | exact BB.out.trans (((Mut.refl _ _).setRow _).below (Nat.le_refl _) BB.out.size) | exact BB.out.trans (((Mut.refl _ _).setRow _).drew.below (Nat.le_refl _) BB.out.size)⟩
     ·have hb12 : (c &&& 12 != 0) = true := by simpa using h12
      have hq := HQ5.out
      rw [if_neg (by simp)] at hq
      have HQ6 := Lib.hid hq
      clear hq HQ5 h12
      by_cases h5 : b.length < 5
      ·have hq := HQ6.out
       rw [if_pos h5] at hq
       have HQ := Lib.hid hq
       have hpt : Calls Try.prog 64 #[.slice (some ⟨bb, off, none⟩) b.length cap, .int .i64 1, .int .i64 4] W4 _ := rpart_no b HBL.out 1 4 (by decide) (by decide) (by omega) _ W4 (HSB.out.below BB.out)
       have HPT := Lib.hid hpt
       clear hq HQ6 hpt h5
       go_wp2_with fail
       refine HPT.out.mono ?_
       rintro e w' ⟨rfl, rfl⟩
       clear HPT
       have r8 := R8.out
       have r4 := R4.out
       go_wp2_with fail
       refine bodyPost_ret (results_row4 AgH rfl _ _ w.heap.size (hvA true 0 0 (.slice none 0 0) (.slice none 0 0) (.slice none 0 0) false false 0 nl) rfl ?_ (hvA_size ..)) rfl ?_
       ·first | exact row?_setRow_eq R4.out | (rw [row?_drew]; exact row?_setRow_eq R4.out)
       ·rw [← HQ.out]
        exact ⟨_, _, _, _, _, _, _, _, _, _, _, _, _, _, _, _, rfl, by first | exact BB.out.trans (((Mut.refl _ _).setRow _).below (Nat.le_refl _) BB.out.size) | exact BB.out.trans (((Mut.refl _ _).setRow _).drew.below (Nat.le_refl _) BB.out.size)⟩
      ·have hq := HQ6.out
       rw [if_neg h5] at hq
       have HQ7 := Lib.hid hq
       have H5 := Lib.hid h5
       have hpt : Calls Try.prog 64 #[.slice (some ⟨bb, off, none⟩) b.length cap, .int .i64 1, .int .i64 4] W4 _ := rpart_ok b HBL.out 1 4 (by decide) (by decide) (by omega) _ W4 (HSB.out.below BB.out)
       have HPT := Lib.hid hpt
       clear hq HQ6 hpt h5
       go_wp2_with fail
       refine HPT.out.mono ?_
       rintro e W5 ⟨v5, rfl, o5, b5⟩
       clear HPT c0 c81
       have hT4 : ((b.drop 1).take 4).length = 4 := by have := H5.out; simp; omega
       have hq := HQ7.out
       obtain ⟨T, hT⟩ : ∃ T, (b.drop 1).take 4 = T := ⟨_, rfl⟩
       rw [hT] at o5 hq hT4
       have x8 := Rg.stable_row b5 R8.out
       have x4 := Rg.stable_row b5 R4.out
       have xb := BB.out.trans (b5.mono BB.out.size)
       have st := Own.sl o5
       obtain ⟨a5, k5, rfl, -, -, hp5⟩ := id st
       obtain ⟨b5b, off5, rfl, hcell5⟩ := hp5 (by omega)
       rw [hT4]
       have d0 : W5.cell? ⟨b5b, off5, none⟩ = some (.int .u8 (n8 (nth T 0) : Nat)) := by have := hcell5 0 (by omega); simpa using this
       have d1 : W5.cell? ⟨b5b, off5 + 1, none⟩ = some (.int .u8 (n8 (nth T 1) : Nat)) := hcell5 1 (by omega)
       have d2 : W5.cell? ⟨b5b, off5 + 2, none⟩ = some (.int .u8 (n8 (nth T 2) : Nat)) := hcell5 2 (by omega)
       have d3 : W5.cell? ⟨b5b, off5 + 3, none⟩ = some (.int .u8 (n8 (nth T 3) : Nat)) := hcell5 3 (by omega)
       have HN4 := Lib.hid (num4 hT4)
       clear R8 R4 BB b5 HQ7 hT st hp5 hcell5 o5
       have R8 := Lib.hid x8
       have R4 := Lib.hid x4
       have BB := Lib.hid xb
       have HQ8 := Lib.hid hq
       have c82 := row?_cell R8.out 2
       have f82 := row?_frozen R8.out 2
       clear x8 x4 xb hq
       generalize nth T 0 = e0 at *
       generalize nth T 1 = e1 at *
       generalize nth T 2 = e2 at *
       generalize nth T 3 = e3 at *
       go_wp2_with fail
       refine Rg.wp_region_plan (Rg.row [(0, 3), (1, 3), (2, 0), (3, 3), (4, 3), (5, 3), (6, 3), (7, 0), (8, 3), (9, 3), (10, 3), (11, 3), (12, 3), (13, 0), (14, 3), (15, 3), (16, 3), (17, 3), (18, 3), (19, 0), (20, 3), (21, 3), (22, 3)] [23]) [23] (by kernel_rfl) (by kernel_rfl) ?_
       simp only [Rg.row, Rg.PT.map, List.map_cons, List.map_nil, List.getD_cons_zero, List.getD_cons_succ]
       go_wp2_with (first
        |(with_reducible refine Rg.plan_pure ?_ ?_ ?_); kernel_rfl; kernel_rfl; intro _ _|(with_reducible refine Rg.plan_take ?_ ?_ ?_); kernel_rfl; kernel_rfl; intro _ _|(with_reducible refine Rg.plan_keep ?_ ?_); kernel_rfl; intro K hK|refine hK _ _ (Rg.Keep.refl _) ?_; clear hK|refine hK _ _ (Rg.Keep.of_below (by assumption)) ?_; clear hK|(with_reducible refine Rg.plan_skip ?_ ?_); kernel_rfl|(with_reducible refine Rg.plan_done ?_)|(with_reducible refine Rg.calm_normal ?_))
       clear c82 f82 d0 d1 d2 d3
       rw [ver4 e0 e1 e2 e3, ← HN4.out]
       obtain ⟨ver, hver⟩ : ∃ ver, Hdr.num T = ver := ⟨_, rfl⟩
       rw [hver]
       have hq := HQ8.out
       rw [hver] at hq
       have HQ9 := Lib.hid (show L0 b 0 ver nl 5 = q from hq)
       clear hq HQ8 HN4 hver hT4
       have mx : Mut (w.heap.size + 1) W5 (W5.setCell ⟨w.heap.size + 1, 2, none⟩ (.int .u32 (ver : Nat))).drew := (((Mut.refl _ _).setCell _ _ _)).drew
       have x8 : row? (W5.setCell ⟨w.heap.size + 1, 2, none⟩ (.int .u32 (ver : Nat))).drew (w.heap.size + 1) = some (hvA true 0 ver (.slice none 0 0) (.slice none 0 0) (.slice none 0 0) false false 0 nl) := by rw [row?_drew]; rw [row?_setCell_eq R8.out]; rfl
       generalize (W5.setCell ⟨w.heap.size + 1, 2, none⟩ (.int .u32 (ver : Nat))).drew = W6 at mx x8  ⊢
       have x4 := mx.row R4.out (by omega)
       have xb := BB.out.trans (mx.below (by omega) BB.out.size)
       clear R8 R4 BB mx
       have R8 := Lib.hid x8
       have R4 := Lib.hid x4
       have BB := Lib.hid xb
       clear x8 x4 xb
       go_loopw [13, 14, 15, 16, 17] (fun v13 v14 v15 v16 v17 wr => ∃ (j at_ : Nat) (ad as_ : Option Addr) (dl sl : List UInt8) (kd ks : Nat), j ≤ 2 ∧ v14 = .int .i64 (j : Nat) ∧ v13 = .int .i64 (at_ : Nat) ∧ at_ ≤ b.length ∧ row? wr (w.heap.size + 1) = some (hvA true 0 ver (.slice ad dl.length kd) (.slice as_ sl.length ks) (.slice none 0 0) false false 0 nl) ∧ row? wr w.heap.size = some (hvA false 0 0 (.slice none 0 0) (.slice none 0 0) (.slice none 0 0) false false 0 0) ∧ Below w.heap.size w wr ∧ wr.ownsRow (w.heap.size + 2) 5 1 (.slice ad dl.length kd) dl.length (dl.map bv) ∧ wr.ownsRow (w.heap.size + 2) 5 1 (.slice as_ sl.length ks) sl.length (sl.map bv) ∧ ((j = 0 ∧ L0 b 0 ver nl at_ = q) ∨ (j = 1 ∧ L1 b 0 ver nl dl at_ = q) ∨ (j = 2 ∧ L2 b 0 ver nl dl sl at_ = q))) (fun _ v _ _ _ _ => (2 - intOf v).toNat)
       case atStart => exact ⟨0, 5, none, none, [], [], 0, 0, by omega, rfl, rfl, by have := H5.out; omega, R8.out, R4.out, BB.out, World.ownsRow_nil _ _ _ _, World.ownsRow_nil _ _ _ _, .inl ⟨rfl, HQ9.out⟩⟩
       case round =>
        obtain ⟨j, at_, ad, as_, dl, sl, kd, ks, hj, rfl, rfl, hat, hr8, hr4, hbb, hod, hos, hdoc⟩ := hrel
        clear R8 R4 BB HQ9
        have R8 := Lib.hid hr8
        have R4 := Lib.hid hr4
        have BB := Lib.hid hbb
        have OD := Lib.hid hod
        have OS := Lib.hid hos
        have HAT := Lib.hid hat
        have z8 : w.heap.size + 1 < wr.heap.size := row?_lt hr8
        clear hr8 hr4 hbb hod hos hj c0
        rcases hdoc with ⟨rfl, hq⟩ | ⟨rfl, hq⟩ | ⟨rfl, hq⟩
        ·unfold L0 at hq
         by_cases hA : b.length ≤ at_
         ·have e : lPart b at_ true = .error 3 := by unfold lPart; rw [if_pos hA]
          have hAi : ((b.length : Nat) : Int) ≤ (at_ : Nat) := by omega
          clear hA
          rw [e] at hq
          have HQ := Lib.hid hq
          clear hq e
          have r8 := R8.out
          have r4 := R4.out
          go_wp2_with fail
          refine bodyPost_ret (results_row4 AgH rfl _ _ w.heap.size (hvA true 0 ver (.slice ad dl.length kd) (.slice as_ sl.length ks) (.slice none 0 0) false false 0 nl) rfl ?_ (hvA_size ..)) rfl ?_
          ·first | exact row?_setRow_eq R4.out | (rw [row?_drew]; exact row?_setRow_eq R4.out)
          ·rw [← HQ.out]
           exact ⟨_, _, _, _, _, _, _, _, _, _, _, _, _, _, _, _, rfl, by first | exact BB.out.trans (((Mut.refl _ _).setRow _).below (Nat.le_refl _) BB.out.size) | exact BB.out.trans (((Mut.refl _ _).setRow _).drew.below (Nat.le_refl _) BB.out.size)⟩
         ·have hAi : ¬ ((b.length : Nat) : Int) ≤ (at_ : Nat) := by omega
          have hAj : ((at_ : Nat) : Int) < (b.length : Nat) := by omega
          obtain ⟨n, hn⟩ : ∃ n, n8 (nth b at_) = n := ⟨_, rfl⟩
          have hn256 : n < 256 := by rw [← hn]; exact n8_lt _
          have cA : wr.cell? ⟨bb, off + at_, none⟩ = some (.int .u8 (n : Nat)) := by
           have := HCELL.out at_ (by omega)
           rw [hn] at this
           exact below_cell BB.out this (cell_lt this)
          have hwn : wrap64 ((n : Nat) : Int) = (n : Nat) := by unfold wrap64; omega
          by_cases hB : n = 8
          ·subst hB
           have cA : wr.cell? ⟨bb, off + at_, none⟩ = some (.int .u8 8) := cA
           clear hwn
           have hw1 : wrap64 ((at_ : Int) + 1) = (at_ : Int) + 1 := by have := HBL.out; unfold wrap64; omega
           have hw2 : wrap64 ((at_ : Int) + 1 + 8) = (at_ : Int) + 1 + 8 := by have := HBL.out; unfold wrap64; omega
           have hBd : ¬ ((true = true ∧ 8 ≠ 8) ∨ 20 < 8) := by decide
           have hw3 : wrap64 ((at_ : Int) + 9) = (at_ : Int) + 9 := by have := HBL.out; unfold wrap64; omega
           by_cases hC : b.length < at_ + 1 + 8
           ·have e : lPart b at_ true = .error 3 := by unfold lPart; rw [if_neg hA, hn, if_neg hBd, if_pos hC]
            have hpt : Calls Try.prog 64 #[.slice (some ⟨bb, off, none⟩) b.length cap, .int .i64 ((at_ : Int) + 1), .int .i64 8] wr _ := rpart_no b HBL.out (at_ + 1) 8 (by have := HBL.out; omega) (by omega) hC _ wr (HSB.out.below BB.out)
            rw [e] at hq
            have HQ := Lib.hid hq
            have HPT := Lib.hid hpt
            clear hq e hpt hC hBd  hA hn
            go_wp2_with fail
            refine HPT.out.mono ?_
            rintro e w' ⟨rfl, rfl⟩
            clear HPT
            have r8 := R8.out
            have r4 := R4.out
            go_wp2_with fail
            refine bodyPost_ret (results_row4 AgH rfl _ _ w.heap.size (hvA true 0 ver (.slice ad dl.length kd) (.slice as_ sl.length ks) (.slice none 0 0) false false 0 nl) rfl ?_ (hvA_size ..)) rfl ?_
            ·first | exact row?_setRow_eq R4.out | (rw [row?_drew]; exact row?_setRow_eq R4.out)
            ·rw [← HQ.out]
             exact ⟨_, _, _, _, _, _, _, _, _, _, _, _, _, _, _, _, rfl, by first | exact BB.out.trans (((Mut.refl _ _).setRow _).below (Nat.le_refl _) BB.out.size) | exact BB.out.trans (((Mut.refl _ _).setRow _).drew.below (Nat.le_refl _) BB.out.size)⟩
           ·have e : lPart b at_ true = .ok ((b.drop (at_ + 1)).take 8, at_ + 1 + 8) := by unfold lPart; rw [if_neg hA, hn, if_neg hBd, if_neg hC]
            have hpt : Calls Try.prog 64 #[.slice (some ⟨bb, off, none⟩) b.length cap, .int .i64 ((at_ : Int) + 1), .int .i64 8] wr _ := rpart_ok b HBL.out (at_ + 1) 8 (by have := HBL.out; omega) (by omega) (by omega) _ wr (HSB.out.below BB.out)
            rw [e] at hq
            simp only [] at hq
            obtain ⟨T, hT⟩ : ∃ T, (b.drop (at_ + 1)).take 8 = T := ⟨_, rfl⟩
            rw [hT] at hq hpt
            have HQ := Lib.hid hq
            have HPT := Lib.hid hpt
            have HC' := Lib.hid hC
            clear hq e hpt hC hBd  hA hn hT
            go_wp2_with fail
            refine HPT.out.mono ?_
            rintro e Wn ⟨vn, rfl, on, bn⟩
            obtain ⟨an, kn, rfl, -, -, -⟩ := id (Own.sl on)
            have x8 := Rg.stable_row bn R8.out
            have x4 := Rg.stable_row bn R4.out
            have xb := BB.out.trans (bn.mono BB.out.size)
            have xn := own_lower on (show w.heap.size + 2 ≤ wr.heap.size by omega)
            have xd := own_below bn OD.out
            have xs := own_below bn OS.out
            have zn := bn.size
            clear HPT R8 R4 BB OD OS on bn cA
            have R8 := Lib.hid x8
            have R4 := Lib.hid x4
            have BB := Lib.hid xb
            have OD := Lib.hid xd
            have OS := Lib.hid xs
            have ON := Lib.hid xn
            have c8 := row?_cell R8.out 3
            have f8 := row?_frozen R8.out 3
            clear x8 x4 xb xn xd xs
            go_wp2_with fail
            go_roundw
            case rel =>
             have mm : Mut (w.heap.size + 1) Wn (Wn.setCell ⟨w.heap.size + 1, 3, none⟩ (.slice an T.length kn)) := (Mut.refl _ _).setCell _ _ _
             exact ⟨1, at_ + 1 + 8, an, as_, T, sl, kn, ks, by omega, by first | rfl | go_num, by first | rfl | go_num, by have := HC'.out; omega, by rw [row?_setCell_eq R8.out]; rfl, mm.row R4.out (by omega), BB.out.trans (mm.below (by omega) BB.out.size), mm.own ON.out (by omega), mm.own OS.out (by omega), .inr (.inl ⟨rfl, HQ.out⟩)⟩
            case measure => simp [intOf]
          ·have e : lPart b at_ true = .error 5 := by unfold lPart; rw [if_neg hA, hn, if_pos (.inl ⟨rfl, hB⟩)]
           have hBi : ¬ ((n : Nat) : Int) = 8 := by omega
           clear hB hA
           rw [e] at hq
           have HQ := Lib.hid hq
           clear hq e
           have r8 := R8.out
           have r4 := R4.out
           go_wp2_with fail
           refine bodyPost_ret (results_row4 AgH rfl _ _ w.heap.size (hvA true 0 ver (.slice ad dl.length kd) (.slice as_ sl.length ks) (.slice none 0 0) false false 0 nl) rfl ?_ (hvA_size ..)) rfl ?_
           ·first | exact row?_setRow_eq R4.out | (rw [row?_drew]; exact row?_setRow_eq R4.out)
           ·rw [← HQ.out]
            exact ⟨_, _, _, _, _, _, _, _, _, _, _, _, _, _, _, _, rfl, by first | exact BB.out.trans (((Mut.refl _ _).setRow _).below (Nat.le_refl _) BB.out.size) | exact BB.out.trans (((Mut.refl _ _).setRow _).drew.below (Nat.le_refl _) BB.out.size)⟩
        ·unfold L1 at hq
         by_cases hA : b.length ≤ at_
         ·have e : lPart b at_ false = .error 3 := by unfold lPart; rw [if_pos hA]
          have hAi : ((b.length : Nat) : Int) ≤ (at_ : Nat) := by omega
          clear hA
          rw [e] at hq
          have HQ := Lib.hid hq
          clear hq e
          have r8 := R8.out
          have r4 := R4.out
          go_wp2_with fail
          refine bodyPost_ret (results_row4 AgH rfl _ _ w.heap.size (hvA true 0 ver (.slice ad dl.length kd) (.slice as_ sl.length ks) (.slice none 0 0) false false 0 nl) rfl ?_ (hvA_size ..)) rfl ?_
          ·first | exact row?_setRow_eq R4.out | (rw [row?_drew]; exact row?_setRow_eq R4.out)
          ·rw [← HQ.out]
           exact ⟨_, _, _, _, _, _, _, _, _, _, _, _, _, _, _, _, rfl, by first | exact BB.out.trans (((Mut.refl _ _).setRow _).below (Nat.le_refl _) BB.out.size) | exact BB.out.trans (((Mut.refl _ _).setRow _).drew.below (Nat.le_refl _) BB.out.size)⟩
         ·have hAi : ¬ ((b.length : Nat) : Int) ≤ (at_ : Nat) := by omega
          have hAj : ((at_ : Nat) : Int) < (b.length : Nat) := by omega
          obtain ⟨n, hn⟩ : ∃ n, n8 (nth b at_) = n := ⟨_, rfl⟩
          have hn256 : n < 256 := by rw [← hn]; exact n8_lt _
          have cA : wr.cell? ⟨bb, off + at_, none⟩ = some (.int .u8 (n : Nat)) := by
           have := HCELL.out at_ (by omega)
           rw [hn] at this
           exact below_cell BB.out this (cell_lt this)
          have hwn : wrap64 ((n : Nat) : Int) = (n : Nat) := by unfold wrap64; omega
          by_cases hB : ¬ 20 < n
          ·have hBi : ¬ (20 : Int) < (n : Nat) := by omega
           have hw1 : wrap64 ((at_ : Int) + 1) = (at_ : Int) + 1 := by have := HBL.out; unfold wrap64; omega
           have hw2 : wrap64 ((at_ : Int) + 1 + n) = (at_ : Int) + 1 + n := by have := HBL.out; unfold wrap64; omega
           have hBd : ¬ ((false = true ∧ n ≠ 8) ∨ 20 < n) := by simp; omega
           by_cases hC : b.length < at_ + 1 + n
           ·have e : lPart b at_ false = .error 3 := by unfold lPart; rw [if_neg hA, hn, if_neg hBd, if_pos hC]
            have hpt : Calls Try.prog 64 #[.slice (some ⟨bb, off, none⟩) b.length cap, .int .i64 ((at_ : Int) + 1), .int .i64 (n : Nat)] wr _ := rpart_no b HBL.out (at_ + 1) n (by have := HBL.out; omega) (by omega) hC _ wr (HSB.out.below BB.out)
            rw [e] at hq
            have HQ := Lib.hid hq
            have HPT := Lib.hid hpt
            clear hq e hpt hC hBd hB hA hn
            go_wp2_with fail
            refine HPT.out.mono ?_
            rintro e w' ⟨rfl, rfl⟩
            clear HPT
            have r8 := R8.out
            have r4 := R4.out
            go_wp2_with fail
            refine bodyPost_ret (results_row4 AgH rfl _ _ w.heap.size (hvA true 0 ver (.slice ad dl.length kd) (.slice as_ sl.length ks) (.slice none 0 0) false false 0 nl) rfl ?_ (hvA_size ..)) rfl ?_
            ·first | exact row?_setRow_eq R4.out | (rw [row?_drew]; exact row?_setRow_eq R4.out)
            ·rw [← HQ.out]
             exact ⟨_, _, _, _, _, _, _, _, _, _, _, _, _, _, _, _, rfl, by first | exact BB.out.trans (((Mut.refl _ _).setRow _).below (Nat.le_refl _) BB.out.size) | exact BB.out.trans (((Mut.refl _ _).setRow _).drew.below (Nat.le_refl _) BB.out.size)⟩
           ·have e : lPart b at_ false = .ok ((b.drop (at_ + 1)).take n, at_ + 1 + n) := by unfold lPart; rw [if_neg hA, hn, if_neg hBd, if_neg hC]
            have hpt : Calls Try.prog 64 #[.slice (some ⟨bb, off, none⟩) b.length cap, .int .i64 ((at_ : Int) + 1), .int .i64 (n : Nat)] wr _ := rpart_ok b HBL.out (at_ + 1) n (by have := HBL.out; omega) (by omega) (by omega) _ wr (HSB.out.below BB.out)
            rw [e] at hq
            simp only [] at hq
            obtain ⟨T, hT⟩ : ∃ T, (b.drop (at_ + 1)).take n = T := ⟨_, rfl⟩
            rw [hT] at hq hpt
            have HQ := Lib.hid hq
            have HPT := Lib.hid hpt
            have HC' := Lib.hid hC
            clear hq e hpt hC hBd hB hA hn hT
            go_wp2_with fail
            refine HPT.out.mono ?_
            rintro e Wn ⟨vn, rfl, on, bn⟩
            obtain ⟨an, kn, rfl, -, -, -⟩ := id (Own.sl on)
            have x8 := Rg.stable_row bn R8.out
            have x4 := Rg.stable_row bn R4.out
            have xb := BB.out.trans (bn.mono BB.out.size)
            have xn := own_lower on (show w.heap.size + 2 ≤ wr.heap.size by omega)
            have xd := own_below bn OD.out
            have xs := own_below bn OS.out
            have zn := bn.size
            clear HPT R8 R4 BB OD OS on bn cA
            have R8 := Lib.hid x8
            have R4 := Lib.hid x4
            have BB := Lib.hid xb
            have OD := Lib.hid xd
            have OS := Lib.hid xs
            have ON := Lib.hid xn
            have c8 := row?_cell R8.out 4
            have f8 := row?_frozen R8.out 4
            clear x8 x4 xb xn xd xs
            go_wp2_with fail
            go_roundw
            case rel =>
             have mm : Mut (w.heap.size + 1) Wn (Wn.setCell ⟨w.heap.size + 1, 4, none⟩ (.slice an T.length kn)) := (Mut.refl _ _).setCell _ _ _
             exact ⟨2, at_ + 1 + n, ad, an, dl, T, kd, kn, by omega, by first | rfl | go_num, by first | rfl | go_num, by have := HC'.out; omega, by rw [row?_setCell_eq R8.out]; rfl, mm.row R4.out (by omega), BB.out.trans (mm.below (by omega) BB.out.size), mm.own OD.out (by omega), mm.own ON.out (by omega), .inr (.inr ⟨rfl, HQ.out⟩)⟩
            case measure => simp [intOf]
          ·have e : lPart b at_ false = .error 5 := by unfold lPart; rw [if_neg hA, hn, if_pos (.inr (by omega))]
           have hBi : (20 : Int) < (n : Nat) := by omega
           clear hB hA
           rw [e] at hq
           have HQ := Lib.hid hq
           clear hq e
           have r8 := R8.out
           have r4 := R4.out
           go_wp2_with fail
           refine bodyPost_ret (results_row4 AgH rfl _ _ w.heap.size (hvA true 0 ver (.slice ad dl.length kd) (.slice as_ sl.length ks) (.slice none 0 0) false false 0 nl) rfl ?_ (hvA_size ..)) rfl ?_
           ·first | exact row?_setRow_eq R4.out | (rw [row?_drew]; exact row?_setRow_eq R4.out)
           ·rw [← HQ.out]
            exact ⟨_, _, _, _, _, _, _, _, _, _, _, _, _, _, _, _, rfl, by first | exact BB.out.trans (((Mut.refl _ _).setRow _).below (Nat.le_refl _) BB.out.size) | exact BB.out.trans (((Mut.refl _ _).setRow _).drew.below (Nat.le_refl _) BB.out.size)⟩
        ·have c81 : wr.cell? ⟨w.heap.size + 1, 1, none⟩ = some (.int .i64 0) := row?_cell R8.out 1
         unfold L2 lTok at hq
         rw [if_neg (by decide)] at hq
         have hcut : ∀ W, (Instr.sliceAt 27 (.slice (some ⟨bb, off, none⟩) b.length cap) (some (.int .i64 (at_ : Nat))) none none).run Try.prog W = .ok (.slice (cutA (some ⟨bb, off, none⟩) at_ cap) (b.length - at_) (cap - at_)) W := fun W => by
          rw [cut_l TB W _ _ _ _ _ (by omega) (by have := HAT.out; omega), Int.toNat_natCast]
         have hsc := HSB.out.cut at_ b.length HAT.out (Nat.le_refl _)
         rw [List.take_length] at hsc
         have hv := rvget_any (b.drop at_) (by rw [List.length_drop]; have := HBL.out; omega) _ wr (hsc.below BB.out)
         have hm8 := vget_many8 (b.drop at_)
         have hml := vget_many (b.drop at_)
         rw [List.length_drop] at hml
         obtain ⟨pp, hpp⟩ : ∃ pp, vget (b.drop at_) = pp := ⟨_, rfl⟩
         rw [hpp] at hv hm8 hml hq
         obtain ⟨n1, m1, x1⟩ := pp
         simp only [] at hv hm8 hml hq
         have HV := Lib.hid hv
         have HM8 := Lib.hid hm8
         have HML := Lib.hid hml
         have HQT := Lib.hid hq
         clear hsc hv hm8 hml hq hpp
         go_wp2_with fail
         refine HV.out.mono ?_
         rintro e w' ⟨rfl, rfl⟩
         clear HV hcut c81
         by_cases hx : x1 = 0
         ·subst hx
          have hq := HQT.out
          rw [if_neg (by simp)] at hq
          clear HQT
          by_cases h100 : 100 < n1
          ·rw [if_pos h100] at hq
           have HQ := Lib.hid hq
           have h100i : (100 : Int) < (n1 : Nat) := by omega
           clear hq h100
           have r8 := R8.out
           have r4 := R4.out
           go_wp2_with fail
           refine bodyPost_ret (results_row4 AgH rfl _ _ w.heap.size (hvA true 0 ver (.slice ad dl.length kd) (.slice as_ sl.length ks) (.slice none 0 0) false false 0 nl) rfl ?_ (hvA_size ..)) rfl ?_
           ·first | exact row?_setRow_eq R4.out | (rw [row?_drew]; exact row?_setRow_eq R4.out)
           ·rw [← HQ.out]
            exact ⟨_, _, _, _, _, _, _, _, _, _, _, _, _, _, _, _, rfl, by first | exact BB.out.trans (((Mut.refl _ _).setRow _).below (Nat.le_refl _) BB.out.size) | exact BB.out.trans (((Mut.refl _ _).setRow _).drew.below (Nat.le_refl _) BB.out.size)⟩
          ·rw [if_neg h100] at hq
           have h100i : ¬ (100 : Int) < (n1 : Nat) := by omega
           have hwA : wrap64 ((at_ : Int) + m1) = (at_ : Int) + m1 := by have := HBL.out; have := HAT.out; have := HM8.out; unfold wrap64; omega
           have hwB : wrap64 ((n1 : Nat) : Int) = (n1 : Nat) := by unfold wrap64; omega
           have hwC : wrap64 ((at_ : Int) + m1 + n1) = (at_ : Int) + m1 + n1 := by have := HBL.out; have := HAT.out; have := HM8.out; unfold wrap64; omega
           have HWC := Lib.hid hwC
           have HWB := Lib.hid hwB
           have HWA := Lib.hid hwA
           clear hwC
           by_cases hC : b.length < at_ + m1 + n1
           ·have hpt : Calls Try.prog 64 #[.slice (some ⟨bb, off, none⟩) b.length cap, .int .i64 ((at_ : Int) + m1), .int .i64 (n1 : Nat)] wr _ := rpart_no b HBL.out (at_ + m1) n1 (by have := HBL.out; have := HAT.out; have := HML.out; omega) (by omega) hC _ wr (HSB.out.below BB.out)
            rw [if_pos hC] at hq
            have HQ := Lib.hid hq
            have HPT := Lib.hid hpt
            clear hq hpt hC h100
            go_wp2_with fail
            refine HPT.out.mono ?_
            rintro e w' ⟨rfl, rfl⟩
            clear HPT hwA hwB
            have r8 := R8.out
            have r4 := R4.out
            go_wp2_with fail
            refine bodyPost_ret (results_row4 AgH rfl _ _ w.heap.size (hvA true 0 ver (.slice ad dl.length kd) (.slice as_ sl.length ks) (.slice none 0 0) false false 0 nl) rfl ?_ (hvA_size ..)) rfl ?_
            ·first | exact row?_setRow_eq R4.out | (rw [row?_drew]; exact row?_setRow_eq R4.out)
            ·rw [← HQ.out]
             exact ⟨_, _, _, _, _, _, _, _, _, _, _, _, _, _, _, _, rfl, by first | exact BB.out.trans (((Mut.refl _ _).setRow _).below (Nat.le_refl _) BB.out.size) | exact BB.out.trans (((Mut.refl _ _).setRow _).drew.below (Nat.le_refl _) BB.out.size)⟩
           ·have hpt : Calls Try.prog 64 #[.slice (some ⟨bb, off, none⟩) b.length cap, .int .i64 ((at_ : Int) + m1), .int .i64 (n1 : Nat)] wr _ := rpart_ok b HBL.out (at_ + m1) n1 (by have := HBL.out; have := HAT.out; have := HML.out; omega) (by omega) (by omega) _ wr (HSB.out.below BB.out)
            rw [if_neg hC] at hq
            simp only [] at hq
            obtain ⟨T, hT⟩ : ∃ T, (b.drop (at_ + m1)).take n1 = T := ⟨_, rfl⟩
            obtain ⟨at2, hat2⟩ : ∃ a, at_ + m1 + n1 = a := ⟨_, rfl⟩
            have hat2i : (at_ : Int) + m1 + n1 = (at2 : Nat) := by omega
            have HC' := Lib.hid (show at2 ≤ b.length by omega)
            rw [hT] at hq hpt
            rw [hat2] at hq
            have HQU := Lib.hid hq
            have HPT := Lib.hid hpt
            clear hq hpt hC h100 hT hat2
            go_wp2_with fail
            refine HPT.out.mono ?_
            rintro e Wn ⟨vn, rfl, on, bn⟩
            obtain ⟨an, kn, rfl, -, -, -⟩ := id (Own.sl on)
            have x8 := Rg.stable_row bn R8.out
            have x4 := Rg.stable_row bn R4.out
            have xb := BB.out.trans (bn.mono BB.out.size)
            have xn := own_lower on (show w.heap.size + 2 ≤ wr.heap.size by omega)
            have xd := own_below bn OD.out
            have xs := own_below bn OS.out
            have zn := bn.size
            clear HPT R8 R4 BB OD OS on bn hwA hwB
            have R8 := Lib.hid x8
            have R4 := Lib.hid x4
            have BB := Lib.hid xb
            have OD := Lib.hid xd
            have OS := Lib.hid xs
            have ON := Lib.hid xn
            have c8 := row?_cell R8.out 5
            have f8 := row?_frozen R8.out 5
            have HI2 := Lib.hid hat2i
            clear x8 x4 xb xn xd xs hat2i
            go_wp2_with (with_reducible refine Rw.hold_ops 229 ?_)
            refine Rw.Held.mk ?_
            clear c8 f8
            have hwD : wrap64 ((at2 : Nat) : Int) = (at2 : Nat) := by have := HBL.out; have := HC'.out; unfold wrap64; omega
            simp only [HWA.out, HWB.out, HI2.out, hwD]
            clear hwD
            have mm : Mut (w.heap.size + 1) Wn (Wn.setCell ⟨w.heap.size + 1, 5, none⟩ (.slice an T.length kn)) := (Mut.refl _ _).setCell _ _ _
            have xd := mm.own OD.out (by omega)
            have xs := mm.own OS.out (by omega)
            have xn := mm.own ON.out (by omega)
            clear OD OS ON
            have mx : Mut (w.heap.size + 1) Wn (Wn.setCell ⟨w.heap.size + 1, 5, none⟩ (.slice an T.length kn)) := ((Mut.refl _ _).setCell _ _ _)
            have x8 : row? (Wn.setCell ⟨w.heap.size + 1, 5, none⟩ (.slice an T.length kn)) (w.heap.size + 1) = some (hvA true 0 ver (.slice ad dl.length kd) (.slice as_ sl.length ks) (.slice an T.length kn) false false 0 nl) := by rw [row?_setCell_eq R8.out]; rfl
            generalize (Wn.setCell ⟨w.heap.size + 1, 5, none⟩ (.slice an T.length kn)) = Wm at mx x8 xd xs xn mm ⊢
            have x4 := mx.row R4.out (by omega)
            have xb := BB.out.trans (mx.below (by omega) BB.out.size)
            clear R8 R4 BB mx
            have R8 := Lib.hid x8
            have R4 := Lib.hid x4
            have BB := Lib.hid xb
            clear x8 x4 xb
            have OD := Lib.hid xd
            have OS := Lib.hid xs
            have OT := Lib.hid xn
            have zm := mm.size
            clear xd xs xn mm HWA HWB HWC HM8 HML HAT
            have HAT := HC'
            have hq := HQU.out
            clear HQU HC'
            unfold lTail at hq
            have hcut : ∀ W, (Instr.sliceAt 27 (.slice (some ⟨bb, off, none⟩) b.length cap) (some (.int .i64 (at2 : Nat))) none none).run Try.prog W = .ok (.slice (cutA (some ⟨bb, off, none⟩) at2 cap) (b.length - at2) (cap - at2)) W := fun W => by
             rw [cut_l TB W _ _ _ _ _ (by omega) (by have := HAT.out; omega), Int.toNat_natCast]
            have hsc := HSB.out.cut at2 b.length HAT.out (Nat.le_refl _)
            rw [List.take_length] at hsc
            have hv := rvget_any (b.drop at2) (by rw [List.length_drop]; have := HBL.out; omega) _ Wm (hsc.below BB.out)
            have hm8 := vget_many8 (b.drop at2)
            have hml := vget_many (b.drop at2)
            rw [List.length_drop] at hml
            obtain ⟨pp, hpp⟩ : ∃ pp, vget (b.drop at2) = pp := ⟨_, rfl⟩
            rw [hpp] at hv hm8 hml hq
            obtain ⟨n2, m2, x2⟩ := pp
            simp only [] at hv hm8 hml hq
            have HV := Lib.hid hv
            have HM8 := Lib.hid hm8
            have HML := Lib.hid hml
            have HQT := Lib.hid hq
            clear hsc hv hm8 hml hq hpp
            go_wp2_with fail
            refine HV.out.mono ?_
            rintro e w' ⟨rfl, rfl⟩
            clear HV hcut
            by_cases hx : x2 = 0
            ·subst hx
             have hq := HQT.out
             rw [if_neg (by simp)] at hq
             have HQ := Lib.hid hq
             clear hq HQT
             by_cases h30 : 1073741824 < n2
             ·have h30i : (1073741824 : Int) < (n2 : Nat) := by omega
              have hwt : (1073741824 : Int) = ((min n2 1073741824 : Nat) : Int) := by omega
              have hwa : wrap64 ((at2 : Int) + m2) = ((at2 + m2 : Nat) : Int) := by have := HBL.out; have := HAT.out; have := HM8.out; unfold wrap64; omega
              have HWA := Lib.hid hwa
              have HWT := Lib.hid hwt
              have r8 := R8.out
              have r4 := R4.out
              clear h30 hwt hwa
              go_wp2_with fail
              refine bodyPost_ret (results_row4 AgH rfl _ _ w.heap.size (hvA true 0 ver (.slice ad dl.length kd) (.slice as_ sl.length ks) (.slice an T.length kn) false false 0 nl) rfl ?_ (hvA_size ..)) rfl ?_
              ·exact row?_setRow_eq R4.out
              ·rw [← HQ.out]
               have mm : Mut w.heap.size Wm (Wm.setRow w.heap.size (hvA true 0 ver (.slice ad dl.length kd) (.slice as_ sl.length ks) (.slice an T.length kn) false false 0 nl)) := (Mut.refl _ _).setRow _
               exact ⟨(.slice ad dl.length kd), (.slice as_ sl.length ks), (.slice an T.length kn), congrArg (fun p : Int × Int => Ending.returned (.tuple #[.agg (hvA true 0 ver (.slice ad dl.length kd) (.slice as_ sl.length ks) (.slice an T.length kn) false false 0 nl), .int .i64 p.1, .int .i64 p.2, .int .i64 0])) (Prod.ext (x := ((wrap64 ((at2 : Int) + m2), 1073741824) : Int × Int)) (y := ((((at2 + m2 : Nat) : Int), ((min n2 1073741824 : Nat) : Int)) : Int × Int)) HWA.out HWT.out), own_lower (mm.own OD.out (by omega)) (by omega), own_lower (mm.own OS.out (by omega)) (by omega), own_lower (mm.own OT.out (by omega)) (by omega), BB.out.trans (mm.below (Nat.le_refl _) BB.out.size)⟩
             ·have h30i : ¬ (1073741824 : Int) < (n2 : Nat) := by omega
              have hwt : ((n2 : Nat) : Int) = ((min n2 1073741824 : Nat) : Int) := by omega
              have hwa : wrap64 ((at2 : Int) + m2) = ((at2 + m2 : Nat) : Int) := by have := HBL.out; have := HAT.out; have := HM8.out; unfold wrap64; omega
              have HWA := Lib.hid hwa
              have HWT := Lib.hid hwt
              have r8 := R8.out
              have r4 := R4.out
              clear h30 hwt hwa
              go_wp2_with fail
              refine bodyPost_ret (results_row4 AgH rfl _ _ w.heap.size (hvA true 0 ver (.slice ad dl.length kd) (.slice as_ sl.length ks) (.slice an T.length kn) false false 0 nl) rfl ?_ (hvA_size ..)) rfl ?_
              ·exact row?_setRow_eq R4.out
              ·rw [← HQ.out]
               have mm : Mut w.heap.size Wm (Wm.setRow w.heap.size (hvA true 0 ver (.slice ad dl.length kd) (.slice as_ sl.length ks) (.slice an T.length kn) false false 0 nl)) := (Mut.refl _ _).setRow _
               exact ⟨(.slice ad dl.length kd), (.slice as_ sl.length ks), (.slice an T.length kn), congrArg (fun p : Int × Int => Ending.returned (.tuple #[.agg (hvA true 0 ver (.slice ad dl.length kd) (.slice as_ sl.length ks) (.slice an T.length kn) false false 0 nl), .int .i64 p.1, .int .i64 p.2, .int .i64 0])) (Prod.ext (x := ((wrap64 ((at2 : Int) + m2), ((n2 : Nat) : Int)) : Int × Int)) (y := ((((at2 + m2 : Nat) : Int), ((min n2 1073741824 : Nat) : Int)) : Int × Int)) HWA.out HWT.out), own_lower (mm.own OD.out (by omega)) (by omega), own_lower (mm.own OS.out (by omega)) (by omega), own_lower (mm.own OT.out (by omega)) (by omega), BB.out.trans (mm.below (Nat.le_refl _) BB.out.size)⟩
            ·have hq := HQT.out
             rw [if_pos hx] at hq
             have HQ := Lib.hid hq
             clear hq HQT
             have r8 := R8.out
             have r4 := R4.out
             go_wp2_with fail
             refine bodyPost_ret (results_row4 AgH rfl _ _ w.heap.size (hvA true 0 ver (.slice ad dl.length kd) (.slice as_ sl.length ks) (.slice an T.length kn) false false 0 nl) rfl ?_ (hvA_size ..)) rfl ?_
             ·first | exact row?_setRow_eq R4.out | (rw [row?_drew]; exact row?_setRow_eq R4.out)
             ·rw [← HQ.out]
              exact ⟨_, _, _, _, _, _, _, _, _, _, _, _, _, _, _, _, rfl, by first | exact BB.out.trans (((Mut.refl _ _).setRow _).below (Nat.le_refl _) BB.out.size) | exact BB.out.trans (((Mut.refl _ _).setRow _).drew.below (Nat.le_refl _) BB.out.size)⟩
         ·have hq := HQT.out
          rw [if_pos hx] at hq
          have HQ := Lib.hid hq
          clear hq HQT
          have r8 := R8.out
          have r4 := R4.out
          go_wp2_with fail
          refine bodyPost_ret (results_row4 AgH rfl _ _ w.heap.size (hvA true 0 ver (.slice ad dl.length kd) (.slice as_ sl.length ks) (.slice none 0 0) false false 0 nl) rfl ?_ (hvA_size ..)) rfl ?_
          ·first | exact row?_setRow_eq R4.out | (rw [row?_drew]; exact row?_setRow_eq R4.out)
          ·rw [← HQ.out]
           exact ⟨_, _, _, _, _, _, _, _, _, _, _, _, _, _, _, _, rfl, by first | exact BB.out.trans (((Mut.refl _ _).setRow _).below (Nat.le_refl _) BB.out.size) | exact BB.out.trans (((Mut.refl _ _).setRow _).drew.below (Nat.le_refl _) BB.out.size)⟩
    ·have hq := HQ5.out
     rw [if_pos (.inl rfl)] at hq
     have HQ := Lib.hid hq
     have c81 : W4.cell? ⟨w.heap.size + 1, 1, none⟩ = some (.int .i64 1) := row?_cell R8.out 1
     clear hq HQ5
     have r8 := R8.out
     have r4 := R4.out
     go_wp2_with fail
     refine bodyPost_ret (results_row4 AgH rfl _ _ w.heap.size (hvA true 1 0 (.slice none 0 0) (.slice none 0 0) (.slice none 0 0) false false 0 nl) rfl ?_ (hvA_size ..)) rfl ?_
     ·first | exact row?_setRow_eq R4.out | (rw [row?_drew]; exact row?_setRow_eq R4.out)
     ·rw [← HQ.out]
      exact ⟨_, _, _, _, _, _, _, _, _, _, _, _, _, _, _, _, rfl, by first | exact BB.out.trans (((Mut.refl _ _).setRow _).below (Nat.le_refl _) BB.out.size) | exact BB.out.trans (((Mut.refl _ _).setRow _).drew.below (Nat.le_refl _) BB.out.size)⟩
    ·have c81 : W4.cell? ⟨w.heap.size + 1, 1, none⟩ = some (.int .i64 2) := row?_cell R8.out 1
     by_cases h12 : c &&& 12 = 0
     ·have hb12 : (c &&& 12 != 0) = false := by rw [h12]; rfl
      have hq := HQ5.out
      rw [if_neg (by simp)] at hq
      have HQ6 := Lib.hid hq
      clear hq HQ5 h12
      by_cases h5 : b.length < 5
      ·have hq := HQ6.out
       rw [if_pos h5] at hq
       have HQ := Lib.hid hq
       have hpt : Calls Try.prog 64 #[.slice (some ⟨bb, off, none⟩) b.length cap, .int .i64 1, .int .i64 4] W4 _ := rpart_no b HBL.out 1 4 (by decide) (by decide) (by omega) _ W4 (HSB.out.below BB.out)
       have HPT := Lib.hid hpt
       clear hq HQ6 hpt h5
       go_wp2_with fail
       refine HPT.out.mono ?_
       rintro e w' ⟨rfl, rfl⟩
       clear HPT
       have r8 := R8.out
       have r4 := R4.out
       go_wp2_with fail
       refine bodyPost_ret (results_row4 AgH rfl _ _ w.heap.size (hvA true 2 0 (.slice none 0 0) (.slice none 0 0) (.slice none 0 0) false false 0 nl) rfl ?_ (hvA_size ..)) rfl ?_
       ·first | exact row?_setRow_eq R4.out | (rw [row?_drew]; exact row?_setRow_eq R4.out)
       ·rw [← HQ.out]
        exact ⟨_, _, _, _, _, _, _, _, _, _, _, _, _, _, _, _, rfl, by first | exact BB.out.trans (((Mut.refl _ _).setRow _).below (Nat.le_refl _) BB.out.size) | exact BB.out.trans (((Mut.refl _ _).setRow _).drew.below (Nat.le_refl _) BB.out.size)⟩
      ·have hq := HQ6.out
       rw [if_neg h5] at hq
       have HQ7 := Lib.hid hq
       have H5 := Lib.hid h5
       have hpt : Calls Try.prog 64 #[.slice (some ⟨bb, off, none⟩) b.length cap, .int .i64 1, .int .i64 4] W4 _ := rpart_ok b HBL.out 1 4 (by decide) (by decide) (by omega) _ W4 (HSB.out.below BB.out)
       have HPT := Lib.hid hpt
       clear hq HQ6 hpt h5
       go_wp2_with fail
       refine HPT.out.mono ?_
       rintro e W5 ⟨v5, rfl, o5, b5⟩
       clear HPT c0 c81
       have hT4 : ((b.drop 1).take 4).length = 4 := by have := H5.out; simp; omega
       have hq := HQ7.out
       obtain ⟨T, hT⟩ : ∃ T, (b.drop 1).take 4 = T := ⟨_, rfl⟩
       rw [hT] at o5 hq hT4
       have x8 := Rg.stable_row b5 R8.out
       have x4 := Rg.stable_row b5 R4.out
       have xb := BB.out.trans (b5.mono BB.out.size)
       have st := Own.sl o5
       obtain ⟨a5, k5, rfl, -, -, hp5⟩ := id st
       obtain ⟨b5b, off5, rfl, hcell5⟩ := hp5 (by omega)
       rw [hT4]
       have d0 : W5.cell? ⟨b5b, off5, none⟩ = some (.int .u8 (n8 (nth T 0) : Nat)) := by have := hcell5 0 (by omega); simpa using this
       have d1 : W5.cell? ⟨b5b, off5 + 1, none⟩ = some (.int .u8 (n8 (nth T 1) : Nat)) := hcell5 1 (by omega)
       have d2 : W5.cell? ⟨b5b, off5 + 2, none⟩ = some (.int .u8 (n8 (nth T 2) : Nat)) := hcell5 2 (by omega)
       have d3 : W5.cell? ⟨b5b, off5 + 3, none⟩ = some (.int .u8 (n8 (nth T 3) : Nat)) := hcell5 3 (by omega)
       have HN4 := Lib.hid (num4 hT4)
       clear R8 R4 BB b5 HQ7 hT st hp5 hcell5 o5
       have R8 := Lib.hid x8
       have R4 := Lib.hid x4
       have BB := Lib.hid xb
       have HQ8 := Lib.hid hq
       have c82 := row?_cell R8.out 2
       have f82 := row?_frozen R8.out 2
       clear x8 x4 xb hq
       generalize nth T 0 = e0 at *
       generalize nth T 1 = e1 at *
       generalize nth T 2 = e2 at *
       generalize nth T 3 = e3 at *
       go_wp2_with fail
       refine Rg.wp_region_plan (Rg.row [(0, 3), (1, 3), (2, 0), (3, 3), (4, 3), (5, 3), (6, 3), (7, 0), (8, 3), (9, 3), (10, 3), (11, 3), (12, 3), (13, 0), (14, 3), (15, 3), (16, 3), (17, 3), (18, 3), (19, 0), (20, 3), (21, 3), (22, 3)] [23]) [23] (by kernel_rfl) (by kernel_rfl) ?_
       simp only [Rg.row, Rg.PT.map, List.map_cons, List.map_nil, List.getD_cons_zero, List.getD_cons_succ]
       go_wp2_with (first
        |(with_reducible refine Rg.plan_pure ?_ ?_ ?_); kernel_rfl; kernel_rfl; intro _ _|(with_reducible refine Rg.plan_take ?_ ?_ ?_); kernel_rfl; kernel_rfl; intro _ _|(with_reducible refine Rg.plan_keep ?_ ?_); kernel_rfl; intro K hK|refine hK _ _ (Rg.Keep.refl _) ?_; clear hK|refine hK _ _ (Rg.Keep.of_below (by assumption)) ?_; clear hK|(with_reducible refine Rg.plan_skip ?_ ?_); kernel_rfl|(with_reducible refine Rg.plan_done ?_)|(with_reducible refine Rg.calm_normal ?_))
       clear c82 f82 d0 d1 d2 d3
       rw [ver4 e0 e1 e2 e3, ← HN4.out]
       obtain ⟨ver, hver⟩ : ∃ ver, Hdr.num T = ver := ⟨_, rfl⟩
       rw [hver]
       have hq := HQ8.out
       rw [hver] at hq
       have HQ9 := Lib.hid (show L0 b 2 ver nl 5 = q from hq)
       clear hq HQ8 HN4 hver hT4
       have mx : Mut (w.heap.size + 1) W5 (W5.setCell ⟨w.heap.size + 1, 2, none⟩ (.int .u32 (ver : Nat))).drew := (((Mut.refl _ _).setCell _ _ _)).drew
       have x8 : row? (W5.setCell ⟨w.heap.size + 1, 2, none⟩ (.int .u32 (ver : Nat))).drew (w.heap.size + 1) = some (hvA true 2 ver (.slice none 0 0) (.slice none 0 0) (.slice none 0 0) false false 0 nl) := by rw [row?_drew]; rw [row?_setCell_eq R8.out]; rfl
       generalize (W5.setCell ⟨w.heap.size + 1, 2, none⟩ (.int .u32 (ver : Nat))).drew = W6 at mx x8  ⊢
       have x4 := mx.row R4.out (by omega)
       have xb := BB.out.trans (mx.below (by omega) BB.out.size)
       clear R8 R4 BB mx
       have R8 := Lib.hid x8
       have R4 := Lib.hid x4
       have BB := Lib.hid xb
       clear x8 x4 xb
       go_loopw [13, 14, 15, 16, 17] (fun v13 v14 v15 v16 v17 wr => ∃ (j at_ : Nat) (ad as_ : Option Addr) (dl sl : List UInt8) (kd ks : Nat), j ≤ 2 ∧ v14 = .int .i64 (j : Nat) ∧ v13 = .int .i64 (at_ : Nat) ∧ at_ ≤ b.length ∧ row? wr (w.heap.size + 1) = some (hvA true 2 ver (.slice ad dl.length kd) (.slice as_ sl.length ks) (.slice none 0 0) false false 0 nl) ∧ row? wr w.heap.size = some (hvA false 0 0 (.slice none 0 0) (.slice none 0 0) (.slice none 0 0) false false 0 0) ∧ Below w.heap.size w wr ∧ wr.ownsRow (w.heap.size + 2) 5 1 (.slice ad dl.length kd) dl.length (dl.map bv) ∧ wr.ownsRow (w.heap.size + 2) 5 1 (.slice as_ sl.length ks) sl.length (sl.map bv) ∧ ((j = 0 ∧ L0 b 2 ver nl at_ = q) ∨ (j = 1 ∧ L1 b 2 ver nl dl at_ = q) ∨ (j = 2 ∧ L2 b 2 ver nl dl sl at_ = q))) (fun _ v _ _ _ _ => (2 - intOf v).toNat)
       case atStart => exact ⟨0, 5, none, none, [], [], 0, 0, by omega, rfl, rfl, by have := H5.out; omega, R8.out, R4.out, BB.out, World.ownsRow_nil _ _ _ _, World.ownsRow_nil _ _ _ _, .inl ⟨rfl, HQ9.out⟩⟩
       case round =>
        obtain ⟨j, at_, ad, as_, dl, sl, kd, ks, hj, rfl, rfl, hat, hr8, hr4, hbb, hod, hos, hdoc⟩ := hrel
        clear R8 R4 BB HQ9
        have R8 := Lib.hid hr8
        have R4 := Lib.hid hr4
        have BB := Lib.hid hbb
        have OD := Lib.hid hod
        have OS := Lib.hid hos
        have HAT := Lib.hid hat
        have z8 : w.heap.size + 1 < wr.heap.size := row?_lt hr8
        clear hr8 hr4 hbb hod hos hj c0
        rcases hdoc with ⟨rfl, hq⟩ | ⟨rfl, hq⟩ | ⟨rfl, hq⟩
        ·unfold L0 at hq
         by_cases hA : b.length ≤ at_
         ·have e : lPart b at_ true = .error 3 := by unfold lPart; rw [if_pos hA]
          have hAi : ((b.length : Nat) : Int) ≤ (at_ : Nat) := by omega
          clear hA
          rw [e] at hq
          have HQ := Lib.hid hq
          clear hq e
          have r8 := R8.out
          have r4 := R4.out
          go_wp2_with fail
          refine bodyPost_ret (results_row4 AgH rfl _ _ w.heap.size (hvA true 2 ver (.slice ad dl.length kd) (.slice as_ sl.length ks) (.slice none 0 0) false false 0 nl) rfl ?_ (hvA_size ..)) rfl ?_
          ·first | exact row?_setRow_eq R4.out | (rw [row?_drew]; exact row?_setRow_eq R4.out)
          ·rw [← HQ.out]
           exact ⟨_, _, _, _, _, _, _, _, _, _, _, _, _, _, _, _, rfl, by first | exact BB.out.trans (((Mut.refl _ _).setRow _).below (Nat.le_refl _) BB.out.size) | exact BB.out.trans (((Mut.refl _ _).setRow _).drew.below (Nat.le_refl _) BB.out.size)⟩
         ·have hAi : ¬ ((b.length : Nat) : Int) ≤ (at_ : Nat) := by omega
          have hAj : ((at_ : Nat) : Int) < (b.length : Nat) := by omega
          obtain ⟨n, hn⟩ : ∃ n, n8 (nth b at_) = n := ⟨_, rfl⟩
          have hn256 : n < 256 := by rw [← hn]; exact n8_lt _
          have cA : wr.cell? ⟨bb, off + at_, none⟩ = some (.int .u8 (n : Nat)) := by
           have := HCELL.out at_ (by omega)
           rw [hn] at this
           exact below_cell BB.out this (cell_lt this)
          have hwn : wrap64 ((n : Nat) : Int) = (n : Nat) := by unfold wrap64; omega
          by_cases hB : n = 8
          ·subst hB
           have cA : wr.cell? ⟨bb, off + at_, none⟩ = some (.int .u8 8) := cA
           clear hwn
           have hw1 : wrap64 ((at_ : Int) + 1) = (at_ : Int) + 1 := by have := HBL.out; unfold wrap64; omega
           have hw2 : wrap64 ((at_ : Int) + 1 + 8) = (at_ : Int) + 1 + 8 := by have := HBL.out; unfold wrap64; omega
           have hBd : ¬ ((true = true ∧ 8 ≠ 8) ∨ 20 < 8) := by decide
           have hw3 : wrap64 ((at_ : Int) + 9) = (at_ : Int) + 9 := by have := HBL.out; unfold wrap64; omega
           by_cases hC : b.length < at_ + 1 + 8
           ·have e : lPart b at_ true = .error 3 := by unfold lPart; rw [if_neg hA, hn, if_neg hBd, if_pos hC]
            have hpt : Calls Try.prog 64 #[.slice (some ⟨bb, off, none⟩) b.length cap, .int .i64 ((at_ : Int) + 1), .int .i64 8] wr _ := rpart_no b HBL.out (at_ + 1) 8 (by have := HBL.out; omega) (by omega) hC _ wr (HSB.out.below BB.out)
            rw [e] at hq
            have HQ := Lib.hid hq
            have HPT := Lib.hid hpt
            clear hq e hpt hC hBd  hA hn
            go_wp2_with fail
            refine HPT.out.mono ?_
            rintro e w' ⟨rfl, rfl⟩
            clear HPT
            have r8 := R8.out
            have r4 := R4.out
            go_wp2_with fail
            refine bodyPost_ret (results_row4 AgH rfl _ _ w.heap.size (hvA true 2 ver (.slice ad dl.length kd) (.slice as_ sl.length ks) (.slice none 0 0) false false 0 nl) rfl ?_ (hvA_size ..)) rfl ?_
            ·first | exact row?_setRow_eq R4.out | (rw [row?_drew]; exact row?_setRow_eq R4.out)
            ·rw [← HQ.out]
             exact ⟨_, _, _, _, _, _, _, _, _, _, _, _, _, _, _, _, rfl, by first | exact BB.out.trans (((Mut.refl _ _).setRow _).below (Nat.le_refl _) BB.out.size) | exact BB.out.trans (((Mut.refl _ _).setRow _).drew.below (Nat.le_refl _) BB.out.size)⟩
           ·have e : lPart b at_ true = .ok ((b.drop (at_ + 1)).take 8, at_ + 1 + 8) := by unfold lPart; rw [if_neg hA, hn, if_neg hBd, if_neg hC]
            have hpt : Calls Try.prog 64 #[.slice (some ⟨bb, off, none⟩) b.length cap, .int .i64 ((at_ : Int) + 1), .int .i64 8] wr _ := rpart_ok b HBL.out (at_ + 1) 8 (by have := HBL.out; omega) (by omega) (by omega) _ wr (HSB.out.below BB.out)
            rw [e] at hq
            simp only [] at hq
            obtain ⟨T, hT⟩ : ∃ T, (b.drop (at_ + 1)).take 8 = T := ⟨_, rfl⟩
            rw [hT] at hq hpt
            have HQ := Lib.hid hq
            have HPT := Lib.hid hpt
            have HC' := Lib.hid hC
            clear hq e hpt hC hBd  hA hn hT
            go_wp2_with fail
            refine HPT.out.mono ?_
            rintro e Wn ⟨vn, rfl, on, bn⟩
            obtain ⟨an, kn, rfl, -, -, -⟩ := id (Own.sl on)
            have x8 := Rg.stable_row bn R8.out
            have x4 := Rg.stable_row bn R4.out
            have xb := BB.out.trans (bn.mono BB.out.size)
            have xn := own_lower on (show w.heap.size + 2 ≤ wr.heap.size by omega)
            have xd := own_below bn OD.out
            have xs := own_below bn OS.out
            have zn := bn.size
            clear HPT R8 R4 BB OD OS on bn cA
            have R8 := Lib.hid x8
            have R4 := Lib.hid x4
            have BB := Lib.hid xb
            have OD := Lib.hid xd
            have OS := Lib.hid xs
            have ON := Lib.hid xn
            have c8 := row?_cell R8.out 3
            have f8 := row?_frozen R8.out 3
            clear x8 x4 xb xn xd xs
            go_wp2_with fail
            go_roundw
            case rel =>
             have mm : Mut (w.heap.size + 1) Wn (Wn.setCell ⟨w.heap.size + 1, 3, none⟩ (.slice an T.length kn)) := (Mut.refl _ _).setCell _ _ _
             exact ⟨1, at_ + 1 + 8, an, as_, T, sl, kn, ks, by omega, by first | rfl | go_num, by first | rfl | go_num, by have := HC'.out; omega, by rw [row?_setCell_eq R8.out]; rfl, mm.row R4.out (by omega), BB.out.trans (mm.below (by omega) BB.out.size), mm.own ON.out (by omega), mm.own OS.out (by omega), .inr (.inl ⟨rfl, HQ.out⟩)⟩
            case measure => simp [intOf]
          ·have e : lPart b at_ true = .error 5 := by unfold lPart; rw [if_neg hA, hn, if_pos (.inl ⟨rfl, hB⟩)]
           have hBi : ¬ ((n : Nat) : Int) = 8 := by omega
           clear hB hA
           rw [e] at hq
           have HQ := Lib.hid hq
           clear hq e
           have r8 := R8.out
           have r4 := R4.out
           go_wp2_with fail
           refine bodyPost_ret (results_row4 AgH rfl _ _ w.heap.size (hvA true 2 ver (.slice ad dl.length kd) (.slice as_ sl.length ks) (.slice none 0 0) false false 0 nl) rfl ?_ (hvA_size ..)) rfl ?_
           ·first | exact row?_setRow_eq R4.out | (rw [row?_drew]; exact row?_setRow_eq R4.out)
           ·rw [← HQ.out]
            exact ⟨_, _, _, _, _, _, _, _, _, _, _, _, _, _, _, _, rfl, by first | exact BB.out.trans (((Mut.refl _ _).setRow _).below (Nat.le_refl _) BB.out.size) | exact BB.out.trans (((Mut.refl _ _).setRow _).drew.below (Nat.le_refl _) BB.out.size)⟩
        ·unfold L1 at hq
         by_cases hA : b.length ≤ at_
         ·have e : lPart b at_ false = .error 3 := by unfold lPart; rw [if_pos hA]
          have hAi : ((b.length : Nat) : Int) ≤ (at_ : Nat) := by omega
          clear hA
          rw [e] at hq
          have HQ := Lib.hid hq
          clear hq e
          have r8 := R8.out
          have r4 := R4.out
          go_wp2_with fail
          refine bodyPost_ret (results_row4 AgH rfl _ _ w.heap.size (hvA true 2 ver (.slice ad dl.length kd) (.slice as_ sl.length ks) (.slice none 0 0) false false 0 nl) rfl ?_ (hvA_size ..)) rfl ?_
          ·first | exact row?_setRow_eq R4.out | (rw [row?_drew]; exact row?_setRow_eq R4.out)
          ·rw [← HQ.out]
           exact ⟨_, _, _, _, _, _, _, _, _, _, _, _, _, _, _, _, rfl, by first | exact BB.out.trans (((Mut.refl _ _).setRow _).below (Nat.le_refl _) BB.out.size) | exact BB.out.trans (((Mut.refl _ _).setRow _).drew.below (Nat.le_refl _) BB.out.size)⟩
         ·have hAi : ¬ ((b.length : Nat) : Int) ≤ (at_ : Nat) := by omega
          have hAj : ((at_ : Nat) : Int) < (b.length : Nat) := by omega
          obtain ⟨n, hn⟩ : ∃ n, n8 (nth b at_) = n := ⟨_, rfl⟩
          have hn256 : n < 256 := by rw [← hn]; exact n8_lt _
          have cA : wr.cell? ⟨bb, off + at_, none⟩ = some (.int .u8 (n : Nat)) := by
           have := HCELL.out at_ (by omega)
           rw [hn] at this
           exact below_cell BB.out this (cell_lt this)
          have hwn : wrap64 ((n : Nat) : Int) = (n : Nat) := by unfold wrap64; omega
          by_cases hB : ¬ 20 < n
          ·have hBi : ¬ (20 : Int) < (n : Nat) := by omega
           have hw1 : wrap64 ((at_ : Int) + 1) = (at_ : Int) + 1 := by have := HBL.out; unfold wrap64; omega
           have hw2 : wrap64 ((at_ : Int) + 1 + n) = (at_ : Int) + 1 + n := by have := HBL.out; unfold wrap64; omega
           have hBd : ¬ ((false = true ∧ n ≠ 8) ∨ 20 < n) := by simp; omega
           by_cases hC : b.length < at_ + 1 + n
           ·have e : lPart b at_ false = .error 3 := by unfold lPart; rw [if_neg hA, hn, if_neg hBd, if_pos hC]
            have hpt : Calls Try.prog 64 #[.slice (some ⟨bb, off, none⟩) b.length cap, .int .i64 ((at_ : Int) + 1), .int .i64 (n : Nat)] wr _ := rpart_no b HBL.out (at_ + 1) n (by have := HBL.out; omega) (by omega) hC _ wr (HSB.out.below BB.out)
            rw [e] at hq
            have HQ := Lib.hid hq
            have HPT := Lib.hid hpt
            clear hq e hpt hC hBd hB hA hn
            go_wp2_with fail
            refine HPT.out.mono ?_
            rintro e w' ⟨rfl, rfl⟩
            clear HPT
            have r8 := R8.out
            have r4 := R4.out
            go_wp2_with fail
            refine bodyPost_ret (results_row4 AgH rfl _ _ w.heap.size (hvA true 2 ver (.slice ad dl.length kd) (.slice as_ sl.length ks) (.slice none 0 0) false false 0 nl) rfl ?_ (hvA_size ..)) rfl ?_
            ·first | exact row?_setRow_eq R4.out | (rw [row?_drew]; exact row?_setRow_eq R4.out)
            ·rw [← HQ.out]
             exact ⟨_, _, _, _, _, _, _, _, _, _, _, _, _, _, _, _, rfl, by first | exact BB.out.trans (((Mut.refl _ _).setRow _).below (Nat.le_refl _) BB.out.size) | exact BB.out.trans (((Mut.refl _ _).setRow _).drew.below (Nat.le_refl _) BB.out.size)⟩
           ·have e : lPart b at_ false = .ok ((b.drop (at_ + 1)).take n, at_ + 1 + n) := by unfold lPart; rw [if_neg hA, hn, if_neg hBd, if_neg hC]
            have hpt : Calls Try.prog 64 #[.slice (some ⟨bb, off, none⟩) b.length cap, .int .i64 ((at_ : Int) + 1), .int .i64 (n : Nat)] wr _ := rpart_ok b HBL.out (at_ + 1) n (by have := HBL.out; omega) (by omega) (by omega) _ wr (HSB.out.below BB.out)
            rw [e] at hq
            simp only [] at hq
            obtain ⟨T, hT⟩ : ∃ T, (b.drop (at_ + 1)).take n = T := ⟨_, rfl⟩
            rw [hT] at hq hpt
            have HQ := Lib.hid hq
            have HPT := Lib.hid hpt
            have HC' := Lib.hid hC
            clear hq e hpt hC hBd hB hA hn hT
            go_wp2_with fail
            refine HPT.out.mono ?_
            rintro e Wn ⟨vn, rfl, on, bn⟩
            obtain ⟨an, kn, rfl, -, -, -⟩ := id (Own.sl on)
            have x8 := Rg.stable_row bn R8.out
            have x4 := Rg.stable_row bn R4.out
            have xb := BB.out.trans (bn.mono BB.out.size)
            have xn := own_lower on (show w.heap.size + 2 ≤ wr.heap.size by omega)
            have xd := own_below bn OD.out
            have xs := own_below bn OS.out
            have zn := bn.size
            clear HPT R8 R4 BB OD OS on bn cA
            have R8 := Lib.hid x8
            have R4 := Lib.hid x4
            have BB := Lib.hid xb
            have OD := Lib.hid xd
            have OS := Lib.hid xs
            have ON := Lib.hid xn
            have c8 := row?_cell R8.out 4
            have f8 := row?_frozen R8.out 4
            clear x8 x4 xb xn xd xs
            go_wp2_with fail
            go_roundw
            case rel =>
             have mm : Mut (w.heap.size + 1) Wn (Wn.setCell ⟨w.heap.size + 1, 4, none⟩ (.slice an T.length kn)) := (Mut.refl _ _).setCell _ _ _
             exact ⟨2, at_ + 1 + n, ad, an, dl, T, kd, kn, by omega, by first | rfl | go_num, by first | rfl | go_num, by have := HC'.out; omega, by rw [row?_setCell_eq R8.out]; rfl, mm.row R4.out (by omega), BB.out.trans (mm.below (by omega) BB.out.size), mm.own OD.out (by omega), mm.own ON.out (by omega), .inr (.inr ⟨rfl, HQ.out⟩)⟩
            case measure => simp [intOf]
          ·have e : lPart b at_ false = .error 5 := by unfold lPart; rw [if_neg hA, hn, if_pos (.inr (by omega))]
           have hBi : (20 : Int) < (n : Nat) := by omega
           clear hB hA
           rw [e] at hq
           have HQ := Lib.hid hq
           clear hq e
           have r8 := R8.out
           have r4 := R4.out
           go_wp2_with fail
           refine bodyPost_ret (results_row4 AgH rfl _ _ w.heap.size (hvA true 2 ver (.slice ad dl.length kd) (.slice as_ sl.length ks) (.slice none 0 0) false false 0 nl) rfl ?_ (hvA_size ..)) rfl ?_
           ·first | exact row?_setRow_eq R4.out | (rw [row?_drew]; exact row?_setRow_eq R4.out)
           ·rw [← HQ.out]
            exact ⟨_, _, _, _, _, _, _, _, _, _, _, _, _, _, _, _, rfl, by first | exact BB.out.trans (((Mut.refl _ _).setRow _).below (Nat.le_refl _) BB.out.size) | exact BB.out.trans (((Mut.refl _ _).setRow _).drew.below (Nat.le_refl _) BB.out.size)⟩
        ·have c81 : wr.cell? ⟨w.heap.size + 1, 1, none⟩ = some (.int .i64 2) := row?_cell R8.out 1
         unfold L2 at hq
         rw [show lTok b 2 at_ = .ok ([], at_) from by unfold lTok; rw [if_pos (by decide)]] at hq
         simp only [] at hq
         unfold lTail at hq
         have hcut : ∀ W, (Instr.sliceAt 27 (.slice (some ⟨bb, off, none⟩) b.length cap) (some (.int .i64 (at_ : Nat))) none none).run Try.prog W = .ok (.slice (cutA (some ⟨bb, off, none⟩) at_ cap) (b.length - at_) (cap - at_)) W := fun W => by
          rw [cut_l TB W _ _ _ _ _ (by omega) (by have := HAT.out; omega), Int.toNat_natCast]
         have hsc := HSB.out.cut at_ b.length HAT.out (Nat.le_refl _)
         rw [List.take_length] at hsc
         have hv := rvget_any (b.drop at_) (by rw [List.length_drop]; have := HBL.out; omega) _ wr (hsc.below BB.out)
         have hm8 := vget_many8 (b.drop at_)
         have hml := vget_many (b.drop at_)
         rw [List.length_drop] at hml
         obtain ⟨pp, hpp⟩ : ∃ pp, vget (b.drop at_) = pp := ⟨_, rfl⟩
         rw [hpp] at hv hm8 hml hq
         obtain ⟨n2, m2, x2⟩ := pp
         simp only [] at hv hm8 hml hq
         have HV := Lib.hid hv
         have HM8 := Lib.hid hm8
         have HML := Lib.hid hml
         have HQT := Lib.hid hq
         clear hsc hv hm8 hml hq hpp
         go_wp2_with fail
         refine HV.out.mono ?_
         rintro e w' ⟨rfl, rfl⟩
         clear HV hcut
         by_cases hx : x2 = 0
         ·subst hx
          have hq := HQT.out
          rw [if_neg (by simp)] at hq
          have HQ := Lib.hid hq
          clear hq HQT
          by_cases h30 : 1073741824 < n2
          ·have h30i : (1073741824 : Int) < (n2 : Nat) := by omega
           have hwt : (1073741824 : Int) = ((min n2 1073741824 : Nat) : Int) := by omega
           have hwa : wrap64 ((at_ : Int) + m2) = ((at_ + m2 : Nat) : Int) := by have := HBL.out; have := HAT.out; have := HM8.out; unfold wrap64; omega
           have HWA := Lib.hid hwa
           have HWT := Lib.hid hwt
           have r8 := R8.out
           have r4 := R4.out
           clear h30 hwt hwa
           go_wp2_with fail
           refine bodyPost_ret (results_row4 AgH rfl _ _ w.heap.size (hvA true 2 ver (.slice ad dl.length kd) (.slice as_ sl.length ks) (.slice none 0 0) false false 0 nl) rfl ?_ (hvA_size ..)) rfl ?_
           ·exact row?_setRow_eq R4.out
           ·rw [← HQ.out]
            have mm : Mut w.heap.size wr (wr.setRow w.heap.size (hvA true 2 ver (.slice ad dl.length kd) (.slice as_ sl.length ks) (.slice none 0 0) false false 0 nl)) := (Mut.refl _ _).setRow _
            exact ⟨(.slice ad dl.length kd), (.slice as_ sl.length ks), (.slice none 0 0), congrArg (fun p : Int × Int => Ending.returned (.tuple #[.agg (hvA true 2 ver (.slice ad dl.length kd) (.slice as_ sl.length ks) (.slice none 0 0) false false 0 nl), .int .i64 p.1, .int .i64 p.2, .int .i64 0])) (Prod.ext (x := ((wrap64 ((at_ : Int) + m2), 1073741824) : Int × Int)) (y := ((((at_ + m2 : Nat) : Int), ((min n2 1073741824 : Nat) : Int)) : Int × Int)) HWA.out HWT.out), own_lower (mm.own OD.out (by omega)) (by omega), own_lower (mm.own OS.out (by omega)) (by omega), World.ownsRow_nil _ _ _ _, BB.out.trans (mm.below (Nat.le_refl _) BB.out.size)⟩
          ·have h30i : ¬ (1073741824 : Int) < (n2 : Nat) := by omega
           have hwt : ((n2 : Nat) : Int) = ((min n2 1073741824 : Nat) : Int) := by omega
           have hwa : wrap64 ((at_ : Int) + m2) = ((at_ + m2 : Nat) : Int) := by have := HBL.out; have := HAT.out; have := HM8.out; unfold wrap64; omega
           have HWA := Lib.hid hwa
           have HWT := Lib.hid hwt
           have r8 := R8.out
           have r4 := R4.out
           clear h30 hwt hwa
           go_wp2_with fail
           refine bodyPost_ret (results_row4 AgH rfl _ _ w.heap.size (hvA true 2 ver (.slice ad dl.length kd) (.slice as_ sl.length ks) (.slice none 0 0) false false 0 nl) rfl ?_ (hvA_size ..)) rfl ?_
           ·exact row?_setRow_eq R4.out
           ·rw [← HQ.out]
            have mm : Mut w.heap.size wr (wr.setRow w.heap.size (hvA true 2 ver (.slice ad dl.length kd) (.slice as_ sl.length ks) (.slice none 0 0) false false 0 nl)) := (Mut.refl _ _).setRow _
            exact ⟨(.slice ad dl.length kd), (.slice as_ sl.length ks), (.slice none 0 0), congrArg (fun p : Int × Int => Ending.returned (.tuple #[.agg (hvA true 2 ver (.slice ad dl.length kd) (.slice as_ sl.length ks) (.slice none 0 0) false false 0 nl), .int .i64 p.1, .int .i64 p.2, .int .i64 0])) (Prod.ext (x := ((wrap64 ((at_ : Int) + m2), ((n2 : Nat) : Int)) : Int × Int)) (y := ((((at_ + m2 : Nat) : Int), ((min n2 1073741824 : Nat) : Int)) : Int × Int)) HWA.out HWT.out), own_lower (mm.own OD.out (by omega)) (by omega), own_lower (mm.own OS.out (by omega)) (by omega), World.ownsRow_nil _ _ _ _, BB.out.trans (mm.below (Nat.le_refl _) BB.out.size)⟩
         ·have hq := HQT.out
          rw [if_pos hx] at hq
          have HQ := Lib.hid hq
          clear hq HQT
          have r8 := R8.out
          have r4 := R4.out
          go_wp2_with fail
          refine bodyPost_ret (results_row4 AgH rfl _ _ w.heap.size (hvA true 2 ver (.slice ad dl.length kd) (.slice as_ sl.length ks) (.slice none 0 0) false false 0 nl) rfl ?_ (hvA_size ..)) rfl ?_
          ·first | exact row?_setRow_eq R4.out | (rw [row?_drew]; exact row?_setRow_eq R4.out)
          ·rw [← HQ.out]
           exact ⟨_, _, _, _, _, _, _, _, _, _, _, _, _, _, _, _, rfl, by first | exact BB.out.trans (((Mut.refl _ _).setRow _).below (Nat.le_refl _) BB.out.size) | exact BB.out.trans (((Mut.refl _ _).setRow _).drew.below (Nat.le_refl _) BB.out.size)⟩
     ·have hb12 : (c &&& 12 != 0) = true := by simpa using h12
      have hq := HQ5.out
      rw [if_neg (by simp)] at hq
      have HQ6 := Lib.hid hq
      clear hq HQ5 h12
      by_cases h5 : b.length < 5
      ·have hq := HQ6.out
       rw [if_pos h5] at hq
       have HQ := Lib.hid hq
       have hpt : Calls Try.prog 64 #[.slice (some ⟨bb, off, none⟩) b.length cap, .int .i64 1, .int .i64 4] W4 _ := rpart_no b HBL.out 1 4 (by decide) (by decide) (by omega) _ W4 (HSB.out.below BB.out)
       have HPT := Lib.hid hpt
       clear hq HQ6 hpt h5
       go_wp2_with fail
       refine HPT.out.mono ?_
       rintro e w' ⟨rfl, rfl⟩
       clear HPT
       have r8 := R8.out
       have r4 := R4.out
       go_wp2_with fail
       refine bodyPost_ret (results_row4 AgH rfl _ _ w.heap.size (hvA true 2 0 (.slice none 0 0) (.slice none 0 0) (.slice none 0 0) false false 0 nl) rfl ?_ (hvA_size ..)) rfl ?_
       ·first | exact row?_setRow_eq R4.out | (rw [row?_drew]; exact row?_setRow_eq R4.out)
       ·rw [← HQ.out]
        exact ⟨_, _, _, _, _, _, _, _, _, _, _, _, _, _, _, _, rfl, by first | exact BB.out.trans (((Mut.refl _ _).setRow _).below (Nat.le_refl _) BB.out.size) | exact BB.out.trans (((Mut.refl _ _).setRow _).drew.below (Nat.le_refl _) BB.out.size)⟩
      ·have hq := HQ6.out
       rw [if_neg h5] at hq
       have HQ7 := Lib.hid hq
       have H5 := Lib.hid h5
       have hpt : Calls Try.prog 64 #[.slice (some ⟨bb, off, none⟩) b.length cap, .int .i64 1, .int .i64 4] W4 _ := rpart_ok b HBL.out 1 4 (by decide) (by decide) (by omega) _ W4 (HSB.out.below BB.out)
       have HPT := Lib.hid hpt
       clear hq HQ6 hpt h5
       go_wp2_with fail
       refine HPT.out.mono ?_
       rintro e W5 ⟨v5, rfl, o5, b5⟩
       clear HPT c0 c81
       have hT4 : ((b.drop 1).take 4).length = 4 := by have := H5.out; simp; omega
       have hq := HQ7.out
       obtain ⟨T, hT⟩ : ∃ T, (b.drop 1).take 4 = T := ⟨_, rfl⟩
       rw [hT] at o5 hq hT4
       have x8 := Rg.stable_row b5 R8.out
       have x4 := Rg.stable_row b5 R4.out
       have xb := BB.out.trans (b5.mono BB.out.size)
       have st := Own.sl o5
       obtain ⟨a5, k5, rfl, -, -, hp5⟩ := id st
       obtain ⟨b5b, off5, rfl, hcell5⟩ := hp5 (by omega)
       rw [hT4]
       have d0 : W5.cell? ⟨b5b, off5, none⟩ = some (.int .u8 (n8 (nth T 0) : Nat)) := by have := hcell5 0 (by omega); simpa using this
       have d1 : W5.cell? ⟨b5b, off5 + 1, none⟩ = some (.int .u8 (n8 (nth T 1) : Nat)) := hcell5 1 (by omega)
       have d2 : W5.cell? ⟨b5b, off5 + 2, none⟩ = some (.int .u8 (n8 (nth T 2) : Nat)) := hcell5 2 (by omega)
       have d3 : W5.cell? ⟨b5b, off5 + 3, none⟩ = some (.int .u8 (n8 (nth T 3) : Nat)) := hcell5 3 (by omega)
       have HN4 := Lib.hid (num4 hT4)
       clear R8 R4 BB b5 HQ7 hT st hp5 hcell5 o5
       have R8 := Lib.hid x8
       have R4 := Lib.hid x4
       have BB := Lib.hid xb
       have HQ8 := Lib.hid hq
       have c82 := row?_cell R8.out 2
       have f82 := row?_frozen R8.out 2
       clear x8 x4 xb hq
       generalize nth T 0 = e0 at *
       generalize nth T 1 = e1 at *
       generalize nth T 2 = e2 at *
       generalize nth T 3 = e3 at *
       go_wp2_with fail
       refine Rg.wp_region_plan (Rg.row [(0, 3), (1, 3), (2, 0), (3, 3), (4, 3), (5, 3), (6, 3), (7, 0), (8, 3), (9, 3), (10, 3), (11, 3), (12, 3), (13, 0), (14, 3), (15, 3), (16, 3), (17, 3), (18, 3), (19, 0), (20, 3), (21, 3), (22, 3)] [23]) [23] (by kernel_rfl) (by kernel_rfl) ?_
       simp only [Rg.row, Rg.PT.map, List.map_cons, List.map_nil, List.getD_cons_zero, List.getD_cons_succ]
       go_wp2_with (first
        |(with_reducible refine Rg.plan_pure ?_ ?_ ?_); kernel_rfl; kernel_rfl; intro _ _|(with_reducible refine Rg.plan_take ?_ ?_ ?_); kernel_rfl; kernel_rfl; intro _ _|(with_reducible refine Rg.plan_keep ?_ ?_); kernel_rfl; intro K hK|refine hK _ _ (Rg.Keep.refl _) ?_; clear hK|refine hK _ _ (Rg.Keep.of_below (by assumption)) ?_; clear hK|(with_reducible refine Rg.plan_skip ?_ ?_); kernel_rfl|(with_reducible refine Rg.plan_done ?_)|(with_reducible refine Rg.calm_normal ?_))
       clear c82 f82 d0 d1 d2 d3
       rw [ver4 e0 e1 e2 e3, ← HN4.out]
       obtain ⟨ver, hver⟩ : ∃ ver, Hdr.num T = ver := ⟨_, rfl⟩
       rw [hver]
       have hq := HQ8.out
       rw [hver] at hq
       have HQ9 := Lib.hid (show L0 b 2 ver nl 5 = q from hq)
       clear hq HQ8 HN4 hver hT4
       have mx : Mut (w.heap.size + 1) W5 (W5.setCell ⟨w.heap.size + 1, 2, none⟩ (.int .u32 (ver : Nat))).drew := (((Mut.refl _ _).setCell _ _ _)).drew
       have x8 : row? (W5.setCell ⟨w.heap.size + 1, 2, none⟩ (.int .u32 (ver : Nat))).drew (w.heap.size + 1) = some (hvA true 2 ver (.slice none 0 0) (.slice none 0 0) (.slice none 0 0) false false 0 nl) := by rw [row?_drew]; rw [row?_setCell_eq R8.out]; rfl
       generalize (W5.setCell ⟨w.heap.size + 1, 2, none⟩ (.int .u32 (ver : Nat))).drew = W6 at mx x8  ⊢
       have x4 := mx.row R4.out (by omega)
       have xb := BB.out.trans (mx.below (by omega) BB.out.size)
       clear R8 R4 BB mx
       have R8 := Lib.hid x8
       have R4 := Lib.hid x4
       have BB := Lib.hid xb
       clear x8 x4 xb
       go_loopw [13, 14, 15, 16, 17] (fun v13 v14 v15 v16 v17 wr => ∃ (j at_ : Nat) (ad as_ : Option Addr) (dl sl : List UInt8) (kd ks : Nat), j ≤ 2 ∧ v14 = .int .i64 (j : Nat) ∧ v13 = .int .i64 (at_ : Nat) ∧ at_ ≤ b.length ∧ row? wr (w.heap.size + 1) = some (hvA true 2 ver (.slice ad dl.length kd) (.slice as_ sl.length ks) (.slice none 0 0) false false 0 nl) ∧ row? wr w.heap.size = some (hvA false 0 0 (.slice none 0 0) (.slice none 0 0) (.slice none 0 0) false false 0 0) ∧ Below w.heap.size w wr ∧ wr.ownsRow (w.heap.size + 2) 5 1 (.slice ad dl.length kd) dl.length (dl.map bv) ∧ wr.ownsRow (w.heap.size + 2) 5 1 (.slice as_ sl.length ks) sl.length (sl.map bv) ∧ ((j = 0 ∧ L0 b 2 ver nl at_ = q) ∨ (j = 1 ∧ L1 b 2 ver nl dl at_ = q) ∨ (j = 2 ∧ L2 b 2 ver nl dl sl at_ = q))) (fun _ v _ _ _ _ => (2 - intOf v).toNat)
       case atStart => exact ⟨0, 5, none, none, [], [], 0, 0, by omega, rfl, rfl, by have := H5.out; omega, R8.out, R4.out, BB.out, World.ownsRow_nil _ _ _ _, World.ownsRow_nil _ _ _ _, .inl ⟨rfl, HQ9.out⟩⟩
       case round =>
        obtain ⟨j, at_, ad, as_, dl, sl, kd, ks, hj, rfl, rfl, hat, hr8, hr4, hbb, hod, hos, hdoc⟩ := hrel
        clear R8 R4 BB HQ9
        have R8 := Lib.hid hr8
        have R4 := Lib.hid hr4
        have BB := Lib.hid hbb
        have OD := Lib.hid hod
        have OS := Lib.hid hos
        have HAT := Lib.hid hat
        have z8 : w.heap.size + 1 < wr.heap.size := row?_lt hr8
        clear hr8 hr4 hbb hod hos hj c0
        rcases hdoc with ⟨rfl, hq⟩ | ⟨rfl, hq⟩ | ⟨rfl, hq⟩
        ·unfold L0 at hq
         by_cases hA : b.length ≤ at_
         ·have e : lPart b at_ true = .error 3 := by unfold lPart; rw [if_pos hA]
          have hAi : ((b.length : Nat) : Int) ≤ (at_ : Nat) := by omega
          clear hA
          rw [e] at hq
          have HQ := Lib.hid hq
          clear hq e
          have r8 := R8.out
          have r4 := R4.out
          go_wp2_with fail
          refine bodyPost_ret (results_row4 AgH rfl _ _ w.heap.size (hvA true 2 ver (.slice ad dl.length kd) (.slice as_ sl.length ks) (.slice none 0 0) false false 0 nl) rfl ?_ (hvA_size ..)) rfl ?_
          ·first | exact row?_setRow_eq R4.out | (rw [row?_drew]; exact row?_setRow_eq R4.out)
          ·rw [← HQ.out]
           exact ⟨_, _, _, _, _, _, _, _, _, _, _, _, _, _, _, _, rfl, by first | exact BB.out.trans (((Mut.refl _ _).setRow _).below (Nat.le_refl _) BB.out.size) | exact BB.out.trans (((Mut.refl _ _).setRow _).drew.below (Nat.le_refl _) BB.out.size)⟩
         ·have hAi : ¬ ((b.length : Nat) : Int) ≤ (at_ : Nat) := by omega
          have hAj : ((at_ : Nat) : Int) < (b.length : Nat) := by omega
          obtain ⟨n, hn⟩ : ∃ n, n8 (nth b at_) = n := ⟨_, rfl⟩
          have hn256 : n < 256 := by rw [← hn]; exact n8_lt _
          have cA : wr.cell? ⟨bb, off + at_, none⟩ = some (.int .u8 (n : Nat)) := by
           have := HCELL.out at_ (by omega)
           rw [hn] at this
           exact below_cell BB.out this (cell_lt this)
          have hwn : wrap64 ((n : Nat) : Int) = (n : Nat) := by unfold wrap64; omega
          by_cases hB : n = 8
          ·subst hB
           have cA : wr.cell? ⟨bb, off + at_, none⟩ = some (.int .u8 8) := cA
           clear hwn
           have hw1 : wrap64 ((at_ : Int) + 1) = (at_ : Int) + 1 := by have := HBL.out; unfold wrap64; omega
           have hw2 : wrap64 ((at_ : Int) + 1 + 8) = (at_ : Int) + 1 + 8 := by have := HBL.out; unfold wrap64; omega
           have hBd : ¬ ((true = true ∧ 8 ≠ 8) ∨ 20 < 8) := by decide
           have hw3 : wrap64 ((at_ : Int) + 9) = (at_ : Int) + 9 := by have := HBL.out; unfold wrap64; omega
           by_cases hC : b.length < at_ + 1 + 8
           ·have e : lPart b at_ true = .error 3 := by unfold lPart; rw [if_neg hA, hn, if_neg hBd, if_pos hC]
            have hpt : Calls Try.prog 64 #[.slice (some ⟨bb, off, none⟩) b.length cap, .int .i64 ((at_ : Int) + 1), .int .i64 8] wr _ := rpart_no b HBL.out (at_ + 1) 8 (by have := HBL.out; omega) (by omega) hC _ wr (HSB.out.below BB.out)
            rw [e] at hq
            have HQ := Lib.hid hq
            have HPT := Lib.hid hpt
            clear hq e hpt hC hBd  hA hn
            go_wp2_with fail
            refine HPT.out.mono ?_
            rintro e w' ⟨rfl, rfl⟩
            clear HPT
            have r8 := R8.out
            have r4 := R4.out
            go_wp2_with fail
            refine bodyPost_ret (results_row4 AgH rfl _ _ w.heap.size (hvA true 2 ver (.slice ad dl.length kd) (.slice as_ sl.length ks) (.slice none 0 0) false false 0 nl) rfl ?_ (hvA_size ..)) rfl ?_
            ·first | exact row?_setRow_eq R4.out | (rw [row?_drew]; exact row?_setRow_eq R4.out)
            ·rw [← HQ.out]
             exact ⟨_, _, _, _, _, _, _, _, _, _, _, _, _, _, _, _, rfl, by first | exact BB.out.trans (((Mut.refl _ _).setRow _).below (Nat.le_refl _) BB.out.size) | exact BB.out.trans (((Mut.refl _ _).setRow _).drew.below (Nat.le_refl _) BB.out.size)⟩
           ·have e : lPart b at_ true = .ok ((b.drop (at_ + 1)).take 8, at_ + 1 + 8) := by unfold lPart; rw [if_neg hA, hn, if_neg hBd, if_neg hC]
            have hpt : Calls Try.prog 64 #[.slice (some ⟨bb, off, none⟩) b.length cap, .int .i64 ((at_ : Int) + 1), .int .i64 8] wr _ := rpart_ok b HBL.out (at_ + 1) 8 (by have := HBL.out; omega) (by omega) (by omega) _ wr (HSB.out.below BB.out)
            rw [e] at hq
            simp only [] at hq
            obtain ⟨T, hT⟩ : ∃ T, (b.drop (at_ + 1)).take 8 = T := ⟨_, rfl⟩
            rw [hT] at hq hpt
            have HQ := Lib.hid hq
            have HPT := Lib.hid hpt
            have HC' := Lib.hid hC
            clear hq e hpt hC hBd  hA hn hT
            go_wp2_with fail
            refine HPT.out.mono ?_
            rintro e Wn ⟨vn, rfl, on, bn⟩
            obtain ⟨an, kn, rfl, -, -, -⟩ := id (Own.sl on)
            have x8 := Rg.stable_row bn R8.out
            have x4 := Rg.stable_row bn R4.out
            have xb := BB.out.trans (bn.mono BB.out.size)
            have xn := own_lower on (show w.heap.size + 2 ≤ wr.heap.size by omega)
            have xd := own_below bn OD.out
            have xs := own_below bn OS.out
            have zn := bn.size
            clear HPT R8 R4 BB OD OS on bn cA
            have R8 := Lib.hid x8
            have R4 := Lib.hid x4
            have BB := Lib.hid xb
            have OD := Lib.hid xd
            have OS := Lib.hid xs
            have ON := Lib.hid xn
            have c8 := row?_cell R8.out 3
            have f8 := row?_frozen R8.out 3
            clear x8 x4 xb xn xd xs
            go_wp2_with fail
            go_roundw
            case rel =>
             have mm : Mut (w.heap.size + 1) Wn (Wn.setCell ⟨w.heap.size + 1, 3, none⟩ (.slice an T.length kn)) := (Mut.refl _ _).setCell _ _ _
             exact ⟨1, at_ + 1 + 8, an, as_, T, sl, kn, ks, by omega, by first | rfl | go_num, by first | rfl | go_num, by have := HC'.out; omega, by rw [row?_setCell_eq R8.out]; rfl, mm.row R4.out (by omega), BB.out.trans (mm.below (by omega) BB.out.size), mm.own ON.out (by omega), mm.own OS.out (by omega), .inr (.inl ⟨rfl, HQ.out⟩)⟩
            case measure => simp [intOf]
          ·have e : lPart b at_ true = .error 5 := by unfold lPart; rw [if_neg hA, hn, if_pos (.inl ⟨rfl, hB⟩)]
           have hBi : ¬ ((n : Nat) : Int) = 8 := by omega
           clear hB hA
           rw [e] at hq
           have HQ := Lib.hid hq
           clear hq e
           have r8 := R8.out
           have r4 := R4.out
           go_wp2_with fail
           refine bodyPost_ret (results_row4 AgH rfl _ _ w.heap.size (hvA true 2 ver (.slice ad dl.length kd) (.slice as_ sl.length ks) (.slice none 0 0) false false 0 nl) rfl ?_ (hvA_size ..)) rfl ?_
           ·first | exact row?_setRow_eq R4.out | (rw [row?_drew]; exact row?_setRow_eq R4.out)
           ·rw [← HQ.out]
            exact ⟨_, _, _, _, _, _, _, _, _, _, _, _, _, _, _, _, rfl, by first | exact BB.out.trans (((Mut.refl _ _).setRow _).below (Nat.le_refl _) BB.out.size) | exact BB.out.trans (((Mut.refl _ _).setRow _).drew.below (Nat.le_refl _) BB.out.size)⟩
        ·unfold L1 at hq
         by_cases hA : b.length ≤ at_
         ·have e : lPart b at_ false = .error 3 := by unfold lPart; rw [if_pos hA]
          have hAi : ((b.length : Nat) : Int) ≤ (at_ : Nat) := by omega
          clear hA
          rw [e] at hq
          have HQ := Lib.hid hq
          clear hq e
          have r8 := R8.out
          have r4 := R4.out
          go_wp2_with fail
          refine bodyPost_ret (results_row4 AgH rfl _ _ w.heap.size (hvA true 2 ver (.slice ad dl.length kd) (.slice as_ sl.length ks) (.slice none 0 0) false false 0 nl) rfl ?_ (hvA_size ..)) rfl ?_
          ·first | exact row?_setRow_eq R4.out | (rw [row?_drew]; exact row?_setRow_eq R4.out)
          ·rw [← HQ.out]
           exact ⟨_, _, _, _, _, _, _, _, _, _, _, _, _, _, _, _, rfl, by first | exact BB.out.trans (((Mut.refl _ _).setRow _).below (Nat.le_refl _) BB.out.size) | exact BB.out.trans (((Mut.refl _ _).setRow _).drew.below (Nat.le_refl _) BB.out.size)⟩
         ·have hAi : ¬ ((b.length : Nat) : Int) ≤ (at_ : Nat) := by omega
          have hAj : ((at_ : Nat) : Int) < (b.length : Nat) := by omega
          obtain ⟨n, hn⟩ : ∃ n, n8 (nth b at_) = n := ⟨_, rfl⟩
          have hn256 : n < 256 := by rw [← hn]; exact n8_lt _
          have cA : wr.cell? ⟨bb, off + at_, none⟩ = some (.int .u8 (n : Nat)) := by
           have := HCELL.out at_ (by omega)
           rw [hn] at this
           exact below_cell BB.out this (cell_lt this)
          have hwn : wrap64 ((n : Nat) : Int) = (n : Nat) := by unfold wrap64; omega
          by_cases hB : ¬ 20 < n
          ·have hBi : ¬ (20 : Int) < (n : Nat) := by omega
           have hw1 : wrap64 ((at_ : Int) + 1) = (at_ : Int) + 1 := by have := HBL.out; unfold wrap64; omega
           have hw2 : wrap64 ((at_ : Int) + 1 + n) = (at_ : Int) + 1 + n := by have := HBL.out; unfold wrap64; omega
           have hBd : ¬ ((false = true ∧ n ≠ 8) ∨ 20 < n) := by simp; omega
           by_cases hC : b.length < at_ + 1 + n
           ·have e : lPart b at_ false = .error 3 := by unfold lPart; rw [if_neg hA, hn, if_neg hBd, if_pos hC]
            have hpt : Calls Try.prog 64 #[.slice (some ⟨bb, off, none⟩) b.length cap, .int .i64 ((at_ : Int) + 1), .int .i64 (n : Nat)] wr _ := rpart_no b HBL.out (at_ + 1) n (by have := HBL.out; omega) (by omega) hC _ wr (HSB.out.below BB.out)
            rw [e] at hq
            have HQ := Lib.hid hq
            have HPT := Lib.hid hpt
            clear hq e hpt hC hBd hB hA hn
            go_wp2_with fail
            refine HPT.out.mono ?_
            rintro e w' ⟨rfl, rfl⟩
            clear HPT
            have r8 := R8.out
            have r4 := R4.out
            go_wp2_with fail
            refine bodyPost_ret (results_row4 AgH rfl _ _ w.heap.size (hvA true 2 ver (.slice ad dl.length kd) (.slice as_ sl.length ks) (.slice none 0 0) false false 0 nl) rfl ?_ (hvA_size ..)) rfl ?_
            ·first | exact row?_setRow_eq R4.out | (rw [row?_drew]; exact row?_setRow_eq R4.out)
            ·rw [← HQ.out]
             exact ⟨_, _, _, _, _, _, _, _, _, _, _, _, _, _, _, _, rfl, by first | exact BB.out.trans (((Mut.refl _ _).setRow _).below (Nat.le_refl _) BB.out.size) | exact BB.out.trans (((Mut.refl _ _).setRow _).drew.below (Nat.le_refl _) BB.out.size)⟩
           ·have e : lPart b at_ false = .ok ((b.drop (at_ + 1)).take n, at_ + 1 + n) := by unfold lPart; rw [if_neg hA, hn, if_neg hBd, if_neg hC]
            have hpt : Calls Try.prog 64 #[.slice (some ⟨bb, off, none⟩) b.length cap, .int .i64 ((at_ : Int) + 1), .int .i64 (n : Nat)] wr _ := rpart_ok b HBL.out (at_ + 1) n (by have := HBL.out; omega) (by omega) (by omega) _ wr (HSB.out.below BB.out)
            rw [e] at hq
            simp only [] at hq
            obtain ⟨T, hT⟩ : ∃ T, (b.drop (at_ + 1)).take n = T := ⟨_, rfl⟩
            rw [hT] at hq hpt
            have HQ := Lib.hid hq
            have HPT := Lib.hid hpt
            have HC' := Lib.hid hC
            clear hq e hpt hC hBd hB hA hn hT
            go_wp2_with fail
            refine HPT.out.mono ?_
            rintro e Wn ⟨vn, rfl, on, bn⟩
            obtain ⟨an, kn, rfl, -, -, -⟩ := id (Own.sl on)
            have x8 := Rg.stable_row bn R8.out
            have x4 := Rg.stable_row bn R4.out
            have xb := BB.out.trans (bn.mono BB.out.size)
            have xn := own_lower on (show w.heap.size + 2 ≤ wr.heap.size by omega)
            have xd := own_below bn OD.out
            have xs := own_below bn OS.out
            have zn := bn.size
            clear HPT R8 R4 BB OD OS on bn cA
            have R8 := Lib.hid x8
            have R4 := Lib.hid x4
            have BB := Lib.hid xb
            have OD := Lib.hid xd
            have OS := Lib.hid xs
            have ON := Lib.hid xn
            have c8 := row?_cell R8.out 4
            have f8 := row?_frozen R8.out 4
            clear x8 x4 xb xn xd xs
            go_wp2_with fail
            go_roundw
            case rel =>
             have mm : Mut (w.heap.size + 1) Wn (Wn.setCell ⟨w.heap.size + 1, 4, none⟩ (.slice an T.length kn)) := (Mut.refl _ _).setCell _ _ _
             exact ⟨2, at_ + 1 + n, ad, an, dl, T, kd, kn, by omega, by first | rfl | go_num, by first | rfl | go_num, by have := HC'.out; omega, by rw [row?_setCell_eq R8.out]; rfl, mm.row R4.out (by omega), BB.out.trans (mm.below (by omega) BB.out.size), mm.own OD.out (by omega), mm.own ON.out (by omega), .inr (.inr ⟨rfl, HQ.out⟩)⟩
            case measure => simp [intOf]
          ·have e : lPart b at_ false = .error 5 := by unfold lPart; rw [if_neg hA, hn, if_pos (.inr (by omega))]
           have hBi : (20 : Int) < (n : Nat) := by omega
           clear hB hA
           rw [e] at hq
           have HQ := Lib.hid hq
           clear hq e
           have r8 := R8.out
           have r4 := R4.out
           go_wp2_with fail
           refine bodyPost_ret (results_row4 AgH rfl _ _ w.heap.size (hvA true 2 ver (.slice ad dl.length kd) (.slice as_ sl.length ks) (.slice none 0 0) false false 0 nl) rfl ?_ (hvA_size ..)) rfl ?_
           ·first | exact row?_setRow_eq R4.out | (rw [row?_drew]; exact row?_setRow_eq R4.out)
           ·rw [← HQ.out]
            exact ⟨_, _, _, _, _, _, _, _, _, _, _, _, _, _, _, _, rfl, by first | exact BB.out.trans (((Mut.refl _ _).setRow _).below (Nat.le_refl _) BB.out.size) | exact BB.out.trans (((Mut.refl _ _).setRow _).drew.below (Nat.le_refl _) BB.out.size)⟩
        ·have c81 : wr.cell? ⟨w.heap.size + 1, 1, none⟩ = some (.int .i64 2) := row?_cell R8.out 1
         unfold L2 at hq
         rw [show lTok b 2 at_ = .ok ([], at_) from by unfold lTok; rw [if_pos (by decide)]] at hq
         simp only [] at hq
         unfold lTail at hq
         have hcut : ∀ W, (Instr.sliceAt 27 (.slice (some ⟨bb, off, none⟩) b.length cap) (some (.int .i64 (at_ : Nat))) none none).run Try.prog W = .ok (.slice (cutA (some ⟨bb, off, none⟩) at_ cap) (b.length - at_) (cap - at_)) W := fun W => by
          rw [cut_l TB W _ _ _ _ _ (by omega) (by have := HAT.out; omega), Int.toNat_natCast]
         have hsc := HSB.out.cut at_ b.length HAT.out (Nat.le_refl _)
         rw [List.take_length] at hsc
         have hv := rvget_any (b.drop at_) (by rw [List.length_drop]; have := HBL.out; omega) _ wr (hsc.below BB.out)
         have hm8 := vget_many8 (b.drop at_)
         have hml := vget_many (b.drop at_)
         rw [List.length_drop] at hml
         obtain ⟨pp, hpp⟩ : ∃ pp, vget (b.drop at_) = pp := ⟨_, rfl⟩
         rw [hpp] at hv hm8 hml hq
         obtain ⟨n2, m2, x2⟩ := pp
         simp only [] at hv hm8 hml hq
         have HV := Lib.hid hv
         have HM8 := Lib.hid hm8
         have HML := Lib.hid hml
         have HQT := Lib.hid hq
         clear hsc hv hm8 hml hq hpp
         go_wp2_with fail
         refine HV.out.mono ?_
         rintro e w' ⟨rfl, rfl⟩
         clear HV hcut
         by_cases hx : x2 = 0
         ·subst hx
          have hq := HQT.out
          rw [if_neg (by simp)] at hq
          have HQ := Lib.hid hq
          clear hq HQT
          by_cases h30 : 1073741824 < n2
          ·have h30i : (1073741824 : Int) < (n2 : Nat) := by omega
           have hwt : (1073741824 : Int) = ((min n2 1073741824 : Nat) : Int) := by omega
           have hwa : wrap64 ((at_ : Int) + m2) = ((at_ + m2 : Nat) : Int) := by have := HBL.out; have := HAT.out; have := HM8.out; unfold wrap64; omega
           have HWA := Lib.hid hwa
           have HWT := Lib.hid hwt
           have r8 := R8.out
           have r4 := R4.out
           clear h30 hwt hwa
           go_wp2_with fail
           refine bodyPost_ret (results_row4 AgH rfl _ _ w.heap.size (hvA true 2 ver (.slice ad dl.length kd) (.slice as_ sl.length ks) (.slice none 0 0) false false 0 nl) rfl ?_ (hvA_size ..)) rfl ?_
           ·exact row?_setRow_eq R4.out
           ·rw [← HQ.out]
            have mm : Mut w.heap.size wr (wr.setRow w.heap.size (hvA true 2 ver (.slice ad dl.length kd) (.slice as_ sl.length ks) (.slice none 0 0) false false 0 nl)) := (Mut.refl _ _).setRow _
            exact ⟨(.slice ad dl.length kd), (.slice as_ sl.length ks), (.slice none 0 0), congrArg (fun p : Int × Int => Ending.returned (.tuple #[.agg (hvA true 2 ver (.slice ad dl.length kd) (.slice as_ sl.length ks) (.slice none 0 0) false false 0 nl), .int .i64 p.1, .int .i64 p.2, .int .i64 0])) (Prod.ext (x := ((wrap64 ((at_ : Int) + m2), 1073741824) : Int × Int)) (y := ((((at_ + m2 : Nat) : Int), ((min n2 1073741824 : Nat) : Int)) : Int × Int)) HWA.out HWT.out), own_lower (mm.own OD.out (by omega)) (by omega), own_lower (mm.own OS.out (by omega)) (by omega), World.ownsRow_nil _ _ _ _, BB.out.trans (mm.below (Nat.le_refl _) BB.out.size)⟩
          ·have h30i : ¬ (1073741824 : Int) < (n2 : Nat) := by omega
           have hwt : ((n2 : Nat) : Int) = ((min n2 1073741824 : Nat) : Int) := by omega
           have hwa : wrap64 ((at_ : Int) + m2) = ((at_ + m2 : Nat) : Int) := by have := HBL.out; have := HAT.out; have := HM8.out; unfold wrap64; omega
           have HWA := Lib.hid hwa
           have HWT := Lib.hid hwt
           have r8 := R8.out
           have r4 := R4.out
           clear h30 hwt hwa
           go_wp2_with fail
           refine bodyPost_ret (results_row4 AgH rfl _ _ w.heap.size (hvA true 2 ver (.slice ad dl.length kd) (.slice as_ sl.length ks) (.slice none 0 0) false false 0 nl) rfl ?_ (hvA_size ..)) rfl ?_
           ·exact row?_setRow_eq R4.out
           ·rw [← HQ.out]
            have mm : Mut w.heap.size wr (wr.setRow w.heap.size (hvA true 2 ver (.slice ad dl.length kd) (.slice as_ sl.length ks) (.slice none 0 0) false false 0 nl)) := (Mut.refl _ _).setRow _
            exact ⟨(.slice ad dl.length kd), (.slice as_ sl.length ks), (.slice none 0 0), congrArg (fun p : Int × Int => Ending.returned (.tuple #[.agg (hvA true 2 ver (.slice ad dl.length kd) (.slice as_ sl.length ks) (.slice none 0 0) false false 0 nl), .int .i64 p.1, .int .i64 p.2, .int .i64 0])) (Prod.ext (x := ((wrap64 ((at_ : Int) + m2), ((n2 : Nat) : Int)) : Int × Int)) (y := ((((at_ + m2 : Nat) : Int), ((min n2 1073741824 : Nat) : Int)) : Int × Int)) HWA.out HWT.out), own_lower (mm.own OD.out (by omega)) (by omega), own_lower (mm.own OS.out (by omega)) (by omega), World.ownsRow_nil _ _ _ _, BB.out.trans (mm.below (Nat.le_refl _) BB.out.size)⟩
         ·have hq := HQT.out
          rw [if_pos hx] at hq
          have HQ := Lib.hid hq
          clear hq HQT
          have r8 := R8.out
          have r4 := R4.out
          go_wp2_with fail
          refine bodyPost_ret (results_row4 AgH rfl _ _ w.heap.size (hvA true 2 ver (.slice ad dl.length kd) (.slice as_ sl.length ks) (.slice none 0 0) false false 0 nl) rfl ?_ (hvA_size ..)) rfl ?_
          ·first | exact row?_setRow_eq R4.out | (rw [row?_drew]; exact row?_setRow_eq R4.out)
          ·rw [← HQ.out]
           exact ⟨_, _, _, _, _, _, _, _, _, _, _, _, _, _, _, _, rfl, by first | exact BB.out.trans (((Mut.refl _ _).setRow _).below (Nat.le_refl _) BB.out.size) | exact BB.out.trans (((Mut.refl _ _).setRow _).drew.below (Nat.le_refl _) BB.out.size)⟩
    ·have hq := HQ5.out
     rw [if_pos (.inl rfl)] at hq
     have HQ := Lib.hid hq
     have c81 : W4.cell? ⟨w.heap.size + 1, 1, none⟩ = some (.int .i64 3) := row?_cell R8.out 1
     clear hq HQ5
     have r8 := R8.out
     have r4 := R4.out
     go_wp2_with fail
     refine bodyPost_ret (results_row4 AgH rfl _ _ w.heap.size (hvA true 3 0 (.slice none 0 0) (.slice none 0 0) (.slice none 0 0) false false 0 nl) rfl ?_ (hvA_size ..)) rfl ?_
     ·first | exact row?_setRow_eq R4.out | (rw [row?_drew]; exact row?_setRow_eq R4.out)
     ·rw [← HQ.out]
      exact ⟨_, _, _, _, _, _, _, _, _, _, _, _, _, _, _, _, rfl, by first | exact BB.out.trans (((Mut.refl _ _).setRow _).below (Nat.le_refl _) BB.out.size) | exact BB.out.trans (((Mut.refl _ _).setRow _).drew.below (Nat.le_refl _) BB.out.size)⟩
end Go.Proofs.Ytjlpppnpdgenfaa
