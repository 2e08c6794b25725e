/- The walk of the law PackRooms. -/
import Derived.Test.YtipniobgijdlkaaPckR
import Derived.Test.YtipniobgijdlkaaGrow
namespace Go.Proofs.Ytipniobgijdlkaa
open Go.RowKit Go.Rw Frm Hdr
attribute [local go_sem ↓] ldH stH alH bdH
attribute [local go_sem] rldH rstH ralH setRow_alloc_at setRow_alloc_past setRow_drew
theorem buildH9 (x : Int) (w : World) : (buildP 46 #[(9, .int .i64 x)]).run Try.prog w = .ok (.agg (hvA false 0 0 (.slice none 0 0) (.slice none 0 0) (.slice none 0 0) false false 0 x)) w := Go.run_build w _ _ _ (by kernel_rfl)
theorem buildHL (a b c : Option Addr) (m1 m2 m3 c1 c2 c3 : Nat) (x : Int) (w : World) : (buildP 46 #[(0, .bool true), (3, .slice a m1 c1), (4, .slice b m2 c2), (5, .slice c m3 c3), (9, .int .i64 x)]).run Try.prog w = .ok (.agg (hvA true 0 0 (.slice a m1 c1) (.slice b m2 c2) (.slice c m3 c3) false false 0 x)) w := Go.run_build w _ _ _ (by kernel_rfl)
attribute [local go_sem] buildH39 buildH9 buildHL
set_option maxRecDepth 20000 in
set_option maxHeartbeats 4000000 in
theorem roomsLaw_any (A B C : Int) (w : World) :
    Calls Try.prog 5 #[.int .i64 A, .int .i64 B, .int .i64 C] w fun e w' => e = .returned (.bool true) ∧ Below w.heap.size w w' := by
  have hA := low_lt A 4 (by omega)
  have hB := low_lt B 20 (by omega)
  have hC := low_lt C 60 (by omega)
  have la := fun W => low_any A 4 (by omega) (by omega) W
  have lb := fun W => low_any B 20 (by omega) (by omega) W
  have lc := fun W => low_any C 60 (by omega) (by omega) W
  generalize low A 4 = a at *
  generalize low B 20 = s at *
  generalize low C 60 = t at *
  have HLA := Lib.hid la
  have HLB := Lib.hid lb
  have HLC := Lib.hid lc
  obtain ⟨nl, hnl⟩ : ∃ nl : Nat, 1 + a = nl := ⟨_, rfl⟩
  have w1 : wrap64 (1 + (a : Int)) = (nl : Int) := by rw [← hnl]; exact (IntWalk.wrap64_in _ (by omega)).trans (by omega)
  have h1 : 1 ≤ nl := by omega
  have h4 : nl ≤ 4 := by omega
  clear la lb lc hnl
  go_enter Try.func5, Try.ntmps5
  go_wp2_with fail
  refine (HLA.out _).mono ?_
  rintro e w' ⟨rfl, rfl⟩
  go_wp2_with fail
  refine (HLB.out _).mono ?_
  rintro e w' ⟨rfl, rfl⟩
  go_wp2_with fail
  refine (HLC.out _).mono ?_
  rintro e w' ⟨rfl, rfl⟩
  go_wp2_with fail
  refine (grow_any 8 3 (by omega) (by omega) _).mono ?_
  rintro e w2 ⟨v2, d1, rfl, ld1, sd1, b2⟩
  obtain ⟨a2, c2, rfl, -, -, -⟩ := id sd1
  rw [ld1] at sd1 ⊢
  have B2 := Lib.hid b2
  have SD1 := Lib.hid sd1
  have LD1 := Lib.hid ld1
  clear b2 sd1 ld1
  go_wp2_with fail
  have RS := Lib.hid (row?_alloc_at w2 (hvA false 0 0 (.slice a2 8 c2) (.slice none 0 0) (.slice none 0 0) false false 0 (1 + (a : Int))) 46 w2.heap.size rfl)
  have b22 : Below w2.heap.size w2 (w2.alloc (.cells (hvA false 0 0 (.slice a2 8 c2) (.slice none 0 0) (.slice none 0 0) false false 0 (1 + (a : Int))) 46)) := (Below.refl _ _).alloc (Nat.le_refl _) _
  have B22 := Lib.hid (B2.out.trans (b22.mono B2.out.size))
  have SD12 := Lib.hid (SD1.out.below b22)
  clear b22
  refine (grow_any 8 3 (by omega) (by omega) _).mono ?_
  rintro e w3 ⟨v3, d2, rfl, ld2, sd2, b3⟩
  obtain ⟨a3, c3, rfl, -, -, -⟩ := id sd2
  rw [ld2] at sd2 ⊢
  have RS3 := Lib.hid (Rg.stable_row b3 RS.out)
  have B3 := Lib.hid (B22.out.trans (b3.mono B22.out.size))
  have SD13 := Lib.hid (SD12.out.below b3)
  have SD2 := Lib.hid sd2
  have LD2 := Lib.hid ld2
  clear b3 sd2 ld2
  go_wp2_with fail
  refine (grow_any s 1 (by omega) (by omega) _).mono ?_
  rintro e w4 ⟨v4, sr, rfl, lsr, ssr, b4⟩
  obtain ⟨a4, c4, rfl, -, -, -⟩ := id ssr
  rw [lsr] at ssr ⊢
  have RS4 := Lib.hid (Rg.stable_row b4 RS3.out)
  have B4 := Lib.hid (B3.out.trans (b4.mono B3.out.size))
  have SD14 := Lib.hid (SD13.out.below b4)
  have SD24 := Lib.hid (SD2.out.below b4)
  have SSR := Lib.hid ssr
  have LSR := Lib.hid lsr
  clear b4 ssr lsr
  go_wp2_with fail
  refine (grow_any t 2 (by omega) (by omega) _).mono ?_
  rintro e w5 ⟨v5, tk, rfl, ltk, stk, b5⟩
  obtain ⟨a5, c5, rfl, -, -, -⟩ := id stk
  rw [ltk] at stk ⊢
  have RS5 := Lib.hid (Rg.stable_row b5 RS4.out)
  have B5 := Lib.hid (B4.out.trans (b5.mono B4.out.size))
  have SD15 := Lib.hid (SD14.out.below b5)
  have SD25 := Lib.hid (SD24.out.below b5)
  have SSR5 := Lib.hid (SSR.out.below b5)
  have STK := Lib.hid stk
  have LTK := Lib.hid ltk
  clear b5 stk ltk
  go_wp2_with fail
  obtain ⟨w6, hw6⟩ : ∃ w6, (w5.alloc (.cells (hvA true 0 0 (.slice a3 8 c3) (.slice a4 s c4) (.slice a5 t c5) false false 0 (1 + (a : Int))) 46)).alloc (.cells (hvA true 0 0 (.slice a3 8 c3) (.slice a4 s c4) (.slice a5 t c5) false false 0 (1 + (a : Int))) 46) = w6 := ⟨_, rfl⟩
  have RL6 := Lib.hid (show row? w6 w5.heap.size = some (hvA true 0 0 (.slice a3 8 c3) (.slice a4 s c4) (.slice a5 t c5) false false 0 (1 + (a : Int))) by rw [← hw6]; simp [go_sem])
  have RM6 := Lib.hid (show row? w6 (w5.heap.size + 1) = some (hvA true 0 0 (.slice a3 8 c3) (.slice a4 s c4) (.slice a5 t c5) false false 0 (1 + (a : Int))) by rw [← hw6]; simp [go_sem])
  have b66 : Below w5.heap.size w5 w6 := by rw [← hw6]; exact bel2 w5 _ _
  have RS6 := Lib.hid (Rg.stable_row b66 RS5.out)
  have B6 := Lib.hid (B5.out.trans (b66.mono B5.out.size))
  have SD16 := Lib.hid (SD15.out.below b66)
  have SD26 := Lib.hid (SD25.out.below b66)
  have SSR6 := Lib.hid (SSR5.out.below b66)
  have STK6 := Lib.hid (STK.out.below b66)
  rw [hw6]
  have B56 := Lib.hid b66
  have hsz6 : w6.heap.size = w5.heap.size + 2 := by rw [← hw6]; simp
  clear hw6 b66
  refine (show Calls Try.prog 23 #[.int .i64 ((s : Int) + 1), .int .i64 1] w6 _ from grow_row (s + 1) 1 (by omega) (by omega) w6).mono ?_
  rintro e w7 ⟨sr2, rfl, lsr2, rsr2, b7⟩
  rw [hsz6] at rsr2 ⊢
  have RL7 := Lib.hid (Rg.stable_row b7 RL6.out)
  have RM7 := Lib.hid (Rg.stable_row b7 RM6.out)
  have RS7 := Lib.hid (Rg.stable_row b7 RS6.out)
  have hsz := row?_lt RS5.out
  have B7 := Lib.hid (B6.out.trans (b7.mono B6.out.size))
  have s5 := B5.out.size
  have q4 : w7.cell? ⟨w5.heap.size + 1, 4, none⟩ = some (.slice a4 s c4) := row?_cell RM7.out 4
  have f4 := row?_frozen RM7.out 4
  obtain ⟨w8, hw8⟩ : ∃ w8, w7.setCell ⟨w5.heap.size + 1, 4, none⟩ (.slice (some ⟨w5.heap.size + 2, 0, none⟩) (s + 1) (s + 1)) = w8 := ⟨_, rfl⟩
  have b88 : Below w5.heap.size w7 w8 := by rw [← hw8]; exact (Below.refl _ _).setCell (by simp) _
  have b58 : Below w5.heap.size w6 w8 := (b7.mono (by have := row?_lt RM6.out; omega)).trans b88
  have RL8 := Lib.hid (show row? w8 w5.heap.size = some (hvA true 0 0 (.slice a3 8 c3) (.slice a4 s c4) (.slice a5 t c5) false false 0 (1 + (a : Int))) by rw [← hw8, row?_setCell_ne _ _ _ _ (by simp)]; exact RL7.out)
  have RM8 := Lib.hid (show row? w8 (w5.heap.size + 1) = some (hvA true 0 0 (.slice a3 8 c3) (.slice (some ⟨w5.heap.size + 2, 0, none⟩) (s + 1) (s + 1)) (.slice a5 t c5) false false 0 (1 + (a : Int))) by rw [← hw8, row?_setCell_eq RM7.out, hvA_set4])
  have RS8 := Lib.hid (show row? w8 w2.heap.size = some (hvA false 0 0 (.slice a2 8 c2) (.slice none 0 0) (.slice none 0 0) false false 0 (1 + (a : Int))) by rw [← hw8, row?_setCell_ne _ _ _ _ (by simp; omega)]; exact RS7.out)
  have B8 := Lib.hid (show Below w.heap.size w w8 by rw [← hw8]; exact B7.out.setCell (by simp; omega) _)
  have b78 : Below w5.heap.size w5 w8 := B56.out.trans b58
  have SD18 := Lib.hid (SD15.out.below b78)
  have SD28 := Lib.hid (SD25.out.below b78)
  have SSR8 := Lib.hid (SSR5.out.below b78)
  have STK8 := Lib.hid (STK.out.below b78)
  have rsr8 : row? w8 (w5.heap.size + 2) = some (bvs sr2) := by rw [← hw8, row?_setCell_ne _ _ _ _ (by simp <;> omega)]; exact rsr2
  have ssr2 := Sl.row rsr8
  rw [lsr2] at ssr2
  have SS28 := Lib.hid ssr2
  have LS2 := Lib.hid lsr2
  clear b7 b88 b58 b78 rsr8 rsr2 ssr2 lsr2
  have HL := hvA_pt true 0 0 (.slice a3 8 c3) (.slice a4 s c4) (.slice a5 t c5) false false 0 (1 + (a : Int))
  have ld8 := rldH w8 w5.heap.size (by rw [RL8.out, Option.map_some, HL])
  rw [RL8.out] at ld8
  have ld8' : (loadAgg 46 (.pointer (some ⟨w5.heap.size, 0, none⟩))).run Try.prog w8 = .ok (.agg (hvA true 0 0 (.slice a3 8 c3) (.slice a4 s c4) (.slice a5 t c5) false false 0 (1 + (a : Int)))) w8 := ld8
  have hm : mayN true 0 0 d2.length sr.length tk.length false false 0 ((1 + a : Nat) : Int) = true := by
    unfold mayN
    rw [if_neg (by have := LD2.out; omega), if_neg (by decide)]
    simp
    have := LSR.out; have := LTK.out; omega
  have hln : (longB 0 0 d2 sr tk 0 (1 + a) 16).length = 19 + s + t + a := by
    rw [long_len d2 sr tk (1 + a) LD2.out (by have := LTK.out; omega), LSR.out, LTK.out]; omega
  have hput := put_long 0 0 d2 sr tk (.slice a3 8 c3) (.slice a4 s c4) (.slice a5 t c5) 0 (1 + a) 16 hm (by omega) (by omega) w8 SD28.out SSR8.out STK8.out
  have HPUT := Lib.hid hput
  have HLN := Lib.hid hln
  clear ld8 hm hln hput
  go_wp2_with fail
  clear hw8
  refine (show Calls Try.prog 24 #[.agg (hvA true 0 0 (.slice a3 8 c3) (.slice a4 s c4) (.slice a5 t c5) false false 0 (1 + (a : Int))), .int .i64 16] w8 _ from HPUT.out).mono ?_
  rintro e w9 ⟨v9, rfl, o9, b9⟩
  have s9 := Own.sl o9
  obtain ⟨a9, c9, e9, -, -, -⟩ := s9
  rw [HLN.out] at e9
  subst e9
  have B9 := Lib.hid (B8.out.trans (b9.mono B8.out.size))
  have RL9 := Lib.hid (Rg.stable_row b9 RL8.out)
  have RM9 := Lib.hid (Rg.stable_row b9 RM8.out)
  have RS9 := Lib.hid (Rg.stable_row b9 RS8.out)
  have SD19 := Lib.hid (SD18.out.below b9)
  have SD29 := Lib.hid (SD28.out.below b9)
  have SSR9 := Lib.hid (SSR8.out.below b9)
  have STK9 := Lib.hid (STK8.out.below b9)
  have SS29 := Lib.hid (SS28.out.below b9)
  have ld9 := rldH w9 w5.heap.size (by rw [RL9.out, Option.map_some, HL])
  rw [RL9.out] at ld9
  have ld9' : (loadAgg 46 (.pointer (some ⟨w5.heap.size, 0, none⟩))).run Try.prog w9 = .ok (.agg (hvA true 0 0 (.slice a3 8 c3) (.slice a4 s c4) (.slice a5 t c5) false false 0 (1 + (a : Int)))) w9 := ld9
  have hroom := room_long d2 sr tk (.slice a3 8 c3) (.slice a4 s c4) (.slice a5 t c5) (1 + a) LD2.out (by have := LSR.out; omega) (by have := LTK.out; omega) (by omega) (by omega) w9 SD29.out SSR9.out STK9.out
  rw [LSR.out, LTK.out] at hroom
  have HR := Lib.hid hroom
  clear ld9 hroom b9 o9 ld8'
  go_wp2_with fail
  refine (show Calls Try.prog 25 #[.agg (hvA true 0 0 (.slice a3 8 c3) (.slice a4 s c4) (.slice a5 t c5) false false 0 (1 + (a : Int)))] w9 _ from HR.out).mono ?_
  rintro e w10 ⟨rfl, b10⟩
  obtain ⟨R, hR⟩ : ∃ R : Int, 222 - ((1 + a : Nat) : Int) - (s : Int) - (t : Int) = R := ⟨_, rfl⟩
  rw [hR]
  have B10 := Lib.hid (B9.out.trans (b10.mono B9.out.size))
  have RM10 := Lib.hid (Rg.stable_row b10 RM9.out)
  have RS10 := Lib.hid (Rg.stable_row b10 RS9.out)
  have SD110 := Lib.hid (SD19.out.below b10)
  have SD210 := Lib.hid (SD29.out.below b10)
  have STK10 := Lib.hid (STK9.out.below b10)
  have SS210 := Lib.hid (SS29.out.below b10)
  have HM := hvA_pt true 0 0 (.slice a3 8 c3) (.slice (some ⟨w5.heap.size + 2, 0, none⟩) (s + 1) (s + 1)) (.slice a5 t c5) false false 0 (1 + (a : Int))
  have ldm := rldH w10 (w5.heap.size + 1) (by rw [RM10.out, Option.map_some, HM])
  rw [RM10.out] at ldm
  have ldm' : (loadAgg 46 (.pointer (some ⟨w5.heap.size + 1, 0, none⟩))).run Try.prog w10 = .ok (.agg (hvA true 0 0 (.slice a3 8 c3) (.slice (some ⟨w5.heap.size + 2, 0, none⟩) (s + 1) (s + 1)) (.slice a5 t c5) false false 0 (1 + (a : Int)))) w10 := ldm
  have e1 : (256 - (19 + (s : Int) + t + a) - 16) = R := by omega
  have e2 : (222 - (1 + (a : Int)) - s - t) = R := by omega
  have hroom2 := room_long d2 sr2 tk (.slice a3 8 c3) (.slice (some ⟨w5.heap.size + 2, 0, none⟩) (s + 1) (s + 1)) (.slice a5 t c5) (1 + a) LD2.out (by have := LS2.out; omega) (by have := LTK.out; omega) (by omega) (by omega) w10 SD210.out SS210.out STK10.out
  rw [LS2.out, LTK.out, show (222 : Int) - ((1 + a : Nat) : Int) - ((s + 1 : Nat) : Int) - (t : Int) = R - 1 by omega] at hroom2
  have HR2 := Lib.hid hroom2
  clear ldm hroom2 b10 ld9'
  have HRR := Lib.hid hR
  have r0 : R ≤ 222 := by omega
  have r1 : 0 ≤ R := by omega
  go_wp2_with fail
  refine (show Calls Try.prog 25 #[.agg (hvA true 0 0 (.slice a3 8 c3) (.slice (some ⟨w5.heap.size + 2, 0, none⟩) (s + 1) (s + 1)) (.slice a5 t c5) false false 0 (1 + (a : Int)))] w10 _ from HR2.out).mono ?_
  rintro e w11 ⟨rfl, b11⟩
  have B11 := Lib.hid (B10.out.trans (b11.mono B10.out.size))
  have RS11 := Lib.hid (Rg.stable_row b11 RS10.out)
  have SD111 := Lib.hid (SD110.out.below b11)
  have HS := hvA_pt false 0 0 (.slice a2 8 c2) (.slice none 0 0) (.slice none 0 0) false false 0 (1 + (a : Int))
  have lds := rldH w11 w2.heap.size (by rw [RS11.out, Option.map_some, HS])
  rw [RS11.out] at lds
  have lds' : (loadAgg 46 (.pointer (some ⟨w2.heap.size, 0, none⟩))).run Try.prog w11 = .ok (.agg (hvA false 0 0 (.slice a2 8 c2) (.slice none 0 0) (.slice none 0 0) false false 0 (1 + (a : Int)))) w11 := lds
  have HR3 := Lib.hid (room_short d1 LD1.out (.slice a2 8 c2) (1 + a) (by omega) (by omega) w11 SD111.out)
  have e3 : (231 - (1 + (a : Int))) = 231 - ((1 + a : Nat) : Int) := by omega
  clear lds b11 ldm'
  go_wp2_with fail
  refine (show Calls Try.prog 25 #[.agg (hvA false 0 0 (.slice a2 8 c2) (.slice none 0 0) (.slice none 0 0) false false 0 (1 + (a : Int)))] w11 _ from HR3.out).mono ?_
  rintro e w12 ⟨rfl, b12⟩
  have B12 := Lib.hid (B11.out.trans (b12.mono B11.out.size))
  rw [← e3]
  clear b12 lds'
  go_wp2_with fail
  have HR4 := Lib.hid (room_none (1 + a) w12)
  refine (show Calls Try.prog 25 #[.agg (hvA false 0 0 (.slice none 0 0) (.slice none 0 0) (.slice none 0 0) false false 0 (1 + (a : Int)))] w12 _ from HR4.out).mono ?_
  rintro e w13 ⟨rfl, b13⟩
  have B13 := Lib.hid (B12.out.trans (b13.mono B12.out.size))
  clear b13
  go_wp2_with fail
  refine (awake_any w13).mono ?_
  rintro e w14 ⟨rfl, b14⟩
  have B14 := Lib.hid (B13.out.trans (b14.mono B13.out.size))
  clear b14
  go_wp2_with fail
  go_ret
  exact ⟨rfl, B14.out⟩
end Go.Proofs.Ytipniobgijdlkaa
