/- The walk of package header's Get at short headers' bytes; and at all bytes. -/
import Derived.Test.YtjlpppnpdgenfaaMvb5
namespace Go.Proofs.Ytjlpppnpdgenfaa
open Go.RowKit Go.Rw Hdr
attribute [local go_sem ↓] bdR bdH hvA_0 hvA_1 hvA_2 hvA_3 hvA_4 hvA_5 hvA_6 hvA_7 hvA_8 hvA_9
attribute [local go_sem] buildR buildH buildH0
attribute [local go_sem ↓] ldH stH alH shift_shl8 shift_shr8 shift_shl64 shift_shr64
attribute [local go_sem] rldH rstH ralH setRow_alloc_at setRow_alloc_past setRow_drew
theorem nl_q3 {f : UInt8} {nl : Nat} (h : nl = n8 (f &&& 3) + 1) : ((n8 (f &&& 3) : Nat) : Int) + 1 = (nl : Int) := by omega
theorem nl_4 {f : UInt8} {nl : Nat} (h : nl = n8 (f &&& 3) + 1) : nl ≤ 4 := by have := and3_lt f; omega
theorem nl_q3a {f : UInt8} {nl : Nat} (h : nl = n8 (f &&& 3) + 1) : wrap64 ((n8 (f &&& 3) : Nat) : Int) = (nl : Int) - 1 := by have := and3_lt f; unfold wrap64; omega
theorem f_256 (f : UInt8) : ((n8 f : Nat) : Int) % 256 = (n8 f : Nat) := by have := n8_lt f; omega
theorem rest_w {L n a r : Nat} (h : n = L) (hr : n - a = r) (ha : a ≤ n) (hn : n ≤ 1000000) : wrap64 ((L : Int) - (a : Nat)) = (r : Nat) := by unfold wrap64; omega
set_option maxRecDepth 100000 in
set_option maxHeartbeats 4000000 in
theorem get_short_any (b : List UInt8) (hb : b.length ≤ 1000000) (vb : Value) (w : World) (hsb : Sl w vb b) (hl : (gByte b &&& 128 != 0) = false) :
  Calls Try.prog 38 #[vb] w (GetPost w (get b)) := by
 have hs0 := hsb
 obtain ⟨ao, cap, rfl, hc, hnn, hp⟩ := hsb
 clear hp hnn
 have hall := get_of (gAll_short hl)
 have hv256 : (rnum b 1 (0, 0)).2 < 256 := rnum_lt b 1 (0, 0)
 have hle1 : (rnum b 1 (0, 0)).1.1 ≤ b.length := rnum_le b 1 (0, 0) (Nat.zero_le _)
 have hP1 : rnum b 1 (0, 0) = ((rnum b 1 (0, 0)).1, n8 (gByte b)) := by unfold gByte; rw [n8_ofNat _ hv256]
 have hP2 : rfail (gByte b &&& 64 == 0) 5 (rnum b 1 (0, 0)).1 = gFirst b := rfl
 obtain ⟨s3, hP3⟩ : ∃ s3, rfail (gByte b &&& 24 != 0) 5 (gFirst b) = s3 := ⟨_, rfl⟩
 obtain ⟨q4, hP4⟩ : ∃ q4, rtake b 8 s3 = q4 := ⟨_, rfl⟩
 obtain ⟨q5, hP5⟩ : ∃ q5, rnum b (gNl b) q4.1 = q5 := ⟨_, rfl⟩
 have e4 : gShort b = q4 := by unfold gShort; rw [hP3, hP4]
 have e5 : gShortN b = q5 := by unfold gShortN; rw [e4, hP5]
 rw [e4, e5] at hall
 have hle2 : (gFirst b).1 ≤ b.length := by unfold gFirst; rw [rfail_at]; exact hle1
 have hnl : gNl b = n8 (gByte b &&& 3) + 1 := rfl
 have hq3 := and3_lt (gByte b)
 generalize get b = qq at hall ⊢
 have hle3 : s3.1 ≤ b.length := by rw [← hP3, rfail_at]; exact hle2
 have hle4 : q4.1.1 ≤ b.length := by rw [← hP4]; exact rtake_le _ _ _ hle3
 have hle5 : q5.1.1 ≤ b.length := by rw [← hP5]; exact rnum_le _ _ _ hle4
 have hll : q4.2.length ≤ 8 := by rw [← hP4]; exact rtake_len _ _ _
 obtain ⟨s4, dst⟩ := q4
 obtain ⟨s5, num⟩ := q5
 simp only [] at hall hP5 hle4 hle5 hll
 clear e4 e5
 generalize gFirst b = s2 at hP2 hP3 hle2
 generalize gNl b = nl at hall hnl hP5
 generalize (rnum b 1 (0, 0)).1 = s1 at hP1 hP2 hle1
 generalize gByte b = f at hl hall hP1 hP2 hP3 hnl hq3
 have hnl4 : nl ≤ 4 := nl_4 hnl
 have HALL := Lib.hid hall
 have P1 := Lib.hid hP1
 have P2 := Lib.hid hP2
 have P3 := Lib.hid hP3
 have P4 := Lib.hid hP4
 have P5 := Lib.hid hP5
 have HLD := Lib.hid hll
 clear hall hP1 hP2 hP3 hP4 hP5 hll hv256 hle1
 have hf256 := f_256 f
 have q128 : (f &&& 128 != 0) = false := hl
 obtain ⟨spin, q32⟩ : ∃ spin, (f &&& 32 != 0) = spin := ⟨_, rfl⟩
 obtain ⟨phase, q4⟩ : ∃ phase, (f &&& 4 != 0) = phase := ⟨_, rfl⟩
 have q3 := nl_q3 hnl
 have q3a := nl_q3a hnl
 have q3b := wrap_small nl (Nat.le_trans hnl4 (by decide))
 clear hl hnl hq3
 have HBLl := hb
 obtain ⟨i0, hi, hz0, hz1, hz2⟩ := info_parts info8
 obtain ⟨rest, hrest⟩ : ∃ rest, b.length - s5.1 = rest := ⟨_, rfl⟩
 have hall := HALL.out
 rw [q32, q4, hrest] at hall
 have HALL := Lib.hid hall
 have HLE3 := Lib.hid hle3
 have HLE4 := Lib.hid hle4
 have HLE5 := Lib.hid hle5
 have HRE := Lib.hid hrest
 clear hall hle2 hle3 hle4 hle5 hrest
 generalize hLL : b.length = L at hc hs0 ⊢
 have HL := Lib.hid hLL
 have HS0 := Lib.hid hs0
 have HC := Lib.hid hc
 clear hs0 hLL hc hb
 obtain ⟨J, hJ⟩ : ∃ J : Act → World → Prop, ∀ a w', J a w' ↔ (∃ (x : Nat × Value) (z : Nat → Value), a = ⟨(fun (x : Nat × Value) (z : Nat → Value) => #[z 0, z 1, .pointer (some ⟨w.heap.size, 0, none⟩), z 3, z 4, z 5, .pointer (some ⟨w.heap.size + 1, 0, none⟩), z 7, .pointer (some ⟨x.1, 0, none⟩), .int .i64 (rest : Nat), z 10, z 11, z 12, z 13, z 14, z 15, z 16, z 17, z 18, z 19, z 20, z 21, z 22, z 23, z 24, z 25, z 26, z 27, z 28, z 29, z 30, z 31, z 32, z 33, z 34, z 35, z 36, z 37, z 38, z 39, z 40, z 41, z 42, z 43, z 44, z 45, z 46, z 47, z 48, z 49, z 50, z 51, z 52, z 53, z 54, z 55, z 56, z 57, z 58, z 59, z 60, z 61, z 62, z 63, z 64, z 65, z 66, z 67, z 68, z 69, z 70, z 71, z 72, z 73, z 74, z 75, z 76, z 77, z 78]) x z, []⟩ ∧ (fun (x : Nat × Value) w' => row? w' w.heap.size = some (hvA false 0 0 (.slice none 0 0) (.slice none 0 0) (.slice none 0 0) false false 0 0) ∧ row? w' (w.heap.size + 1) = some (rd (.slice ao L cap) s5) ∧ w.heap.size + 2 ≤ x.1 ∧ row? w' x.1 = some (hvA false 0 0 x.2 (.slice none 0 0) (.slice none 0 0) spin phase num nl) ∧ w'.ownsRow (w.heap.size + 2) 5 1 x.2 dst.length (dst.map bv) ∧ Below w.heap.size w w') x w') := ⟨_, fun _ _ => Iff.rfl⟩
 have HJ := Lib.hid hJ
 clear hJ
 go_enter Try.func38, Try.ntmps38
 go_wp2_with fail
 refine wp_scope_jumps 1 J (fun _ _ => 0) rfl ?first ?pass
 case first =>
  go_wp2_with fail
  have hW1 : Below w.heap.size w ((w.alloc (.cells (hvA false 0 0 (.slice none 0 0) (.slice none 0 0) (.slice none 0 0) false false 0 0) 30)).alloc (.cells #[.slice ao L cap, .int .i64 0, .int .i64 0] 92)) := bel2 _ _ _
  have hR1 : row? ((w.alloc (.cells (hvA false 0 0 (.slice none 0 0) (.slice none 0 0) (.slice none 0 0) false false 0 0) 30)).alloc (.cells #[.slice ao L cap, .int .i64 0, .int .i64 0] 92)) (w.heap.size + 1) = some (rd (.slice ao L cap) (0, 0)) := row?_alloc_at _ _ _ _ (by simp)
  have hR0 : row? ((w.alloc (.cells (hvA false 0 0 (.slice none 0 0) (.slice none 0 0) (.slice none 0 0) false false 0 0) 30)).alloc (.cells #[.slice ao L cap, .int .i64 0, .int .i64 0] 92)) w.heap.size = some (hvA false 0 0 (.slice none 0 0) (.slice none 0 0) (.slice none 0 0) false false 0 0) := by rw [row?_alloc_past _ _ _ (by simp)]; exact row?_alloc_at _ _ _ _ rfl
  have hZ1 : (((w.alloc (.cells (hvA false 0 0 (.slice none 0 0) (.slice none 0 0) (.slice none 0 0) false false 0 0) 30)).alloc (.cells #[.slice ao L cap, .int .i64 0, .int .i64 0] 92))).heap.size = w.heap.size + 2 := by simp
  generalize ((w.alloc (.cells (hvA false 0 0 (.slice none 0 0) (.slice none 0 0) (.slice none 0 0) false false 0 0) 30)).alloc (.cells #[.slice ao L cap, .int .i64 0, .int .i64 0] 92)) = W1 at hW1 hR1 hR0 hZ1 ⊢
  refine (rnumber_any b w W1 (w.heap.size + 1) (.slice ao L cap) (0, 0) 1 HBLl (by decide) (Nat.zero_le _) HS0.out hW1 (by omega) hR1).mono ?_
  rintro e W2 ⟨rfl, m2, r2⟩
  rw [P1.out] at r2
  rw [P1.out]
  have hR0b := m2.row hR0 (by omega)
  have hW2 : Below w.heap.size w W2 := hW1.trans (m2.below (by omega) (by omega))
  have hZ2 := m2.size
  clear m2 hW1 hR1 hR0
  have H2 := Lib.hid r2
  have H0 := Lib.hid hR0b
  clear r2 hR0b
  go_wp2_with fail
  refine (fail_any W2 (w.heap.size + 1) (.slice ao L cap) s1 _ 5 H2.out).mono ?_
  rintro e W3 ⟨rfl, m3, r3⟩
  rw [P2.out] at r3
  have hR0c := m3.row H0.out (by omega)
  have hW3 : Below w.heap.size w W3 := hW2.trans (m3.below (by omega) (by omega))
  have hZ3 := m3.size
  have H3 := Lib.hid r3
  have H0c := Lib.hid hR0c
  clear m3 r3 hR0c H2 H0 hW2
  go_wp2_with fail
  have hW4 : Below w.heap.size w (W3.alloc (.cells (hvA false 0 0 (.slice none 0 0) (.slice none 0 0) (.slice none 0 0) false false 0 nl) 30)) := hW3.alloc (by omega) _
  have hA4 : row? (W3.alloc (.cells (hvA false 0 0 (.slice none 0 0) (.slice none 0 0) (.slice none 0 0) false false 0 nl) 30)) W3.heap.size = some (hvA false 0 0 (.slice none 0 0) (.slice none 0 0) (.slice none 0 0) false false 0 nl) := row?_alloc_at _ _ _ _ rfl
  have hR4 : row? (W3.alloc (.cells (hvA false 0 0 (.slice none 0 0) (.slice none 0 0) (.slice none 0 0) false false 0 nl) 30)) (w.heap.size + 1) = some (rd (.slice ao L cap) s2) := by rw [row?_alloc_past _ _ _ (by omega)]; exact H3.out
  have h04 : row? (W3.alloc (.cells (hvA false 0 0 (.slice none 0 0) (.slice none 0 0) (.slice none 0 0) false false 0 nl) 30)) w.heap.size = some (hvA false 0 0 (.slice none 0 0) (.slice none 0 0) (.slice none 0 0) false false 0 0) := by rw [row?_alloc_past _ _ _ (by omega)]; exact H0c.out
  have hZ4 : (W3.alloc (.cells (hvA false 0 0 (.slice none 0 0) (.slice none 0 0) (.slice none 0 0) false false 0 nl) 30)).heap.size = W3.heap.size + 1 := by simp
  generalize (W3.alloc (.cells (hvA false 0 0 (.slice none 0 0) (.slice none 0 0) (.slice none 0 0) false false 0 nl) 30)) = W4 at hW4 hA4 hR4 h04 hZ4 ⊢
  have hBh : w.heap.size + 2 ≤ W3.heap.size := by omega
  generalize W3.heap.size = Bh at hA4 hZ4 hBh ⊢
  clear H3 H0c hW3 hZ3 hZ1 hZ2
  have A4 := Lib.hid hA4
  have O4 := Lib.hid h04
  have c0 : W4.cell? ⟨Bh, 0, none⟩ = some (.bool false) := row?_cell hA4 0
  clear hA4 h04
  go_wp2_with fail
  refine (fail_any W4 (w.heap.size + 1) (.slice ao L cap) s2 _ 5 hR4).mono ?_
  rintro e W5 ⟨rfl, m5, r5⟩
  rw [P3.out] at r5
  have hA5 := m5.row A4.out (by omega)
  have h05 := m5.row O4.out (by omega)
  have hW5 : Below w.heap.size w W5 := hW4.trans (m5.below (by omega) (by omega))
  have hZ5 := m5.size
  have H5 := Lib.hid r5
  have f6 := row?_frozen hA5 6
  have f7 := row?_frozen hA5 7
  have c6 : W5.cell? ⟨Bh, 6, none⟩ = some (.bool false) := row?_cell hA5 6
  have c7 : W5.cell? ⟨Bh, 7, none⟩ = some (.bool false) := row?_cell hA5 7
  have A5 := Lib.hid hA5
  have O5 := Lib.hid h05
  clear m5 r5 hA5 h05 hR4 hW4 A4 O4 c0
  go_wp2_with fail
  have hA6 : row? ((W5.setCell ⟨Bh, 6, none⟩ (.bool spin)).setCell ⟨Bh, 7, none⟩ (.bool phase)) Bh = some (hvA false 0 0 (.slice none 0 0) (.slice none 0 0) (.slice none 0 0) spin phase 0 nl) := by
   rw [row?_setCell_eq (row?_setCell_eq A5.out _)]; rfl
  have hR6 : row? ((W5.setCell ⟨Bh, 6, none⟩ (.bool spin)).setCell ⟨Bh, 7, none⟩ (.bool phase)) (w.heap.size + 1) = some (rd (.slice ao L cap) s3) := by
   rw [row?_setCell_ne _ _ _ _ (by simp; omega), row?_setCell_ne _ _ _ _ (by simp; omega)]; exact H5.out
  have h06 : row? ((W5.setCell ⟨Bh, 6, none⟩ (.bool spin)).setCell ⟨Bh, 7, none⟩ (.bool phase)) w.heap.size = some (hvA false 0 0 (.slice none 0 0) (.slice none 0 0) (.slice none 0 0) false false 0 0) := by
   rw [row?_setCell_ne _ _ _ _ (by simp; omega), row?_setCell_ne _ _ _ _ (by simp; omega)]; exact O5.out
  have hW6 : Below w.heap.size w ((W5.setCell ⟨Bh, 6, none⟩ (.bool spin)).setCell ⟨Bh, 7, none⟩ (.bool phase)) := (hW5.setCell (by simp; omega) _).setCell (by simp; omega) _
  have hZ6 : ((W5.setCell ⟨Bh, 6, none⟩ (.bool spin)).setCell ⟨Bh, 7, none⟩ (.bool phase)).heap.size = W5.heap.size := by simp [World.setCell]
  generalize ((W5.setCell ⟨Bh, 6, none⟩ (.bool spin)).setCell ⟨Bh, 7, none⟩ (.bool phase)) = W6 at hA6 hR6 h06 hW6 hZ6 ⊢
  clear A5 O5 H5 c6 c7 f6 f7 hW5
  refine (take_any b w W6 (w.heap.size + 1) (.slice ao L cap) s3 8 HBLl (by decide) HLE3.out HS0.out hW6 (by omega) hR6).mono ?_
  rintro e W7 ⟨vd0, rfl, sd0, m7, r7⟩
  rw [P4.out] at r7 sd0
  have hA7 := m7.row hA6 (by omega)
  have h07 := m7.row h06 (by omega)
  have hW7 : Below w.heap.size w W7 := hW6.trans (m7.below (by omega) (by omega))
  have hZ7 := m7.size
  have sd7 : Sl W7 vd0 dst := sd0.below hW7
  have hB7 := row?_lt hA7
  have H7 := Lib.hid r7
  have A7 := Lib.hid hA7
  have O7 := Lib.hid h07
  have SD7 := Lib.hid sd7
  clear m7 r7 hA6 hA7 h06 h07 hR6 hW6 sd0 sd7
  go_wp2_with (at_builtin; refine app_sl rfl _ _ 27 rfl W7.heap.size 5 i0 Try.underlying27 hi hz0 hz1 hz2 (.slice none 0 0) [] rfl (World.ownsRow_nil _ _ _ _) vd0 dst rfl SD7.out (by have := HLD.out; simp; omega) (Nat.le_refl _) ?_)
  intro vd w8 hown8 hgrow8
  have b8 : Below W7.heap.size W7 w8 := (Below.refl _ _).grown hgrow8 (Nat.le_refl _) (by intro k hk; cases hk)
  have hA8 := Rg.stable_row b8 A7.out
  have hR8 := Rg.stable_row b8 H7.out
  have h08 := Rg.stable_row b8 O7.out
  have hW8 : Below w.heap.size w w8 := hW7.trans (b8.mono hW7.size)
  have hZ8 := b8.size
  obtain ⟨av, cv, rfl, -, -, -⟩ := id (Own.sl (l := dst) hown8)
  have f3 := row?_frozen hA8 3
  have c3 : w8.cell? ⟨Bh, 3, none⟩ = some (.slice none 0 0) := row?_cell hA8 3
  have c9 : w8.cell? ⟨Bh, 9, none⟩ = some (.int .i64 (nl : Nat)) := row?_cell hA8 9
  have A8 := Lib.hid hA8
  have H8 := Lib.hid hR8
  have O8 := Lib.hid h08
  have HO8 := Lib.hid hown8
  clear hown8 hgrow8 hA8 hR8 h08 A7 H7 O7 SD7
  go_wp2_with fail
  have hA9 : row? (w8.setCell ⟨Bh, 3, none⟩ (.slice av dst.length cv)) Bh = some (hvA false 0 0 (.slice av dst.length cv) (.slice none 0 0) (.slice none 0 0) spin phase 0 nl) := by rw [row?_setCell_eq A8.out]; rfl
  have hR9 : row? (w8.setCell ⟨Bh, 3, none⟩ (.slice av dst.length cv)) (w.heap.size + 1) = some (rd (.slice ao L cap) s4) := by rw [row?_setCell_ne _ _ _ _ (by simp; omega)]; exact H8.out
  have h09 : row? (w8.setCell ⟨Bh, 3, none⟩ (.slice av dst.length cv)) w.heap.size = some (hvA false 0 0 (.slice none 0 0) (.slice none 0 0) (.slice none 0 0) false false 0 0) := by rw [row?_setCell_ne _ _ _ _ (by simp; omega)]; exact O8.out
  have hW9 : Below w.heap.size w (w8.setCell ⟨Bh, 3, none⟩ (.slice av dst.length cv)) := hW8.setCell (by simp; omega) _
  have hZ9 : (w8.setCell ⟨Bh, 3, none⟩ (.slice av dst.length cv)).heap.size = w8.heap.size := by simp [World.setCell]
  have od9 := ((Mut.refl Bh w8).setCell 3 none (.slice av dst.length cv)).own HO8.out hB7
  generalize (w8.setCell ⟨Bh, 3, none⟩ (.slice av dst.length cv)) = W9 at hA9 hR9 h09 hW9 hZ9 od9 ⊢
  clear A8 O8 H8 c3 c9 f3 hW8 HO8
  refine (rnumber_any b w W9 (w.heap.size + 1) (.slice ao L cap) s4 nl HBLl hnl4 HLE4.out HS0.out hW9 (by omega) hR9).mono ?_
  rintro e W10 ⟨rfl, m10, r10⟩
  rw [P5.out] at r10
  rw [P5.out]
  have hA10 := m10.row hA9 (by omega)
  have h010 := m10.row h09 (by omega)
  have od10 := m10.own od9 (by omega)
  have hW10 : Below w.heap.size w W10 := hW9.trans (m10.below (by omega) (by omega))
  have hZ10 := m10.size
  have f8 := row?_frozen hA10 8
  have c8 : W10.cell? ⟨Bh, 8, none⟩ = some (.int .u64 ((0 : Nat) : Int)) := row?_cell hA10 8
  have cr1 : W10.cell? ⟨w.heap.size + 1, 1, none⟩ = some (.int .i64 (s5.1 : Nat)) := row?_cell r10 1
  have hLw := rest_w HL.out HRE.out HLE5.out HBLl
  have A10 := Lib.hid hA10
  have H10 := Lib.hid r10
  have O10 := Lib.hid h010
  have OD10 := Lib.hid od10
  clear m10 hA9 hR9 h09 hW9 hA10 r10 h010 od9 od10
  have hne1 : ¬ (w.heap.size + 1 = Bh) := by omega
  have hne2 : ¬ (Bh = w.heap.size + 1) := by omega
  go_wp2_with fail
  try rw [hLw]
  refine wp_goto ?_
  show 1 = 1 ∧ J _ _
  refine ⟨rfl, J_of HJ.out (Bh, .slice av dst.length cv) (by kernel_rfl) ⟨?_, ?_, hBh, ?_, ?_, ?_⟩⟩
  ·rw [row?_setCell_ne _ _ _ _ (by simp; omega)]; exact O10.out
  ·rw [row?_setCell_ne _ _ _ _ (by simp; omega)]; exact H10.out
  ·rw [row?_setCell_eq A10.out]; rfl
  ·exact own_lower (((Mut.refl Bh W10).setCell 8 none _).own OD10.out hB7) (by omega)
  ·exact hW10.setCell (by simp; omega) _
 case pass =>
  intro a wq hj
  obtain ⟨⟨Bh, vd⟩, z, rfl, r0, r1, hBh, r2, od, hb'⟩ := (HJ.out _ _).1 hj
  simp only [] at r0 r1 hBh r2 od hb' ⊢
  obtain ⟨av, cv, rfl, -, -, -⟩ := id (Own.sl od)
  clear hj HJ P1 P2 P3 P4 P5 q3 q3a q3b q4 q32 q128 hf256
  have c12 : wq.cell? ⟨w.heap.size + 1, 2, none⟩ = some (.int .i64 s5.2) := row?_cell r1 2
  have c11 : wq.cell? ⟨w.heap.size + 1, 1, none⟩ = some (.int .i64 (s5.1 : Nat)) := row?_cell r1 1
  have R0 := Lib.hid r0
  have R1 := Lib.hid r1
  have R2 := Lib.hid r2
  have OD := Lib.hid od
  have HB' := Lib.hid hb'
  clear r0 r1 od hb'
  by_cases he : s5.2 = 0
  ·rw [he] at c12
   have hall := HALL.out
   rw [if_neg (by simpa using he)] at hall
   have HQ := Lib.hid hall
   clear hall HALL he c11
   go_wp2_with fail
   have r1s : row? (wq.setRow w.heap.size (hvA false 0 0 (.slice av dst.length cv) (.slice none 0 0) (.slice none 0 0) spin phase num nl)) (w.heap.size + 1) = some (rd (.slice ao L cap) s5) := by rw [row?_setRow_ne _ _ _ _ (by omega)]; exact R1.out
   have c13 : (wq.setRow w.heap.size (hvA false 0 0 (.slice av dst.length cv) (.slice none 0 0) (.slice none 0 0) spin phase num nl)).cell? ⟨w.heap.size + 1, 1, none⟩ = some (.int .i64 (s5.1 : Nat)) := row?_cell r1s 1
   have c14 : wq.cell? ⟨w.heap.size + 1, 1, none⟩ = some (.int .i64 (s5.1 : Nat)) := row?_cell R1.out 1
   clear r1s
   have r0 := R0.out
   go_region
   all_goals (go_wp2_with fail)
   simp only [Exit.jump]
   refine bodyPost_ret (results_row4 AgH rfl _ _ w.heap.size (hvA false 0 0 (.slice av dst.length cv) (.slice none 0 0) (.slice none 0 0) spin phase num nl) rfl ?_ (hvA_size ..)) rfl ?_
   ·rw [row?_drew]; exact row?_setRow_eq R0.out
   ·rw [HQ.out]
    have mm : Mut w.heap.size wq ((wq.setRow w.heap.size (hvA false 0 0 (.slice av dst.length cv) (.slice none 0 0) (.slice none 0 0) spin phase num nl)).drew) := ((Mut.refl _ _).setRow _).drew
    have hbs := HB'.out.size
    exact ⟨_, _, _, rfl, own_lower (mm.own OD.out (by omega)) (by omega), World.ownsRow_nil _ _ _ _, World.ownsRow_nil _ _ _ _, fun i j _ hj => by simp [Value.ownBlock] at hj, HB'.out.trans (mm.below (Nat.le_refl _) hbs)⟩
  ·have he' : (s5.2 != 0) = true := by simpa using he
   have hall := HALL.out
   rw [if_pos he] at hall
   have HQ := Lib.hid hall
   clear hall HALL
   go_wp2_with fail
   have r1s : row? (wq.setRow w.heap.size (hvA false 0 0 (.slice none 0 0) (.slice none 0 0) (.slice none 0 0) false false 0 0)) (w.heap.size + 1) = some (rd (.slice ao L cap) s5) := by rw [row?_setRow_ne _ _ _ _ (by omega)]; exact R1.out
   have c13 : (wq.setRow w.heap.size (hvA false 0 0 (.slice none 0 0) (.slice none 0 0) (.slice none 0 0) false false 0 0)).cell? ⟨w.heap.size + 1, 2, none⟩ = some (.int .i64 s5.2) := row?_cell r1s 2
   clear r1s
   have r0 := R0.out
   go_region
   all_goals (go_wp2_with fail)
   simp only [Exit.jump]
   refine bodyPost_ret (results_row4 AgH rfl _ _ w.heap.size (hvA false 0 0 (.slice none 0 0) (.slice none 0 0) (.slice none 0 0) false false 0 0) rfl ?_ (hvA_size ..)) rfl ?_
   ·rw [row?_drew]; exact row?_setRow_eq R0.out
   ·rw [HQ.out]
    have mm : Mut w.heap.size wq ((wq.setRow w.heap.size (hvA false 0 0 (.slice none 0 0) (.slice none 0 0) (.slice none 0 0) false false 0 0)).drew) := ((Mut.refl _ _).setRow _).drew
    have hbs := HB'.out.size
    exact ⟨_, _, _, rfl, World.ownsRow_nil _ _ _ _, World.ownsRow_nil _ _ _ _, World.ownsRow_nil _ _ _ _, fun i j hi => by simp [Value.ownBlock] at hi, HB'.out.trans (mm.below (Nat.le_refl _) hbs)⟩
theorem get_any (b : List UInt8) (hb : b.length ≤ 1000000) (vb : Value) (w : World) (hsb : Sl w vb b) :
  Calls Try.prog 38 #[vb] w (GetPost w (get b)) := by
 cases h : (gByte b &&& 128 != 0)
 ·exact get_short_any b hb vb w hsb h
 ·exact get_long_any b hb vb w hsb h
end Go.Proofs.Ytjlpppnpdgenfaa
