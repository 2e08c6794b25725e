/- The walk of package header's Get at a short header. -/
import Derived.Test.YtjlpppnpdgenfaaMva3
import Derived.Test.YtjlpppnpdgenfaaMva5
import Derived.ScopeJumps
import Derived.WalkMore
namespace Go.Proofs.Ytjlpppnpdgenfaa
open Go.RowKit Go.Rw Hdr
theorem AgR : Agg Try.prog 92 3 := ⟨⟨_, Try.underlying92, rfl⟩, by kernel_rfl⟩
attribute [local go_sem ↓] bdR bdH hvA_0 hvA_1 hvA_2 hvA_3 hvA_4 hvA_5 hvA_6 hvA_7 hvA_8 hvA_9
attribute [local go_sem] buildR buildH buildH0
attribute [local go_sem ↓] ldH stH alH shift_shl8 shift_shr8 shift_shl64 shift_shr64
attribute [local go_sem] rldH rstH ralH setRow_alloc_at setRow_alloc_past setRow_drew

set_option maxRecDepth 100000 in
set_option maxHeartbeats 4000000 in
theorem get_short (b : List UInt8) (nl : Nat) (spin phase : Bool) (f : UInt8) (dst tail : List UInt8) (hb : b = [f] ++ dst ++ tail) (hd : dst.length = 8) (htl : tail.length ≤ 1000) (hnl : nl ≤ tail.length) (h1 : 1 ≤ nl) (h4 : nl ≤ 4)
    (hf1 : f &&& 64 = 64) (hf2 : f &&& 128 = 0) (hf3 : f &&& 24 = 0) (hf4 : n8 (f &&& 3) + 1 = nl) (hf5 : (f &&& 32 != 0) = spin) (hf6 : (f &&& 4 != 0) = phase) (vb : Value) (w : World) (hsb : Sl w vb b) :
    Calls Try.prog 38 #[vb] w fun e w' => ∃ vd, e = .returned (.tuple #[.agg (hvA false 0 0 vd (.slice none 0 0) (.slice none 0 0) spin phase (num (tail.take nl)) nl), .int .i64 (9 + nl : Nat), .int .i64 (tail.length - nl : Nat), .int .i64 0]) ∧ Sl w' vd dst ∧ Below w.heap.size w w' := by
  have hbl : b.length = 9 + tail.length := by rw [hb]; simp [hd]; omega
  have hs0 := hsb
  obtain ⟨ao, cap, rfl, hc, hnn, hp⟩ := hsb
  clear hp hnn
  have HB := Lib.hid hb
  have HBL := Lib.hid hbl
  have HF := Lib.hid (And.intro hf1 (And.intro hf2 (And.intro hf3 (And.intro hf4 (And.intro hf5 hf6)))))
  have HN := Lib.hid (And.intro hnl (And.intro h1 (And.intro h4 (And.intro htl hd))))
  clear hb hf1 hf2 hf3 hf4 hf5 hf6 hnl h1 h4 htl hd
  generalize hLL : b.length = L at hbl hc hs0 ⊢
  have HL := Lib.hid hLL
  have HS0 := Lib.hid hs0
  clear hs0 hLL
  have HC := Lib.hid hc
  clear hc hbl
  have P1 := Lib.hid (show rnum b 1 (0, 0) = ((1, 0), n8 f) by
    have e : rtake b 1 (0, 0) = ((1, 0), [f]) := by rw [HB.out]; unfold rtake; rw [if_neg (by simp), if_neg (by simp)]; simp
    unfold rnum; rw [e]; simp [num])
  have P2 := Lib.hid (show rtake b 8 (1, 0) = ((9, 0), dst) by
    have := HN.out.2.2.2.2
    have := HBL.out
    rw [HB.out]; unfold rtake; rw [if_neg (by simp), if_neg (by simp; omega)]; simp [this]
    rw [List.take_append_of_le_length (by omega), List.take_of_length_le (by omega)])
  have P3 := Lib.hid (show rnum b nl (9, 0) = ((9 + nl, 0), num (tail.take nl)) by
    have h8 := HN.out.2.2.2.2
    have h9 := HN.out.1
    have e : rtake b nl (9, 0) = ((9 + nl, 0), tail.take nl) := by
      rw [HB.out]; unfold rtake; rw [if_neg (by simp), if_neg (by simp; omega)]
      have : ([f] ++ dst ++ tail).drop 9 = tail := by
        rw [List.drop_append_of_le_length (by simp; omega), List.drop_of_length_le (by simp; omega), List.nil_append]
      simp only [this]
    unfold rnum; rw [e])
  have HBLl : b.length ≤ 1000000 := by have := HBL.out; have := HN.out.2.2.2.1; omega
  have hf256 : ((n8 f : Nat) : Int) % 256 = (n8 f : Nat) := by have := n8_lt f; omega
  have q64 : f &&& 64 = 64 := HF.out.1
  have q128 : f &&& 128 = 0 := HF.out.2.1
  have q3 : ((n8 (f &&& 3) : Nat) : Int) + 1 = (nl : Int) := by have := HF.out.2.2.2.1; omega
  have q3a : wrap64 ((n8 (f &&& 3) : Nat) : Int) = (nl : Int) - 1 := by have := HN.out.2.1; have := HN.out.2.2.1; unfold wrap64; omega
  have q3b : wrap64 (nl : Int) = (nl : Int) := by have := HN.out.2.1; have := HN.out.2.2.1; unfold wrap64; omega
  have q32 : (f &&& 32 != 0) = spin := HF.out.2.2.2.2.1
  have q4 : (f &&& 4 != 0) = phase := HF.out.2.2.2.2.2
  have q24 : f &&& 24 = 0 := HF.out.2.2.1
  obtain ⟨i0, hi, hz0, hz1, hz2⟩ := info_parts info8
  obtain ⟨J, hJ⟩ : ∃ J : Act → World → Prop, ∀ a w', J a w' ↔ (∃ vd Bh, ∃ z0 z1 z3 z4 z5 z7 z10 z11 z12 z13 z14 z15 z16 z17 z18 z19 z20 z21 z22 z23 z24 z25 z26 z27 z28 z29 z30 z31 z32 z33 z34 z35 z36 z37 z38 z39 z40 z41 z42 z43 z44 z45 z46 z47 z48 z49 z50 z51 z52 z53 z54 z55 z56 z57 z58 z59 z60 z61 z62 z63 z64 z65 z66 z67 z68 z69 z70 z71 z72 z73 z74 z75 z76 z77 z78 : Value, a = ⟨#[z0, z1, .pointer (some ⟨w.heap.size, 0, none⟩), z3, z4, z5, .pointer (some ⟨w.heap.size + 1, 0, none⟩), z7, .pointer (some ⟨Bh, 0, none⟩), .int .i64 (tail.length - nl : Nat), z10, z11, z12, z13, z14, z15, z16, z17, z18, z19, z20, z21, z22, z23, z24, z25, z26, z27, z28, z29, z30, z31, z32, z33, z34, z35, z36, z37, z38, z39, z40, z41, z42, z43, z44, z45, z46, z47, z48, z49, z50, z51, z52, z53, z54, z55, z56, z57, z58, z59, z60, z61, z62, z63, z64, z65, z66, z67, z68, z69, z70, z71, z72, z73, z74, z75, z76, z77, z78], []⟩ ∧ row? w' w.heap.size = some (hvA false 0 0 (.slice none 0 0) (.slice none 0 0) (.slice none 0 0) false false 0 0) ∧ row? w' (w.heap.size + 1) = some (rd (.slice ao L cap) (9 + nl, 0)) ∧ w.heap.size + 2 ≤ Bh ∧ row? w' Bh = some (hvA false 0 0 vd (.slice none 0 0) (.slice none 0 0) spin phase (num (tail.take nl)) nl) ∧ Sl w' vd dst ∧ (∀ q off n c, vd = .slice (some ⟨q, off, none⟩) n c → w.heap.size < q) ∧ Below w.heap.size w w') := ⟨_, fun _ _ => Iff.rfl⟩
  have HJ := Lib.hid hJ
  clear hJ
  go_enter Try.func38, Try.ntmps38
  go_wp2_with fail
  refine wp_scope_jumps 1 J (fun _ _ => 0) rfl ?first ?pass
  case first =>
    go_wp2_with fail
    have hW1 : Below w.heap.size w ((w.alloc (.cells (hvA false 0 0 (.slice none 0 0) (.slice none 0 0) (.slice none 0 0) false false 0 0) 30)).alloc (.cells #[.slice ao L cap, .int .i64 0, .int .i64 0] 92)) := bel2 _ _ _
    have hR1 : row? ((w.alloc (.cells (hvA false 0 0 (.slice none 0 0) (.slice none 0 0) (.slice none 0 0) false false 0 0) 30)).alloc (.cells #[.slice ao L cap, .int .i64 0, .int .i64 0] 92)) (w.heap.size + 1) = some (rd (.slice ao L cap) (0, 0)) := row?_alloc_at _ _ _ _ (by simp)
    have hR0 : row? ((w.alloc (.cells (hvA false 0 0 (.slice none 0 0) (.slice none 0 0) (.slice none 0 0) false false 0 0) 30)).alloc (.cells #[.slice ao L cap, .int .i64 0, .int .i64 0] 92)) w.heap.size = some (hvA false 0 0 (.slice none 0 0) (.slice none 0 0) (.slice none 0 0) false false 0 0) := by rw [row?_alloc_past _ _ _ (by simp)]; exact row?_alloc_at _ _ _ _ rfl
    have hZ1 : ((w.alloc (.cells (hvA false 0 0 (.slice none 0 0) (.slice none 0 0) (.slice none 0 0) false false 0 0) 30)).alloc (.cells #[.slice ao L cap, .int .i64 0, .int .i64 0] 92)).heap.size = w.heap.size + 2 := by simp
    generalize ((w.alloc (.cells (hvA false 0 0 (.slice none 0 0) (.slice none 0 0) (.slice none 0 0) false false 0 0) 30)).alloc (.cells #[.slice ao L cap, .int .i64 0, .int .i64 0] 92)) = W1 at hW1 hR1 hR0 hZ1 ⊢
    refine (rnumber_any b w W1 (w.heap.size + 1) (.slice ao L cap) (0, 0) 1 HBLl (by decide) (Nat.zero_le _) HS0.out hW1 (by omega) hR1).mono ?_
    rintro e W2 ⟨rfl, m2, r2⟩
    rw [P1.out] at r2
    rw [P1.out]
    have hR0b := m2.row hR0 (by omega)
    have hW2 : Below w.heap.size w W2 := hW1.trans (m2.below (by omega) (by omega))
    have hZ2 := m2.size
    clear m2 hW1 hR1 hR0
    have H2 := Lib.hid r2
    have H0 := Lib.hid hR0b
    clear r2 hR0b
    go_wp2_with fail
    refine (fail_any W2 (w.heap.size + 1) (.slice ao L cap) (1, 0) _ 5 H2.out).mono ?_
    rintro e W3 ⟨rfl, m3, r3⟩
    have hR0c := m3.row H0.out (by omega)
    have hW3 : Below w.heap.size w W3 := hW2.trans (m3.below (by omega) (by omega))
    have hZ3 := m3.size
    have H3 := Lib.hid (show row? W3 (w.heap.size + 1) = some (rd (.slice ao L cap) (1, 0)) from r3)
    have H0c := Lib.hid hR0c
    clear m3 r3 hR0c H2 H0 hW2
    go_wp2_with fail
    have hW4 : Below w.heap.size w (W3.alloc (.cells (hvA false 0 0 (.slice none 0 0) (.slice none 0 0) (.slice none 0 0) false false 0 nl) 30)) := hW3.alloc (by omega) _
    have hA4 : row? (W3.alloc (.cells (hvA false 0 0 (.slice none 0 0) (.slice none 0 0) (.slice none 0 0) false false 0 nl) 30)) W3.heap.size = some (hvA false 0 0 (.slice none 0 0) (.slice none 0 0) (.slice none 0 0) false false 0 nl) := row?_alloc_at _ _ _ _ rfl
    have hR4 : row? (W3.alloc (.cells (hvA false 0 0 (.slice none 0 0) (.slice none 0 0) (.slice none 0 0) false false 0 nl) 30)) (w.heap.size + 1) = some (rd (.slice ao L cap) (1, 0)) := by rw [row?_alloc_past _ _ _ (by omega)]; exact H3.out
    have h04 : row? (W3.alloc (.cells (hvA false 0 0 (.slice none 0 0) (.slice none 0 0) (.slice none 0 0) false false 0 nl) 30)) w.heap.size = some (hvA false 0 0 (.slice none 0 0) (.slice none 0 0) (.slice none 0 0) false false 0 0) := by rw [row?_alloc_past _ _ _ (by omega)]; exact H0c.out
    have hZ4 : (W3.alloc (.cells (hvA false 0 0 (.slice none 0 0) (.slice none 0 0) (.slice none 0 0) false false 0 nl) 30)).heap.size = W3.heap.size + 1 := by simp
    generalize (W3.alloc (.cells (hvA false 0 0 (.slice none 0 0) (.slice none 0 0) (.slice none 0 0) false false 0 nl) 30)) = W4 at hW4 hA4 hR4 h04 hZ4 ⊢
    have hBh : w.heap.size + 2 ≤ W3.heap.size := by omega
    generalize W3.heap.size = Bh at hA4 hZ4 hBh ⊢
    clear H3 H0c hW3 hZ3 hZ1 hZ2
    refine (fail_any W4 (w.heap.size + 1) (.slice ao L cap) (1, 0) _ 5 hR4).mono ?_
    rintro e W5 ⟨rfl, m5, r5⟩
    have hA5 := m5.row hA4 (by omega)
    have h05 := m5.row h04 (by omega)
    have hW5 : Below w.heap.size w W5 := hW4.trans (m5.below (by omega) (by omega))
    have hZ5 := m5.size
    have H5 := Lib.hid (show row? W5 (w.heap.size + 1) = some (rd (.slice ao L cap) (1, 0)) from r5)
    have f6 := row?_frozen hA5 6
    have f7 := row?_frozen hA5 7
    have c6 : W5.cell? ⟨Bh, 6, none⟩ = some (.bool false) := row?_cell hA5 6
    have c7 : W5.cell? ⟨Bh, 7, none⟩ = some (.bool false) := row?_cell hA5 7
    have A5 := Lib.hid hA5
    have O5 := Lib.hid h05
    clear m5 r5 hA4 hA5 h04 h05 hR4 hW4
    go_wp2_with fail
    have hA6 : row? ((W5.setCell ⟨Bh, 6, none⟩ (.bool spin)).setCell ⟨Bh, 7, none⟩ (.bool phase)) Bh = some (hvA false 0 0 (.slice none 0 0) (.slice none 0 0) (.slice none 0 0) spin phase 0 nl) := by
      rw [row?_setCell_eq (row?_setCell_eq A5.out _)]; rfl
    have hR6 : row? ((W5.setCell ⟨Bh, 6, none⟩ (.bool spin)).setCell ⟨Bh, 7, none⟩ (.bool phase)) (w.heap.size + 1) = some (rd (.slice ao L cap) (1, 0)) := by
      rw [row?_setCell_ne _ _ _ _ (by simp; omega), row?_setCell_ne _ _ _ _ (by simp; omega)]; exact H5.out
    have h06 : row? ((W5.setCell ⟨Bh, 6, none⟩ (.bool spin)).setCell ⟨Bh, 7, none⟩ (.bool phase)) w.heap.size = some (hvA false 0 0 (.slice none 0 0) (.slice none 0 0) (.slice none 0 0) false false 0 0) := by
      rw [row?_setCell_ne _ _ _ _ (by simp; omega), row?_setCell_ne _ _ _ _ (by simp; omega)]; exact O5.out
    have hW6 : Below w.heap.size w ((W5.setCell ⟨Bh, 6, none⟩ (.bool spin)).setCell ⟨Bh, 7, none⟩ (.bool phase)) := (hW5.setCell (by simp; omega) _).setCell (by simp; omega) _
    have hZ6 : ((W5.setCell ⟨Bh, 6, none⟩ (.bool spin)).setCell ⟨Bh, 7, none⟩ (.bool phase)).heap.size = W5.heap.size := by simp [World.setCell]
    generalize ((W5.setCell ⟨Bh, 6, none⟩ (.bool spin)).setCell ⟨Bh, 7, none⟩ (.bool phase)) = W6 at hA6 hR6 h06 hW6 hZ6 ⊢
    clear A5 O5 H5 c6 c7 f6 f7 hW5
    have hat1 : ((1, 0) : Nat × Int).1 ≤ b.length := by have := HBL.out; simp only []; omega
    refine (take_any b w W6 (w.heap.size + 1) (.slice ao L cap) (1, 0) 8 HBLl (by decide) hat1 HS0.out hW6 (by omega) hR6).mono ?_
    rintro e W7 ⟨vd0, rfl, sd0, m7, r7⟩
    rw [P2.out] at r7 sd0
    have hA7 := m7.row hA6 (by omega)
    have h07 := m7.row h06 (by omega)
    have hW7 : Below w.heap.size w W7 := hW6.trans (m7.below (by omega) (by omega))
    have hZ7 := m7.size
    have sd7 : Sl W7 vd0 dst := sd0.below hW7
    have hB7 := row?_lt hA7
    have H7 := Lib.hid r7
    have A7 := Lib.hid hA7
    have O7 := Lib.hid h07
    clear m7 r7 hA6 hA7 h06 h07 hR6 hW6 hat1
    obtain ⟨ad, cd, rfl, hcd, -, hpd⟩ := sd7
    obtain ⟨b1, off1, rfl, hcell1⟩ := hpd (by have := HN.out.2.2.2.2; omega)
    have HC1 := Lib.hid hcell1
    clear sd0 hcd hpd hcell1
    go_wp2_with (at_builtin; refine wpList_append_own _ rfl _ _ 27 rfl W7.heap.size 5 i0 (.int .u8 0) 1 1 Try.underlying27 hi hz0 hz1 hz2 rfl (by decide) (.slice none 0 0) 0 [] rfl (World.ownsRow_nil _ _ _ _) ⟨b1, off1, none⟩ dst.length cd (dst.map bv) rfl (by simp) ?c1 ?c2 ?c3 ?c4 ?c5 ?_)
    case c1 =>
      intro j u hj
      have hjl : j < dst.length := by have := (List.getElem?_eq_some_iff.1 hj).1; simpa using this
      rw [Addr.add_lit, HC1.out j hjl, ← hj]
      simp [nth, bv, n8, hjl]
    case c2 => exact map_bv_one _
    case c3 => have := HN.out.2.2.2.2; unfold maxLen; omega
    case c4 => have := HN.out.2.2.2.2; omega
    case c5 => exact Nat.le_refl _
    intro vd w8 hown8 hgrow8 _
    have b8 : Below W7.heap.size W7 w8 := (Below.refl _ _).grown hgrow8 (Nat.le_refl _) (by intro k hk; cases hk)
    have hown8' : w8.ownsRow W7.heap.size 5 1 vd dst.length (dst.map bv) := by simpa using hown8
    have hA8 := Rg.stable_row b8 A7.out
    have hR8 := Rg.stable_row b8 H7.out
    have h08 := Rg.stable_row b8 O7.out
    have hW8 : Below w.heap.size w w8 := hW7.trans (b8.mono hW7.size)
    have hZ8 := b8.size
    have sd8 : Sl w8 vd dst := Own.sl hown8'
    obtain ⟨av, cv, rfl, -, -, -⟩ := id sd8
    have hvdlt := Own.lt hown8'
    have f3 := row?_frozen hA8 3
    have c3 : w8.cell? ⟨Bh, 3, none⟩ = some (.slice none 0 0) := row?_cell hA8 3
    have c9 : w8.cell? ⟨Bh, 9, none⟩ = some (.int .i64 (nl : Nat)) := row?_cell hA8 9
    have A8 := Lib.hid hA8
    have H8 := Lib.hid hR8
    have O8 := Lib.hid h08
    have HO8 := Lib.hid hown8'
    have SD8 := Lib.hid sd8
    have LT8 := Lib.hid hvdlt
    clear hown8 hown8' hgrow8 hA8 hR8 h08 sd8 A7 H7 O7 HC1 hvdlt
    go_wp2_with fail
    have hA9 : row? (w8.setCell ⟨Bh, 3, none⟩ (.slice av dst.length cv)) Bh = some (hvA false 0 0 (.slice av dst.length cv) (.slice none 0 0) (.slice none 0 0) spin phase 0 nl) := by rw [row?_setCell_eq A8.out]; rfl
    have hR9 : row? (w8.setCell ⟨Bh, 3, none⟩ (.slice av dst.length cv)) (w.heap.size + 1) = some (rd (.slice ao L cap) (9, 0)) := by rw [row?_setCell_ne _ _ _ _ (by simp; omega)]; exact H8.out
    have h09 : row? (w8.setCell ⟨Bh, 3, none⟩ (.slice av dst.length cv)) w.heap.size = some (hvA false 0 0 (.slice none 0 0) (.slice none 0 0) (.slice none 0 0) false false 0 0) := by rw [row?_setCell_ne _ _ _ _ (by simp; omega)]; exact O8.out
    have hW9 : Below w.heap.size w (w8.setCell ⟨Bh, 3, none⟩ (.slice av dst.length cv)) := hW8.setCell (by simp; omega) _
    have hZ9 : (w8.setCell ⟨Bh, 3, none⟩ (.slice av dst.length cv)).heap.size = w8.heap.size := by simp [World.setCell]
    have sd9 : Sl (w8.setCell ⟨Bh, 3, none⟩ (.slice av dst.length cv)) (.slice av dst.length cv) dst := ((Mut.refl Bh w8).setCell _ _ _).sl SD8.out (fun q _ _ _ e h0 => by have := (LT8.out q _ _ _ e); omega)
    generalize (w8.setCell ⟨Bh, 3, none⟩ (.slice av dst.length cv)) = W9 at hA9 hR9 h09 hW9 hZ9 sd9 ⊢
    clear A8 O8 H8 c3 c9 f3 hW8 SD8
    have hat9 : ((9, 0) : Nat × Int).1 ≤ b.length := by have := HBL.out; simp only []; omega
    refine (rnumber_any b w W9 (w.heap.size + 1) (.slice ao L cap) (9, 0) nl HBLl HN.out.2.2.1 hat9 HS0.out hW9 (by omega) hR9).mono ?_
    rintro e W10 ⟨rfl, m10, r10⟩
    rw [P3.out] at r10
    rw [P3.out]
    have hA10 := m10.row hA9 (by omega)
    have h010 := m10.row h09 (by omega)
    have sd10 := m10.sl sd9 (fun q _ _ _ e h0 => by have := (LT8.out q _ _ _ e); omega)
    have hW10 : Below w.heap.size w W10 := hW9.trans (m10.below (by omega) (by omega))
    have hZ10 := m10.size
    have f8 := row?_frozen hA10 8
    have c8 : W10.cell? ⟨Bh, 8, none⟩ = some (.int .u64 ((0 : Nat) : Int)) := row?_cell hA10 8
    have cr1 : W10.cell? ⟨w.heap.size + 1, 1, none⟩ = some (.int .i64 ((9 + nl : Nat) : Int)) := row?_cell r10 1
    have _hLn : ((L : Nat) : Int) - ((9 + nl : Nat) : Int) = ((tail.length - nl : Nat) : Int) := by have := HBL.out; have := HL.out; have := HN.out.1; omega
    have hLw : wrap64 ((L : Int) - (9 + (nl : Int))) = ((tail.length - nl : Nat) : Int) := by have := HBL.out; have := HL.out; have := HN.out.1; have := HN.out.2.2.2.1; unfold wrap64; omega
    have A10 := Lib.hid hA10
    have H10 := Lib.hid r10
    have O10 := Lib.hid h010
    have SD10 := Lib.hid sd10
    clear m10 hA9 hR9 h09 hW9 sd9 hA10 r10 h010 sd10 hat9
    have hne1 : ¬ (w.heap.size + 1 = Bh) := by omega
    have hne2 : ¬ (Bh = w.heap.size + 1) := by omega
    go_wp2_with fail
    try rw [hLw]
    refine wp_goto ?_
    show 1 = 1 ∧ J _ _
    refine ⟨rfl, (HJ.out _ _).2 ⟨(.slice av dst.length cv), Bh, _, _, _, _, _, _, _, _, _, _, _, _, _, _, _, _, _, _, _, _, _, _, _, _, _, _, _, _, _, _, _, _, _, _, _, _, _, _, _, _, _, _, _, _, _, _, _, _, _, _, _, _, _, _, _, _, _, _, _, _, _, _, _, _, _, _, _, _, _, _, _, _, _, _, _, rfl, ?_, ?_, hBh, ?_, ?_, ?_, ?_⟩⟩
    · rw [row?_setCell_ne _ _ _ _ (by simp; omega)]; exact O10.out
    · rw [row?_setCell_ne _ _ _ _ (by simp; omega)]; exact H10.out
    · rw [row?_setCell_eq A10.out]; rfl
    · exact ((Mut.refl Bh W10).setCell _ _ _).sl SD10.out (fun q _ _ _ e h0 => by have := (LT8.out q _ _ _ e); omega)
    · intro q _ _ _ e; have := (LT8.out q _ _ _ e); omega
    · exact hW10.setCell (by simp; omega) _
  case pass =>
    intro a wp hj
    obtain ⟨vd, Bh, z0, z1, z3, z4, z5, z7, z10, z11, z12, z13, z14, z15, z16, z17, z18, z19, z20, z21, z22, z23, z24, z25, z26, z27, z28, z29, z30, z31, z32, z33, z34, z35, z36, z37, z38, z39, z40, z41, z42, z43, z44, z45, z46, z47, z48, z49, z50, z51, z52, z53, z54, z55, z56, z57, z58, z59, z60, z61, z62, z63, z64, z65, z66, z67, z68, z69, z70, z71, z72, z73, z74, z75, z76, z77, z78, rfl, r0, r1, hBh, r2, sd, hvq, hb⟩ := (HJ.out _ _).1 hj
    obtain ⟨av, cv, rfl, -, -, -⟩ := id sd
    clear hj HJ P1 P2 P3 q3 q3a q3b q4 q24 q32 q64 q128 hf256
    have c11 : wp.cell? ⟨w.heap.size + 1, 1, none⟩ = some (.int .i64 ((9 + nl : Nat) : Int)) := row?_cell r1 1
    have c12 : wp.cell? ⟨w.heap.size + 1, 2, none⟩ = some (.int .i64 0) := row?_cell r1 2
    have R0 := Lib.hid r0
    have R1 := Lib.hid r1
    have R2 := Lib.hid r2
    have SD := Lib.hid sd
    have HVQ := Lib.hid hvq
    clear sd hvq
    go_wp2_with fail
    have r1s : row? (wp.setRow w.heap.size (hvA false 0 0 (.slice av dst.length cv) (.slice none 0 0) (.slice none 0 0) spin phase (num (tail.take nl)) nl)) (w.heap.size + 1) = some (rd (.slice ao L cap) (9 + nl, 0)) := by rw [row?_setRow_ne _ _ _ _ (by omega)]; exact R1.out
    have c13 : (wp.setRow w.heap.size (hvA false 0 0 (.slice av dst.length cv) (.slice none 0 0) (.slice none 0 0) spin phase (num (tail.take nl)) nl)).cell? ⟨w.heap.size + 1, 1, none⟩ = some (.int .i64 ((9 + nl : Nat) : Int)) := row?_cell r1s 1
    have S1 := Lib.hid r1s
    clear r1s
    go_region
    all_goals (go_wp2_with fail)
    simp only [Exit.jump]
    refine bodyPost_ret (results_row4 AgH rfl _ _ w.heap.size (hvA false 0 0 (.slice av dst.length cv) (.slice none 0 0) (.slice none 0 0) spin phase (num (tail.take nl)) nl) rfl ?_ (hvA_size ..)) rfl ?_
    · rw [row?_drew]; exact row?_setRow_eq R0.out
    · refine ⟨(.slice av dst.length cv), ?_, ?_, (below_setRow hb (Nat.le_refl _) _).drew⟩
      · rw [Int.natCast_add]; rfl
      · exact (((Mut.refl w.heap.size wp).setRow _).drew).sl SD.out (fun q _ _ _ e h0 => by have := HVQ.out q _ _ _ e; omega)
end Go.Proofs.Ytjlpppnpdgenfaa
