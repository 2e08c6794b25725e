/- The walk of package header's reader: what stands ahead of a long header's number. -/
import Derived.Test.YtgaheodnembjiaaHdrW8
import Derived.Test.YtgaheodnembjiaaHdrW3
namespace Go.Proofs.Ytgaheodnembjiaa
open Go.RowKit Go.Rw Hdr
attribute [local go_sem ↓] hvA_0 hvA_1 hvA_2 hvA_3 hvA_4 hvA_5 hvA_6 hvA_7 hvA_8 hvA_9
attribute [local go_sem ↓] shift_shl8 shift_shr8 shift_shl64 shift_shr64
theorem kind_byte (f : UInt8) : ((n8 (shr8 f 4 &&& 3) : Nat) : Int) = (n8 f / 16 % 4 : Nat) := by
  have h : n8 (shr8 f 4) = n8 f / 16 := n8_shr8 f 4
  have e : n8 (shr8 f 4 &&& 3) = n8 (shr8 f 4) % 4 := by
    unfold n8
    rw [UInt8.toNat_and]
    exact Nat.and_two_pow_sub_one_eq_mod (n := 2) (shr8 f 4).toNat
  rw [e, h]

set_option maxRecDepth 20000 in
set_option maxHeartbeats 2000000 in
theorem ahead_any (b : List UInt8) (w0 w : World) (B Bh : Nat) (vb : Value) (s : Nat × Int) (f : UInt8) (long : Bool) (k0 : Int) (v0 : Nat) (sp ph : Bool) (num : Nat) (nl : Int) (hb : b.length ≤ 1000000) (hat : s.1 ≤ b.length) (hs : Sl w0 vb b) (hw : Below w0.heap.size w0 w) (hB : w0.heap.size ≤ B) (hBh : w0.heap.size ≤ Bh) (hne : Bh ≠ B)
    (hr : row? w B = some (rd vb s)) (hh : row? w Bh = some (hvA long k0 v0 (.slice none 0 0) (.slice none 0 0) (.slice none 0 0) sp ph num nl)) :
    Calls Try.prog 41 #[.pointer (some ⟨B, 0, none⟩), .pointer (some ⟨Bh, 0, none⟩), .int .u8 (n8 f : Nat)] w fun e w' => ∃ vd vs vt, e = .returned (.int .u64 ((aRest b (n8 f / 16 % 4 : Nat) s).2 : Nat)) ∧ row? w' B = some (rd vb (aRest b (n8 f / 16 % 4 : Nat) s).1) ∧
      row? w' Bh = some (hvA long (n8 f / 16 % 4 : Nat) (aVer b (n8 f / 16 % 4 : Nat) s).2 vd vs vt sp ph num nl) ∧
      w'.ownsRow w.heap.size 5 1 vd (aDst b (n8 f / 16 % 4 : Nat) s).2.length ((aDst b (n8 f / 16 % 4 : Nat) s).2.map bv) ∧
      w'.ownsRow w.heap.size 5 1 vs (aSrc b (n8 f / 16 % 4 : Nat) s).2.length ((aSrc b (n8 f / 16 % 4 : Nat) s).2.map bv) ∧
      w'.ownsRow w.heap.size 5 1 vt (aTok b (n8 f / 16 % 4 : Nat) s).2.length ((aTok b (n8 f / 16 % 4 : Nat) s).2.map bv) ∧ (∀ i j, vd.ownBlock = some i → vt.ownBlock = some j → i ≠ j) ∧ Mut2 B Bh w w' := by
  obtain ⟨i0, hi, hz0, hz1, hz2⟩ := info_parts info8
  have hkb := kind_byte f
  have hsz := hw.size
  have hBs := row?_lt hr
  have hBhs := row?_lt hh
  obtain ⟨k, hk⟩ : ∃ k : Int, k = (n8 f / 16 % 4 : Nat) := ⟨_, rfl⟩
  have hk4 : 0 ≤ k ∧ k < 4 := by omega
  rw [← hk] at hkb ⊢
  clear hk
  have hkw : wrap64 k = k := by unfold wrap64; omega
  -- the states, named
  obtain ⟨s1, hK⟩ : ∃ s1, aKind k s = s1 := ⟨_, rfl⟩
  have hle1 : s1.1 ≤ b.length := by rw [← hK]; unfold aKind; rw [rfail_at]; exact hat
  obtain ⟨q2, hV⟩ : ∃ q, rnum b 4 s1 = q := ⟨_, rfl⟩
  have hle2 : q2.1.1 ≤ b.length := by rw [← hV]; exact rnum_le b 4 s1 hle1
  have hv32 : q2.2 < 4294967296 := by rw [← hV]; exact rnum_lt b 4 s1
  have e2 : aVer b k s = q2 := by unfold aVer; rw [hK, hV]
  obtain ⟨s2, ver⟩ := q2
  obtain ⟨q3, hD⟩ : ∃ q, rid b 8 8 s2 = q := ⟨_, rfl⟩
  have hle3 : q3.1.1 ≤ b.length := by rw [← hD]; exact rid_le b 8 8 s2 hle2
  have e3 : aDst b k s = q3 := by unfold aDst; rw [e2]; exact hD
  obtain ⟨s3, d⟩ := q3
  obtain ⟨q4, hS⟩ : ∃ q, rid b 0 20 s3 = q := ⟨_, rfl⟩
  have hle4 : q4.1.1 ≤ b.length := by rw [← hS]; exact rid_le b 0 20 s3 hle3
  have e4 : aSrc b k s = q4 := by unfold aSrc; rw [e3]; exact hS
  obtain ⟨s4, src⟩ := q4
  rw [e2, e3, e4]
  simp only [] at hle2 hle3 hle4 hv32 ⊢
  obtain ⟨q5, hTN⟩ : ∃ q, rvar b s4 = q := ⟨_, rfl⟩
  have hle5 : q5.1.1 ≤ b.length := by rw [← hTN]; exact rvar_le b s4 hle4
  have htn5 : q5.2 < 18446744073709551616 := by rw [← hTN]; exact rvar_lt b s4
  obtain ⟨s5, tn⟩ := q5
  simp only [] at hle5 htn5
  obtain ⟨s6, hF6⟩ : ∃ s6, rfail (decide (100 < tn)) 5 s5 = s6 := ⟨_, rfl⟩
  have hle6 : s6.1 ≤ b.length := by rw [← hF6, rfail_at]; exact hle5
  obtain ⟨q7, hT7⟩ : ∃ q, rtake b (min tn 100) s6 = q := ⟨_, rfl⟩
  have hle7 : q7.1.1 ≤ b.length := by rw [← hT7]; exact rtake_le b _ s6 hle6
  have hlt7 : q7.2.length ≤ 100 := by have := rtake_len b (min tn 100) s6; rw [hT7] at this; omega
  obtain ⟨s7, tok⟩ := q7
  simp only [] at hle7 hlt7
  have HTN := Lib.hid hTN
  have HF6 := Lib.hid hF6
  have HT7 := Lib.hid hT7
  have HL7 := Lib.hid hlt7
  have HN5 := Lib.hid htn5
  clear hTN hF6 hT7 hlt7 htn5
  have hkn := row?_cell hh 1
  have fkn := row?_frozen hh 1
  have HH := Lib.hid hh
  have HR := Lib.hid hr
  have HK := Lib.hid hK
  have HV := Lib.hid hV
  have HD := Lib.hid hD
  have HS := Lib.hid hS
  have E4 := Lib.hid e4
  clear hh hr hK hV hD hS e2 e3 e4
  have hcase : ((k != 0) = false ∧ (k == 0) = true ∧ k = 0 ∧ rfail false 5 s = s1) ∨ ((k != 0) = true ∧ (k == 0) = false ∧ k ≠ 0 ∧ rfail (k != 2) 5 s = s1) := by
    have hK := HK.out
    unfold aKind at hK
    by_cases h : k = 0
    · refine .inl ⟨by simp [h], by simp [h], h, ?_⟩
      rw [← hK, h]; rfl
    · refine .inr ⟨by simp [h], by simp [h], h, ?_⟩
      rw [← hK, decide_eq_true h, Bool.true_and]
      congr 1
      by_cases h2 : k = 2 <;> simp [h2]
  clear HK
  rcases hcase with ⟨hb0, he0, hk0, hfl⟩ | ⟨hb0, he0, hk0, hfl⟩
  all_goals
    have HK0 := Lib.hid hk0
    have HFL := Lib.hid hfl
    clear hk0 hfl
    go_enter Try.func41, Try.ntmps41
    go_wp2_with fail
    have m1 : Mut2 B Bh w (w.setCell ⟨Bh, 1, none⟩ (.int .i64 k)) := ((Mut.refl Bh w).setCell 1 none _).right B
    have h1 : row? (w.setCell ⟨Bh, 1, none⟩ (.int .i64 k)) Bh = some (hvA long k v0 (.slice none 0 0) (.slice none 0 0) (.slice none 0 0) sp ph num nl) := by rw [row?_setCell_eq HH.out]; rfl
    have r1 : row? (w.setCell ⟨Bh, 1, none⟩ (.int .i64 k)) B = some (rd vb s) := by rw [row?_setCell_ne _ _ _ _ (by simpa using fun h => hne h.symm)]; exact HR.out
    generalize (w.setCell ⟨Bh, 1, none⟩ (.int .i64 k)) = w1 at m1 h1 r1 ⊢
    clear HH HR hkn fkn
    refine (fail_any w1 B vb s _ 5 r1).mono ?_
    rintro e w2 ⟨rfl, n2, r2⟩
    rw [HFL.out] at r2
    have h2 := n2.row h1 hne
    have m2 : Mut2 B Bh w w2 := m1.trans (n2.left Bh)
    have hw2 : Below w0.heap.size w0 w2 := hw.trans (m2.below hB hBh hsz)
    have H2 := Lib.hid h2
    have R2 := Lib.hid r2
    clear h1 r1 n2 m1 h2 r2 HFL
    go_wp2_with fail
    refine (rnumber_any b w0 w2 B vb s1 4 hb (by decide) hle1 hs hw2 hB R2.out).mono ?_
    rintro e w3 ⟨rfl, n3, r3⟩
    rw [HV.out] at r3 ⊢
    have h3 := n3.row H2.out hne
    have m3 : Mut2 B Bh w w3 := m2.trans (n3.left Bh)
    have f3 := row?_frozen h3 2
    have c3 := row?_cell h3 2
    have H3 := Lib.hid h3
    have R3 := Lib.hid r3
    clear H2 R2 h3 r3 m2 n3 hw2
    have hvw : IntKind.u32.wrap ((ver : Nat) : Int) = (ver : Nat) := by simp only [IntKind.wrap_u32]; omega
    go_wp2_with fail
    have m4 : Mut2 B Bh w (w3.setCell ⟨Bh, 2, none⟩ (.int .u32 (ver : Nat))) := m3.trans (((Mut.refl Bh w3).setCell 2 none _).right B)
    have h4 : row? (w3.setCell ⟨Bh, 2, none⟩ (.int .u32 (ver : Nat))) Bh = some (hvA long k ver (.slice none 0 0) (.slice none 0 0) (.slice none 0 0) sp ph num nl) := by rw [row?_setCell_eq H3.out]; rfl
    have r4 : row? (w3.setCell ⟨Bh, 2, none⟩ (.int .u32 (ver : Nat))) B = some (rd vb s2) := by rw [row?_setCell_ne _ _ _ _ (by simpa using fun h => hne h.symm)]; exact R3.out
    generalize (w3.setCell ⟨Bh, 2, none⟩ (.int .u32 (ver : Nat))) = w4 at m4 h4 r4 ⊢
    clear H3 R3 f3 c3 m3 hvw
    have hw4 : Below w0.heap.size w0 w4 := hw.trans (m4.below hB hBh hsz)
    have hz4 := m4.size
    refine (rid_any b w0 w4 B vb s2 8 8 hb hle2 hs hw4 hB r4).mono ?_
    rintro e w5 ⟨vd, rfl, od, n5, r5⟩
    rw [HD.out] at od r5
    have h5 := n5.row h4 hne
    have m5 : Mut2 B Bh w w5 := m4.trans (n5.left Bh)
    have od5 := own_lower od m4.size
    obtain ⟨av, cv, rfl, -, -, -⟩ := id (Own.sl od)
    have f5 := row?_frozen h5 3
    have c5 : w5.cell? ⟨Bh, 3, none⟩ = some (.slice none 0 0) := row?_cell h5 3
    have H5 := Lib.hid h5
    have R5 := Lib.hid r5
    have OD5 := Lib.hid od5
    clear h4 r4 n5 m4 h5 r5 od od5 hw4
    go_wp2_with fail
    have m6 : Mut2 B Bh w (w5.setCell ⟨Bh, 3, none⟩ (.slice av d.length cv)) := m5.trans (((Mut.refl Bh w5).setCell 3 none _).right B)
    have h6 : row? (w5.setCell ⟨Bh, 3, none⟩ (.slice av d.length cv)) Bh = some (hvA long k ver (.slice av d.length cv) (.slice none 0 0) (.slice none 0 0) sp ph num nl) := by rw [row?_setCell_eq H5.out]; rfl
    have r6 : row? (w5.setCell ⟨Bh, 3, none⟩ (.slice av d.length cv)) B = some (rd vb s3) := by rw [row?_setCell_ne _ _ _ _ (by simpa using fun h => hne h.symm)]; exact R5.out
    have od6 := ((Mut.refl Bh w5).setCell 3 none (.slice av d.length cv)).own OD5.out hBhs
    generalize (w5.setCell ⟨Bh, 3, none⟩ (.slice av d.length cv)) = w6 at m6 h6 r6 od6 ⊢
    clear H5 R5 f5 c5 m5 OD5
    have hw6 : Below w0.heap.size w0 w6 := hw.trans (m6.below hB hBh hsz)
    have hz6 := m6.size
    refine (rid_any b w0 w6 B vb s3 0 20 hb hle3 hs hw6 hB r6).mono ?_
    rintro e w7 ⟨vs, rfl, os, n7, r7⟩
    rw [HS.out] at os r7
    have h7 := n7.row h6 hne
    have m7 : Mut2 B Bh w w7 := m6.trans (n7.left Bh)
    have os7 := own_lower os m6.size
    have od7 := n7.own od6 hBs
    obtain ⟨as_, cs, rfl, -, -, -⟩ := id (Own.sl os)
    have f7 := row?_frozen h7 4
    have c7 : w7.cell? ⟨Bh, 4, none⟩ = some (.slice none 0 0) := row?_cell h7 4
    have c71 : w7.cell? ⟨Bh, 1, none⟩ = some (.int .i64 k) := row?_cell h7 1
    have H7 := Lib.hid h7
    have R7 := Lib.hid r7
    have OD7 := Lib.hid od7
    have OS7 := Lib.hid os7
    clear h6 r6 n7 m6 h7 r7 od6 od7 os os7 hw6
    go_wp2_with fail
    have m8 : Mut2 B Bh w (w7.setCell ⟨Bh, 4, none⟩ (.slice as_ src.length cs)) := m7.trans (((Mut.refl Bh w7).setCell 4 none _).right B)
    have h8 : row? (w7.setCell ⟨Bh, 4, none⟩ (.slice as_ src.length cs)) Bh = some (hvA long k ver (.slice av d.length cv) (.slice as_ src.length cs) (.slice none 0 0) sp ph num nl) := by rw [row?_setCell_eq H7.out]; rfl
    have r8 : row? (w7.setCell ⟨Bh, 4, none⟩ (.slice as_ src.length cs)) B = some (rd vb s4) := by rw [row?_setCell_ne _ _ _ _ (by simpa using fun h => hne h.symm)]; exact R7.out
    have od8 := ((Mut.refl Bh w7).setCell 4 none (.slice as_ src.length cs)).own OD7.out hBhs
    have os8 := ((Mut.refl Bh w7).setCell 4 none (.slice as_ src.length cs)).own OS7.out hBhs
    generalize (w7.setCell ⟨Bh, 4, none⟩ (.slice as_ src.length cs)) = w8 at m8 h8 r8 od8 os8 ⊢
    clear H7 R7 f7 c7 c71 m7 OD7 OS7
    have hw8 : Below w0.heap.size w0 w8 := hw.trans (m8.below hB hBh hsz)
    have hz8 := m8.size
  · have hk0 := HK0.out
    refine (rvar_any b w0 w8 B vb s4 hb hle4 hs hw8 hB r8).mono ?_
    rintro e w9 ⟨rfl, n9, r9⟩
    rw [HTN.out] at r9 ⊢
    have h9 := n9.row h8 hne
    have m9 : Mut2 B Bh w w9 := m8.trans (n9.left Bh)
    have od9 := n9.own od8 hBs
    have os9 := n9.own os8 hBs
    have H9 := Lib.hid h9
    have R9 := Lib.hid r9
    have OD9 := Lib.hid od9
    have OS9 := Lib.hid os9
    clear h8 r8 n9 m8 h9 r9 od8 od9 os8 os9 hw8 hk0
    go_wp2_with fail
    have hk0 := HK0.out
    refine (fail_any w9 B vb s5 _ 5 R9.out).mono ?_
    rintro e w10 ⟨rfl, n10, r10⟩
    rw [show decide ((100 : Int) < (tn : Nat)) = decide (100 < tn) from decide_eq_decide.2 (by omega), HF6.out] at r10
    have h10 := n10.row H9.out hne
    have m10 : Mut2 B Bh w w10 := m9.trans (n10.left Bh)
    have od10 := n10.own OD9.out hBs
    have os10 := n10.own OS9.out hBs
    have hw10 : Below w0.heap.size w0 w10 := hw.trans (m10.below hB hBh hsz)
    have H10 := Lib.hid h10
    have R10 := Lib.hid r10
    have OD10 := Lib.hid od10
    have OS10 := Lib.hid os10
    have eT : aTok b k s = (s7, tok) := by
      have e5 : aTokN b k s = (s5, tn) := by unfold aTokN; rw [E4.out]; exact HTN.out
      unfold aTok; rw [if_pos hk0, e5]; simp only []; rw [HF6.out, HT7.out]
    have eR : aRest b k s = rvar b s7 := by unfold aRest; rw [eT]
    have ET := Lib.hid eT
    have ER := Lib.hid eR
    clear H9 R9 OD9 OS9 n10 m9 h10 r10 od10 os10 eT eR hk0
    have hz10 := m10.size
    by_cases hm : tn ≤ 100
    · have hT7 := HT7.out
      rw [Nat.min_eq_left hm] at hT7
      have HT7' := Lib.hid hT7
      clear hT7
      go_wp2_with fail
      refine (take_any b w0 w10 B vb s6 tn hb (by omega) hle6 hs hw10 hB R10.out).mono ?_
      rintro e w11 ⟨v0, rfl, sv, n11, r11⟩
      rw [HT7'.out] at sv r11
      clear HT7'
      have h11 := n11.row H10.out hne
      have m11 : Mut2 B Bh w w11 := m10.trans (n11.left Bh)
      have hw11 : Below w0.heap.size w0 w11 := hw.trans (m11.below hB hBh hsz)
      have sv11 : Sl w11 v0 tok := sv.below hw11
      have od11 := n11.own OD10.out hBs
      have os11 := n11.own OS10.out hBs
      have hB11 := row?_lt h11
      have H11 := Lib.hid h11
      have R11 := Lib.hid r11
      have OD11 := Lib.hid od11
      have OS11 := Lib.hid os11
      have SV11 := Lib.hid sv11
      clear H10 R10 OD10 OS10 n11 m10 h11 r11 od11 os11 sv sv11 hw10 hm
      go_wp2_with (at_builtin; refine app_sl rfl _ _ 23 rfl w11.heap.size 5 i0 Try.underlying23 hi hz0 hz1 hz2 (.slice none 0 0) [] rfl (World.ownsRow_nil _ _ _ _) v0 tok rfl SV11.out (by have := HL7.out; simp; omega) (Nat.le_refl _) ?_)
      intro vt w12 ot hgrow12
      have b12 : Below w11.heap.size w11 w12 := (Below.refl _ _).grown hgrow12 (Nat.le_refl _) (by intro k hk; cases hk)
      have h12 := Rg.stable_row b12 H11.out
      have r12 := Rg.stable_row b12 R11.out
      have od12 := own_below OD11.out b12
      have os12 := own_below OS11.out b12
      have ot12 := own_lower ot m11.size
      have hdis : ∀ i j, (Value.slice av d.length cv).ownBlock = some i → vt.ownBlock = some j → i ≠ j := fun i j hi hj => by have h1 := (OD11.out.lt i hi).2; have h2 := (ot.lt j hj).1; omega
      have m12 : Mut2 B Bh w w12 := m11.trans ((Mut.of_below (B := B) b12).left Bh)
      obtain ⟨at_, ct, rfl, -, -, -⟩ := id (Own.sl (l := tok) ot)
      have f12 := row?_frozen h12 5
      have c12 : w12.cell? ⟨Bh, 5, none⟩ = some (.slice none 0 0) := row?_cell h12 5
      have H12 := Lib.hid h12
      have R12 := Lib.hid r12
      have OD12 := Lib.hid od12
      have OS12 := Lib.hid os12
      have OT12 := Lib.hid ot12
      have HDIS := Lib.hid hdis
      clear hdis
      clear H11 R11 OD11 OS11 SV11 m11 h12 r12 od12 os12 ot ot12 hw11 hgrow12 b12
      go_wp2_with fail
      have m13 : Mut2 B Bh w (w12.setCell ⟨Bh, 5, none⟩ (.slice at_ tok.length ct)) := m12.trans (((Mut.refl Bh w12).setCell 5 none _).right B)
      have h13 : row? (w12.setCell ⟨Bh, 5, none⟩ (.slice at_ tok.length ct)) Bh = some (hvA long k ver (.slice av d.length cv) (.slice as_ src.length cs) (.slice at_ tok.length ct) sp ph num nl) := by rw [row?_setCell_eq H12.out]; rfl
      have r13 : row? (w12.setCell ⟨Bh, 5, none⟩ (.slice at_ tok.length ct)) B = some (rd vb s7) := by rw [row?_setCell_ne _ _ _ _ (by simpa using fun h => hne h.symm)]; exact R12.out
      have od13 := ((Mut.refl Bh w12).setCell 5 none (.slice at_ tok.length ct)).own OD12.out hBhs
      have os13 := ((Mut.refl Bh w12).setCell 5 none (.slice at_ tok.length ct)).own OS12.out hBhs
      have ot13 := ((Mut.refl Bh w12).setCell 5 none (.slice at_ tok.length ct)).own OT12.out hBhs
      generalize (w12.setCell ⟨Bh, 5, none⟩ (.slice at_ tok.length ct)) = w13 at m13 h13 r13 od13 os13 ot13 ⊢
      clear H12 R12 OD12 OS12 OT12 f12 c12 m12
      have hw13 : Below w0.heap.size w0 w13 := hw.trans (m13.below hB hBh hsz)
      refine (rvar_any b w0 w13 B vb s7 hb hle7 hs hw13 hB r13).mono ?_
      rintro e w14 ⟨rfl, n14, r14⟩
      have h14 := n14.row h13 hne
      have m14 : Mut2 B Bh w w14 := m13.trans (n14.left Bh)
      have od14 := n14.own od13 hBs
      have os14 := n14.own os13 hBs
      have ot14 := n14.own ot13 hBs
      have H14 := Lib.hid h14
      have R14 := Lib.hid r14
      have OD14 := Lib.hid od14
      have OS14 := Lib.hid os14
      have OT14 := Lib.hid ot14
      clear h13 r13 n14 m13 h14 r14 od13 od14 os13 os14 ot13 ot14 hw13
      go_wp2_with fail
      go_ret
      rw [ET.out, ER.out]
      exact ⟨_, _, _, rfl, R14.out, H14.out, OD14.out, OS14.out, OT14.out, HDIS.out, m14⟩
    · have hT7 := HT7.out
      rw [Nat.min_eq_right (by omega)] at hT7
      have HT7' := Lib.hid hT7
      clear hT7
      go_wp2_with fail
      refine (take_any b w0 w10 B vb s6 100 hb (by omega) hle6 hs hw10 hB R10.out).mono ?_
      rintro e w11 ⟨v0, rfl, sv, n11, r11⟩
      rw [HT7'.out] at sv r11
      clear HT7'
      have h11 := n11.row H10.out hne
      have m11 : Mut2 B Bh w w11 := m10.trans (n11.left Bh)
      have hw11 : Below w0.heap.size w0 w11 := hw.trans (m11.below hB hBh hsz)
      have sv11 : Sl w11 v0 tok := sv.below hw11
      have od11 := n11.own OD10.out hBs
      have os11 := n11.own OS10.out hBs
      have hB11 := row?_lt h11
      have H11 := Lib.hid h11
      have R11 := Lib.hid r11
      have OD11 := Lib.hid od11
      have OS11 := Lib.hid os11
      have SV11 := Lib.hid sv11
      clear H10 R10 OD10 OS10 n11 m10 h11 r11 od11 os11 sv sv11 hw10 hm
      go_wp2_with (at_builtin; refine app_sl rfl _ _ 23 rfl w11.heap.size 5 i0 Try.underlying23 hi hz0 hz1 hz2 (.slice none 0 0) [] rfl (World.ownsRow_nil _ _ _ _) v0 tok rfl SV11.out (by have := HL7.out; simp; omega) (Nat.le_refl _) ?_)
      intro vt w12 ot hgrow12
      have b12 : Below w11.heap.size w11 w12 := (Below.refl _ _).grown hgrow12 (Nat.le_refl _) (by intro k hk; cases hk)
      have h12 := Rg.stable_row b12 H11.out
      have r12 := Rg.stable_row b12 R11.out
      have od12 := own_below OD11.out b12
      have os12 := own_below OS11.out b12
      have ot12 := own_lower ot m11.size
      have hdis : ∀ i j, (Value.slice av d.length cv).ownBlock = some i → vt.ownBlock = some j → i ≠ j := fun i j hi hj => by have h1 := (OD11.out.lt i hi).2; have h2 := (ot.lt j hj).1; omega
      have m12 : Mut2 B Bh w w12 := m11.trans ((Mut.of_below (B := B) b12).left Bh)
      obtain ⟨at_, ct, rfl, -, -, -⟩ := id (Own.sl (l := tok) ot)
      have f12 := row?_frozen h12 5
      have c12 : w12.cell? ⟨Bh, 5, none⟩ = some (.slice none 0 0) := row?_cell h12 5
      have H12 := Lib.hid h12
      have R12 := Lib.hid r12
      have OD12 := Lib.hid od12
      have OS12 := Lib.hid os12
      have OT12 := Lib.hid ot12
      have HDIS := Lib.hid hdis
      clear hdis
      clear H11 R11 OD11 OS11 SV11 m11 h12 r12 od12 os12 ot ot12 hw11 hgrow12 b12
      go_wp2_with fail
      have m13 : Mut2 B Bh w (w12.setCell ⟨Bh, 5, none⟩ (.slice at_ tok.length ct)) := m12.trans (((Mut.refl Bh w12).setCell 5 none _).right B)
      have h13 : row? (w12.setCell ⟨Bh, 5, none⟩ (.slice at_ tok.length ct)) Bh = some (hvA long k ver (.slice av d.length cv) (.slice as_ src.length cs) (.slice at_ tok.length ct) sp ph num nl) := by rw [row?_setCell_eq H12.out]; rfl
      have r13 : row? (w12.setCell ⟨Bh, 5, none⟩ (.slice at_ tok.length ct)) B = some (rd vb s7) := by rw [row?_setCell_ne _ _ _ _ (by simpa using fun h => hne h.symm)]; exact R12.out
      have od13 := ((Mut.refl Bh w12).setCell 5 none (.slice at_ tok.length ct)).own OD12.out hBhs
      have os13 := ((Mut.refl Bh w12).setCell 5 none (.slice at_ tok.length ct)).own OS12.out hBhs
      have ot13 := ((Mut.refl Bh w12).setCell 5 none (.slice at_ tok.length ct)).own OT12.out hBhs
      generalize (w12.setCell ⟨Bh, 5, none⟩ (.slice at_ tok.length ct)) = w13 at m13 h13 r13 od13 os13 ot13 ⊢
      clear H12 R12 OD12 OS12 OT12 f12 c12 m12
      have hw13 : Below w0.heap.size w0 w13 := hw.trans (m13.below hB hBh hsz)
      refine (rvar_any b w0 w13 B vb s7 hb hle7 hs hw13 hB r13).mono ?_
      rintro e w14 ⟨rfl, n14, r14⟩
      have h14 := n14.row h13 hne
      have m14 : Mut2 B Bh w w14 := m13.trans (n14.left Bh)
      have od14 := n14.own od13 hBs
      have os14 := n14.own os13 hBs
      have ot14 := n14.own ot13 hBs
      have H14 := Lib.hid h14
      have R14 := Lib.hid r14
      have OD14 := Lib.hid od14
      have OS14 := Lib.hid os14
      have OT14 := Lib.hid ot14
      clear h13 r13 n14 m13 h14 r14 od13 od14 os13 os14 ot13 ot14 hw13
      go_wp2_with fail
      go_ret
      rw [ET.out, ER.out]
      exact ⟨_, _, _, rfl, R14.out, H14.out, OD14.out, OS14.out, OT14.out, HDIS.out, m14⟩
  · have hk0 := HK0.out
    refine (rvar_any b w0 w8 B vb s4 hb hle4 hs hw8 hB r8).mono ?_
    rintro e w9 ⟨rfl, n9, r9⟩
    have h9 := n9.row h8 hne
    have m9 : Mut2 B Bh w w9 := m8.trans (n9.left Bh)
    have od9 := n9.own od8 hBs
    have os9 := n9.own os8 hBs
    have eT : aTok b k s = (s4, []) := by unfold aTok; rw [if_neg hk0, E4.out]
    have eR : aRest b k s = rvar b s4 := by unfold aRest; rw [eT]
    have H9 := Lib.hid h9
    have R9 := Lib.hid r9
    have OD9 := Lib.hid od9
    have OS9 := Lib.hid os9
    have ET := Lib.hid eT
    have ER := Lib.hid eR
    clear h8 r8 n9 m8 h9 r9 od8 od9 os8 os9 hw8 hk0 eT eR
    go_wp2_with fail
    go_ret
    rw [ET.out, ER.out]
    exact ⟨_, _, _, rfl, R9.out, H9.out, OD9.out, OS9.out, World.ownsRow_nil _ _ _ _, fun i j _ hj => by simp [Value.ownBlock] at hj, m9⟩
end Go.Proofs.Ytgaheodnembjiaa
